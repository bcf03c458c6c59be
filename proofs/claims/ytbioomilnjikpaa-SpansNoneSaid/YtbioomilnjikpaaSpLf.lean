/-
  The walk of rubriclaw11.SpansNone.
-/
import Derived.Test.YtbioomilnjikpaaSpNo
namespace Go.Proofs.Ytbioomilnjikpaa
open Go.RowKit
attribute [local go_sem] Oper.semAt_some

set_option maxRecDepth 100000 in
set_option maxHeartbeats 16000000 in
theorem none_law (o : OpS) (n : Int) (w : World) :
    Calls Try.prog 7 #[.agg o.cells.toArray, .int .i64 n] w fun e w' => e = .returned (.bool true) ∧ Below w.heap.size w w' := by
  have hfn : ∀ (p : Addr) (w : World), (binOp BinOp.eql 39 (.func (.func 30) #[] #[.pointer (some p)]) .nilFunc).run Try.prog w = .ok (.bool false) w := fun _ _ => by kernel_rfl
  show Calls _ _ #[.agg #[.int .i64 o.kind, .int .i64 o.i, .int .i64 o.j, .slice o.A o.len o.cap, .int .i64 o.by_, .int .i64 o.plus], .int .i64 n] w _
  obtain ⟨b2, hb2⟩ : ∃ v, w.heap.size = v := ⟨_, rfl⟩
  obtain ⟨wa, hwa⟩ : ∃ v, w.alloc (.cells #[.int .i64 o.kind, .int .i64 o.i, .int .i64 o.j, .slice o.A o.len o.cap, .int .i64 o.by_, .int .i64 o.plus] 28) = v := ⟨_, rfl⟩
  have hwas : wa.heap.size = b2 + 1 := by rw [← hwa, World.size_alloc, hb2]
  obtain ⟨wb, hwb⟩ : ∃ v, wa.alloc (.cells #[.bool false] 4) = v := ⟨_, rfl⟩
  obtain ⟨b4, hb4⟩ : ∃ v, b2 + 1 = v := ⟨_, rfl⟩
  rw [hb4] at hwas
  have HB0 := Lib.hid (show Star w [boxI b4 (.cells #[.bool false] 4), boxI b2 (.cells #[.int .i64 o.kind, .int .i64 o.i, .int .i64 o.j, .slice o.A o.len o.cap, .int .i64 o.by_, .int .i64 o.plus] 28)] wb from Star.add (Star.add (Star.nil_ w) (by rw [← hwa]; exact (Below.refl _ _).alloc (Nat.le_refl _) _) (show wa.heap[b2]? = _ by rw [← hwa, ← hb2]; exact heap_alloc_new w _) (fun k hk => by have hk : k = b2 := hk; omega)) (by rw [← hwb]; exact (Below.refl _ _).alloc (Nat.le_refl _) _) (show wb.heap[b4]? = _ by rw [← hwb, ← hwas]; exact heap_alloc_new wa _) (fun k hk => by have hk : k = b4 := hk; omega))
  obtain ⟨e1, e2, e3⟩ := op_box (show wb.heap[b2]? = some (.cells #[.int .i64 o.kind, .int .i64 o.i, .int .i64 o.j, .slice o.A o.len o.cap, .int .i64 o.by_, .int .i64 o.plus] 28) from HB0.out.all (boxI b2 (.cells #[.int .i64 o.kind, .int .i64 o.i, .int .i64 o.j, .slice o.A o.len o.cap, .int .i64 o.by_, .int .i64 o.plus] 28)) (by simp))
  refine (callsIn_wide (n := 9)).1 ?_
  refine callsIn_of_wp_marks Try.func7 rfl trivial ?_ rfl
  refine (wpIn_wide (n := 9)).2 ?_
  refine wp_mono ?_ outM_le
  simp only [Try.ntmps7, List.size_toArray, List.length_cons, List.length_nil, Nat.reduceAdd, Nat.reduceSub, Array.replicate_succ, Array.replicate_zero, List.push_toArray, List.append_toArray, List.nil_append, List.cons_append]
  by_cases hlen : 100 < o.len
  · have hlenI : (100 : Int) < o.len := by omega
    go_wp2_with fail
    try rw [hwa]
    try rw [hwb]
    try rw [hb2]
    try rw [hb4]
    clear hwa hwb hb2 hb4 hwas e1 e2 e3
    refine (known_any _).mono ?_
    rintro e wz ⟨rfl, hbz⟩
    have SZ := Lib.hid (HB0.out.later hbz)
    clear hbz
    have hq4 : wz.heap[b4]? = some (.cells #[.bool false] 4) := SZ.out.all (boxI b4 (.cells #[.bool false] 4)) (by simp)
    have c4 : wz.cell? ⟨b4, 0, none⟩ = some (.bool false) := by rw [cell_of_row wz b4 0 _ _ _ hq4]; rfl
    have f4 : wz.frozen? ⟨b4, 0, none⟩ = false := frozen_of_row wz b4 0 _ _ hq4
    have SE := Lib.hid (show Star w ([] ++ boxI b4 (.cells #[.bool true] 4) :: [boxI b2 (.cells #[.int .i64 o.kind, .int .i64 o.i, .int .i64 o.j, .slice o.A o.len o.cap, .int .i64 o.by_, .int .i64 o.plus] 28)]) (wz.setCell ⟨b4, 0, none⟩ (.bool true)) from Star.update (A := []) (I := boxI b4 (.cells #[.bool false] 4)) SZ.out (boxI.set hq4 0 (.bool true)).1 (boxI.set hq4 0 (.bool true)).2)
    clear hq4 
    go_wp2_with fail
    refine leaves_marks (B := w.heap.size) _ _ (Marks.nil_ _ _) (fun w' hs => ?_)
    have hc := hs.cells.2 b4 _ (SE.out.all (boxI b4 (.cells #[.bool true] 4)) (by simp)) rfl (fun h => h)
    have hc4 : w'.cell? ⟨b4, 0, none⟩ = some (.bool true) := by rw [cell_of_row w' b4 0 _ _ _ hc]; rfl
    refine ⟨.bool true, ?_, rfl, SE.out.below.trans hs.below⟩
    simp [results, Try.f7, go_sem, hc4]
  · have hlenI : (o.len : Int) ≤ 100 := by omega
    obtain ⟨g, hg⟩ : ∃ v, wb.heap.size = v := ⟨_, rfl⟩
    obtain ⟨w4, hw4⟩ : ∃ v, wb.alloc (.cells #[.pointer none] 49) = v := ⟨_, rfl⟩
    have S4 := Lib.hid (show Star w (spI (fun k => k = g) g [] 0 :: [boxI b4 (.cells #[.bool false] 4), boxI b2 (.cells #[.int .i64 o.kind, .int .i64 o.i, .int .i64 o.j, .slice o.A o.len o.cap, .int .i64 o.by_, .int .i64 o.plus] 28)]) w4 by have h := zero_star HB0.out; rw [hg, hw4] at h; exact h)
    obtain ⟨d1, d2, d3⟩ := op_box (show w4.heap[b2]? = some (.cells #[.int .i64 o.kind, .int .i64 o.i, .int .i64 o.j, .slice o.A o.len o.cap, .int .i64 o.by_, .int .i64 o.plus] 28) from S4.out.all (boxI b2 (.cells #[.int .i64 o.kind, .int .i64 o.i, .int .i64 o.j, .slice o.A o.len o.cap, .int .i64 o.by_, .int .i64 o.plus] 28)) (by simp))
    go_wp2_with fail
    try rw [hwa]
    try rw [hwb]
    try rw [hb2]
    try rw [hb4]
    try rw [hg]
    try rw [hw4]
    clear hwa hwb hb2 hb4 hwas e1 e2 e3 hg hw4
    refine (nil_at o.i w4).mono ?_
    rintro e w' ⟨rfl, rfl⟩
    go_wp2_with fail
    refine (nil_over o.i o.j w4).mono ?_
    rintro e w' ⟨rfl, rfl⟩
    go_wp2_with fail
    refine (nil_all w4).mono ?_
    rintro e w7 ⟨ba, rfl, hb7, hq7, hg7⟩
    have S7 := Lib.hid (show Star w (boxI ba (.cells #[.slice none 0 0] 26) :: spI (fun k => k = g) g [] 0 :: [boxI b4 (.cells #[.bool false] 4), boxI b2 (.cells #[.int .i64 o.kind, .int .i64 o.i, .int .i64 o.j, .slice o.A o.len o.cap, .int .i64 o.by_, .int .i64 o.plus] 28)]) w7 from S4.out.add hb7 hq7 (fun k hk => by have hk : k = ba := hk; omega))
    have SQ := Lib.hid (all_stops (X := []) (base := 0) (v := .slice none 0 0) (n := 8) (w := w7) ⟨rfl, .inl ⟨rfl, rfl⟩⟩ hq7 (by simp) (fun _ _ => False) (fun _ _ _ h => h))
    clear hb7 hq7 hg7 d1 d2 d3
    unfold allF
    go_wp2_with fail
    refine (wpIn_wide (n := 9)).1 ?_
    refine wpIn_rangeFunc_ownG rfl (by omega) (gf := 30) (lb := #[.pointer (some ⟨ba, 0, none⟩)]) rfl trivial (enters_of Try.func30 (by kernel_rfl) rfl)
      SQ.out KeepsO.trans KeepsO.put (Below.refl _ _) (fun _ => rfl) (fun _ W => Below w7.heap.size w7 W) (fun _ _ _ => False) (ownFrom_below (Nat.le_refl _) (Nat.le_refl _)) (fun _ _ _ _ _ h _ _ => h.elim) (Below.refl _ _) ?a1 ?assign ?body ?done ?stop
    case assign =>
      intro l x W K hK
      gi_wp2
      exact hK
    case body => exact fun l pre x W1 _ h => absurd h (Nat.not_lt_zero _)
    case stop => exact fun _ _ _ _ _ _ h => h.elim
    case done =>
      rintro D ys w8 hD hys hB8 hK8
      have S8 := Lib.hid (show Star w (boxI D (.deferred (some [])) :: boxI ba (.cells #[.slice none 0 0] 26) :: spI (fun k => k = g) g [] 0 :: [boxI b4 (.cells #[.bool false] 4), boxI b2 (.cells #[.int .i64 o.kind, .int .i64 o.i, .int .i64 o.j, .slice o.A o.len o.cap, .int .i64 o.by_, .int .i64 o.plus] 28)]) w8 from (S7.out.later hB8).add' hK8 (fun k hk => by have hk : k = D := hk; have := S7.out.below.size; omega) (fun J hJ k hk hj => by
        have hk : k = D := hk
        have := J.lt w7 (S7.out.all J hJ) k hj
        omega))
      have hq2 : w8.heap[b2]? = some (.cells #[.int .i64 o.kind, .int .i64 o.i, .int .i64 o.j, .slice o.A o.len o.cap, .int .i64 o.by_, .int .i64 o.plus] 28) := S8.out.all (boxI b2 (.cells #[.int .i64 o.kind, .int .i64 o.i, .int .i64 o.j, .slice o.A o.len o.cap, .int .i64 o.by_, .int .i64 o.plus] 28)) (by simp)
      obtain ⟨e1, e2, e3⟩ := op_box hq2
      have e0 : w8.cell? ⟨b2, 0, none⟩ = some (.int .i64 o.kind) := by rw [cell_of_row w8 b2 0 _ _ _ hq2]; rfl
      have e4 : w8.cell? ⟨b2, 4, none⟩ = some (.int .i64 o.by_) := by rw [cell_of_row w8 b2 4 _ _ _ hq2]; rfl
      have e5 : w8.cell? ⟨b2, 5, none⟩ = some (.int .i64 o.plus) := by rw [cell_of_row w8 b2 5 _ _ _ hq2]; rfl
      have HL := Lib.hid (star_same (A := [boxI D (.deferred (some [])), boxI ba (.cells #[.slice none 0 0] 26)]) S8.out (len_any (show SpS w8 (fun k => k = g) g [] 0 from S8.out.get (A := [boxI D (.deferred (some [])), boxI ba (.cells #[.slice none 0 0] 26)]))))
      clear hB8 hK8 hys
      go_wp2_with fail
      refine (nil_splice o.i o.j o.A o.len o.cap w8).mono ?_
      rintro e w' ⟨rfl, rfl⟩
      go_wp2_with fail
      refine (nil_map o.i o.j _ w8).mono ?_
      rintro e w' ⟨rfl, rfl⟩
      go_wp2_with fail
      refine (nil_len w8).mono ?_
      rintro e w' ⟨rfl, rfl⟩
      go_wp2_with fail
      refine (nil_count w8).mono ?_
      rintro e w' ⟨rfl, rfl⟩
      go_wp2_with fail
      refine (nil_height w8).mono ?_
      rintro e w' ⟨rfl, rfl⟩
      go_wp2_with fail
      refine (nil_copy w8).mono ?_
      rintro e w' ⟨rfl, rfl⟩
      go_wp2_with fail
      refine HL.out.mono ?_
      clear HL hq2 e0 e1 e2 e3 e4 e5
      rintro e w13 ⟨H13, rfl, hO⟩
      have S13 := Lib.hid (show Star w (boxI D (.deferred (some [])) :: boxI ba (.cells #[.slice none 0 0] 26) :: spI H13 g [] 0 :: [boxI b4 (.cells #[.bool false] 4), boxI b2 (.cells #[.int .i64 o.kind, .int .i64 o.i, .int .i64 o.j, .slice o.A o.len o.cap, .int .i64 o.by_, .int .i64 o.plus] 28)]) w13 from hO)
      clear hO
      by_cases hn : n < 0
      · skip
        have HE1 := Lib.hid (show spE [] 0 0 [⟨n, 1⟩] = 3 by rw [spE_new]; rw [if_pos hn])
        obtain ⟨w20, hw20⟩ : ∃ v, w13.alloc (.cells #[.int .i64 n, .int .i64 1] 34) = v := ⟨_, rfl⟩
        obtain ⟨b20, hb20⟩ : ∃ v, w13.heap.size = v := ⟨_, rfl⟩
        have L20 := Lib.hid (show NewL w13 w20 b20 [⟨n, 1⟩] by rw [← hw20, ← hb20]; exact NewL.mk_ w13 [⟨n, 1⟩])
        have S20 := Lib.hid (S13.out.later L20.out.below)
        have HSp := Lib.hid (splice_star (A := [boxI D (.deferred (some [])), boxI ba (.cells #[.slice none 0 0] 26)]) S20.out (c := 1) L20.out.sees L20.out.le (fun _ => L20.out.off (fun k hk => (show SpS w13 H13 g [] 0 from S13.out.get (A := [boxI D (.deferred (some [])), boxI ba (.cells #[.slice none 0 0] 26)])).ob.lt k hk)) (by simp) 0 0 (by simp) (by omega) (by simp))
        rw [HE1.out] at HSp
        go_wp2_with fail
        try rw [hw20]
        try rw [hb20]
        clear hw20 hb20
        refine HSp.out.mono ?_
        clear HSp
        rintro e w21 ⟨H21, rfl, hO⟩
        rw [show spX [] 0 0 [⟨n, 1⟩] = [] from spX_no (by rw [HE1.out]; decide)] at hO
        obtain ⟨N21, hN21⟩ : ∃ v, max (0 + 2) ([] : List Th).length = v := ⟨_, rfl⟩
        rw [hN21] at hO
        have hO : Star w (boxI D (.deferred (some [])) :: boxI ba (.cells #[.slice none 0 0] 26) :: spI H21 g [] N21 :: [boxI b4 (.cells #[.bool false] 4), boxI b2 (.cells #[.int .i64 o.kind, .int .i64 o.i, .int .i64 o.j, .slice o.A o.len o.cap, .int .i64 o.by_, .int .i64 o.plus] 28)]) w21 := hO
        have hS21 : SpS w21 H21 g [] N21 := hO.get (A := [boxI D (.deferred (some [])), boxI ba (.cells #[.slice none 0 0] 26)])
        have hz1 := sumT_nonneg hS21.ob.okX.1
        have HE2 := Lib.hid (spE_much hz1)
        have HX2 := Lib.hid (show spX [] 0 0 [⟨1, 2⟩, ⟨536870912, 3⟩] = [] from spX_no (by rw [HE2.out]; decide))
        have hN21' : N21 ≤ 8 := by rw [← hN21]; simp
        have S21 := Lib.hid hO
        clear hO hN21 hS21 hz1
        obtain ⟨w22, hw22⟩ : ∃ v, w21.alloc (.cells #[.int .i64 1, .int .i64 2, .int .i64 536870912, .int .i64 3] 34) = v := ⟨_, rfl⟩
        obtain ⟨b22, hb22⟩ : ∃ v, w21.heap.size = v := ⟨_, rfl⟩
        have L22 := Lib.hid (show NewL w21 w22 b22 [⟨1, 2⟩, ⟨536870912, 3⟩] by rw [← hw22, ← hb22]; exact NewL.mk_ w21 [⟨1, 2⟩, ⟨536870912, 3⟩])
        have HSp := Lib.hid (splice_star (A := [boxI D (.deferred (some [])), boxI ba (.cells #[.slice none 0 0] 26)]) (S21.out.later L22.out.below) (c := 2) L22.out.sees L22.out.le (fun _ => L22.out.off (fun k hk => (show SpS w21 H21 g [] N21 from S21.out.get (A := [boxI D (.deferred (some [])), boxI ba (.cells #[.slice none 0 0] 26)])).ob.lt k hk)) (by simp) 0 0 (by simp) (by omega) (by simp))
        rw [HE2.out, HX2.out] at HSp
        go_wp2_with fail
        try rw [hw22]
        try rw [hb22]
        clear hw22 hb22
        refine HSp.out.mono ?_
        clear HSp
        rintro e w23 ⟨H23, rfl, hO⟩
        obtain ⟨N23, hN23⟩ : ∃ v, max (N21 + 2) ([] : List Th).length = v := ⟨_, rfl⟩
        rw [hN23] at hO
        have S23 := Lib.hid (show Star w (boxI D (.deferred (some [])) :: boxI ba (.cells #[.slice none 0 0] 26) :: spI H23 g [] N23 :: [boxI b4 (.cells #[.bool false] 4), boxI b2 (.cells #[.int .i64 o.kind, .int .i64 o.i, .int .i64 o.j, .slice o.A o.len o.cap, .int .i64 o.by_, .int .i64 o.plus] 28)]) w23 from hO)
        clear hO hN23
        go_wp2_with fail
        refine (known_any _).mono ?_
        rintro e wz ⟨rfl, hbz⟩
        have SZ := Lib.hid (S23.out.later hbz)
        clear hbz
        have hq4 : wz.heap[b4]? = some (.cells #[.bool false] 4) := SZ.out.all (boxI b4 (.cells #[.bool false] 4)) (by simp)
        have c4 : wz.cell? ⟨b4, 0, none⟩ = some (.bool false) := by rw [cell_of_row wz b4 0 _ _ _ hq4]; rfl
        have f4 : wz.frozen? ⟨b4, 0, none⟩ = false := frozen_of_row wz b4 0 _ _ hq4
        have SE := Lib.hid (show Star w ([boxI D (.deferred (some [])), boxI ba (.cells #[.slice none 0 0] 26), spI H23 g [] N23] ++ boxI b4 (.cells #[.bool true] 4) :: [boxI b2 (.cells #[.int .i64 o.kind, .int .i64 o.i, .int .i64 o.j, .slice o.A o.len o.cap, .int .i64 o.by_, .int .i64 o.plus] 28)]) (wz.setCell ⟨b4, 0, none⟩ (.bool true)) from Star.update (A := [boxI D (.deferred (some [])), boxI ba (.cells #[.slice none 0 0] 26), spI H23 g [] N23]) (I := boxI b4 (.cells #[.bool false] 4)) SZ.out (boxI.set hq4 0 (.bool true)).1 (boxI.set hq4 0 (.bool true)).2)
        clear hq4 
        go_wp2_with fail
        refine leaves_marks (B := w.heap.size) _ _ (marks_one (SE.out.all (boxI D (.deferred (some []))) (by simp)) (SE.out.low (boxI D (.deferred (some []))) (by simp) D rfl)) (fun w' hs => ?_)
        have hc := hs.cells.2 b4 _ (SE.out.all (boxI b4 (.cells #[.bool true] 4)) (by simp)) rfl (fun h => h)
        have hc4 : w'.cell? ⟨b4, 0, none⟩ = some (.bool true) := by rw [cell_of_row w' b4 0 _ _ _ hc]; rfl
        refine ⟨.bool true, ?_, rfl, SE.out.below.trans hs.below⟩
        simp [results, Try.f7, go_sem, hc4]
      · by_cases hn2 : 536870912 < n
        · skip
          have HE1 := Lib.hid (show spE [] 0 0 [⟨n, 1⟩] = 8 by rw [spE_new]; rw [if_neg hn, if_pos hn2])
          obtain ⟨w20, hw20⟩ : ∃ v, w13.alloc (.cells #[.int .i64 n, .int .i64 1] 34) = v := ⟨_, rfl⟩
          obtain ⟨b20, hb20⟩ : ∃ v, w13.heap.size = v := ⟨_, rfl⟩
          have L20 := Lib.hid (show NewL w13 w20 b20 [⟨n, 1⟩] by rw [← hw20, ← hb20]; exact NewL.mk_ w13 [⟨n, 1⟩])
          have S20 := Lib.hid (S13.out.later L20.out.below)
          have HSp := Lib.hid (splice_star (A := [boxI D (.deferred (some [])), boxI ba (.cells #[.slice none 0 0] 26)]) S20.out (c := 1) L20.out.sees L20.out.le (fun _ => L20.out.off (fun k hk => (show SpS w13 H13 g [] 0 from S13.out.get (A := [boxI D (.deferred (some [])), boxI ba (.cells #[.slice none 0 0] 26)])).ob.lt k hk)) (by simp) 0 0 (by simp) (by omega) (by simp))
          rw [HE1.out] at HSp
          go_wp2_with fail
          try rw [hw20]
          try rw [hb20]
          clear hw20 hb20
          refine HSp.out.mono ?_
          clear HSp
          rintro e w21 ⟨H21, rfl, hO⟩
          rw [show spX [] 0 0 [⟨n, 1⟩] = [] from spX_no (by rw [HE1.out]; decide)] at hO
          obtain ⟨N21, hN21⟩ : ∃ v, max (0 + 2) ([] : List Th).length = v := ⟨_, rfl⟩
          rw [hN21] at hO
          have hO : Star w (boxI D (.deferred (some [])) :: boxI ba (.cells #[.slice none 0 0] 26) :: spI H21 g [] N21 :: [boxI b4 (.cells #[.bool false] 4), boxI b2 (.cells #[.int .i64 o.kind, .int .i64 o.i, .int .i64 o.j, .slice o.A o.len o.cap, .int .i64 o.by_, .int .i64 o.plus] 28)]) w21 := hO
          have hS21 : SpS w21 H21 g [] N21 := hO.get (A := [boxI D (.deferred (some [])), boxI ba (.cells #[.slice none 0 0] 26)])
          have hz1 := sumT_nonneg hS21.ob.okX.1
          have HE2 := Lib.hid (spE_much hz1)
          have HX2 := Lib.hid (show spX [] 0 0 [⟨1, 2⟩, ⟨536870912, 3⟩] = [] from spX_no (by rw [HE2.out]; decide))
          have hN21' : N21 ≤ 8 := by rw [← hN21]; simp
          have S21 := Lib.hid hO
          clear hO hN21 hS21 hz1
          obtain ⟨w22, hw22⟩ : ∃ v, w21.alloc (.cells #[.int .i64 1, .int .i64 2, .int .i64 536870912, .int .i64 3] 34) = v := ⟨_, rfl⟩
          obtain ⟨b22, hb22⟩ : ∃ v, w21.heap.size = v := ⟨_, rfl⟩
          have L22 := Lib.hid (show NewL w21 w22 b22 [⟨1, 2⟩, ⟨536870912, 3⟩] by rw [← hw22, ← hb22]; exact NewL.mk_ w21 [⟨1, 2⟩, ⟨536870912, 3⟩])
          have HSp := Lib.hid (splice_star (A := [boxI D (.deferred (some [])), boxI ba (.cells #[.slice none 0 0] 26)]) (S21.out.later L22.out.below) (c := 2) L22.out.sees L22.out.le (fun _ => L22.out.off (fun k hk => (show SpS w21 H21 g [] N21 from S21.out.get (A := [boxI D (.deferred (some [])), boxI ba (.cells #[.slice none 0 0] 26)])).ob.lt k hk)) (by simp) 0 0 (by simp) (by omega) (by simp))
          rw [HE2.out, HX2.out] at HSp
          go_wp2_with fail
          try rw [hw22]
          try rw [hb22]
          clear hw22 hb22
          refine HSp.out.mono ?_
          clear HSp
          rintro e w23 ⟨H23, rfl, hO⟩
          obtain ⟨N23, hN23⟩ : ∃ v, max (N21 + 2) ([] : List Th).length = v := ⟨_, rfl⟩
          rw [hN23] at hO
          have S23 := Lib.hid (show Star w (boxI D (.deferred (some [])) :: boxI ba (.cells #[.slice none 0 0] 26) :: spI H23 g [] N23 :: [boxI b4 (.cells #[.bool false] 4), boxI b2 (.cells #[.int .i64 o.kind, .int .i64 o.i, .int .i64 o.j, .slice o.A o.len o.cap, .int .i64 o.by_, .int .i64 o.plus] 28)]) w23 from hO)
          clear hO hN23
          go_wp2_with fail
          refine (known_any _).mono ?_
          rintro e wz ⟨rfl, hbz⟩
          have SZ := Lib.hid (S23.out.later hbz)
          clear hbz
          have hq4 : wz.heap[b4]? = some (.cells #[.bool false] 4) := SZ.out.all (boxI b4 (.cells #[.bool false] 4)) (by simp)
          have c4 : wz.cell? ⟨b4, 0, none⟩ = some (.bool false) := by rw [cell_of_row wz b4 0 _ _ _ hq4]; rfl
          have f4 : wz.frozen? ⟨b4, 0, none⟩ = false := frozen_of_row wz b4 0 _ _ hq4
          have SE := Lib.hid (show Star w ([boxI D (.deferred (some [])), boxI ba (.cells #[.slice none 0 0] 26), spI H23 g [] N23] ++ boxI b4 (.cells #[.bool true] 4) :: [boxI b2 (.cells #[.int .i64 o.kind, .int .i64 o.i, .int .i64 o.j, .slice o.A o.len o.cap, .int .i64 o.by_, .int .i64 o.plus] 28)]) (wz.setCell ⟨b4, 0, none⟩ (.bool true)) from Star.update (A := [boxI D (.deferred (some [])), boxI ba (.cells #[.slice none 0 0] 26), spI H23 g [] N23]) (I := boxI b4 (.cells #[.bool false] 4)) SZ.out (boxI.set hq4 0 (.bool true)).1 (boxI.set hq4 0 (.bool true)).2)
          clear hq4 
          go_wp2_with fail
          refine leaves_marks (B := w.heap.size) _ _ (marks_one (SE.out.all (boxI D (.deferred (some []))) (by simp)) (SE.out.low (boxI D (.deferred (some []))) (by simp) D rfl)) (fun w' hs => ?_)
          have hc := hs.cells.2 b4 _ (SE.out.all (boxI b4 (.cells #[.bool true] 4)) (by simp)) rfl (fun h => h)
          have hc4 : w'.cell? ⟨b4, 0, none⟩ = some (.bool true) := by rw [cell_of_row w' b4 0 _ _ _ hc]; rfl
          refine ⟨.bool true, ?_, rfl, SE.out.below.trans hs.below⟩
          simp [results, Try.f7, go_sem, hc4]
        · skip
          have HE1 := Lib.hid (show spE [] 0 0 [⟨n, 1⟩] = 0 by rw [spE_new]; rw [if_neg hn, if_neg hn2])
          obtain ⟨w20, hw20⟩ : ∃ v, w13.alloc (.cells #[.int .i64 n, .int .i64 1] 34) = v := ⟨_, rfl⟩
          obtain ⟨b20, hb20⟩ : ∃ v, w13.heap.size = v := ⟨_, rfl⟩
          have L20 := Lib.hid (show NewL w13 w20 b20 [⟨n, 1⟩] by rw [← hw20, ← hb20]; exact NewL.mk_ w13 [⟨n, 1⟩])
          have S20 := Lib.hid (S13.out.later L20.out.below)
          have HSp := Lib.hid (splice_star (A := [boxI D (.deferred (some [])), boxI ba (.cells #[.slice none 0 0] 26)]) S20.out (c := 1) L20.out.sees L20.out.le (fun _ => L20.out.off (fun k hk => (show SpS w13 H13 g [] 0 from S13.out.get (A := [boxI D (.deferred (some [])), boxI ba (.cells #[.slice none 0 0] 26)])).ob.lt k hk)) (by simp) 0 0 (by simp) (by omega) (by simp))
          rw [HE1.out] at HSp
          go_wp2_with fail
          try rw [hw20]
          try rw [hb20]
          clear hw20 hb20
          refine HSp.out.mono ?_
          clear HSp
          rintro e w21 ⟨H21, rfl, hO⟩
          obtain ⟨X1, hX1⟩ : ∃ v, spX [] 0 0 [⟨n, 1⟩] = v := ⟨_, rfl⟩
          rw [hX1] at hO
          obtain ⟨N21, hN21⟩ : ∃ v, max (0 + 2) (X1 : List Th).length = v := ⟨_, rfl⟩
          rw [hN21] at hO
          have hO : Star w (boxI D (.deferred (some [])) :: boxI ba (.cells #[.slice none 0 0] 26) :: spI H21 g X1 N21 :: [boxI b4 (.cells #[.bool false] 4), boxI b2 (.cells #[.int .i64 o.kind, .int .i64 o.i, .int .i64 o.j, .slice o.A o.len o.cap, .int .i64 o.by_, .int .i64 o.plus] 28)]) w21 := hO
          have hS21 : SpS w21 H21 g X1 N21 := hO.get (A := [boxI D (.deferred (some [])), boxI ba (.cells #[.slice none 0 0] 26)])
          have hz1 := sumT_nonneg hS21.ob.okX.1
          have hlX1 : X1.length ≤ 3 := by rw [← hX1]; exact spX_len Can.nil_ (fun _ h => nomatch h)
          have HSUM := Lib.hid (show sumT X1 = n from by
            have h := spX_sum (X := []) (l := [⟨n, 1⟩]) (i := 0) (j := 0) Can.nil_ (fun _ h => nomatch h) HE1.out (by rw [hX1]; exact hS21.ob.okX.1)
            rw [hX1, show sumT [⟨n, 1⟩] = n from Int.add_zero n, show sumT [] = 0 from rfl] at h
            omega)
          clear hX1
          have HE2 := Lib.hid (spE_much hz1)
          have HX2 := Lib.hid (show spX X1 0 0 [⟨1, 2⟩, ⟨536870912, 3⟩] = X1 from spX_no (by rw [HE2.out]; decide))
          have hN21' : N21 ≤ 8 := by rw [← hN21]; omega
          have S21 := Lib.hid hO
          clear hO hN21 hS21 hz1
          obtain ⟨w22, hw22⟩ : ∃ v, w21.alloc (.cells #[.int .i64 1, .int .i64 2, .int .i64 536870912, .int .i64 3] 34) = v := ⟨_, rfl⟩
          obtain ⟨b22, hb22⟩ : ∃ v, w21.heap.size = v := ⟨_, rfl⟩
          have L22 := Lib.hid (show NewL w21 w22 b22 [⟨1, 2⟩, ⟨536870912, 3⟩] by rw [← hw22, ← hb22]; exact NewL.mk_ w21 [⟨1, 2⟩, ⟨536870912, 3⟩])
          have HSp := Lib.hid (splice_star (A := [boxI D (.deferred (some [])), boxI ba (.cells #[.slice none 0 0] 26)]) (S21.out.later L22.out.below) (c := 2) L22.out.sees L22.out.le (fun _ => L22.out.off (fun k hk => (show SpS w21 H21 g X1 N21 from S21.out.get (A := [boxI D (.deferred (some [])), boxI ba (.cells #[.slice none 0 0] 26)])).ob.lt k hk)) (by simp) 0 0 (by simp) (by omega) (by simp only [List.length_cons, List.length_nil]; omega))
          rw [HE2.out, HX2.out] at HSp
          go_wp2_with fail
          try rw [hw22]
          try rw [hb22]
          clear hw22 hb22
          refine HSp.out.mono ?_
          clear HSp
          rintro e w23 ⟨H23, rfl, hO⟩
          obtain ⟨N23, hN23⟩ : ∃ v, max (N21 + 2) (X1 : List Th).length = v := ⟨_, rfl⟩
          rw [hN23] at hO
          have S23 := Lib.hid (show Star w (boxI D (.deferred (some [])) :: boxI ba (.cells #[.slice none 0 0] 26) :: spI H23 g X1 N23 :: [boxI b4 (.cells #[.bool false] 4), boxI b2 (.cells #[.int .i64 o.kind, .int .i64 o.i, .int .i64 o.j, .slice o.A o.len o.cap, .int .i64 o.by_, .int .i64 o.plus] 28)]) w23 from hO)
          clear hO hN23
          have HL := Lib.hid (star_same (A := [boxI D (.deferred (some [])), boxI ba (.cells #[.slice none 0 0] 26)]) S23.out (len_any (show SpS w23 H23 g X1 N23 from S23.out.get (A := [boxI D (.deferred (some [])), boxI ba (.cells #[.slice none 0 0] 26)]))))
          rw [HSUM.out] at HL
          go_wp2_with fail
          refine HL.out.mono ?_
          clear HL
          rintro e w24 ⟨H24, rfl, hO⟩
          have S24 := Lib.hid (show Star w (boxI D (.deferred (some [])) :: boxI ba (.cells #[.slice none 0 0] 26) :: spI H24 g X1 N23 :: [boxI b4 (.cells #[.bool false] 4), boxI b2 (.cells #[.int .i64 o.kind, .int .i64 o.i, .int .i64 o.j, .slice o.A o.len o.cap, .int .i64 o.by_, .int .i64 o.plus] 28)]) w24 from hO)
          clear hO
          go_wp2_with fail
          refine (known_any _).mono ?_
          rintro e wz ⟨rfl, hbz⟩
          have SZ := Lib.hid (S24.out.later hbz)
          clear hbz
          have hq4 : wz.heap[b4]? = some (.cells #[.bool false] 4) := SZ.out.all (boxI b4 (.cells #[.bool false] 4)) (by simp)
          have c4 : wz.cell? ⟨b4, 0, none⟩ = some (.bool false) := by rw [cell_of_row wz b4 0 _ _ _ hq4]; rfl
          have f4 : wz.frozen? ⟨b4, 0, none⟩ = false := frozen_of_row wz b4 0 _ _ hq4
          have SE := Lib.hid (show Star w ([boxI D (.deferred (some [])), boxI ba (.cells #[.slice none 0 0] 26), spI H24 g X1 N23] ++ boxI b4 (.cells #[.bool true] 4) :: [boxI b2 (.cells #[.int .i64 o.kind, .int .i64 o.i, .int .i64 o.j, .slice o.A o.len o.cap, .int .i64 o.by_, .int .i64 o.plus] 28)]) (wz.setCell ⟨b4, 0, none⟩ (.bool true)) from Star.update (A := [boxI D (.deferred (some [])), boxI ba (.cells #[.slice none 0 0] 26), spI H24 g X1 N23]) (I := boxI b4 (.cells #[.bool false] 4)) SZ.out (boxI.set hq4 0 (.bool true)).1 (boxI.set hq4 0 (.bool true)).2)
          clear hq4 
          go_wp2_with fail
          refine leaves_marks (B := w.heap.size) _ _ (marks_one (SE.out.all (boxI D (.deferred (some []))) (by simp)) (SE.out.low (boxI D (.deferred (some []))) (by simp) D rfl)) (fun w' hs => ?_)
          have hc := hs.cells.2 b4 _ (SE.out.all (boxI b4 (.cells #[.bool true] 4)) (by simp)) rfl (fun h => h)
          have hc4 : w'.cell? ⟨b4, 0, none⟩ = some (.bool true) := by rw [cell_of_row w' b4 0 _ _ _ hc]; rfl
          refine ⟨.bool true, ?_, rfl, SE.out.below.trans hs.below⟩
          simp [results, Try.f7, go_sem, hc4]

end Go.Proofs.Ytbioomilnjikpaa
