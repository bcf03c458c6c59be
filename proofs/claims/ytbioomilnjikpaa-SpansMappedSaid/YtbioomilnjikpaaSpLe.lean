/-
  The walk of rubriclaw11.SpansMapped.
-/
import Derived.Test.YtbioomilnjikpaaSpMb
import Derived.Test.YtbioomilnjikpaaSpWa
namespace Go.Proofs.Ytbioomilnjikpaa
open Go.RowKit
attribute [local go_sem] Oper.semAt_some

set_option maxRecDepth 100000 in
set_option maxHeartbeats 16000000 in
theorem mapped_law (A : Option Addr) (n c : Nat) (ops : List OpS) (a b : OpS) (w : World) (hs : Sees w w.heap.size 6 A n (ops.flatMap OpS.cells)) (hl : ops.length = n) (hm : n ≤ maxLen) (hok : ∀ o ∈ ops, o.Ok w) :
    Calls Try.prog 5 #[.slice A n c, .agg a.cells.toArray, .agg b.cells.toArray] w fun e w' => e = .returned (.bool true) ∧ Below w.heap.size w w' := by
  unfold maxLen at hm
  have HS := Lib.hid hs
  have HO := Lib.hid (And.intro hl hok)
  clear hs hok hl
  show Calls _ _ #[.slice A n c, .agg #[.int .i64 a.kind, .int .i64 a.i, .int .i64 a.j, .slice a.A a.len a.cap, .int .i64 a.by_, .int .i64 a.plus], .agg #[.int .i64 b.kind, .int .i64 b.i, .int .i64 b.j, .slice b.A b.len b.cap, .int .i64 b.by_, .int .i64 b.plus]] w _
  obtain ⟨ba, hba⟩ : ∃ v, w.heap.size = v := ⟨_, rfl⟩
  obtain ⟨wa, hwa⟩ : ∃ v, w.alloc (.cells #[.int .i64 a.kind, .int .i64 a.i, .int .i64 a.j, .slice a.A a.len a.cap, .int .i64 a.by_, .int .i64 a.plus] 28) = v := ⟨_, rfl⟩
  have hwas : wa.heap.size = ba + 1 := by rw [← hwa, World.size_alloc, hba]
  obtain ⟨wb, hwb⟩ : ∃ v, wa.alloc (.cells #[.int .i64 b.kind, .int .i64 b.i, .int .i64 b.j, .slice b.A b.len b.cap, .int .i64 b.by_, .int .i64 b.plus] 28) = v := ⟨_, rfl⟩
  obtain ⟨bb, hbb⟩ : ∃ v, ba + 1 = v := ⟨_, rfl⟩
  rw [hbb] at hwas
  have HB0 := Lib.hid (show Star w [boxI bb (.cells #[.int .i64 b.kind, .int .i64 b.i, .int .i64 b.j, .slice b.A b.len b.cap, .int .i64 b.by_, .int .i64 b.plus] 28), boxI ba (.cells #[.int .i64 a.kind, .int .i64 a.i, .int .i64 a.j, .slice a.A a.len a.cap, .int .i64 a.by_, .int .i64 a.plus] 28)] wb from Star.add (Star.add (Star.nil_ w) (by rw [← hwa]; exact (Below.refl _ _).alloc (Nat.le_refl _) _) (show wa.heap[ba]? = _ by rw [← hwa, ← hba]; exact heap_alloc_new w _) (fun k hk => by have hk : k = ba := hk; omega)) (by rw [← hwb]; exact (Below.refl _ _).alloc (Nat.le_refl _) _) (show wb.heap[bb]? = _ by rw [← hwb, ← hwas]; exact heap_alloc_new wa _) (fun k hk => by have hk : k = bb := hk; omega))
  have HBO := Lib.hid hba
  have HN0 := Lib.hid hbb
  go_enter Try.func5, Try.ntmps5
  go_wp2_with fail
  try rw [hwa]
  try rw [hwb]
  try rw [hba]
  try rw [hbb]
  clear hwa hwb hba hbb hwas
  refine (newS_star HB0.out).mono ?_
  rintro e w1 ⟨gs, rfl, hS1⟩
  have HS1 := Lib.hid hS1
  clear hS1
  go_wp2_with fail
  refine (newS_star HS1.out).mono ?_
  rintro e w2 ⟨gt, rfl, hS2⟩
  have HS2 := Lib.hid hS2
  clear hS2
  by_cases hn : 40 < n
  · have hnI : (40 : Int) < n := by omega
    go_wp2_with fail
    refine (known_any _).mono ?_
    rintro e wz ⟨rfl, hbz⟩
    have SZ := Lib.hid (HS2.out.later hbz)
    clear hbz 
    go_wp2_with fail
    go_ret
    exact ⟨rfl, SZ.out.below⟩
  · have hnI : (n : Int) ≤ 40 := by omega
    go_wp2_with fail
    go_loopw [42] (fun v42 wr => ∃ (k : Nat) (X : List Th) (Hs Ht : Nat → Prop), k ≤ n ∧ v42 = .int .i64 k ∧ Star w (spI Ht gt X (102 * k) :: spI Hs gs X (102 * k) :: [boxI bb (.cells #[.int .i64 b.kind, .int .i64 b.i, .int .i64 b.j, .slice b.A b.len b.cap, .int .i64 b.by_, .int .i64 b.plus] 28), boxI ba (.cells #[.int .i64 a.kind, .int .i64 a.i, .int .i64 a.j, .slice a.A a.len a.cap, .int .i64 a.by_, .int .i64 a.plus] 28)]) wr ∧ X.length ≤ 102 * k) (fun v42 _ => n - (intOf v42).toNat)
    case atStart => exact ⟨0, [], _, _, Nat.zero_le _, rfl, HS2.out, Nat.zero_le _⟩
    case round =>
      obtain ⟨k, X, Hs, Ht, hk, rfl, hX, hXl⟩ := hrel
      by_cases hlt : k < n
      · have hkI : (k : Int) < n := by omega
        obtain ⟨p, hp⟩ : ∃ p, ops[k]? = some p := ⟨_, List.getElem?_eq_getElem (by rw [HO.out.1]; exact hlt)⟩
        have HOk := Lib.hid (HO.out.2 p (List.mem_of_getElem? hp))
        obtain ⟨b0, f, rfl, hbl, c1, c2, c3, -, -, -⟩ := op_at HS.out hp
        have d1 := (hX.below.cell (p := ⟨b0, f + k * 6 + 1, none⟩) hbl).trans c1
        have d2 := (hX.below.cell (p := ⟨b0, f + k * 6 + 2, none⟩) hbl).trans c2
        have d3 := (hX.below.cell (p := ⟨b0, f + k * 6 + 3, none⟩) hbl).trans c3
        have HXk := Lib.hid hX
        obtain ⟨pk, pi, pj, pA, plen, pcap, pb, pp, pl⟩ := p
        dsimp only at d1 d2 d3 c1 c2 c3
        clear hp hX
        by_cases hle : plen ≤ 100
        · have hleI : (plen : Int) ≤ 100 := by omega
          have HSp := Lib.hid (spliceO_star (A := [spI Ht gt X (102 * k)]) (HXk.out.later ((Below.refl _ _).drew)) hXl HOk.out hle (by omega))
          dsimp only at HSp
          go_wp2_with fail
          go_still_tail 16, (by kernel_rfl)
          change wpList _ _ _ _ _ wr.drew
          go_wp2_with fail
          refine HSp.out.mono ?_
          clear HSp
          rintro e w3 ⟨H3, rfl, hX3, hl3⟩
          have hX3 : Star w (spI Ht gt X (102 * k) :: spI H3 gs (spX X pi pj pl) (102 * k + 102) :: [boxI bb (.cells #[.int .i64 b.kind, .int .i64 b.i, .int .i64 b.j, .slice b.A b.len b.cap, .int .i64 b.by_, .int .i64 b.plus] 28), boxI ba (.cells #[.int .i64 a.kind, .int .i64 a.i, .int .i64 a.j, .slice a.A a.len a.cap, .int .i64 a.by_, .int .i64 a.plus] 28)]) w3 := hX3
          clear d1 d2 d3
          have d1 := (hX3.below.cell (p := ⟨b0, f + k * 6 + 1, none⟩) hbl).trans c1
          have d2 := (hX3.below.cell (p := ⟨b0, f + k * 6 + 2, none⟩) hbl).trans c2
          have d3 := (hX3.below.cell (p := ⟨b0, f + k * 6 + 3, none⟩) hbl).trans c3
          have HSp := Lib.hid (spliceO_star (A := []) (hX3.later ((Below.refl _ _).drew)) hXl HOk.out hle (by omega))
          dsimp only at HSp
          clear hX3 c1 c2 c3
          go_wp2_with fail
          go_still_tail 16, (by kernel_rfl)
          change wpList _ _ _ _ _ w3.drew
          go_wp2_with fail
          refine HSp.out.mono ?_
          clear HSp
          rintro e w4 ⟨H4, rfl, hX4, hl4⟩
          have HX4 := Lib.hid (And.intro hX4 hl4)
          clear hX4 hl4 d1 d2 d3
          go_wp2_with fail
          go_roundw
          case rel => exact ⟨k + 1, _, H3, H4, by omega, by go_num, by rw [Nat.mul_succ]; exact HX4.out.1, by have := HX4.out.2; omega⟩
          case measure => simp [intOf]; omega
        · have hleI : (100 : Int) < plen := by omega
          clear c1 c2 c3
          go_wp2_with fail
          go_roundw
          case rel => exact ⟨k + 1, X, Hs, Ht, by omega, by go_num, (HXk.out.update (A := [spI Ht gt X (102 * k)]) (I' := spI Hs gs X (102 * (k + 1))) ((show SpS wr Hs gs X (102 * k) from HXk.out.get (A := [spI Ht gt X (102 * k)])).more (by omega)) (Grow.refl _ _)).update (A := []) (I' := spI Ht gt X (102 * (k + 1))) ((show SpS wr Ht gt X (102 * k) from HXk.out.get (A := [])).more (by omega)) (Grow.refl _ _), by omega⟩
          case measure => simp [intOf]; omega
      · obtain ⟨kk, hkk⟩ : ∃ v, k = v := ⟨_, rfl⟩
        obtain rfl : k = n := by omega
        rw [hkk] at hX hXl
        have hkk40 : kk ≤ 40 := by omega
        have HXd := Lib.hid (hX.later ((Below.refl _ _).drew))
        have hSs : SpS wr Hs gs X (102 * kk) := hX.get (A := [spI Ht gt X (102 * kk)])
        have HX := Lib.hid (And.intro hSs.can hSs.ob.okX.1)
        have hm1 := mpX_len (F := (mapF a.by_ a.plus)) (i := a.i) (j := a.j) hSs.can hSs.ob.okX.1
        have HM1 := Lib.hid (map_any (o := a) (A := [spI Ht gt X (102 * kk)]) HXd.out a.i a.j (by omega) (by omega))
        have e4 : wr.drew.heap[ba]? = some (.cells #[.int .i64 a.kind, .int .i64 a.i, .int .i64 a.j, .slice a.A a.len a.cap, .int .i64 a.by_, .int .i64 a.plus] 28) := HXd.out.all (boxI ba (.cells #[.int .i64 a.kind, .int .i64 a.i, .int .i64 a.j, .slice a.A a.len a.cap, .int .i64 a.by_, .int .i64 a.plus] 28)) (by simp)
        have e5 : wr.drew.heap[bb]? = some (.cells #[.int .i64 b.kind, .int .i64 b.i, .int .i64 b.j, .slice b.A b.len b.cap, .int .i64 b.by_, .int .i64 b.plus] 28) := HXd.out.all (boxI bb (.cells #[.int .i64 b.kind, .int .i64 b.i, .int .i64 b.j, .slice b.A b.len b.cap, .int .i64 b.by_, .int .i64 b.plus] 28)) (by simp)
        have e1 : wr.drew.cell? ⟨ba, 1, none⟩ = some (.int .i64 a.i) := by rw [cell_of_row wr.drew ba 1 _ _ _ e4]; rfl
        have e2 : wr.drew.cell? ⟨ba, 2, none⟩ = some (.int .i64 a.j) := by rw [cell_of_row wr.drew ba 2 _ _ _ e4]; rfl
        obtain ⟨r1, hr1⟩ : ∃ v, mpE (mapF a.by_ a.plus) X a.i a.j = v := ⟨_, rfl⟩
        obtain ⟨X1, hX1⟩ : ∃ v, mpX (mapF a.by_ a.plus) X a.i a.j = v := ⟨_, rfl⟩
        rw [hX1] at hm1
        obtain ⟨N1, hN1⟩ : ∃ v, max (102 * kk + 2) X1.length = v := ⟨_, rfl⟩
        obtain ⟨r2, hr2⟩ : ∃ v, mpE (mapF b.by_ b.plus) X1 a.i a.j = v := ⟨_, rfl⟩
        obtain ⟨X2, hX2⟩ : ∃ v, mpX (mapF b.by_ b.plus) X1 a.i a.j = v := ⟨_, rfl⟩
        obtain ⟨N2, hN2⟩ : ∃ v, max (N1 + 2) X2.length = v := ⟨_, rfl⟩
        have HE1 := Lib.hid (And.intro hr1 (And.intro hX1 hN1))
        have HE2 := Lib.hid (And.intro hr2 (And.intro hX2 hN2))
        have HNN := Lib.hid (show True ∧ N1 ≤ 79998 ∧ X1.length + X1.length + 2 ≤ 80000 from ⟨trivial, by omega, by omega⟩)
        rw [hr1, hX1, hN1] at HM1
        clear hX hSs hr1 hX1 hN1 hr2 hX2 hN2 hkk
        go_wp2_with fail
        refine wp_region_held_drew (S := fun w' => w'.cell? ⟨ba, 1, none⟩ = some (.int .i64 a.i) ∧ w'.cell? ⟨ba, 2, none⟩ = some (.int .i64 a.j) ∧ w'.heap[ba]? = some (.cells #[.int .i64 a.kind, .int .i64 a.i, .int .i64 a.j, .slice a.A a.len a.cap, .int .i64 a.by_, .int .i64 a.plus] 28) ∧ w'.heap[bb]? = some (.cells #[.int .i64 b.kind, .int .i64 b.i, .int .i64 b.j, .slice b.A b.len b.cap, .int .i64 b.by_, .int .i64 b.plus] 28)) (by kernel_rfl) ⟨e1, e2, e4, e5⟩ (fun hHeld => ?_)
        try dsimp only at hHeld
        refine take_at (i := 0) (v := ?_) (some 88) rfl rfl (by kernel_rfl) (by kernel_rfl) (by kernel_rfl) (fun _ _ _ h => h) hHeld (by rfl) (fun wS hSw => ?_) ?_
        rotate_left
        · try dsimp only at hSw
          go_simp
          try with_reducible rfl
        try simp only [Act.put, List.setIfInBounds_toArray, List.set_cons_zero, List.set_cons_succ]
        refine take_at (i := 1) (v := ?_) (some 89) rfl rfl (by kernel_rfl) (by kernel_rfl) (by kernel_rfl) (fun _ _ _ h => h) hHeld (by rfl) (fun wS hSw => ?_) ?_
        rotate_left
        · try dsimp only at hSw
          go_simp
          try with_reducible rfl
        try simp only [Act.put, List.setIfInBounds_toArray, List.set_cons_zero, List.set_cons_succ]
        refine take_at (i := 2) (v := ?_) (some 90) rfl rfl (by kernel_rfl) (by kernel_rfl) (by kernel_rfl) (fun _ _ _ h => h) hHeld (by rfl) (fun wS hSw => ?_) ?_
        rotate_left
        · obtain ⟨hq1, hq2, -, -⟩ := hSw
          go_simp
          try with_reducible rfl
        try simp only [Act.put, List.setIfInBounds_toArray, List.set_cons_zero, List.set_cons_succ]
        refine take_at (i := 3) (v := ?_) (some 91) rfl rfl (by kernel_rfl) (by kernel_rfl) (by kernel_rfl) (fun _ _ _ h => h) hHeld (by rfl) (fun wS hSw => ?_) ?_
        rotate_left
        · try dsimp only at hSw
          go_simp
          try with_reducible rfl
        try simp only [Act.put, List.setIfInBounds_toArray, List.set_cons_zero, List.set_cons_succ]
        refine take_at (i := 4) (v := ?_) (some 92) rfl rfl (by kernel_rfl) (by kernel_rfl) (by kernel_rfl) (fun _ _ _ h => h) hHeld (by rfl) (fun wS hSw => ?_) ?_
        rotate_left
        · obtain ⟨hq1, hq2, -, -⟩ := hSw
          go_simp
          try with_reducible rfl
        try simp only [Act.put, List.setIfInBounds_toArray, List.set_cons_zero, List.set_cons_succ]
        refine take_at (i := 5) (v := ?_) (some 93) rfl rfl (by kernel_rfl) (by kernel_rfl) (by kernel_rfl) (fun _ _ _ h => h) hHeld (by rfl) (fun wS hSw => ?_) ?_
        rotate_left
        · refine exec_load_row 28 (.tmp 4) ?_ ba ?_ 28 _ (0, 0) _ hSw.2.2.1 Try.underlying28 rfl op_info <;> rfl
        try simp only [Act.put, List.setIfInBounds_toArray, List.set_cons_zero, List.set_cons_succ]
        refine take_at (i := 6) (v := ?_) (some 94) rfl rfl (by kernel_rfl) (by kernel_rfl) (by kernel_rfl) (fun _ _ _ h => h) hHeld (by rfl) (fun wS hSw => ?_) ?_
        rotate_left
        · try dsimp only at hSw
          go_simp
          try with_reducible rfl
        try simp only [Act.put, List.setIfInBounds_toArray, List.set_cons_zero, List.set_cons_succ]
        refine take_at (i := 8) (v := ?_) (some 96) rfl rfl (by kernel_rfl) (by kernel_rfl) (by kernel_rfl) (fun _ _ _ h => h) hHeld (by rfl) (fun wS hSw => ?_) ?_
        rotate_left
        · try dsimp only at hSw
          go_simp
          try with_reducible rfl
        try simp only [Act.put, List.setIfInBounds_toArray, List.set_cons_zero, List.set_cons_succ]
        refine take_at (i := 9) (v := ?_) (some 97) rfl rfl (by kernel_rfl) (by kernel_rfl) (by kernel_rfl) (fun _ _ _ h => h) hHeld (by rfl) (fun wS hSw => ?_) ?_
        rotate_left
        · try dsimp only at hSw
          go_simp
          try with_reducible rfl
        try simp only [Act.put, List.setIfInBounds_toArray, List.set_cons_zero, List.set_cons_succ]
        refine take_at (i := 10) (v := ?_) (some 98) rfl rfl (by kernel_rfl) (by kernel_rfl) (by kernel_rfl) (fun _ _ _ h => h) hHeld (by rfl) (fun wS hSw => ?_) ?_
        rotate_left
        · obtain ⟨hq1, hq2, -, -⟩ := hSw
          go_simp
          try with_reducible rfl
        try simp only [Act.put, List.setIfInBounds_toArray, List.set_cons_zero, List.set_cons_succ]
        refine take_at (i := 11) (v := ?_) (some 99) rfl rfl (by kernel_rfl) (by kernel_rfl) (by kernel_rfl) (fun _ _ _ h => h) hHeld (by rfl) (fun wS hSw => ?_) ?_
        rotate_left
        · try dsimp only at hSw
          go_simp
          try with_reducible rfl
        try simp only [Act.put, List.setIfInBounds_toArray, List.set_cons_zero, List.set_cons_succ]
        refine take_at (i := 12) (v := ?_) (some 100) rfl rfl (by kernel_rfl) (by kernel_rfl) (by kernel_rfl) (fun _ _ _ h => h) hHeld (by rfl) (fun wS hSw => ?_) ?_
        rotate_left
        · obtain ⟨hq1, hq2, -, -⟩ := hSw
          go_simp
          try with_reducible rfl
        try simp only [Act.put, List.setIfInBounds_toArray, List.set_cons_zero, List.set_cons_succ]
        refine take_at (i := 13) (v := ?_) (some 101) rfl rfl (by kernel_rfl) (by kernel_rfl) (by kernel_rfl) (fun _ _ _ h => h) hHeld (by rfl) (fun wS hSw => ?_) ?_
        rotate_left
        · refine exec_load_row 28 (.tmp 5) ?_ bb ?_ 28 _ (0, 0) _ hSw.2.2.2 Try.underlying28 rfl op_info <;> rfl
        try simp only [Act.put, List.setIfInBounds_toArray, List.set_cons_zero, List.set_cons_succ]
        refine take_at (i := 14) (v := ?_) (some 102) rfl rfl (by kernel_rfl) (by kernel_rfl) (by kernel_rfl) (fun _ _ _ h => h) hHeld (by rfl) (fun wS hSw => ?_) ?_
        rotate_left
        · try dsimp only at hSw
          go_simp
          try with_reducible rfl
        try simp only [Act.put, List.setIfInBounds_toArray, List.set_cons_zero, List.set_cons_succ]
        refine wpAnyH_ready (rs := [7]) (by kernel_rfl) (by simp) ?_
        refine AllReadyH.cons rfl (fun K hK => ?_) AllReadyH.nil
        simp only [List.getElem_toArray, List.getElem_cons_succ, List.getElem_cons_zero]
        go_simp
        refine (HM1.out).mono ?_
        rintro e w21 ⟨H21, rfl, hO21⟩
        have q21 : Star w (spI Ht gt X (102 * kk) :: spI H21 gs X1 N1 :: [boxI bb (.cells #[.int .i64 b.kind, .int .i64 b.i, .int .i64 b.j, .slice b.A b.len b.cap, .int .i64 b.by_, .int .i64 b.plus] 28), boxI ba (.cells #[.int .i64 a.kind, .int .i64 a.i, .int .i64 a.j, .slice a.A a.len a.cap, .int .i64 a.by_, .int .i64 a.plus] 28)]) w21 := hO21
        have q21a : w21.cell? ⟨ba, 1, none⟩ = some (.int .i64 a.i) ∧ w21.cell? ⟨ba, 2, none⟩ = some (.int .i64 a.j) := ⟨by rw [cell_of_row w21 ba 1 _ _ _ (show w21.heap[ba]? = some (.cells #[.int .i64 a.kind, .int .i64 a.i, .int .i64 a.j, .slice a.A a.len a.cap, .int .i64 a.by_, .int .i64 a.plus] 28) from q21.all (boxI ba (.cells #[.int .i64 a.kind, .int .i64 a.i, .int .i64 a.j, .slice a.A a.len a.cap, .int .i64 a.by_, .int .i64 a.plus] 28)) (by simp))]; rfl, by rw [cell_of_row w21 ba 2 _ _ _ (show w21.heap[ba]? = some (.cells #[.int .i64 a.kind, .int .i64 a.i, .int .i64 a.j, .slice a.A a.len a.cap, .int .i64 a.by_, .int .i64 a.plus] 28) from q21.all (boxI ba (.cells #[.int .i64 a.kind, .int .i64 a.i, .int .i64 a.j, .slice a.A a.len a.cap, .int .i64 a.by_, .int .i64 a.plus] 28)) (by simp))]; rfl⟩
        have q21b : w21.heap[ba]? = some (.cells #[.int .i64 a.kind, .int .i64 a.i, .int .i64 a.j, .slice a.A a.len a.cap, .int .i64 a.by_, .int .i64 a.plus] 28) := q21.all (boxI ba (.cells #[.int .i64 a.kind, .int .i64 a.i, .int .i64 a.j, .slice a.A a.len a.cap, .int .i64 a.by_, .int .i64 a.plus] 28)) (by simp)
        have q21c : w21.heap[bb]? = some (.cells #[.int .i64 b.kind, .int .i64 b.i, .int .i64 b.j, .slice b.A b.len b.cap, .int .i64 b.by_, .int .i64 b.plus] 28) := q21.all (boxI bb (.cells #[.int .i64 b.kind, .int .i64 b.i, .int .i64 b.j, .slice b.A b.len b.cap, .int .i64 b.by_, .int .i64 b.plus] 28)) (by simp)
        have Q21 := Lib.hid q21
        have HM2 := Lib.hid (map_any (o := b) (A := [spI Ht gt X (102 * kk)]) q21 a.i a.j HNN.out.2.1 HNN.out.2.2)
        rw [HE2.out.1, HE2.out.2.1, HE2.out.2.2] at HM2
        clear HM1
        clear hO21 q21
        dsimp only
        have hOld := hHeld
        refine hK.out _ _ ⟨q21a.1, q21a.2, q21b, q21c⟩ (fun _ => ?_)
        clear hK K
        refine wpAnyH_mono (S2 := fun w' => w'.cell? ⟨ba, 1, none⟩ = some (.int .i64 a.i) ∧ w'.cell? ⟨ba, 2, none⟩ = some (.int .i64 a.j) ∧ w'.heap[ba]? = some (.cells #[.int .i64 a.kind, .int .i64 a.i, .int .i64 a.j, .slice a.A a.len a.cap, .int .i64 a.by_, .int .i64 a.plus] 28) ∧ w'.heap[bb]? = some (.cells #[.int .i64 b.kind, .int .i64 b.i, .int .i64 b.j, .slice b.A b.len b.cap, .int .i64 b.by_, .int .i64 b.plus] 28)) (fun _ h => h) _ _ _ _ ?_
        clear hHeld
        have hHeld := And.intro q21a.1 (And.intro q21a.2 (And.intro q21b q21c))
        clear hOld
        try simp only [Act.put, List.setIfInBounds_toArray, List.set_cons_zero, List.set_cons_succ]
        refine wpAnyH_ready (rs := [15]) (by kernel_rfl) (by simp) ?_
        refine AllReadyH.cons rfl (fun K hK => ?_) AllReadyH.nil
        simp only [List.getElem_toArray, List.getElem_cons_succ, List.getElem_cons_zero]
        go_simp
        refine (HM2.out).mono ?_
        rintro e w22 ⟨H22, rfl, hO22⟩
        have q22 : Star w (spI Ht gt X (102 * kk) :: spI H22 gs X2 N2 :: [boxI bb (.cells #[.int .i64 b.kind, .int .i64 b.i, .int .i64 b.j, .slice b.A b.len b.cap, .int .i64 b.by_, .int .i64 b.plus] 28), boxI ba (.cells #[.int .i64 a.kind, .int .i64 a.i, .int .i64 a.j, .slice a.A a.len a.cap, .int .i64 a.by_, .int .i64 a.plus] 28)]) w22 := hO22
        have q22a : w22.cell? ⟨ba, 1, none⟩ = some (.int .i64 a.i) ∧ w22.cell? ⟨ba, 2, none⟩ = some (.int .i64 a.j) := ⟨by rw [cell_of_row w22 ba 1 _ _ _ (show w22.heap[ba]? = some (.cells #[.int .i64 a.kind, .int .i64 a.i, .int .i64 a.j, .slice a.A a.len a.cap, .int .i64 a.by_, .int .i64 a.plus] 28) from q22.all (boxI ba (.cells #[.int .i64 a.kind, .int .i64 a.i, .int .i64 a.j, .slice a.A a.len a.cap, .int .i64 a.by_, .int .i64 a.plus] 28)) (by simp))]; rfl, by rw [cell_of_row w22 ba 2 _ _ _ (show w22.heap[ba]? = some (.cells #[.int .i64 a.kind, .int .i64 a.i, .int .i64 a.j, .slice a.A a.len a.cap, .int .i64 a.by_, .int .i64 a.plus] 28) from q22.all (boxI ba (.cells #[.int .i64 a.kind, .int .i64 a.i, .int .i64 a.j, .slice a.A a.len a.cap, .int .i64 a.by_, .int .i64 a.plus] 28)) (by simp))]; rfl⟩
        have q22b : w22.heap[ba]? = some (.cells #[.int .i64 a.kind, .int .i64 a.i, .int .i64 a.j, .slice a.A a.len a.cap, .int .i64 a.by_, .int .i64 a.plus] 28) := q22.all (boxI ba (.cells #[.int .i64 a.kind, .int .i64 a.i, .int .i64 a.j, .slice a.A a.len a.cap, .int .i64 a.by_, .int .i64 a.plus] 28)) (by simp)
        have q22c : w22.heap[bb]? = some (.cells #[.int .i64 b.kind, .int .i64 b.i, .int .i64 b.j, .slice b.A b.len b.cap, .int .i64 b.by_, .int .i64 b.plus] 28) := q22.all (boxI bb (.cells #[.int .i64 b.kind, .int .i64 b.i, .int .i64 b.j, .slice b.A b.len b.cap, .int .i64 b.by_, .int .i64 b.plus] 28)) (by simp)
        have Q22 := Lib.hid q22
        clear HM2
        clear hO22 q22
        dsimp only
        have hOld := hHeld
        refine hK.out _ _ ⟨q22a.1, q22a.2, q22b, q22c⟩ (fun _ => ?_)
        clear hK K
        refine wpAnyH_mono (S2 := fun w' => w'.cell? ⟨ba, 1, none⟩ = some (.int .i64 a.i) ∧ w'.cell? ⟨ba, 2, none⟩ = some (.int .i64 a.j) ∧ w'.heap[ba]? = some (.cells #[.int .i64 a.kind, .int .i64 a.i, .int .i64 a.j, .slice a.A a.len a.cap, .int .i64 a.by_, .int .i64 a.plus] 28) ∧ w'.heap[bb]? = some (.cells #[.int .i64 b.kind, .int .i64 b.i, .int .i64 b.j, .slice b.A b.len b.cap, .int .i64 b.by_, .int .i64 b.plus] 28)) (fun _ h => h) _ _ _ _ ?_
        clear hHeld
        have hHeld := And.intro q22a.1 (And.intro q22a.2 (And.intro q22b q22c))
        clear hOld
        try simp only [Act.put, List.setIfInBounds_toArray, List.set_cons_zero, List.set_cons_succ]
        refine take_at (i := 16) (v := ?_) (some 11) rfl rfl (by kernel_rfl) (by kernel_rfl) (by kernel_rfl) (fun _ _ _ h => h) hHeld (by rfl) (fun wS hSw => ?_) ?_
        rotate_left
        · try dsimp only at hSw
          go_simp
          try with_reducible rfl
        try simp only [Act.put, List.setIfInBounds_toArray, List.set_cons_zero, List.set_cons_succ]
        refine take_at (i := 17) (v := ?_) (some 12) rfl rfl (by kernel_rfl) (by kernel_rfl) (by kernel_rfl) (fun _ _ _ h => h) hHeld (by rfl) (fun wS hSw => ?_) ?_
        rotate_left
        · try dsimp only at hSw
          go_simp
          try with_reducible rfl
        try simp only [Act.put, List.setIfInBounds_toArray, List.set_cons_zero, List.set_cons_succ]
        refine wpAnyH_done (by kernel_rfl) ?_ _
        clear hHeld
        have HOK1 := Lib.hid ((show SpS w21 H21 gs X1 N1 from Q21.out.get (A := [spI Ht gt X (102 * kk)])).ob.okX)
        by_cases h0 : r1 = 0
        rotate_left
        · have hb0 : (r1 != 0) = true := by simp [h0]
          have hb1 : (r1 == 0) = false := by simp [h0]
          clear h0
          go_wp2_with fail
          refine (known_any _).mono ?_
          rintro e wz ⟨rfl, hbz⟩
          have SZ := Lib.hid (Q22.out.later hbz)
          clear hbz 
          go_wp2_with fail
          go_ret
          exact ⟨rfl, SZ.out.below⟩
        · subst h0
          by_cases h0 : r2 = 0
          rotate_left
          · have hb0 : (r2 != 0) = true := by simp [h0]
            have hb1 : (r2 == 0) = false := by simp [h0]
            clear h0
            go_wp2_with fail
            refine (known_any _).mono ?_
            rintro e wz ⟨rfl, hbz⟩
            have SZ := Lib.hid (Q22.out.later hbz)
            clear hbz 
            go_wp2_with fail
            go_ret
            exact ⟨rfl, SZ.out.below⟩
          · subst h0
            have HM3 := Lib.hid (both_map (a := a) (b := b) (ba := ba) (bb := bb) (A := []) (B := spI H22 gs X2 N2 :: [boxI bb (.cells #[.int .i64 b.kind, .int .i64 b.i, .int .i64 b.j, .slice b.A b.len b.cap, .int .i64 b.by_, .int .i64 b.plus] 28), boxI ba (.cells #[.int .i64 a.kind, .int .i64 a.i, .int .i64 a.j, .slice a.A a.len a.cap, .int .i64 a.by_, .int .i64 a.plus] 28)]) Q22.out (by simp) (by simp) a.i a.j (by omega) (by omega))
            obtain ⟨r3, hr3⟩ : ∃ v, mpE (bothF a b) X a.i a.j = v := ⟨_, rfl⟩
            obtain ⟨N3, hN3⟩ : ∃ v, max (102 * kk + 2) (mpX (bothF a b) X a.i a.j).length = v := ⟨_, rfl⟩
            have HE3 := Lib.hid hr3
            rw [hr3, hN3] at HM3
            clear hr3 hN3
            have e1 := q22a.1
            have e2 := q22a.2
            clear q22a q22b q22c
            by_cases h0 : r3 = 0
            rotate_left
            · have hb0 : (r3 != 0) = true := by simp [h0]
              have hb1 : (r3 == 0) = false := by simp [h0]
              clear h0
              go_wp2_with fail
              refine HM3.out.mono ?_
              clear HM3
              rintro e w25 ⟨H25, rfl, hO⟩
              have Q25 := Lib.hid hO
              clear hO e1 e2
              go_wp2_with fail
              refine (known_any _).mono ?_
              rintro e wz ⟨rfl, hbz⟩
              have SZ := Lib.hid (Q25.out.later hbz)
              clear hbz 
              go_wp2_with fail
              go_ret
              exact ⟨rfl, SZ.out.below⟩
            · subst h0
              have hX3 : mpX (bothF a b) X a.i a.j = X2 := by
                have h := mp_both (a := a) (b := b) (i := a.i) (j := a.j) HX.out.1 HX.out.2 (by rw [HE1.out.2.1]; exact HOK1.out.1) HE1.out.1 (by rw [HE1.out.2.1]; exact HE2.out.1) HE3.out
                rw [HE1.out.2.1] at h
                exact h.symm.trans HE2.out.2.1
              rw [hX3] at HM3
              clear hX3
              go_wp2_with fail
              obtain ⟨z, hz⟩ : ∃ v, sumT X2 = v := ⟨_, rfl⟩
              have hS2 : SpS w22 H22 gs X2 N2 := Q22.out.get (A := [spI Ht gt X (102 * kk)])
              have hz0 := sumT_nonneg hS2.ob.okX.1
              have hle := hS2.le
              have HZ2 := Lib.hid (And.intro hz hS2.ob.okX.1)
              rw [hz] at hz0 hle
              clear hS2
              refine HM3.out.mono ?_
              clear HM3
              rintro e w25 ⟨H25, rfl, hO⟩
              have hO : Star w (spI H25 gt X2 N3 :: spI H22 gs X2 N2 :: [boxI bb (.cells #[.int .i64 b.kind, .int .i64 b.i, .int .i64 b.j, .slice b.A b.len b.cap, .int .i64 b.by_, .int .i64 b.plus] 28), boxI ba (.cells #[.int .i64 a.kind, .int .i64 a.i, .int .i64 a.j, .slice a.A a.len a.cap, .int .i64 a.by_, .int .i64 a.plus] 28)]) w25 := hO
              have HL := Lib.hid (star_same (A := [spI H25 gt X2 N3]) hO (len_any (show SpS w25 H22 gs X2 N2 from hO.get (A := [spI H25 gt X2 N3]))))
              rw [hz] at HL
              clear hO
              go_wp2_with fail
              refine HL.out.mono ?_
              clear HL
              rintro e w26 ⟨H26, rfl, hO⟩
              have hO : Star w (spI H25 gt X2 N3 :: spI H26 gs X2 N2 :: [boxI bb (.cells #[.int .i64 b.kind, .int .i64 b.i, .int .i64 b.j, .slice b.A b.len b.cap, .int .i64 b.by_, .int .i64 b.plus] 28), boxI ba (.cells #[.int .i64 a.kind, .int .i64 a.i, .int .i64 a.j, .slice a.A a.len a.cap, .int .i64 a.by_, .int .i64 a.plus] 28)]) w26 := hO
              have HL := Lib.hid (star_same (A := []) hO (len_any (show SpS w26 H25 gt X2 N3 from hO.get (A := []))))
              rw [hz] at HL
              clear hO
              go_wp2_with fail
              refine HL.out.mono ?_
              clear HL
              rintro e w27 ⟨H27, rfl, hO⟩
              have hO : Star w (spI H27 gt X2 N3 :: spI H26 gs X2 N2 :: [boxI bb (.cells #[.int .i64 b.kind, .int .i64 b.i, .int .i64 b.j, .slice b.A b.len b.cap, .int .i64 b.by_, .int .i64 b.plus] 28), boxI ba (.cells #[.int .i64 a.kind, .int .i64 a.i, .int .i64 a.j, .slice a.A a.len a.cap, .int .i64 a.by_, .int .i64 a.plus] 28)]) w27 := hO
              obtain ⟨c, hc⟩ : ∃ v : Int, (X2.length : Int) = v := ⟨_, rfl⟩
              have HL := Lib.hid (star_same (A := [spI H27 gt X2 N3]) hO (countS_any (show SpS w27 H26 gs X2 N2 from hO.get (A := [spI H27 gt X2 N3]))))
              rw [hc] at HL
              clear hO
              go_wp2_with fail
              refine HL.out.mono ?_
              clear HL
              rintro e w28 ⟨H28, rfl, hO⟩
              have hO : Star w (spI H27 gt X2 N3 :: spI H28 gs X2 N2 :: [boxI bb (.cells #[.int .i64 b.kind, .int .i64 b.i, .int .i64 b.j, .slice b.A b.len b.cap, .int .i64 b.by_, .int .i64 b.plus] 28), boxI ba (.cells #[.int .i64 a.kind, .int .i64 a.i, .int .i64 a.j, .slice a.A a.len a.cap, .int .i64 a.by_, .int .i64 a.plus] 28)]) w28 := hO
              have HL := Lib.hid (star_same (A := []) hO (countS_any (show SpS w28 H27 gt X2 N3 from hO.get (A := []))))
              rw [hc] at HL
              clear hO
              go_wp2_with fail
              refine HL.out.mono ?_
              clear HL
              rintro e w29 ⟨H29, rfl, hO⟩
              have hO : Star w (spI H29 gt X2 N3 :: spI H28 gs X2 N2 :: [boxI bb (.cells #[.int .i64 b.kind, .int .i64 b.i, .int .i64 b.j, .slice b.A b.len b.cap, .int .i64 b.by_, .int .i64 b.plus] 28), boxI ba (.cells #[.int .i64 a.kind, .int .i64 a.i, .int .i64 a.j, .slice a.A a.len a.cap, .int .i64 a.by_, .int .i64 a.plus] 28)]) w29 := hO
              have HL := Lib.hid (star_same (A := [spI H29 gt X2 N3]) hO (len_any (show SpS w29 H28 gs X2 N2 from hO.get (A := [spI H29 gt X2 N3]))))
              rw [hz] at HL
              clear hO hz hc
              go_wp2_with fail
              refine HL.out.mono ?_
              clear HL
              rintro e w29' ⟨H28', rfl, hO⟩
              have Q29 := Lib.hid (show Star w (spI H29 gt X2 N3 :: spI H28' gs X2 N2 :: [boxI bb (.cells #[.int .i64 b.kind, .int .i64 b.i, .int .i64 b.j, .slice b.A b.len b.cap, .int .i64 b.by_, .int .i64 b.plus] 28), boxI ba (.cells #[.int .i64 a.kind, .int .i64 a.i, .int .i64 a.j, .slice a.A a.len a.cap, .int .i64 a.by_, .int .i64 a.plus] 28)]) w29' from hO)
              clear hO
              go_wp2_with fail
              case inl =>
                go_loopw [136] (fun v136 wr => ∃ (q : Nat) (Hs Ht : Nat → Prop), (q : Int) ≤ 2000 ∧ v136 = .int .i64 q ∧ Star w (spI Ht gt X2 N3 :: spI Hs gs X2 N2 :: [boxI bb (.cells #[.int .i64 b.kind, .int .i64 b.i, .int .i64 b.j, .slice b.A b.len b.cap, .int .i64 b.by_, .int .i64 b.plus] 28), boxI ba (.cells #[.int .i64 a.kind, .int .i64 a.i, .int .i64 a.j, .slice a.A a.len a.cap, .int .i64 a.by_, .int .i64 a.plus] 28)]) wr) (fun v136 _ => (2000 : Int).toNat - (intOf v136).toNat)
                case atStart => exact ⟨0, _, _, by omega, rfl, Q29.out⟩
                case round =>
                  obtain ⟨q, Hs, Ht, hq, rfl, hO⟩ := hrel
                  by_cases hlt : (q : Int) < 2000
                  · obtain ⟨d, hd⟩ := atV_in HZ2.out.2 (show 0 ≤ (q : Int) by omega) (show (q : Int) < sumT X2 by rw [HZ2.out.1]; omega)
                    have HA := Lib.hid (star_same (A := [spI Ht gt X2 N3]) hO (at_any' (show SpS wr Hs gs X2 N2 from hO.get (A := [spI Ht gt X2 N3])) (q : Int) (by omega)))
                    have HD := Lib.hid hd
                    rw [hd] at HA
                    clear hd hO
                    go_wp2_with fail
                    refine HA.out.mono ?_
                    clear HA
                    rintro e w30 ⟨H30, rfl, hO⟩
                    have hO : Star w (spI Ht gt X2 N3 :: spI H30 gs X2 N2 :: [boxI bb (.cells #[.int .i64 b.kind, .int .i64 b.i, .int .i64 b.j, .slice b.A b.len b.cap, .int .i64 b.by_, .int .i64 b.plus] 28), boxI ba (.cells #[.int .i64 a.kind, .int .i64 a.i, .int .i64 a.j, .slice a.A a.len a.cap, .int .i64 a.by_, .int .i64 a.plus] 28)]) w30 := hO
                    have HA := Lib.hid (star_same (A := []) hO (at_any' (show SpS w30 Ht gt X2 N3 from hO.get (A := [])) (q : Int) (by omega)))
                    rw [HD.out] at HA
                    clear hO
                    go_wp2_with fail
                    refine HA.out.mono ?_
                    clear HA
                    rintro e w31 ⟨H31, rfl, hO⟩
                    have HO31 := Lib.hid (show Star w (spI H31 gt X2 N3 :: spI H30 gs X2 N2 :: [boxI bb (.cells #[.int .i64 b.kind, .int .i64 b.i, .int .i64 b.j, .slice b.A b.len b.cap, .int .i64 b.by_, .int .i64 b.plus] 28), boxI ba (.cells #[.int .i64 a.kind, .int .i64 a.i, .int .i64 a.j, .slice a.A a.len a.cap, .int .i64 a.by_, .int .i64 a.plus] 28)]) w31 from hO)
                    clear hO
                    go_wp2_with fail
                    go_roundw
                    case rel => exact ⟨q + 1, _, _, by omega, by go_num, HO31.out⟩
                    case measure => simp [intOf]; omega
                  · have HOq := Lib.hid hO
                    clear hO
                    go_wp2_with fail
                    refine (known_any _).mono ?_
                    rintro e wz ⟨rfl, hbz⟩
                    have SZ := Lib.hid (HOq.out.later hbz)
                    clear hbz 
                    go_wp2_with fail
                    go_ret
                    exact ⟨rfl, SZ.out.below⟩
              case inr =>
                go_loopw [136] (fun v136 wr => ∃ (q : Nat) (Hs Ht : Nat → Prop), (q : Int) ≤ z ∧ v136 = .int .i64 q ∧ Star w (spI Ht gt X2 N3 :: spI Hs gs X2 N2 :: [boxI bb (.cells #[.int .i64 b.kind, .int .i64 b.i, .int .i64 b.j, .slice b.A b.len b.cap, .int .i64 b.by_, .int .i64 b.plus] 28), boxI ba (.cells #[.int .i64 a.kind, .int .i64 a.i, .int .i64 a.j, .slice a.A a.len a.cap, .int .i64 a.by_, .int .i64 a.plus] 28)]) wr) (fun v136 _ => (z : Int).toNat - (intOf v136).toNat)
                case atStart => exact ⟨0, _, _, by omega, rfl, Q29.out⟩
                case round =>
                  obtain ⟨q, Hs, Ht, hq, rfl, hO⟩ := hrel
                  by_cases hlt : (q : Int) < z
                  · obtain ⟨d, hd⟩ := atV_in HZ2.out.2 (show 0 ≤ (q : Int) by omega) (show (q : Int) < sumT X2 by rw [HZ2.out.1]; omega)
                    have HA := Lib.hid (star_same (A := [spI Ht gt X2 N3]) hO (at_any' (show SpS wr Hs gs X2 N2 from hO.get (A := [spI Ht gt X2 N3])) (q : Int) (by omega)))
                    have HD := Lib.hid hd
                    rw [hd] at HA
                    clear hd hO
                    go_wp2_with fail
                    refine HA.out.mono ?_
                    clear HA
                    rintro e w30 ⟨H30, rfl, hO⟩
                    have hO : Star w (spI Ht gt X2 N3 :: spI H30 gs X2 N2 :: [boxI bb (.cells #[.int .i64 b.kind, .int .i64 b.i, .int .i64 b.j, .slice b.A b.len b.cap, .int .i64 b.by_, .int .i64 b.plus] 28), boxI ba (.cells #[.int .i64 a.kind, .int .i64 a.i, .int .i64 a.j, .slice a.A a.len a.cap, .int .i64 a.by_, .int .i64 a.plus] 28)]) w30 := hO
                    have HA := Lib.hid (star_same (A := []) hO (at_any' (show SpS w30 Ht gt X2 N3 from hO.get (A := [])) (q : Int) (by omega)))
                    rw [HD.out] at HA
                    clear hO
                    go_wp2_with fail
                    refine HA.out.mono ?_
                    clear HA
                    rintro e w31 ⟨H31, rfl, hO⟩
                    have HO31 := Lib.hid (show Star w (spI H31 gt X2 N3 :: spI H30 gs X2 N2 :: [boxI bb (.cells #[.int .i64 b.kind, .int .i64 b.i, .int .i64 b.j, .slice b.A b.len b.cap, .int .i64 b.by_, .int .i64 b.plus] 28), boxI ba (.cells #[.int .i64 a.kind, .int .i64 a.i, .int .i64 a.j, .slice a.A a.len a.cap, .int .i64 a.by_, .int .i64 a.plus] 28)]) w31 from hO)
                    clear hO
                    go_wp2_with fail
                    go_roundw
                    case rel => exact ⟨q + 1, _, _, by omega, by go_num, HO31.out⟩
                    case measure => simp [intOf]; omega
                  · have HOq := Lib.hid hO
                    clear hO
                    go_wp2_with fail
                    refine (known_any _).mono ?_
                    rintro e wz ⟨rfl, hbz⟩
                    have SZ := Lib.hid (HOq.out.later hbz)
                    clear hbz 
                    go_wp2_with fail
                    go_ret
                    exact ⟨rfl, SZ.out.below⟩

end Go.Proofs.Ytbioomilnjikpaa
