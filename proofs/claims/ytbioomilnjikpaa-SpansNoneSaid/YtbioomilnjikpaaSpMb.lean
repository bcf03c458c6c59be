/-
  Map by two functions, one behind the other; plainly: what it comes to.
-/
import Derived.Test.YtbioomilnjikpaaSpMq
namespace Go.Proofs.Ytbioomilnjikpaa
open Go.RowKit
attribute [local go_sem] Oper.semAt_some

theorem op_info {a b c : Value} {A : Option Addr} {n m : Nat} {d e : Value} : (Try.prog.info? 28).map (·.size) = some (#[a, b, c, .slice A n m, d, e] : Array Value).size := by kernel_rfl

def bothF (a b : OpS) (id : Int) : Int := mapF b.by_ b.plus (mapF a.by_ a.plus id)

set_option maxRecDepth 100000 in
set_option maxHeartbeats 4000000 in
theorem both_any {a b : OpS} {ba bb : Nat} (id : Int) {w : World} (hq : w.heap[ba]? = some (.cells #[.int .i64 a.kind, .int .i64 a.i, .int .i64 a.j, .slice a.A a.len a.cap, .int .i64 a.by_, .int .i64 a.plus] 28) ∧ w.heap[bb]? = some (.cells #[.int .i64 b.kind, .int .i64 b.i, .int .i64 b.j, .slice b.A b.len b.cap, .int .i64 b.by_, .int .i64 b.plus] 28)) :
    Calls Try.prog 15 #[.int .i64 id, .pointer (some ⟨bb, 0, none⟩), .pointer (some ⟨ba, 0, none⟩)] w fun e w' => e = .returned (.int .i64 (bothF a b id)) ∧ Below w.heap.size w w' := by
  obtain ⟨hq1, hq2⟩ := hq
  go_enter Try.func15, Try.ntmps15
  go_wp2_with fail
  refine wp_region_held_drew (S := fun w' => w'.heap[ba]? = some (.cells #[.int .i64 a.kind, .int .i64 a.i, .int .i64 a.j, .slice a.A a.len a.cap, .int .i64 a.by_, .int .i64 a.plus] 28) ∧ w'.heap[bb]? = some (.cells #[.int .i64 b.kind, .int .i64 b.i, .int .i64 b.j, .slice b.A b.len b.cap, .int .i64 b.by_, .int .i64 b.plus] 28)) (by kernel_rfl) ⟨hq1, hq2⟩ (fun hHeld => ?_)
  try dsimp only at hHeld
  refine take_at (i := 0) (v := ?_) (some 5) rfl rfl (by kernel_rfl) (by kernel_rfl) (by kernel_rfl) (fun _ _ _ h => h) hHeld (by rfl) (fun wS hSw => ?_) ?_
  rotate_left
  · refine exec_load_row 28 (.tmp 1) ?_ bb ?_ 28 _ (0, 0) _ hSw.2 Try.underlying28 rfl op_info <;> rfl
  try simp only [Act.put, List.setIfInBounds_toArray, List.set_cons_zero, List.set_cons_succ]
  refine take_at (i := 1) (v := ?_) (some 6) rfl rfl (by kernel_rfl) (by kernel_rfl) (by kernel_rfl) (fun _ _ _ h => h) hHeld (by rfl) (fun wS hSw => ?_) ?_
  rotate_left
  · refine exec_load_row 28 (.tmp 2) ?_ ba ?_ 28 _ (0, 0) _ hSw.1 Try.underlying28 rfl op_info <;> rfl
  try simp only [Act.put, List.setIfInBounds_toArray, List.set_cons_zero, List.set_cons_succ]
  refine take_at (i := 2) (v := ?_) (some 7) rfl rfl (by kernel_rfl) (by kernel_rfl) (by kernel_rfl) (fun _ _ _ h => h) hHeld (by rfl) (fun wS hSw => ?_) ?_
  rotate_left
  · try dsimp only at hSw
    go_simp
    try with_reducible rfl
  try simp only [Act.put, List.setIfInBounds_toArray, List.set_cons_zero, List.set_cons_succ]
  refine wpAnyH_ready (rs := [3]) (by kernel_rfl) (by simp) ?_
  refine AllReadyH.cons rfl (fun K hK => ?_) AllReadyH.nil
  simp only [List.getElem_toArray, List.getElem_cons_succ, List.getElem_cons_zero]
  go_simp
  refine (mapped_any a id _).mono ?_
  rintro e w1 ⟨rfl, hb1⟩
  have q1a := heap_later hHeld.1 hb1
  have q1b := heap_later hHeld.2 hb1
  dsimp only
  have hOld := hHeld
  refine hK.out _ _ ⟨q1a, q1b⟩ (fun _ => ?_)
  clear hK K
  refine wpAnyH_mono (S2 := fun w' => w'.heap[ba]? = some (.cells #[.int .i64 a.kind, .int .i64 a.i, .int .i64 a.j, .slice a.A a.len a.cap, .int .i64 a.by_, .int .i64 a.plus] 28) ∧ w'.heap[bb]? = some (.cells #[.int .i64 b.kind, .int .i64 b.i, .int .i64 b.j, .slice b.A b.len b.cap, .int .i64 b.by_, .int .i64 b.plus] 28)) (fun _ h => h) _ _ _ _ ?_
  clear hHeld
  have hHeld := And.intro q1a q1b
  clear hOld
  try simp only [Act.put, List.setIfInBounds_toArray, List.set_cons_zero, List.set_cons_succ]
  refine wpAnyH_ready (rs := [4]) (by kernel_rfl) (by simp) ?_
  refine AllReadyH.cons rfl (fun K hK => ?_) AllReadyH.nil
  simp only [List.getElem_toArray, List.getElem_cons_succ, List.getElem_cons_zero]
  go_simp
  refine (mapped_any b (mapF a.by_ a.plus id) _).mono ?_
  rintro e w2 ⟨rfl, hb2⟩
  have q2a := heap_later hHeld.1 hb2
  have q2b := heap_later hHeld.2 hb2
  dsimp only
  have hOld := hHeld
  refine hK.out _ _ ⟨q2a, q2b⟩ (fun _ => ?_)
  clear hK K
  refine wpAnyH_mono (S2 := fun w' => w'.heap[ba]? = some (.cells #[.int .i64 a.kind, .int .i64 a.i, .int .i64 a.j, .slice a.A a.len a.cap, .int .i64 a.by_, .int .i64 a.plus] 28) ∧ w'.heap[bb]? = some (.cells #[.int .i64 b.kind, .int .i64 b.i, .int .i64 b.j, .slice b.A b.len b.cap, .int .i64 b.by_, .int .i64 b.plus] 28)) (fun _ h => h) _ _ _ _ ?_
  clear hHeld
  have hHeld := And.intro q2a q2b
  clear hOld
  try simp only [Act.put, List.setIfInBounds_toArray, List.set_cons_zero, List.set_cons_succ]
  refine take_at (i := 5) (v := ?_) (some 4) rfl rfl (by kernel_rfl) (by kernel_rfl) (by kernel_rfl) (fun _ _ _ h => h) hHeld (by rfl) (fun wS hSw => ?_) ?_
  rotate_left
  · try dsimp only at hSw
    go_simp
    try with_reducible rfl
  try simp only [Act.put, List.setIfInBounds_toArray, List.set_cons_zero, List.set_cons_succ]
  refine wpAnyH_done (by kernel_rfl) ?_ _

  clear hHeld
  have HB := Lib.hid (((Below.refl w.heap.size w).drew.trans hb1).trans (hb2.mono hb1.size))
  clear hb1 hb2 q1a q1b q2a q2b hq1 hq2
  go_wp2_with fail
  go_ret
  exact ⟨rfl, HB.out⟩

set_option maxRecDepth 100000 in
set_option maxHeartbeats 8000000 in
theorem both_map {w0 w : World} {H : Nat → Prop} {g N : Nat} {X : List Th} {A B : List Item} {a b : OpS} {ba bb : Nat} (h : Star w0 (A ++ spI H g X N :: B) w) (hba : boxI ba (.cells #[.int .i64 a.kind, .int .i64 a.i, .int .i64 a.j, .slice a.A a.len a.cap, .int .i64 a.by_, .int .i64 a.plus] 28) ∈ B) (hbb : boxI bb (.cells #[.int .i64 b.kind, .int .i64 b.i, .int .i64 b.j, .slice b.A b.len b.cap, .int .i64 b.by_, .int .i64 b.plus] 28) ∈ B) (i j : Int) (hN : N ≤ 79998) (hX : X.length + X.length + 2 ≤ 80000) :
    Calls Try.prog 17 #[.pointer (some ⟨g, 0, none⟩), .int .i64 i, .int .i64 j, .func (.func 15) #[] #[.pointer (some ⟨bb, 0, none⟩), .pointer (some ⟨ba, 0, none⟩)]] w fun e w' => MapS w0 g (max (N + 2) (mpX (bothF a b) X i j).length) (mpX (bothF a b) X i j) (mpE (bothF a b) X i j) A B e w' := by
  have HF := Lib.hid (fun (id : Int) (w : World) (hq : w.heap[ba]? = some (.cells #[.int .i64 a.kind, .int .i64 a.i, .int .i64 a.j, .slice a.A a.len a.cap, .int .i64 a.by_, .int .i64 a.plus] 28) ∧ w.heap[bb]? = some (.cells #[.int .i64 b.kind, .int .i64 b.i, .int .i64 b.j, .slice b.A b.len b.cap, .int .i64 b.by_, .int .i64 b.plus] 28)) => both_any id hq)
  have hS : SpS w H g X N := h.get
  have hokX := hS.ob.okX
  have HOv := Lib.hid (over_star h i j)
  have hcan := hS.can
  have hle := hS.le
  obtain ⟨F, hFF⟩ : ∃ F : Int → Int, (bothF a b) = F := ⟨_, rfl⟩
  rw [hFF] at HF ⊢
  have HC := Lib.hid (And.intro hcan (And.intro hokX hle))
  clear h hS hokX hcan hle hFF
  rcases betE_or X i j with hb | hb
  · have HE := Lib.hid (show mpE F X i j = spE X i j (mpL F X i j) ∧ mpX F X i j = spX X i j (mpL F X i j) by unfold mpE mpX; rw [hb, if_pos rfl, if_pos rfl]; exact ⟨rfl, rfl⟩)
    have hbz := betE_zero hb
    rw [hb] at HOv
    have HOK := Lib.hid (overT_ok X i j HC.out.2.1.1)
    clear hb
    go_enter Try.func17, Try.ntmps17
    go_wp2_with fail
    refine HOv.out.mono ?_
    clear HOv
    rintro e w1 ⟨H1, v, xs, rfl, hO, hx, -⟩
    obtain rfl := hx trivial
    obtain ⟨base, hbase⟩ : ∃ b, w.heap.size = b := ⟨_, rfl⟩
    rw [hbase] at hO
    obtain ⟨P, hP⟩ : ∃ P, overT X i j = P := ⟨_, rfl⟩
    rw [hP] at hO HOK
    have HPP := Lib.hid hP
    obtain ⟨Av, cv, rfl, hcv, -⟩ := OwnT.shape (show OwnT w1 base v P from hO.all _ (List.mem_cons_self))
    obtain ⟨nP, hnP⟩ : ∃ n, P.length = n := ⟨_, rfl⟩
    have HNP := Lib.hid hnP
    have hnp : nP ≤ 100000 := by have h1 := HOK.out.2; have h2 := HC.out.2.1.2.1; omega
    have hnpI : (nP : Int) ≤ 100000 := by omega
    rw [hnP] at hO hcv ⊢
    have HO := Lib.hid hO
    clear hO hx hP hnP hbase
    go_wp2_with fail
    go_loopw [24] (fun v24 wr => ∃ k : Nat, k ≤ nP ∧ v24 = .int .i64 k ∧ Star w0 (thI (.slice Av nP cv) base (mpK F P k) :: (A ++ spI H1 g X N :: B)) wr) (fun v24 _ => nP - (intOf v24).toNat)
    case atStart => exact ⟨0, Nat.zero_le _, rfl, by rw [mpK_zero]; exact HO.out⟩
    case round =>
      obtain ⟨k, hk, rfl, hO⟩ := hrel
      by_cases hlt : k < nP
      · have hkI : (k : Int) < nP := by omega
        obtain ⟨x, hx⟩ : ∃ x, P[k]? = some x := ⟨_, List.getElem?_eq_getElem (by rw [HNP.out]; exact hlt)⟩
        have hml : (mpK F P k).length = nP := by rw [mpK_len, HNP.out]
        have hget : (mpK F P k)[k]? = some x := by rw [mpK_get, if_neg (Nat.lt_irrefl k)]; exact hx
        have hown : OwnT wr base (.slice Av nP cv) (mpK F P k) := hO.all _ (List.mem_cons_self)
        obtain ⟨-, bP, rfl, hbP, hbPl, hrP, -⟩ := hown.thing hget
        obtain ⟨xn, xi⟩ := x
        have c1 : wr.cell? ⟨bP, k * 2 + 1, none⟩ = some (.int .i64 xi) := hrP 1 _ rfl
        have HX := Lib.hid (And.intro hx hml)
        have HO1 := Lib.hid hO
        have HFx := Lib.hid (HF.out xi wr ⟨hO.all (boxI ba (.cells #[.int .i64 a.kind, .int .i64 a.i, .int .i64 a.j, .slice a.A a.len a.cap, .int .i64 a.by_, .int .i64 a.plus] 28)) (List.mem_cons_of_mem _ (List.mem_append_right _ (List.mem_cons_of_mem _ hba))), hO.all (boxI bb (.cells #[.int .i64 b.kind, .int .i64 b.i, .int .i64 b.j, .slice b.A b.len b.cap, .int .i64 b.by_, .int .i64 b.plus] 28)) (List.mem_cons_of_mem _ (List.mem_append_right _ (List.mem_cons_of_mem _ hbb)))⟩)
        clear hx hml hget hown hrP hO
        go_wp2_with fail
        refine HFx.out.mono ?_
        rintro e w2 ⟨rfl, hb2⟩
        have hO2 := HO1.out.later hb2
        have hown2 : w2.ownsRow base 34 2 (.slice (some ⟨bP, 0, none⟩) nP cv) nP (rowT (mpK F P k)) := by have h1 : OwnT w2 base (.slice (some ⟨bP, 0, none⟩) nP cv) (mpK F P k) := hO2.all _ (List.mem_cons_self); unfold OwnT at h1; rw [HX.out.2] at h1; exact h1
        have hst := hown2.stored (k * 2 + 1) (.int .i64 (F xi))
        have d1 : w2.cell? ⟨bP, k * 2 + 1, none⟩ = some (.int .i64 xi) := cell_later c1 hb2
        have z1 : w2.frozen? ⟨bP, k * 2 + 1, none⟩ = false := hown2.frozenAt _
        have HN := Lib.hid (show Star w0 (thI (.slice (some ⟨bP, 0, none⟩) nP cv) base (mpK F P (k + 1)) :: (A ++ spI H1 g X N :: B)) (w2.setCell ⟨bP, k * 2 + 1, none⟩ (.int .i64 (F xi))) from by
          refine Star.update (A := []) (I' := thI (.slice (some ⟨bP, 0, none⟩) nP cv) base (mpK F P (k + 1))) hO2 ?_ ⟨(grown_step hst.2).mono (fun _ _ h => h), fun _ h => .inl h⟩
          show World.ownsRow _ base _ 2 _ (mpK F P (k + 1)).length (rowT (mpK F P (k + 1)))
          rw [mpK_len, HNP.out, mpK_row F HX.out.1]
          exact hst.1)
        clear hb2 hO2 hown2 hst c1
        go_wp2_with fail
        go_roundw
        case rel => exact ⟨k + 1, by omega, by go_num, HN.out⟩
        case measure => simp [intOf]; omega
      · obtain rfl : k = nP := by omega
        have hml : mpK F P k = mpL F X i j := by unfold mpL; rw [HPP.out, mpK_all F HNP.out]
        rw [hml] at hO
        have hown : OwnT wr base (.slice Av k cv) (mpL F X i j) := hO.all _ (List.mem_cons_self)
        have hll : (mpL F X i j).length = k := by rw [← hml, mpK_len, HNP.out]
        have hPX : k ≤ X.length := by rw [← HNP.out]; exact HOK.out.2
        have hown0 : wr.ownsRow base 34 2 (.slice Av k cv) k (rowT (mpL F X i j)) := by unfold OwnT at hown; rw [hll] at hown; exact hown
        have HSp := Lib.hid (splice_star (A := thI (.slice Av k cv) base (mpL F X i j) :: A) hO (Aa := Av) (c := cv) (by rw [hll]; exact Sees.of_own hown0) (Nat.le_refl _) (fun _ b o e hb => hO.apart.1 (spI H1 g X N) (by simp) b (by rw [e]; rfl) hb) (by rw [hll]; exact hcv) i j (by rw [hll]; omega) hN (by rw [hll]; omega))
        rw [hll, ← HE.out.1, ← HE.out.2] at HSp
        clear hml hO hown hown0 hll
        go_wp2_with fail
        refine HSp.out.mono ?_
        clear HSp
        rintro e w3 ⟨H3, rfl, hO3⟩
        have HO3 := Lib.hid (Star.drop (A := []) hO3)
        clear hO3
        go_wp2_with fail
        go_ret
        exact ⟨H3, rfl, HO3.out⟩
  · have HE := Lib.hid (show mpE F X i j = 5 ∧ mpX F X i j = X by unfold mpE mpX; rw [hb, if_neg (by decide), if_neg (by decide)]; exact ⟨rfl, rfl⟩)
    rw [hb] at HOv
    rw [HE.out.1, HE.out.2]
    clear hb
    go_enter Try.func17, Try.ntmps17
    go_wp2_with fail
    refine HOv.out.mono ?_
    clear HOv
    rintro e w1 ⟨H1, v, xs, rfl, hO, -, hx⟩
    obtain ⟨rfl, rfl⟩ := hx (by decide)
    have HO := Lib.hid (Star.drop (A := []) hO)
    clear hO hx
    go_wp2_with fail
    go_ret
    refine ⟨H1, rfl, ?_⟩
    have h1 : Star w0 (A ++ spI H1 g X N :: B) w1 := HO.out
    exact Star.update (I' := spI H1 g X (max (N + 2) X.length)) h1 ((show SpS w1 H1 g X N from h1.get).more (by omega)) (Grow.refl _ _)

/-! ### Plainly -/
theorem nums_map (F : Int → Int) (L : List Th) : nums (L.map fun x => ⟨x.n, F x.id⟩) = (nums L).map F := by
  induction L with
  | nil => rfl
  | cons x L ih => rw [List.map_cons, nums_cons, nums_cons, List.map_append, ih, List.map_replicate]
theorem sumT_map (F : Int → Int) (L : List Th) : sumT (L.map fun x => ⟨x.n, F x.id⟩) = sumT L := by
  induction L with
  | nil => rfl
  | cons x L ih => rw [List.map_cons, sumT, sumT, ih]; rfl

/-- What Map comes to, number by number. -/
theorem mp_nums {F : Int → Int} {X : List Th} {i j : Int} (hX : Can X) (hoX : ∀ x ∈ X, okT x) (hE : mpE F X i j = 0) :
    Can (mpX F X i j) ∧ nums (mpX F X i j) = (nums X).take i.toNat ++ (((nums X).take j.toNat).drop i.toNat).map F ++ (nums X).drop j.toNat ∧ 0 ≤ i ∧ i ≤ j ∧ j ≤ sumT X := by
  unfold mpE at hE
  by_cases hb : betE X i j = 0
  rotate_left
  · rw [if_neg hb] at hE; exact absurd hE hb
  rw [if_pos hb] at hE
  obtain ⟨i0, i1, i2⟩ := betE_zero hb
  have hr : mpX F X i j = replT X i j (mpL F X i j) := by unfold mpX spX; rw [if_pos hb, if_pos hE]
  have hp : badL (mpL F X i j) ≠ true := fun h => by unfold spE at hE; rw [if_pos h] at hE; cases hE
  have hp := not_bad (l := mpL F X i j) (by simpa using hp)
  obtain ⟨c1, c2⟩ := repl_can hX hoX hp i0 i1
  rw [hr]
  refine ⟨c1, ?_, i0, i1, i2⟩
  rw [c2]
  unfold mpL
  rw [nums_map, nums_over X i j hoX]

/-- By one function and by the other is by both as one. -/
theorem mp_both {a b : OpS} {X : List Th} {i j : Int} (hX : Can X) (hoX : ∀ x ∈ X, okT x) (ho1 : ∀ x ∈ mpX (mapF a.by_ a.plus) X i j, okT x)
    (h1 : mpE (mapF a.by_ a.plus) X i j = 0) (h2 : mpE (mapF b.by_ b.plus) (mpX (mapF a.by_ a.plus) X i j) i j = 0) (h3 : mpE (bothF a b) X i j = 0) :
    mpX (mapF b.by_ b.plus) (mpX (mapF a.by_ a.plus) X i j) i j = mpX (bothF a b) X i j := by
  obtain ⟨c1, n1, i0, i1, i2⟩ := mp_nums hX hoX h1
  obtain ⟨c2, n2, -, -, -⟩ := mp_nums c1 ho1 h2
  obtain ⟨c3, n3, -, -, -⟩ := mp_nums hX hoX h3
  refine Can.unique c2 c3 ?_
  rw [n2, n3, n1]
  have hl := nums_len X hoX
  have t1 : ((nums X).take i.toNat).length = i.toNat := by rw [List.length_take]; omega
  have t2 : ((((nums X).take j.toNat).drop i.toNat).map (mapF a.by_ a.plus)).length = j.toNat - i.toNat := by rw [List.length_map, List.length_drop, List.length_take]; omega
  have t3 : ((nums X).take i.toNat ++ (((nums X).take j.toNat).drop i.toNat).map (mapF a.by_ a.plus)).length = j.toNat := by rw [List.length_append, t1, t2]; omega
  rw [List.take_left' t3, List.drop_left' t3, List.drop_left' t1, List.append_assoc (List.take i.toNat (nums X)), List.take_left' t1, List.map_map]
  rfl
theorem mpX_len {F : Int → Int} {X : List Th} {i j : Int} (hX : Can X) (hoX : ∀ x ∈ X, okT x) : (mpX F X i j).length ≤ X.length + X.length + 2 := by
  have h1 := spX_len (l := mpL F X i j) (i := i) (j := j) hX hoX
  have h2 := (overT_ok X i j hoX).2
  have h3 : (mpL F X i j).length = (overT X i j).length := List.length_map _
  unfold mpX
  split <;> omega

/-- What At tells, of a place. -/
theorem atV_in {X : List Th} {i : Int} (hoX : ∀ x ∈ X, okT x) (h0 : 0 ≤ i) (h1 : i < sumT X) : ∃ d, atV X i = .tuple #[.int .i64 d, .int .i64 0] := by
  have hf := nums_find X i hoX h0
  have hl := nums_len X hoX
  have hlt : i.toNat < (nums X).length := by omega
  unfold atV
  cases hc : findT X i with
  | some p => exact ⟨_, rfl⟩
  | none =>
    rw [hc, List.getElem?_eq_getElem hlt] at hf
    cases hf

end Go.Proofs.Ytbioomilnjikpaa
