/-
  (rubriclaw11.Op).mapped; Map.
-/
import Derived.Test.YtbioomilnjikpaaSpSt
namespace Go.Proofs.Ytbioomilnjikpaa
open Go.RowKit

/-- What Map's function tells. -/
def byF (b : Int) : Int := if b < 0 ∨ 3 < b then 1 else b
def plF (p : Int) : Int := if 9 < p then 9 else if p < -9 then -9 else p
def mapF (b p id : Int) : Int := (wrap64 (wrap64 (id * byF b) + plF p)).tmod 1000

def opV (o : OpS) : Value := .agg #[.int .i64 o.kind, .int .i64 o.i, .int .i64 o.j, .slice o.A o.len o.cap, .int .i64 o.by_, .int .i64 o.plus]

set_option maxRecDepth 100000 in
set_option maxHeartbeats 4000000 in
theorem mapped_any (o : OpS) (id : Int) (w : World) : Calls Try.prog 16 #[opV o, .int .i64 id] w fun e w' => e = .returned (.int .i64 (mapF o.by_ o.plus id)) ∧ Below w.heap.size w w' := by
  unfold opV
  obtain ⟨k, i, j, A, len, cap, b, p, l⟩ := o
  dsimp only
  obtain ⟨b2, hb2⟩ : ∃ x, byF b = x := ⟨_, rfl⟩
  obtain ⟨p2, hp2⟩ : ∃ x, plF p = x := ⟨_, rfl⟩
  have HM := Lib.hid (show mapF b p id = (wrap64 (wrap64 (id * b2) + p2)).tmod 1000 by unfold mapF; rw [hb2, hp2])
  have HB := Lib.hid (And.intro hb2 hp2)
  clear hb2 hp2
  go_enter Try.func16, Try.ntmps16
  go_wp2_with fail
  obtain ⟨bo, hbo⟩ : ∃ v, w.heap.size = v := ⟨_, rfl⟩
  obtain ⟨w1, hw1⟩ : ∃ v, w.alloc (.cells #[.int .i64 k, .int .i64 i, .int .i64 j, .slice A len cap, .int .i64 b, .int .i64 p] 28) = v := ⟨_, rfl⟩
  have hq : w1.heap[bo]? = some (.cells #[.int .i64 k, .int .i64 i, .int .i64 j, .slice A len cap, .int .i64 b, .int .i64 p] 28) := by rw [← hw1, ← hbo]; exact heap_alloc_new w _
  have c4 : w1.cell? ⟨bo, 4, none⟩ = some (.int .i64 b) := by rw [cell_of_row w1 bo 4 _ _ _ hq]; rfl
  have c5 : w1.cell? ⟨bo, 5, none⟩ = some (.int .i64 p) := by rw [cell_of_row w1 bo 5 _ _ _ hq]; rfl
  have K1 := Lib.hid (show Below w.heap.size w w1 by rw [← hw1]; exact (Below.refl _ _).alloc (Nat.le_refl _) _)
  rw [hw1, hbo]
  clear hw1 hbo hq
  go_quiet (fail)
  have K2 := Lib.hid (below_drewN K1.out nq)
  obtain ⟨w2, hw2⟩ : ∃ v, w1.drewN nq = v := ⟨_, rfl⟩
  rw [hw2] at K2 ⊢
  clear hw2 c4 c5
  have hbc : (b < 0 ∧ b2 = 1) ∨ (¬ b < 0 ∧ 3 < b ∧ b2 = 1) ∨ (¬ b < 0 ∧ ¬ 3 < b ∧ b2 = b) := by
    rw [← HB.out.1]; unfold byF
    by_cases h1 : b < 0
    · exact .inl ⟨h1, if_pos (.inl h1)⟩
    · by_cases h2 : 3 < b
      · exact .inr (.inl ⟨h1, h2, if_pos (.inr h2)⟩)
      · exact .inr (.inr ⟨h1, h2, if_neg (by omega)⟩)
  have hpc : (9 < p ∧ p2 = 9) ∨ (¬ 9 < p ∧ p < -9 ∧ p2 = -9) ∨ (¬ 9 < p ∧ ¬ p < -9 ∧ p2 = p) := by
    rw [← HB.out.2]; unfold plF
    by_cases h1 : 9 < p
    · exact .inl ⟨h1, if_pos h1⟩
    · by_cases h2 : p < -9
      · exact .inr (.inl ⟨h1, h2, by rw [if_neg h1, if_pos h2]⟩)
      · exact .inr (.inr ⟨h1, h2, by rw [if_neg h1, if_neg h2]⟩)
  clear HB
  rcases hbc with ⟨h1, rfl⟩ | ⟨h1, h2, rfl⟩ | ⟨h1, h2, rfl⟩ <;> rcases hpc with ⟨h3, rfl⟩ | ⟨h3, h4, rfl⟩ | ⟨h3, h4, rfl⟩
  all_goals
    go_wp2_with fail
    go_ret
    refine ⟨?_, K2.out⟩
    have h := HM.out
    first
      | (rw [Int.mul_one] at h; rw [h]; rfl)
      | (rw [h]; rfl)



/-- The spans of a part with other numbers; what Map answers; what there is behind it. -/
def mpL (F : Int → Int) (X : List Th) (i j : Int) : List Th := (overT X i j).map fun x => ⟨x.n, F x.id⟩
def mpE (F : Int → Int) (X : List Th) (i j : Int) : Int := if betE X i j = 0 then spE X i j (mpL F X i j) else betE X i j
def mpX (F : Int → Int) (X : List Th) (i j : Int) : List Th := if betE X i j = 0 then spX X i j (mpL F X i j) else X
/-- The first k of them have been mapped. -/
def mpK (F : Int → Int) (P : List Th) (k : Nat) : List Th := (P.take k).map (fun x => ⟨x.n, F x.id⟩) ++ P.drop k

theorem mpK_zero (F : Int → Int) (P : List Th) : mpK F P 0 = P := rfl
theorem mpK_len (F : Int → Int) (P : List Th) (k : Nat) : (mpK F P k).length = P.length := by unfold mpK; rw [List.length_append, List.length_map, List.length_take, List.length_drop]; omega
theorem mpK_all (F : Int → Int) {P : List Th} {k : Nat} (h : P.length = k) : mpK F P k = P.map fun x => ⟨x.n, F x.id⟩ := by unfold mpK; rw [List.take_of_length_le (by omega), List.drop_of_length_le (by omega), List.append_nil]
theorem mpK_get (F : Int → Int) (P : List Th) (k q : Nat) : (mpK F P k)[q]? = if q < k then (P[q]?).map (fun x => ⟨x.n, F x.id⟩) else P[q]? := by
  unfold mpK
  by_cases hk : k ≤ P.length
  · by_cases h : q < k
    · rw [if_pos h, List.getElem?_append_left (by rw [List.length_map, List.length_take]; omega), List.getElem?_map, List.getElem?_take, if_pos h]
    · rw [if_neg h, List.getElem?_append_right (by rw [List.length_map, List.length_take]; omega), List.length_map, List.length_take, List.getElem?_drop, Nat.min_eq_left hk, show k + (q - k) = q by omega]
  · rw [List.take_of_length_le (by omega), List.drop_of_length_le (by omega), List.append_nil, List.getElem?_map]
    by_cases h : q < k
    · rw [if_pos h]
    · rw [if_neg h, List.getElem?_eq_none (by omega)]; rfl
theorem mpK_succ (F : Int → Int) {P : List Th} {k : Nat} {x : Th} (hx : P[k]? = some x) : mpK F P (k + 1) = (mpK F P k).set k ⟨x.n, F x.id⟩ := by
  have hk := (List.getElem?_eq_some_iff.1 hx).1
  apply List.ext_getElem?
  intro q
  rw [List.getElem?_set, mpK_get, mpK_get, mpK_len]
  by_cases h : k = q
  · subst h; rw [if_pos (by omega), if_pos rfl, if_pos hk, hx]; rfl
  · rw [if_neg h]
    by_cases h2 : q < k
    · rw [if_pos (by omega), if_pos h2]
    · rw [if_neg (by omega), if_neg h2]
theorem mpK_row (F : Int → Int) {P : List Th} {k : Nat} {xn xi : Int} (hx : P[k]? = some ⟨xn, xi⟩) : rowT (mpK F P (k + 1)) = (rowT (mpK F P k)).set (k * 2 + 1) (.int .i64 (F xi)) := by
  have hk := (List.getElem?_eq_some_iff.1 hx).1
  have hget : (mpK F P k)[k]? = some ⟨xn, xi⟩ := by rw [mpK_get, if_neg (Nat.lt_irrefl k)]; exact hx
  rw [mpK_succ F hx]
  symm
  refine flat_ext encT 2 encT_len _ _ (by rw [List.length_set, rowT_len, List.length_set]) fun a q hq => ?_
  have hlp := mpK_len F P k
  rw [List.getElem?_set, List.getElem?_set, rowT_len, hlp]
  by_cases ha : k = a
  · subst ha
    rw [if_pos (rfl : k = k), if_pos hk]
    by_cases h1 : q = 1
    · subst h1; rw [if_pos rfl, if_pos (by omega)]; rfl
    · obtain rfl : q = 0 := by omega
      rw [if_neg (by omega)]
      show ((mpK F P k).flatMap encT)[k * 2 + 0]? = _
      rw [flat_get encT 2 encT_len _ k 0 hq, hget]
      rfl
  · rw [if_neg (show ¬ k * 2 + 1 = a * 2 + q by omega), if_neg ha]
    show ((mpK F P k).flatMap encT)[a * 2 + q]? = _
    rw [flat_get encT 2 encT_len _ a q hq]

/-- What Map leaves. -/
def MapS (w0 : World) (g N : Nat) (X : List Th) (c : Int) (A B : List Item) (e : Ending) (w' : World) : Prop := ∃ H', e = .returned (.int .i64 c) ∧ Star w0 (A ++ spI H' g X N :: B) w'

set_option maxRecDepth 100000 in
set_option maxHeartbeats 8000000 in
theorem map_any {w0 w : World} {H : Nat → Prop} {g N : Nat} {X : List Th} {A B : List Item} {o : OpS} (h : Star w0 (A ++ spI H g X N :: B) w) (i j : Int) (hN : N ≤ 79998) (hX : X.length + X.length + 2 ≤ 80000) :
    Calls Try.prog 17 #[.pointer (some ⟨g, 0, none⟩), .int .i64 i, .int .i64 j, .func (.func 16) #[opV o] #[]] w fun e w' => MapS w0 g (max (N + 2) (mpX (mapF o.by_ o.plus) X i j).length) (mpX (mapF o.by_ o.plus) X i j) (mpE (mapF o.by_ o.plus) X i j) A B e w' := by
  have HF := Lib.hid (fun (id : Int) (w : World) => mapped_any o id w)
  have hS : SpS w H g X N := h.get
  have hokX := hS.ob.okX
  have HOv := Lib.hid (over_star h i j)
  have hcan := hS.can
  have hle := hS.le
  obtain ⟨F, hFF⟩ : ∃ F : Int → Int, (mapF o.by_ o.plus) = F := ⟨_, rfl⟩
  rw [hFF] at HF ⊢
  have HC := Lib.hid (And.intro hcan (And.intro hokX hle))
  clear h hS hokX hcan hle hFF
  rcases betE_or X i j with hb | hb
  · have HE := Lib.hid (show mpE F X i j = spE X i j (mpL F X i j) ∧ mpX F X i j = spX X i j (mpL F X i j) by unfold mpE mpX; rw [hb, if_pos rfl, if_pos rfl]; exact ⟨rfl, rfl⟩)
    have hbz := betE_zero hb
    rw [hb] at HOv
    have HOK := Lib.hid (overT_ok X i j HC.out.2.1.1)
    clear hb
    go_enter Try.func17, Try.ntmps17
    go_wp2_with fail
    refine HOv.out.mono ?_
    clear HOv
    rintro e w1 ⟨H1, v, xs, rfl, hO, hx, -⟩
    obtain rfl := hx trivial
    obtain ⟨base, hbase⟩ : ∃ b, w.heap.size = b := ⟨_, rfl⟩
    rw [hbase] at hO
    obtain ⟨P, hP⟩ : ∃ P, overT X i j = P := ⟨_, rfl⟩
    rw [hP] at hO HOK
    have HPP := Lib.hid hP
    obtain ⟨Av, cv, rfl, hcv, -⟩ := OwnT.shape (show OwnT w1 base v P from hO.all _ (List.mem_cons_self))
    obtain ⟨nP, hnP⟩ : ∃ n, P.length = n := ⟨_, rfl⟩
    have HNP := Lib.hid hnP
    have hnp : nP ≤ 100000 := by have h1 := HOK.out.2; have h2 := HC.out.2.1.2.1; omega
    have hnpI : (nP : Int) ≤ 100000 := by omega
    rw [hnP] at hO hcv ⊢
    have HO := Lib.hid hO
    clear hO hx hP hnP hbase
    go_wp2_with fail
    go_loopw [24] (fun v24 wr => ∃ k : Nat, k ≤ nP ∧ v24 = .int .i64 k ∧ Star w0 (thI (.slice Av nP cv) base (mpK F P k) :: (A ++ spI H1 g X N :: B)) wr) (fun v24 _ => nP - (intOf v24).toNat)
    case atStart => exact ⟨0, Nat.zero_le _, rfl, by rw [mpK_zero]; exact HO.out⟩
    case round =>
      obtain ⟨k, hk, rfl, hO⟩ := hrel
      by_cases hlt : k < nP
      · have hkI : (k : Int) < nP := by omega
        obtain ⟨x, hx⟩ : ∃ x, P[k]? = some x := ⟨_, List.getElem?_eq_getElem (by rw [HNP.out]; exact hlt)⟩
        have hml : (mpK F P k).length = nP := by rw [mpK_len, HNP.out]
        have hget : (mpK F P k)[k]? = some x := by rw [mpK_get, if_neg (Nat.lt_irrefl k)]; exact hx
        have hown : OwnT wr base (.slice Av nP cv) (mpK F P k) := hO.all _ (List.mem_cons_self)
        obtain ⟨-, bP, rfl, hbP, hbPl, hrP, -⟩ := hown.thing hget
        obtain ⟨xn, xi⟩ := x
        have c1 : wr.cell? ⟨bP, k * 2 + 1, none⟩ = some (.int .i64 xi) := hrP 1 _ rfl
        have HX := Lib.hid (And.intro hx hml)
        have HO1 := Lib.hid hO
        have HFx := Lib.hid (HF.out xi wr)
        clear hx hml hget hown hrP hO
        go_wp2_with fail
        refine HFx.out.mono ?_
        rintro e w2 ⟨rfl, hb2⟩
        have hO2 := HO1.out.later hb2
        have hown2 : w2.ownsRow base 34 2 (.slice (some ⟨bP, 0, none⟩) nP cv) nP (rowT (mpK F P k)) := by have h1 : OwnT w2 base (.slice (some ⟨bP, 0, none⟩) nP cv) (mpK F P k) := hO2.all _ (List.mem_cons_self); unfold OwnT at h1; rw [HX.out.2] at h1; exact h1
        have hst := hown2.stored (k * 2 + 1) (.int .i64 (F xi))
        have d1 : w2.cell? ⟨bP, k * 2 + 1, none⟩ = some (.int .i64 xi) := cell_later c1 hb2
        have z1 : w2.frozen? ⟨bP, k * 2 + 1, none⟩ = false := hown2.frozenAt _
        have HN := Lib.hid (show Star w0 (thI (.slice (some ⟨bP, 0, none⟩) nP cv) base (mpK F P (k + 1)) :: (A ++ spI H1 g X N :: B)) (w2.setCell ⟨bP, k * 2 + 1, none⟩ (.int .i64 (F xi))) from by
          refine Star.update (A := []) (I' := thI (.slice (some ⟨bP, 0, none⟩) nP cv) base (mpK F P (k + 1))) hO2 ?_ ⟨(grown_step hst.2).mono (fun _ _ h => h), fun _ h => .inl h⟩
          show World.ownsRow _ base _ 2 _ (mpK F P (k + 1)).length (rowT (mpK F P (k + 1)))
          rw [mpK_len, HNP.out, mpK_row F HX.out.1]
          exact hst.1)
        clear hb2 hO2 hown2 hst c1
        go_wp2_with fail
        go_roundw
        case rel => exact ⟨k + 1, by omega, by go_num, HN.out⟩
        case measure => simp [intOf]; omega
      · obtain rfl : k = nP := by omega
        have hml : mpK F P k = mpL F X i j := by unfold mpL; rw [HPP.out, mpK_all F HNP.out]
        rw [hml] at hO
        have hown : OwnT wr base (.slice Av k cv) (mpL F X i j) := hO.all _ (List.mem_cons_self)
        have hll : (mpL F X i j).length = k := by rw [← hml, mpK_len, HNP.out]
        have hPX : k ≤ X.length := by rw [← HNP.out]; exact HOK.out.2
        have hown0 : wr.ownsRow base 34 2 (.slice Av k cv) k (rowT (mpL F X i j)) := by unfold OwnT at hown; rw [hll] at hown; exact hown
        have HSp := Lib.hid (splice_star (A := thI (.slice Av k cv) base (mpL F X i j) :: A) hO (Aa := Av) (c := cv) (by rw [hll]; exact Sees.of_own hown0) (Nat.le_refl _) (fun _ b o e hb => hO.apart.1 (spI H1 g X N) (by simp) b (by rw [e]; rfl) hb) (by rw [hll]; exact hcv) i j (by rw [hll]; omega) hN (by rw [hll]; omega))
        rw [hll, ← HE.out.1, ← HE.out.2] at HSp
        clear hml hO hown hown0 hll
        go_wp2_with fail
        refine HSp.out.mono ?_
        clear HSp
        rintro e w3 ⟨H3, rfl, hO3⟩
        have HO3 := Lib.hid (Star.drop (A := []) hO3)
        clear hO3
        go_wp2_with fail
        go_ret
        exact ⟨H3, rfl, HO3.out⟩
  · have HE := Lib.hid (show mpE F X i j = 5 ∧ mpX F X i j = X by unfold mpE mpX; rw [hb, if_neg (by decide), if_neg (by decide)]; exact ⟨rfl, rfl⟩)
    rw [hb] at HOv
    rw [HE.out.1, HE.out.2]
    clear hb
    go_enter Try.func17, Try.ntmps17
    go_wp2_with fail
    refine HOv.out.mono ?_
    clear HOv
    rintro e w1 ⟨H1, v, xs, rfl, hO, -, hx⟩
    obtain ⟨rfl, rfl⟩ := hx (by decide)
    have HO := Lib.hid (Star.drop (A := []) hO)
    clear hO hx
    go_wp2_with fail
    go_ret
    refine ⟨H1, rfl, ?_⟩
    have h1 : Star w0 (A ++ spI H1 g X N :: B) w1 := HO.out
    exact Star.update (I' := spI H1 g X (max (N + 2) X.length)) h1 ((show SpS w1 H1 g X N from h1.get).more (by omega)) (Grow.refl _ _)

end Go.Proofs.Ytbioomilnjikpaa
