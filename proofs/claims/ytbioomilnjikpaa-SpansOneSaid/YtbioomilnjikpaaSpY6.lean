/-
  The parts of things from i to j, plainly; a tree under what the body of a loop keeps.
-/
import Derived.Test.YtbioomilnjikpaaSpY5
import Derived.Test.YtbioomilnjikpaaKeepO
namespace Go.Proofs.Ytbioomilnjikpaa
open Go.RowKit

/-- The part of a thing. -/
def partA (t : Th) (j : Int) : Th := if min j (sizeT t) < sizeT t then cutA t (min j (sizeT t)) else t
def partT (t : Th) (i j : Int) : Th := if 0 < max i 0 then cutB (partA t j) (max i 0) else partA t j
/-- The parts of things from i to j. -/
def overT : List Th → Int → Int → List Th
  | [], _, _ => []
  | t :: L, i, j => (if max i 0 < min j (sizeT t) then [partT t i j] else []) ++ overT L (i - sizeT t) (j - sizeT t)

theorem overT_app : ∀ (A B : List Th) (i j : Int), overT (A ++ B) i j = overT A i j ++ overT B (i - sumT A) (j - sumT A)
  | [], B, i, j => by rw [List.nil_append, sumT, overT, Int.sub_zero, Int.sub_zero, List.nil_append]
  | t :: A, B, i, j => by
    rw [List.cons_append, overT, overT, overT_app A B, sumT, List.append_assoc, show i - sizeT t - sumT A = i - (sizeT t + sumT A) by omega, show j - sizeT t - sumT A = j - (sizeT t + sumT A) by omega]
/-- Nothing ahead of the first, nothing behind the last. -/
theorem overT_none : ∀ (L : List Th) (i j : Int), (∀ x ∈ L, okT x) → (j ≤ 0 ∨ sumT L ≤ i ∨ j ≤ i) → overT L i j = []
  | [], _, _, _, _ => rfl
  | t :: L, i, j, h, hh => by
    have hn := sumT_nonneg (l := L) (fun x hx => h x (by simp [hx]))
    have hz := sizeT_ok (h t (by simp))
    rw [sumT] at hh
    rw [overT, if_neg (by omega), List.nil_append, overT_none L _ _ (fun x hx => h x (by simp [hx]))]
    omega
theorem overT_congr : ∀ (L : List Th) (i j i' j' : Int), (∀ x ∈ L, okT x) → max i 0 = max i' 0 → min j (sumT L) = min j' (sumT L) → overT L i j = overT L i' j'
  | [], _, _, _, _, _, _, _ => rfl
  | t :: L, i, j, i', j', h, h1, h2 => by
    have hn := sumT_nonneg (l := L) (fun x hx => h x (by simp [hx]))
    have hz := sizeT_ok (h t (by simp))
    rw [sumT] at h2
    have e1 : min j (sizeT t) = min j' (sizeT t) := by omega
    rw [overT, overT, overT_congr L (i - sizeT t) (j - sizeT t) (i' - sizeT t) (j' - sizeT t) (fun x hx => h x (by simp [hx])) (by omega) (by omega)]
    unfold partT partA
    rw [h1, e1]

theorem partA_ok {t : Th} {i j : Int} (h : okT t) (h0 : max i 0 < min j (sizeT t)) : okT (partA t j) ∧ sizeT (partA t j) = min j (sizeT t) := by
  unfold partA
  split
  · next h1 => exact ⟨(cut_ok h (by omega) h1).1, cutA_size h (by omega) h1⟩
  · next h1 => exact ⟨h, by omega⟩
theorem partT_ok {t : Th} {i j : Int} (h : okT t) (h0 : max i 0 < min j (sizeT t)) : okT (partT t i j) ∧ sizeT (partT t i j) = min j (sizeT t) - max i 0 := by
  have hA := partA_ok h h0
  unfold partT
  split
  · next h1 =>
    have hc := cut_ok hA.1 h1 (by omega)
    have hs := cutA_size hA.1 h1 (by omega)
    exact ⟨hc.2.1, by omega⟩
  · next h1 => exact ⟨hA.1, by omega⟩
theorem overT_ok : ∀ (L : List Th) (i j : Int), (∀ x ∈ L, okT x) → (∀ x ∈ overT L i j, okT x ∧ 0 < sizeT x) ∧ (overT L i j).length ≤ L.length
  | [], _, _, _ => ⟨(fun _ h => nomatch h), Nat.le_refl _⟩
  | t :: L, i, j, h => by
    have ih := overT_ok L (i - sizeT t) (j - sizeT t) (fun x hx => h x (by simp [hx]))
    rw [overT]
    split
    · next h1 =>
      have hp := partT_ok (h t (by simp)) h1
      refine ⟨fun x hx => ?_, by rw [List.length_append, List.length_cons, List.length_nil, List.length_cons]; omega⟩
      rcases List.mem_append.1 hx with e | e
      · rw [List.mem_singleton] at e; subst e; exact ⟨hp.1, by omega⟩
      · exact ih.1 x e
    · exact ⟨by rw [List.nil_append]; exact ih.1, by rw [List.nil_append, List.length_cons]; omega⟩
/-- The parts add up. -/
theorem overT_sum : ∀ (L : List Th) (i j : Int), (∀ x ∈ L, okT x) → max i 0 ≤ max (min j (sumT L)) 0 → sumT (overT L i j) = max (min j (sumT L)) 0 - min (max i 0) (sumT L)
  | [], i, j, _, hh => by rw [overT, sumT] at *; omega
  | t :: L, i, j, h, hh => by
    have hn := sumT_nonneg (l := L) (fun x hx => h x (by simp [hx]))
    have hz := sizeT_ok (h t (by simp))
    rw [sumT] at hh
    by_cases hc : max (i - sizeT t) 0 ≤ max (min (j - sizeT t) (sumT L)) 0
    · have ih := overT_sum L (i - sizeT t) (j - sizeT t) (fun x hx => h x (by simp [hx])) hc
      rw [overT, sumT_append, ih, sumT]
      split
      · next h1 =>
        have hp := partT_ok (h t (by simp)) h1
        rw [sumT, sumT, hp.2]
        omega
      · rw [sumT]; omega
    · rw [overT, overT_none L _ _ (fun x hx => h x (by simp [hx])) (by omega), sumT]
      split
      · next h1 =>
        have hp := partT_ok (h t (by simp)) h1
        rw [List.append_nil, sumT, sumT, hp.2]
        omega
      · rw [List.append_nil, sumT]; omega

theorem TreeW.keepsO {Bad : Nat → Obj → Prop} {W W' : World} {F : Nat → Prop} {gT gA : Nat} {root : Int} {s : List (Option Nd)} {fr : List Nat} (h : TreeW W F gT gA root s fr) (hk : KeepsO Bad W W') (hF : ∀ k, F k → ∀ o, ¬ Bad k o) (hT : ∀ o, ¬ Bad gT o) : TreeW W' F gT gA root s fr :=
  ⟨hk.row h.blk hT, by obtain ⟨vp, vf, ha⟩ := h.ar; exact ⟨vp, vf, hk.stF ha hF⟩, h.ok, h.oF, h.len⟩
theorem NdAt.keepsO {Bad : Nat → Obj → Prop} {W W' : World} {b : Nat} {n : Nd} (h : NdAt W b n) (hk : KeepsO Bad W W') (hb : ∀ cs fr, ¬ Bad b (.cells cs 80 fr)) : NdAt W' b n := ⟨hk.2 b _ h.blk rfl (hb _ _)⟩

/-- What 'over' leaves: all parts have come, or somebody has said 'no more'. -/
def OverP (J Jx : List Th → World → Prop) (Bad : Nat → Obj → Prop) (W : World) (pre P : List Th) (e : Ending) (W' : World) : Prop :=
  (e = .returned (.bool true) ∧ J (pre ++ P) W' ∧ KeepsO Bad W W') ∨ (e = .returned (.bool false) ∧ ∃ q, q <+: P ∧ Jx (pre ++ q) W')

end Go.Proofs.Ytbioomilnjikpaa
