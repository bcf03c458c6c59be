/-
  Arguments opened to lists: slices of structs (beside the text RowM). No function of the program stands here.
-/
import Derived.Test.YtbioomilnjikpaaRowM
import Derived.Deep.Slices
import Derived.Deep.Strs
import Derived.ChangeSame
namespace Go.Proofs.Ytbioomilnjikpaa
open Go.RowKit Go.ChangeShapes Go.WideShapes Go.Deep

theorem list_of {α : Type} {Q : Nat → α → Prop} : ∀ n : Nat, (∀ i, i < n → ∃ o, Q i o) → ∃ l : List α, l.length = n ∧ ∀ i o, l[i]? = some o → Q i o := by
  intro n
  induction n with
  | zero => intro _; exact ⟨[], rfl, fun i o h => by simp at h⟩
  | succ n ih =>
    intro h
    obtain ⟨l, hl, hq⟩ := ih fun i hi => h i (by omega)
    obtain ⟨o, ho⟩ := h n (by omega)
    refine ⟨l ++ [o], by simp [hl], fun i o' hi => ?_⟩
    rw [List.getElem?_append] at hi
    split at hi
    · exact hq i o' hi
    · have hz : i - l.length = 0 := by
        rcases Nat.eq_zero_or_pos (i - l.length) with h0 | h0
        · exact h0
        · rw [List.getElem?_eq_none (by simp; omega)] at hi; cases hi
      rw [hz] at hi
      simp at hi
      subst hi
      rw [show i = n by omega]
      exact ho

theorem sees_rows {α : Type} {enc : α → List Value} {C : Nat} (hC : ∀ o, (enc o).length = C) (h0 : 0 < C) {w : World} {a : Addr} {l : List α} (h : ∀ i o, l[i]? = some o → ∀ j v, (enc o)[j]? = some v → w.cell? (a.add (i * C + j)) = some v) :
    Sees w w.heap.size C (some a) l.length (l.flatMap enc) := by
  refine ⟨flat_len enc C hC l, fun hn => ?_⟩
  have hl0 : l[0]? = some (l[0]'hn) := List.getElem?_eq_getElem hn
  have hc0 := h 0 _ hl0 0 _ (List.getElem?_eq_getElem (by rw [hC]; exact h0))
  obtain ⟨b, o, sp⟩ := a
  have hsp : sp = none := by simpa [Addr.add] using World.cell?_spot hc0
  subst hsp
  refine ⟨b, o, rfl, ?_, fun j u hu => ?_⟩
  · have := World.block_lt_of_cell? w _ hc0
    simpa [Addr.add] using this
  · have hj : j = j / C * C + j % C := by rw [Nat.mul_comm]; exact (Nat.div_add_mod j C).symm
    rw [hj, flat_get enc C hC _ _ _ (Nat.mod_lt _ h0)] at hu
    cases hq : l[j / C]? with
    | none => rw [hq] at hu; cases hu
    | some o' =>
      rw [hq] at hu
      have := h _ _ hq _ _ hu
      rw [Addr.add_lit, ← hj] at this
      exact this

end Go.Proofs.Ytbioomilnjikpaa
