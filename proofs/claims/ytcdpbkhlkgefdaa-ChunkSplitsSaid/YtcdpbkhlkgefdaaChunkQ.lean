/-
  Where the newlines are: the plain law of nlGo. And the walk of rubriclaw09.ChunkLines.
-/
import Derived.Test.YtcdpbkhlkgefdaaChunkN
namespace Go.Proofs.Ytcdpbkhlkgefdaa
open Go.RowKit

theorem nls_cons (x : Int) (l : List Int) : nls (x :: l) = (if x = 10 then 1 else 0) + nls l := by
  unfold nls
  rw [List.count_cons]
  by_cases h : x = 10
  · simp [h]; omega
  · simp [h]

theorem nlGo_spec : ∀ (l : List Int) (k : Int) (i : Nat), 0 ≤ k → k < nls l → ∃ j, nlGo l k i = some (i + j) ∧ l[j]? = some 10 ∧ nls (l.take j) = k := by
  intro l
  induction l with
  | nil => intro k i h0 h1; simp [nls] at h1; omega
  | cons x l ih =>
    intro k i h0 h1
    rw [nls_cons] at h1
    unfold nlGo
    by_cases hx : x = 10
    · rw [if_pos hx] at h1 ⊢
      by_cases hk : k = 0
      · rw [if_pos hk]
        exact ⟨0, rfl, by simp [hx], by simp [nls, hk]⟩
      · rw [if_neg hk]
        obtain ⟨j, e1, e2, e3⟩ := ih (k - 1) (i + 1) (by omega) (by omega)
        refine ⟨j + 1, by rw [e1]; congr 1; omega, by simpa using e2, ?_⟩
        rw [List.take_succ_cons, nls_cons, if_pos hx, e3]
        omega
    · rw [if_neg hx] at h1 ⊢
      obtain ⟨j, e1, e2, e3⟩ := ih k (i + 1) h0 (by omega)
      refine ⟨j + 1, by rw [e1]; congr 1; omega, by simpa using e2, ?_⟩
      rw [List.take_succ_cons, nls_cons, if_neg hx, e3]
      omega

theorem nlGo_none : ∀ (l : List Int) (k : Int) (i : Nat), nls l ≤ k → nlGo l k i = none := by
  intro l
  induction l with
  | nil => intro k i _; rfl
  | cons x l ih =>
    intro k i h
    rw [nls_cons] at h
    unfold nlGo
    have := (nls_le l).1
    by_cases hx : x = 10
    · rw [if_pos hx] at h ⊢
      rw [if_neg (by omega)]
      exact ih (k - 1) (i + 1) (by omega)
    · rw [if_neg hx] at h ⊢
      exact ih k (i + 1) (by omega)

theorem nls_mono (l : List Int) {i j : Nat} (h : i ≤ j) : nls (l.take i) ≤ nls (l.take j) := by
  unfold nls
  have := List.Sublist.count_le (10 : Int) (List.IsPrefix.sublist (List.take_prefix_take_left h : l.take i <+: l.take j))
  omega

end Go.Proofs.Ytcdpbkhlkgefdaa
