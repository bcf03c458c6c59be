/-
  Spans that are not there (a nil pointer); zero ones.
-/
import Derived.Test.YtbioomilnjikpaaSpMb
import Derived.Test.YtbioomilnjikpaaSpWa
namespace Go.Proofs.Ytbioomilnjikpaa
open Go.RowKit

theorem nil_between (i j : Int) (w : World) : Calls Try.prog 24 #[.pointer none, .int .i64 i, .int .i64 j] w fun e w' => e = .returned (.int .i64 1) ∧ w = w' := by
  go_enter Try.func24, Try.ntmps24
  go_wp2_with fail
  go_ret
  exact ⟨rfl, rfl⟩

theorem nil_at (i : Int) (w : World) : Calls Try.prog 12 #[.pointer none, .int .i64 i] w fun e w' => e = .returned (.tuple #[.int .i64 0, .int .i64 1]) ∧ w = w' := by
  go_enter Try.func12, Try.ntmps12
  go_wp2_with fail
  go_ret2
  exact ⟨rfl, rfl⟩

theorem nil_over (i j : Int) (w : World) : Calls Try.prog 11 #[.pointer none, .int .i64 i, .int .i64 j] w fun e w' => e = .returned (.tuple #[.slice none 0 0, .int .i64 1]) ∧ w = w' := by
  go_enter Try.func11, Try.ntmps11
  go_wp2_with fail
  refine (nil_between i j w).mono ?_
  rintro e w1 ⟨rfl, rfl⟩
  go_wp2_with fail
  go_ret2
  exact ⟨rfl, rfl⟩

theorem nil_len  (w : World) : Calls Try.prog 14 #[.pointer none] w fun e w' => e = .returned (.int .i64 0) ∧ w = w' := by
  go_enter Try.func14, Try.ntmps14
  go_wp2_with fail
  go_ret
  exact ⟨rfl, rfl⟩

theorem nil_count  (w : World) : Calls Try.prog 18 #[.pointer none] w fun e w' => e = .returned (.int .i64 0) ∧ w = w' := by
  go_enter Try.func18, Try.ntmps18
  go_wp2_with fail
  go_ret
  exact ⟨rfl, rfl⟩

theorem nil_height  (w : World) : Calls Try.prog 19 #[.pointer none] w fun e w' => e = .returned (.int .i64 0) ∧ w = w' := by
  go_enter Try.func19, Try.ntmps19
  go_wp2_with fail
  go_ret
  exact ⟨rfl, rfl⟩

theorem nil_copy  (w : World) : Calls Try.prog 20 #[.pointer none] w fun e w' => e = .returned (.pointer none) ∧ w = w' := by
  go_enter Try.func20, Try.ntmps20
  go_wp2_with fail
  go_ret
  exact ⟨rfl, rfl⟩

theorem nil_splice (i j : Int) (A : Option Addr) (n c : Nat) (w : World) : Calls Try.prog 10 #[.pointer none, .int .i64 i, .int .i64 j, .slice A n c] w fun e w' => e = .returned (.int .i64 1) ∧ w = w' := by
  go_enter Try.func10, Try.ntmps10
  go_wp2_with fail
  go_ret
  exact ⟨rfl, rfl⟩

theorem nil_map (i j : Int) (f : Value) (w : World) : Calls Try.prog 17 #[.pointer none, .int .i64 i, .int .i64 j, f] w fun e w' => e = .returned (.int .i64 1) ∧ w = w' := by
  go_enter Try.func17, Try.ntmps17
  go_wp2_with fail
  refine (nil_over i j w).mono ?_
  rintro e w1 ⟨rfl, rfl⟩
  go_wp2_with fail
  go_ret
  exact ⟨rfl, rfl⟩

theorem nil_all (w : World) : Calls Try.prog 13 #[.pointer none] w fun e w' => ∃ b, e = .returned (allF b) ∧ Below w.heap.size w w' ∧ w'.heap[b]? = some (.cells #[.slice none 0 0] 26) ∧ w.heap.size ≤ b := by
  go_enter Try.func13, Try.ntmps13
  go_wp2_with fail
  refine (nil_len w).mono ?_
  rintro e w1 ⟨rfl, rfl⟩
  go_wp2_with fail
  refine (nil_over 0 0 w).mono ?_
  rintro e w1 ⟨rfl, rfl⟩
  go_wp2_with fail
  obtain ⟨b, hb⟩ : ∃ v, w.heap.size = v := ⟨_, rfl⟩
  have HR := Lib.hid (show Below w.heap.size w (w.alloc (.cells #[.slice none 0 0] 26)) ∧ (w.alloc (.cells #[.slice none 0 0] 26)).heap[b]? = some (.cells #[.slice none 0 0] 26) ∧ w.heap.size ≤ b from ⟨(Below.refl _ _).alloc (Nat.le_refl _) _, by rw [← hb]; exact heap_alloc_new w _, by omega⟩)
  rw [hb] at HR
  try rw [hb]
  clear hb
  go_ret
  exact ⟨b, rfl, HR.out.1, HR.out.2.1, HR.out.2.2⟩

theorem zero_star {w0 w : World} {A : List Item} (h : Star w0 A w) : Star w0 (spI (fun k => k = w.heap.size) w.heap.size [] 0 :: A) (w.alloc (.cells #[.pointer none] 49)) :=
  h.add ((Below.refl _ _).alloc (Nat.le_refl _) _) (show SpS _ (fun k => k = w.heap.size) w.heap.size [] 0 from ⟨.inl ⟨heap_alloc_new w _, rfl, fun _ => Iff.rfl⟩, Can.nil_, by rw [sumT]; omega⟩) (fun k hk => by have hk : k = w.heap.size := hk; omega)

/-- How many numbers there are behind a call. -/
theorem spX_sum {X l : List Th} {i j : Int} (hX : Can X) (hoX : ∀ x ∈ X, okT x) (hE : spE X i j l = 0) (ho' : ∀ x ∈ spX X i j l, okT x) : sumT (spX X i j l) = sumT X - (j - i) + sumT l := by
  have hr : spX X i j l = replT X i j l := by unfold spX; rw [if_pos hE]
  rw [hr] at ho' ⊢
  unfold spE at hE
  by_cases hb : badL l = true
  · rw [if_pos hb] at hE; cases hE
  rw [if_neg hb] at hE
  by_cases he : betE X i j = 0
  rotate_left
  · rw [if_neg he] at hE; cases hE
  rw [if_pos he] at hE
  obtain ⟨i0, i1, i2⟩ := betE_zero he
  have hs : sumT l ≤ 536870912 - sumT X + j - i := by
    by_cases h : sumT l ≤ 536870912 - sumT X + j - i
    · exact h
    · rw [if_neg h] at hE; cases hE
  have hp := not_bad (l := l) (by simpa using hb)
  have hz := sumT_nonneg hoX
  have hol : ∀ x ∈ l, okT x := fun x hx => by
    have h1 := hp x hx
    have h2 := sumT_mem (fun y hy => (hp y hy).1) hx
    exact ⟨h1.1, by omega⟩
  obtain ⟨hc', hn'⟩ := repl_can hX hoX hp i0 i1
  have hlX := nums_len X hoX
  have hll := nums_len l hol
  rw [← nums_len _ ho', hn', List.length_append, List.length_append, List.length_take, List.length_drop]
  omega

/-- A new span in none. -/
theorem spE_new (n : Int) : spE [] 0 0 [⟨n, 1⟩] = if n < 0 then 3 else if 536870912 < n then 8 else 0 := by
  unfold spE
  by_cases h : n < 0
  · rw [if_pos (show badL [⟨n, 1⟩] = true by simp [badL, badX, h]), if_pos h]
  · rw [if_neg (show ¬ badL [⟨n, 1⟩] = true by simp [badL, badX]; omega), if_neg h, if_pos (show betE [] 0 0 = 0 by decide)]
    have e : sumT [⟨n, 1⟩] = n := Int.add_zero n
    rw [e, show sumT [] = 0 from rfl]
    split <;> split <;> omega
theorem spE_much {X : List Th} (h : 0 ≤ sumT X) : spE X 0 0 [⟨1, 2⟩, ⟨536870912, 3⟩] = 8 := by
  unfold spE
  rw [if_neg (by decide), if_pos (show betE X 0 0 = 0 by unfold betE; rw [if_pos ⟨Int.le_refl 0, Int.le_refl 0, h⟩]), if_neg (by rw [show sumT [⟨1, 2⟩, ⟨536870912, 3⟩] = 536870913 by decide]; omega)]

end Go.Proofs.Ytbioomilnjikpaa
