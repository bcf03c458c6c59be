/-
  (rubriclaw11.Op).mapped.
-/
import Derived.Test.YtbioomilnjikpaaSpSt
namespace Go.Proofs.Ytbioomilnjikpaa
open Go.RowKit

/-- What Map's function tells. -/
def byF (b : Int) : Int := if b < 0 ∨ 3 < b then 1 else b
def plF (p : Int) : Int := if 9 < p then 9 else if p < -9 then -9 else p
def mapF (b p id : Int) : Int := (wrap64 (wrap64 (id * byF b) + plF p)).tmod 1000

def opV (o : OpS) : Value := .agg #[.int .i64 o.kind, .int .i64 o.i, .int .i64 o.j, .slice o.A o.len o.cap, .int .i64 o.by_, .int .i64 o.plus]

set_option maxRecDepth 100000 in
set_option maxHeartbeats 4000000 in
theorem mapped_any (o : OpS) (id : Int) (w : World) : Calls Try.prog 16 #[opV o, .int .i64 id] w fun e w' => e = .returned (.int .i64 (mapF o.by_ o.plus id)) ∧ Below w.heap.size w w' := by
  unfold opV
  obtain ⟨k, i, j, A, len, cap, b, p, l⟩ := o
  dsimp only
  obtain ⟨b2, hb2⟩ : ∃ x, byF b = x := ⟨_, rfl⟩
  obtain ⟨p2, hp2⟩ : ∃ x, plF p = x := ⟨_, rfl⟩
  have HM := Lib.hid (show mapF b p id = (wrap64 (wrap64 (id * b2) + p2)).tmod 1000 by unfold mapF; rw [hb2, hp2])
  have HB := Lib.hid (And.intro hb2 hp2)
  clear hb2 hp2
  go_enter Try.func16, Try.ntmps16
  go_wp2_with fail
  obtain ⟨bo, hbo⟩ : ∃ v, w.heap.size = v := ⟨_, rfl⟩
  obtain ⟨w1, hw1⟩ : ∃ v, w.alloc (.cells #[.int .i64 k, .int .i64 i, .int .i64 j, .slice A len cap, .int .i64 b, .int .i64 p] 28) = v := ⟨_, rfl⟩
  have hq : w1.heap[bo]? = some (.cells #[.int .i64 k, .int .i64 i, .int .i64 j, .slice A len cap, .int .i64 b, .int .i64 p] 28) := by rw [← hw1, ← hbo]; exact heap_alloc_new w _
  have c4 : w1.cell? ⟨bo, 4, none⟩ = some (.int .i64 b) := by rw [cell_of_row w1 bo 4 _ _ _ hq]; rfl
  have c5 : w1.cell? ⟨bo, 5, none⟩ = some (.int .i64 p) := by rw [cell_of_row w1 bo 5 _ _ _ hq]; rfl
  have K1 := Lib.hid (show Below w.heap.size w w1 by rw [← hw1]; exact (Below.refl _ _).alloc (Nat.le_refl _) _)
  rw [hw1, hbo]
  clear hw1 hbo hq
  go_quiet (fail)
  have K2 := Lib.hid (below_drewN K1.out nq)
  obtain ⟨w2, hw2⟩ : ∃ v, w1.drewN nq = v := ⟨_, rfl⟩
  rw [hw2] at K2 ⊢
  clear hw2 c4 c5
  have hbc : (b < 0 ∧ b2 = 1) ∨ (¬ b < 0 ∧ 3 < b ∧ b2 = 1) ∨ (¬ b < 0 ∧ ¬ 3 < b ∧ b2 = b) := by
    rw [← HB.out.1]; unfold byF
    by_cases h1 : b < 0
    · exact .inl ⟨h1, if_pos (.inl h1)⟩
    · by_cases h2 : 3 < b
      · exact .inr (.inl ⟨h1, h2, if_pos (.inr h2)⟩)
      · exact .inr (.inr ⟨h1, h2, if_neg (by omega)⟩)
  have hpc : (9 < p ∧ p2 = 9) ∨ (¬ 9 < p ∧ p < -9 ∧ p2 = -9) ∨ (¬ 9 < p ∧ ¬ p < -9 ∧ p2 = p) := by
    rw [← HB.out.2]; unfold plF
    by_cases h1 : 9 < p
    · exact .inl ⟨h1, if_pos h1⟩
    · by_cases h2 : p < -9
      · exact .inr (.inl ⟨h1, h2, by rw [if_neg h1, if_pos h2]⟩)
      · exact .inr (.inr ⟨h1, h2, by rw [if_neg h1, if_neg h2]⟩)
  clear HB
  rcases hbc with ⟨h1, rfl⟩ | ⟨h1, h2, rfl⟩ | ⟨h1, h2, rfl⟩ <;> rcases hpc with ⟨h3, rfl⟩ | ⟨h3, h4, rfl⟩ | ⟨h3, h4, rfl⟩
  all_goals
    go_wp2_with fail
    go_ret
    refine ⟨?_, K2.out⟩
    have h := HM.out
    first
      | (rw [Int.mul_one] at h; rw [h]; rfl)
      | (rw [h]; rfl)

end Go.Proofs.Ytbioomilnjikpaa
