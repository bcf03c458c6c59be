/-
  chunk.Chunk: Split at a place that is none; at any place.
-/
import Derived.Test.YtcdpbkhlkgefdaaChunkL
namespace Go.Proofs.Ytcdpbkhlkgefdaa
open Go.RowKit

set_option maxRecDepth 100000 in
set_option maxHeartbeats 4000000 in
theorem split_no (l : List Int) (i : Int) (w : World) (hl : l.length ≤ 32) (hi : i < 0 ∨ (l.length : Int) < i) :
    Calls Try.prog 19 #[chV l, .int .i64 i] w fun e w' => e = .returned (.tuple #[chV [], chV [], .int .i64 5]) ∧ Below w.heap.size w w' := by
  have hn := chC_n l hl
  have hh : i < 0 ∨ (¬ i < 0 ∧ (l.length : Int) < i) := by omega
  have hlI : (l.length : Int) ≤ 32 := by omega
  clear hi
  unfold chV
  rcases hh with hi | ⟨hi, hi2⟩
  all_goals
    go_enter Try.func19, Try.ntmps19
    go_upto_region 1 with (fail)
    rw [← ch_nil]
    obtain ⟨b1, hb1⟩ : ∃ b1, w.heap.size + 1 = b1 := ⟨_, rfl⟩
    obtain ⟨b2, hb2⟩ : ∃ b2, b1 + 1 = b2 := ⟨_, rfl⟩
    obtain ⟨b0, hb0⟩ : ∃ b0, w.heap.size = b0 := ⟨_, rfl⟩
    obtain ⟨w1, hw1⟩ : ∃ w1, ((w.alloc (.cells (chC l).toArray 26)).alloc (.cells (chC []).toArray 26)).alloc (.cells (chC []).toArray 26) = w1 := ⟨_, rfl⟩
    rw [hw1, hb1, hb2, hb0]
    have q0 : w1.heap[b0]? = some (.cells (chC l).toArray 26) := by
      rw [← hw1]; simp only [heap_alloc_get, World.size_alloc, hb0]; repeat (first | rw [if_pos trivial] | rw [if_pos rfl] | rw [if_neg (by omega)])
    have q1 : w1.heap[b1]? = some (.cells (chC []).toArray 26) := by
      rw [← hw1]; simp only [heap_alloc_get, World.size_alloc, hb1]; repeat (first | rw [if_pos trivial] | rw [if_pos rfl] | rw [if_neg (by omega)])
    have q2 : w1.heap[b2]? = some (.cells (chC []).toArray 26) := by
      rw [← hw1]; simp only [heap_alloc_get, World.size_alloc, hb1, hb2]; repeat (first | rw [if_pos trivial] | rw [if_pos rfl] | rw [if_neg (by omega)])
    have hB1 : Below w.heap.size w w1 := by rw [← hw1]; exact (((Below.refl _ w).alloc (Nat.le_refl _) _).alloc (by simp) _).alloc (by simp; omega) _
    have hn0 : w1.cell? ⟨b0, 32, none⟩ = some (.int .i64 (l.length : Int)) := by rw [cell_of_row w1 b0 32 _ _ _ q0]; simpa using chC_n l hl
    have H1 := Lib.hid q1
    have H2 := Lib.hid q2
    have HB1 := Lib.hid hB1
    have HO1 := Lib.hid (show w.heap.size ≤ b1 ∧ b2 ≠ b1 ∧ w.heap.size ≤ b2 by omega)
    have F3 := Lib.hid (show (w1.setRow b1 (chC []).toArray).heap[b2]? = some (.cells (chC []).toArray 26) by
      rw [setRow_other _ _ _ _ (by omega)]; exact q2)
    have F4 := Lib.hid (show ((w1.setRow b1 (chC []).toArray).setRow b2 (chC []).toArray).heap[b1]? = some (.cells (chC []).toArray 26) by
      rw [setRow_other _ _ _ _ (by omega)]; exact setRow_heap _ _ _ _ _ _ q1)
    have F5 := Lib.hid (setRow_heap (w1.setRow b1 (chC []).toArray) b2 _ (chC []).toArray _ _ F3.out)
    have HB7 := Lib.hid (show Below w.heap.size w ((w1.setRow b1 (chC []).toArray).setRow b2 (chC []).toArray) from below_setRow (below_setRow hB1 HO1.out.1 _) HO1.out.2.2 _)
    clear q0 q1 q2 hB1 hw1 hb0 hb1 hb2 hn
    go_wp2_with (first
      | (refine wpList_load_row rfl 26 (.tmp 4) rfl b1 rfl 26 (chC []).toArray (0, 0) _ H1.out Try.underlying26 rfl (ch_info _ (by decide)) ?_)
      | (refine wpList_load_row rfl 26 (.tmp 5) rfl b2 rfl 26 (chC []).toArray (0, 0) _ H2.out Try.underlying26 rfl (ch_info _ (by decide)) ?_)
      | (refine wpList_store_row rfl 26 (.tmp 4) (.tmp 15) rfl b1 (chC []).toArray rfl rfl 26 (chC []).toArray H1.out (ch_info _ (by decide)) rfl (all_one _) ?_)
      | (refine wpList_store_row rfl 26 (.tmp 5) (.tmp 16) rfl b2 (chC []).toArray rfl rfl 26 (chC []).toArray F3.out (ch_info _ (by decide)) rfl (all_one _) ?_))
    exact bodyPost_ret (v := .tuple #[.agg (chC []).toArray, .agg (chC []).toArray, .int .i64 5]) (results_cct rfl _ _ b1 b2 _ _ _ _ _ _ _ _ rfl rfl rfl F4.out F5.out Try.underlying26 rfl (ch_info _ (by decide)) (ch_info _ (by decide))) rfl ⟨rfl, HB7.out⟩

/-- What Split answers, at any place. -/
def spA (l : List Int) (i : Int) : List Int := if 0 ≤ i ∧ i ≤ l.length then l.take i.toNat else []
def spB (l : List Int) (i : Int) : List Int := if 0 ≤ i ∧ i ≤ l.length then l.drop i.toNat else []
def spE (l : List Int) (i : Int) : Int := if 0 ≤ i ∧ i ≤ l.length then 0 else 5

theorem spA_len (l : List Int) (i : Int) (hl : l.length ≤ 32) : (spA l i).length ≤ 32 := by
  unfold spA
  split
  · rw [List.length_take]; omega
  · decide
theorem spB_len (l : List Int) (i : Int) (hl : l.length ≤ 32) : (spB l i).length ≤ 32 := by
  unfold spB
  split
  · rw [List.length_drop]; omega
  · decide
theorem spE_ok {l : List Int} {i : Int} (h : spE l i = 0) : (0 ≤ i ∧ i ≤ l.length) ∧ spA l i = l.take i.toNat ∧ spB l i = l.drop i.toNat := by
  unfold spE at h
  split at h
  · rename_i hc
    exact ⟨hc, by unfold spA; rw [if_pos hc], by unfold spB; rw [if_pos hc]⟩
  · omega

theorem split_any (l : List Int) (i : Int) (w : World) (hl : l.length ≤ 32) :
    Calls Try.prog 19 #[chV l, .int .i64 i] w fun e w' => e = .returned (.tuple #[chV (spA l i), chV (spB l i), .int .i64 (spE l i)]) ∧ Below w.heap.size w w' := by
  unfold spA spB spE
  by_cases h : 0 ≤ i ∧ i ≤ l.length
  · rw [if_pos h, if_pos h, if_pos h]
    have := split_yes l i.toNat w hl (by omega)
    rw [Int.toNat_of_nonneg h.1] at this
    exact this
  · rw [if_neg h, if_neg h, if_neg h]
    exact split_no l i w hl (by omega)

end Go.Proofs.Ytcdpbkhlkgefdaa
