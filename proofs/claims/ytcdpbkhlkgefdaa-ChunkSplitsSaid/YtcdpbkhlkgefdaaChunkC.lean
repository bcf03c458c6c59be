/-
  chunk.Chunk: Runes; slices.Clone of runes.
-/
import Derived.Test.YtcdpbkhlkgefdaaChunkB
namespace Go.Proofs.Ytcdpbkhlkgefdaa
open Go.RowKit

theorem r32_info : (Try.prog.info? 21).map (fun i => (i.zero, i.size, i.bytes)) = some (some (.int .i32 0), 1, 4) := by kernel_rfl

theorem r32_one (l : List Int) : ∀ u ∈ l.map r32, u.oneCell' = true := by
  intro u hu
  obtain ⟨_, _, rfl⟩ := List.mem_map.1 hu
  rfl

theorem own_none (w : World) (e : TypeId) : (w.alloc (.cells #[] e)).ownsRow w.heap.size e 1 (.slice (some ⟨w.heap.size, 0, none⟩) 0 0) 0 [] :=
  ⟨rfl, .inr ⟨w.heap.size, 0, #[], rfl, Nat.le_refl _, heap_alloc_new w _, Nat.le_refl _, Nat.zero_le _, rfl, rfl⟩⟩

theorem below_zero {w w' : World} {e : TypeId} (hg : (w.alloc (.cells #[] e)).grownBy w' (Value.slice (some ⟨w.heap.size, 0, none⟩) 0 0).ownBlock) : Below w.heap.size w w' :=
  ((Below.refl _ w).alloc (Nat.le_refl _) _).grown hg (by simp) (fun k e => by have := Option.some.inj e; exact Nat.le_of_eq this)

set_option maxRecDepth 100000 in
set_option maxHeartbeats 1000000 in
theorem clone_some (a : Addr) (n c B : Nat) (l : List Int) (w : World) (hs : Sees w B 1 (some a) n (l.map r32)) (hB : B ≤ w.heap.size) (hn : n ≤ 1000000) :
    Calls Try.prog 27 #[.slice (some a) n c] w fun e w' => ∃ v, e = .returned v ∧ w'.ownsRow w.heap.size 21 1 v n (l.map r32) ∧ Below w.heap.size w w' := by
  obtain ⟨i0, ii0, iz0, iz1, iz2⟩ := info_parts r32_info
  have hnI : (n : Int) ≤ 1000000 := by omega
  have he := Lib.run_eql_slice_nil (P := Try.prog) w 22 21 (some a) n c 0 0 Try.underlying22
  go_enter Try.func27, Try.ntmps27
  go_wp2_with (
    at_builtin
    refine wpList_append_sees _ rfl _ _ _ rfl w.heap.size 21 i0 _ 1 4 Try.underlying22 ii0 iz0 iz1 iz2 rfl (by omega) _ 0 [] rfl
      (own_none w 21) B _ n _ _ rfl (hs.alloc hB _) (r32_one l) (by simp only [maxLen]; omega) (by omega) (by simp) ?_
    intro v1 w1 hown1 hg1 hat1 hnil1
    rw [Nat.zero_add, List.nil_append] at hown1
    have hb1 := below_zero hg1
    clear hg1 hat1 hnil1)
  go_ret
  exact ⟨_, rfl, hown1, hb1⟩

/-- The runes of a box. -/
theorem box_sees (w : World) (l : List Int) (t : TypeId) (hl : l.length ≤ 32) : Sees (w.alloc (.cells (chC l).toArray t)) (w.heap.size + 1) 1 (some ⟨w.heap.size, 0, none⟩) l.length (l.map r32) := by
  refine ⟨by simp, fun _ => ⟨w.heap.size, 0, rfl, by omega, fun j u hu => ?_⟩⟩
  rw [Nat.zero_add, box_cell]
  have hj : j < l.length := by have := (List.getElem?_eq_some_iff.1 hu).1; simpa using this
  rw [chC_get l j hl (by omega)]
  rw [← hu]
  simp [r32, hj]

set_option maxRecDepth 100000 in
set_option maxHeartbeats 1000000 in
theorem runes_any (l : List Int) (w : World) (hl : l.length ≤ 32) :
    Calls Try.prog 21 #[chV l] w fun e w' => ∃ v, e = .returned v ∧ w'.ownsRow w.heap.size 21 1 v l.length (l.map r32) ∧ Below w.heap.size w w' := by
  have hn := chC_n l hl
  have hlI : (l.length : Int) ≤ 32 := by omega
  have HC := Lib.hid (clone_some ⟨w.heap.size, 0, none⟩ l.length 32 (w.heap.size + 1) l (w.alloc (.cells (chC l).toArray 26)) (box_sees w l _ hl) (by simp) (by omega))
  unfold chV
  go_enter Try.func21, Try.ntmps21
  go_wp2_with fail
  refine HC.out.mono ?_
  rintro e w1 ⟨v, rfl, ho, hb⟩
  go_wp2_with fail
  go_ret
  exact ⟨_, rfl, own_lower ho (by simp), ((Below.refl _ _).alloc (Nat.le_refl _) _).trans (hb.mono (by simp))⟩

end Go.Proofs.Ytcdpbkhlkgefdaa
