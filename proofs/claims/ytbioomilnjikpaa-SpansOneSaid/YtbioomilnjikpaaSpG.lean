/-
  avl.Tree: totals.
-/
import Derived.Test.YtbioomilnjikpaaSpF
namespace Go.Proofs.Ytbioomilnjikpaa
open Go.RowKit

/-- A local node: its cells. -/
structure NdAt (w : World) (b : Nat) (n : Nd) : Prop where
  blk : w.heap[b]? = some (.cells n.C.toArray 80)

section
variable {w w' : World} {b : Nat} {n : Nd}
theorem NdAt.lt (h : NdAt w b n) : b < w.heap.size := (Array.getElem?_eq_some_iff.1 h.blk).1
theorem NdAt.cL (h : NdAt w b n) : w.cell? ⟨b, 2, none⟩ = some (.int .i64 n.l) := by rw [cell_of_row w b _ _ _ _ h.blk]; simpa using n.C_l
theorem NdAt.cR (h : NdAt w b n) : w.cell? ⟨b, 3, none⟩ = some (.int .i64 n.r) := by rw [cell_of_row w b _ _ _ _ h.blk]; simpa using n.C_r
theorem NdAt.cH (h : NdAt w b n) : w.cell? ⟨b, 4, none⟩ = some (.int .i64 n.h) := by rw [cell_of_row w b _ _ _ _ h.blk]; simpa using n.C_h
theorem NdAt.cS (h : NdAt w b n) : w.cell? ⟨b, 5, none⟩ = some (.int .i64 n.sz) := by rw [cell_of_row w b _ _ _ _ h.blk]; simpa using n.C_sz
theorem NdAt.cM (h : NdAt w b n) : w.cell? ⟨b, 6, none⟩ = some (.int .i64 n.mk_) := by rw [cell_of_row w b _ _ _ _ h.blk]; simpa using n.C_mk
theorem NdAt.fz (h : NdAt w b n) (j : Nat) : w.frozen? ⟨b, j, none⟩ = false := frozen_of_row w b j _ _ h.blk
theorem NdAt.below (h : NdAt w b n) (hb : Below w.heap.size w w') : NdAt w' b n := ⟨heap_later h.blk hb⟩
theorem NdAt.step {G : Nat → Prop} (h : NdAt w b n) (hs : Step G w w') (hG : ¬ G b) : NdAt w' b n := ⟨(hs.block b h.lt hG).trans h.blk⟩
theorem NdAt.new (w : World) (n : Nd) : NdAt (w.alloc (.cells n.C.toArray 80)) w.heap.size n := ⟨heap_alloc_new w _⟩
theorem NdAt.x (h : NdAt w b n) : w.rangeAt b 0 n.x := fun j v hv => by
  have hj := (List.getElem?_eq_some_iff.1 hv).1
  rw [Nat.zero_add, cell_of_row w b j _ _ _ h.blk, List.getElem?_toArray, Nd.C_x n j (by rw [← n.hx]; exact hj)]
  exact hv

theorem Nd.set_C (n : Nd) (j : Nat) (v : Value) (n' : Nd) (hx : n'.x = n.x) (h : [Value.int .i64 n'.l, .int .i64 n'.r, .int .i64 n'.h, .int .i64 n'.sz, .int .i64 n'.mk_] = [Value.int .i64 n.l, .int .i64 n.r, .int .i64 n.h, .int .i64 n.sz, .int .i64 n.mk_].set j v) :
    n.C.toArray.setIfInBounds (2 + j) v = n'.C.toArray := by
  rw [List.setIfInBounds_toArray]
  congr 1
  unfold Nd.C
  rw [hx, h, List.set_append_right _ _ (by rw [n.hx]; omega), n.hx, Nat.add_sub_cancel_left]

/-- A field is written. -/
theorem NdAt.set (h : NdAt w b n) (j : Nat) (v : Value) (n' : Nd) (hx : n'.x = n.x) (hc : [Value.int .i64 n'.l, .int .i64 n'.r, .int .i64 n'.h, .int .i64 n'.sz, .int .i64 n'.mk_] = [Value.int .i64 n.l, .int .i64 n.r, .int .i64 n.h, .int .i64 n.sz, .int .i64 n.mk_].set j v) :
    NdAt (w.setCell ⟨b, 2 + j, none⟩ v) b n' := ⟨by rw [heap_setCell_same w b _ _ _ v h.blk, Nd.set_C n j v n' hx hc]⟩
end

theorem hS_nd {s : List (Option Nd)} {k : Nat} {n : Nd} (h : gt s k = some n) : hS s (k : Int) = n.h ∧ zS s (k : Int) = n.sz ∧ mS s (k : Int) = n.mk_ := by
  have e : look s (k : Int) = some n := by rw [look_nat]; exact h
  unfold hS zS mS
  rw [e]
  exact ⟨rfl, rfl, rfl⟩
theorem hS_none (s : List (Option Nd)) : hS s (-1) = 0 ∧ zS s (-1) = 0 ∧ mS s (-1) = 0 := by
  have e : look s (-1) = none := by simp [look]
  unfold hS zS mS
  rw [e]
  exact ⟨rfl, rfl, rfl⟩

set_option maxHeartbeats 1000000 in
theorem totals_any {w : World} {F : Nat → Prop} {gT gA : Nat} {root : Int} {s : List (Option Nd)} {fr : List Nat} (h : TreeW w F gT gA root s fr) {r : Int} (hr : okR s r) :
    Calls Try.prog 53 #[.pointer (some ⟨gT, 0, none⟩), .int .i64 r] w fun e w' => e = .returned (.tuple #[.int .i64 (hS s r), .int .i64 (zS s r), .int .i64 (mS s r)]) ∧ Below w.heap.size w w' := by
  rcases hr with rfl | ⟨k, n, rfl, hk⟩
  · rw [(hS_none s).1, (hS_none s).2.1, (hS_none s).2.2]
    go_enter Try.func53, Try.ntmps53
    go_wp2
    exact bodyPost_ret (results_tmp3 rfl _ _ _) rfl ⟨rfl, Below.refl _ _⟩
  · rw [(hS_nd hk).1, (hS_nd hk).2.1, (hS_nd hk).2.2]
    have HA := Lib.hid (at_any h hk)
    have hk1 : ((k : Int) == -1) = false := by simp
    unfold Nd.V at HA
    clear h hk
    go_enter Try.func53, Try.ntmps53
    go_wp2_with fail
    refine HA.out.mono ?_
    rintro e w1 ⟨rfl, hb1⟩
    obtain ⟨b, hb⟩ : ∃ b, w1.heap.size = b := ⟨_, rfl⟩
    obtain ⟨w2, hw2⟩ : ∃ v, w1.alloc (.cells n.C.toArray 80) = v := ⟨_, rfl⟩
    have hn : NdAt w2 b n := by rw [← hw2, ← hb]; exact NdAt.new w1 n
    have HB := Lib.hid (show Below w.heap.size w w2 by rw [← hw2]; exact hb1.alloc hb1.size _)
    have h1 := hn.cH
    have h2 := hn.cS
    have h3 := hn.cM
    have HE := Lib.hid (And.intro hw2 hb)
    clear hn hb1 hw2 hb
    go_wp2_with (refine wpList_store_row rfl 80 (.tmp 7) (.tmp 12) rfl w1.heap.size n.C.toArray rfl rfl 80 _ (heap_alloc_new w1 _) (nd_info n) (by simp [Nd.C_len]) (all_oneCell_toArray n.C_one) ?_; rw [alloc_setRow, HE.out.1, HE.out.2])
    go_quiet (fail)
    go_wp2_with fail
    exact bodyPost_ret (results_tmp3 rfl _ _ _) rfl ⟨rfl, below_drewN HB.out nq⟩

end Go.Proofs.Ytbioomilnjikpaa
