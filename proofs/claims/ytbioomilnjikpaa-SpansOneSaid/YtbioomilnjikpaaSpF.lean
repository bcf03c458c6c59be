/-
  avl.Tree: what it is; at, totals.
-/
import Derived.Test.YtbioomilnjikpaaSpE
namespace Go.Proofs.Ytbioomilnjikpaa
open Go.RowKit

/-- The tree's own block. -/
def treeC (gA : Nat) (root : Int) : Array Value := #[.func (.func 37) #[] #[], .func (.func 38) #[] #[], .func (.func 39) #[] #[], .pointer (some ⟨gA, 0, none⟩), .int .i64 root]

structure TreeW (w : World) (F : Nat → Prop) (gT gA : Nat) (root : Int) (s : List (Option Nd)) (fr : List Nat) : Prop where
  blk : w.heap[gT]? = some (.cells (treeC gA root) 72)
  ar : ArN w F gA s fr
  ok : ArOk s fr
  oF : ¬ F gT
  len : s.length ≤ 90000

section
variable {w w' : World} {F F' : Nat → Prop} {gT gA : Nat} {root : Int} {s s' : List (Option Nd)} {fr fr' : List Nat}
theorem TreeW.lt (h : TreeW w F gT gA root s fr) : gT < w.heap.size := (Array.getElem?_eq_some_iff.1 h.blk).1
theorem TreeW.step {G : Nat → Prop} (h : TreeW w F gT gA root s fr) (hs : Step G w w') (hG : ∀ k, F k → ¬ G k) (hT : ¬ G gT) : TreeW w' F gT gA root s fr :=
  ⟨(hs.block gT h.lt hT).trans h.blk, h.ar.step hs hG, h.ok, h.oF, h.len⟩
theorem TreeW.below (h : TreeW w F gT gA root s fr) (hb : Below w.heap.size w w') : TreeW w' F gT gA root s fr := h.step (Step.of_below hb fun _ => False) (fun _ _ h => h) (fun h => h)
theorem TreeW.drewN (h : TreeW w F gT gA root s fr) (n : Nat) : TreeW (w.drewN n) F gT gA root s fr := h.below (below_drewN (Below.refl _ _) n)
theorem TreeW.arena (h : TreeW w F gT gA root s fr) (ha : ArN w' F' gA s' fr') (hok : ArOk s' fr') (hg : Grow F w w' F') (hl : s'.length ≤ 90000) : TreeW w' F' gT gA root s' fr' :=
  ⟨(hg.step.block gT h.lt h.oF).trans h.blk, ha, hok, fun hF => by rcases hg.new gT hF with e | e; exact h.oF e; have := h.lt; omega, hl⟩
theorem TreeW.cM (h : TreeW w F gT gA root s fr) : w.cell? ⟨gT, 0, none⟩ = some (.func (.func 37) #[] #[]) := by rw [cell_of_row w gT 0 _ _ _ h.blk]; rfl
theorem TreeW.cC (h : TreeW w F gT gA root s fr) : w.cell? ⟨gT, 1, none⟩ = some (.func (.func 38) #[] #[]) := by rw [cell_of_row w gT 1 _ _ _ h.blk]; rfl
theorem TreeW.cD (h : TreeW w F gT gA root s fr) : w.cell? ⟨gT, 2, none⟩ = some (.func (.func 39) #[] #[]) := by rw [cell_of_row w gT 2 _ _ _ h.blk]; rfl
theorem TreeW.cN (h : TreeW w F gT gA root s fr) : w.cell? ⟨gT, 3, none⟩ = some (.pointer (some ⟨gA, 0, none⟩)) := by rw [cell_of_row w gT 3 _ _ _ h.blk]; rfl
theorem TreeW.cR (h : TreeW w F gT gA root s fr) : w.cell? ⟨gT, 4, none⟩ = some (.int .i64 root) := by rw [cell_of_row w gT 4 _ _ _ h.blk]; rfl
end

theorem cell_later {w w' : World} {p : Addr} {v : Value} (h : w.cell? p = some v) (hb : Below w.heap.size w w') : w'.cell? p = some v := (hb.cell (p := p) (World.block_lt_of_cell? w _ h)).trans h

set_option maxHeartbeats 1000000 in
theorem at_any {w : World} {F : Nat → Prop} {gT gA : Nat} {root : Int} {s : List (Option Nd)} {fr : List Nat} (h : TreeW w F gT gA root s fr) {k : Nat} {n : Nd} (hk : gt s k = some n) :
    Calls Try.prog 52 #[.pointer (some ⟨gT, 0, none⟩), .int .i64 k] w fun e w' => e = .returned n.V ∧ Below w.heap.size w w' := by
  have hl := h.len
  have hN := h.cN
  have hNa : ∀ o, (w.alloc o).cell? ⟨gT, 3, none⟩ = some (.pointer (some ⟨gA, 0, none⟩)) := fun o => cell_later hN ((Below.refl _ _).alloc (Nat.le_refl _) o)
  have HA := Lib.hid (fun o => atN_yes (h.ar.below ((Below.refl w.heap.size w).alloc (Nat.le_refl _) o)) (by omega) (gt_some.1 hk))
  unfold Nd.V at HA ⊢
  clear h
  go_enter Try.func52, Try.ntmps52
  go_wp2_with fail
  refine (HA.out _).mono ?_
  rintro e w1 ⟨rfl, hb1⟩
  obtain ⟨b0, hb0⟩ : ∃ b, w.heap.size = b := ⟨_, rfl⟩
  have H0 := Lib.hid (heap_later (heap_alloc_new w _) hb1)
  have hb : Below w.heap.size w w1 := ((Below.refl _ _).alloc (Nat.le_refl _) _).trans (hb1.mono (by simp))
  have HB := Lib.hid hb
  rw [hb0] at H0 HB ⊢
  have hl0 : b0 < w1.heap.size := (Array.getElem?_eq_some_iff.1 H0.out).1
  have HB0 := Lib.hid hb0
  clear hb1 hb hb0
  obtain ⟨b1, hb1⟩ : ∃ b, w1.heap.size = b := ⟨_, rfl⟩
  obtain ⟨w2, hw2⟩ : ∃ v, w1.alloc (.cells n.C.toArray 80) = v := ⟨_, rfl⟩
  have H2 := Lib.hid (show w2.heap[w1.heap.size]? = some (.cells n.C.toArray 80) by rw [← hw2]; exact heap_alloc_new w1 _)
  have H02 := Lib.hid (show w2.heap[b0]? = _ from heap_later H0.out (by rw [← hw2]; exact (Below.refl _ _).alloc (Nat.le_refl _) _))
  have HB2 := Lib.hid (show Below b0 w w2 by rw [← hw2]; exact HB.out.alloc (by omega) _)
  have HW2 := Lib.hid hw2
  have HZ2 := Lib.hid (show b0 ≤ w2.heap.size by rw [← hw2, World.size_alloc]; omega)
  clear hw2 hb1
  go_wp2_with (first
    | (refine wpList_store_row rfl 80 (.tmp 5) (.tmp 14) rfl w1.heap.size n.C.toArray rfl rfl 80 _ (heap_alloc_new w1 _) (nd_info n) (by simp [Nd.C_len]) (all_oneCell_toArray n.C_one) ?_; rw [alloc_setRow, HW2.out])
    | (refine wpList_load_row rfl 80 (.tmp 5) rfl w1.heap.size rfl 80 n.C.toArray (0, 0) _ H2.out Try.underlying80 rfl (nd_info n) ?_)
    | (refine wpList_store_row rfl 80 (.tmp 4) (.tmp 16) rfl b0 n.C.toArray rfl rfl 80 _ H02.out (nd_info n) (by simp [Nd.C_len]) (all_oneCell_toArray n.C_one) ?_))
  exact bodyPost_ret (v := .agg n.C.toArray) (results_c rfl _ _ b0 _ n.C.toArray (0, 0) _ rfl (setRow_heap _ _ _ _ _ _ H02.out) Try.underlying80 rfl (nd_info n)) rfl
    ⟨rfl, by rw [HB0.out]; exact below_setRow HB2.out HZ2.out (Nat.le_refl _) _⟩

/-- A subtree's totals. -/
def hS (s : List (Option Nd)) (r : Int) : Int := match look s r with | some n => n.h | none => 0
def zS (s : List (Option Nd)) (r : Int) : Int := match look s r with | some n => n.sz | none => 0
def mS (s : List (Option Nd)) (r : Int) : Int := match look s r with | some n => n.mk_ | none => 0
/-- A subtree's number: none, or a node's. -/
def okR (s : List (Option Nd)) (r : Int) : Prop := r = -1 ∨ ∃ (k : Nat) (n : Nd), r = k ∧ gt s k = some n

end Go.Proofs.Ytbioomilnjikpaa
