/-
  avl.Tree: Size, Height, Count.
-/
import Derived.Test.YtbioomilnjikpaaSpI
namespace Go.Proofs.Ytbioomilnjikpaa
open Go.RowKit

set_option maxHeartbeats 1000000 in
theorem size_any {w : World} {F : Nat → Prop} {gT gA : Nat} {T : Tr} {s : List (Option Nd)} {fr : List Nat} (h : TreeW w F gT gA T.rt s fr) (hT : Holds s T) :
    Calls Try.prog 31 #[.pointer (some ⟨gT, 0, none⟩)] w fun e w' => e = .returned (.int .i64 T.z) ∧ Below w.heap.size w w' := by
  have hR := h.cR
  have HTo := Lib.hid (totals_any h hT.okR)
  rw [hT.tot.1, hT.tot.2.1, hT.tot.2.2] at HTo
  clear h hT
  go_enter Try.func31, Try.ntmps31
  go_wp2_with fail
  refine HTo.out.mono ?_
  rintro e w1 ⟨rfl, hb⟩
  go_wp2_with fail
  go_ret
  exact ⟨rfl, hb⟩

set_option maxHeartbeats 1000000 in
theorem height_any {w : World} {F : Nat → Prop} {gT gA : Nat} {T : Tr} {s : List (Option Nd)} {fr : List Nat} (h : TreeW w F gT gA T.rt s fr) (hT : Holds s T) :
    Calls Try.prog 33 #[.pointer (some ⟨gT, 0, none⟩)] w fun e w' => e = .returned (.int .i64 T.h) ∧ Below w.heap.size w w' := by
  have hR := h.cR
  have HTo := Lib.hid (totals_any h hT.okR)
  rw [hT.tot.1, hT.tot.2.1, hT.tot.2.2] at HTo
  clear h hT
  go_enter Try.func33, Try.ntmps33
  go_wp2_with fail
  refine HTo.out.mono ?_
  rintro e w1 ⟨rfl, hb⟩
  go_wp2_with fail
  go_ret
  exact ⟨rfl, hb⟩

set_option maxHeartbeats 1000000 in
theorem count_any {w : World} {F : Nat → Prop} {gT gA : Nat} {root : Int} {s : List (Option Nd)} {fr : List Nat} (h : TreeW w F gT gA root s fr) :
    Calls Try.prog 32 #[.pointer (some ⟨gT, 0, none⟩)] w fun e w' => e = .returned (.int .i64 ((s.length : Int) - fr.length)) ∧ Below w.heap.size w w' := by
  have hN := h.cN
  have HLn := Lib.hid (lenN_F h.ar h.ok (by have := h.len; omega))
  clear h
  go_enter Try.func32, Try.ntmps32
  go_wp2_with fail
  refine HLn.out.mono ?_
  rintro e w1 ⟨rfl, n, rfl⟩
  go_wp2_with fail
  go_ret
  exact ⟨rfl, below_drewN (Below.refl _ _) n⟩

set_option maxRecDepth 100000 in
set_option maxHeartbeats 1000000 in
theorem newT_any (w : World) :
    Calls Try.prog 36 #[.agg #[.func (.func 37) #[] #[], .func (.func 38) #[] #[], .func (.func 39) #[] #[]]] w fun e w' => ∃ F gT gA, e = .returned (.pointer (some ⟨gT, 0, none⟩)) ∧ TreeW w' F gT gA (-1) [] [] ∧ Below w.heap.size w w' ∧ (∀ k, F k → w.heap.size ≤ k) ∧ w.heap.size ≤ gT := by
  go_enter Try.func36, Try.ntmps36
  go_wp2_with fail
  obtain ⟨w1, hw1⟩ : ∃ v, w.alloc (.cells #[.func (.func 37) #[] #[], .func (.func 38) #[] #[], .func (.func 39) #[] #[]] 67) = v := ⟨_, rfl⟩
  obtain ⟨b, hb⟩ : ∃ v, w.heap.size = v := ⟨_, rfl⟩
  have hq : w1.heap[b]? = some (.cells #[.func (.func 37) #[] #[], .func (.func 38) #[] #[], .func (.func 39) #[] #[]] 67) := by rw [← hw1, ← hb]; exact heap_alloc_new w _
  have K1 := Lib.hid (show Below w.heap.size w w1 by rw [← hw1]; exact (Below.refl _ _).alloc (Nat.le_refl _) _)
  rw [hw1, hb]
  clear hw1 hb
  refine wp_region_held_drew (S := fun w' => w'.heap[b]? = some (.cells #[.func (.func 37) #[] #[], .func (.func 38) #[] #[], .func (.func 39) #[] #[]] 67)) (by kernel_rfl) hq (fun hHeld => ?_)
  try dsimp only at hHeld
  refine take_at (i := 0) (v := ?_) (some 3) rfl rfl (by kernel_rfl) (by kernel_rfl) (by kernel_rfl) (fun _ _ _ h => h) hHeld (by rfl) (fun wS hSw => ?_) ?_
  rotate_left
  · refine exec_load_row 67 (.tmp 1) ?_ b ?_ 67 #[.func (.func 37) #[] #[], .func (.func 38) #[] #[], .func (.func 39) #[] #[]] (0, 0) _ hSw Try.underlying67 rfl (by kernel_rfl) <;> rfl
  try simp only [Act.put, List.setIfInBounds_toArray, List.set_cons_zero, List.set_cons_succ]
  refine wpAnyH_ready (rs := [1]) (by kernel_rfl) (by simp) ?_
  refine AllReadyH.cons rfl (fun K hK => ?_) AllReadyH.nil
  simp only [List.getElem_toArray, List.getElem_cons_succ, List.getElem_cons_zero]
  go_simp
  refine (newN_any _).mono ?_
  rintro e w2 ⟨rfl, hw2⟩
  have hb2 : Below w1.drew.heap.size w1.drew w2 := by rw [hw2]; exact (Below.refl _ _).alloc (Nat.le_refl _) _
  have hq2 := heap_later (w := w1.drew) hq hb2
  have HW2 := Lib.hid hw2
  clear hw2
  try dsimp only
  have hOld := hHeld
  refine hK.out _ _ hq2 (fun _ => ?_)
  clear hK K
  refine wpAnyH_mono (S2 := fun w' => w'.heap[b]? = some (.cells #[.func (.func 37) #[] #[], .func (.func 38) #[] #[], .func (.func 39) #[] #[]] 67)) (fun _ h => h) _ _ _ _ ?_
  clear hHeld
  have hHeld := hq2
  clear hOld
  try simp only [Act.put, List.setIfInBounds_toArray, List.set_cons_zero, List.set_cons_succ]
  refine take_at (i := 2) (v := ?_) (some 5) rfl rfl (by kernel_rfl) (by kernel_rfl) (by kernel_rfl) (fun _ _ _ h => h) hHeld (by rfl) (fun wS hSw => ?_) ?_
  rotate_left
  · try dsimp only at hSw
    go_simp
    try with_reducible rfl
  try simp only [Act.put, List.setIfInBounds_toArray, List.set_cons_zero, List.set_cons_succ]
  refine wpAnyH_ready (rs := [3]) (by kernel_rfl) (by simp) ?_
  refine AllReadyH.cons rfl (fun K hK => ?_) AllReadyH.nil
  simp only [List.getElem_toArray, List.getElem_cons_succ, List.getElem_cons_zero]
  go_simp
  try dsimp only
  obtain ⟨w3, hw3⟩ : ∃ v, w2.alloc (.cells #[.func (.func 37) #[] #[], .func (.func 38) #[] #[], .func (.func 39) #[] #[], .pointer (some ⟨w1.heap.size, 0, none⟩), .int .i64 (-1)] 72) = v := ⟨_, rfl⟩
  have hb3 : Below w2.heap.size w2 w3 := by rw [← hw3]; exact (Below.refl _ _).alloc (Nat.le_refl _) _
  have hq3 := heap_later hq2 hb3
  have HW3 := Lib.hid hw3
  rw [hw3]
  clear hw3
  have hOld := hHeld
  refine hK.out _ _ hq3 (fun _ => ?_)
  clear hK K
  refine wpAnyH_mono (S2 := fun w' => w'.heap[b]? = some (.cells #[.func (.func 37) #[] #[], .func (.func 38) #[] #[], .func (.func 39) #[] #[]] 67)) (fun _ h => h) _ _ _ _ ?_
  clear hHeld
  have hHeld := hq3
  clear hOld
  try simp only [Act.put, List.setIfInBounds_toArray, List.set_cons_zero, List.set_cons_succ]
  refine take_at (i := 4) (v := ?_) (some 2) rfl rfl (by kernel_rfl) (by kernel_rfl) (by kernel_rfl) (fun _ _ _ h => h) hHeld (by rfl) (fun wS hSw => ?_) ?_
  rotate_left
  · try dsimp only at hSw
    go_simp
    try with_reducible rfl
  try simp only [Act.put, List.setIfInBounds_toArray, List.set_cons_zero, List.set_cons_succ]
  refine wpAnyH_done (by kernel_rfl) ?_ _
  clear hHeld hq3 hq2 hq
  obtain ⟨gT, hgT⟩ : ∃ g, w2.heap.size = g := ⟨_, rfl⟩
  have h1 : w2.heap[w1.heap.size]? = some (.cells #[.slice none 0 0, .slice none 0 0] 97) := by rw [HW2.out]; exact heap_alloc_new w1.drew _
  have har := (ar_zero h1).below hb3
  have hblk : w3.heap[gT]? = some (.cells (treeC w1.heap.size (-1)) 72) := by rw [← HW3.out, ← hgT]; exact heap_alloc_new w2 _
  have hz : w1.heap.size < w2.heap.size := (Array.getElem?_eq_some_iff.1 h1).1
  have HTW := Lib.hid (show TreeW w3 (fun k => k = w1.heap.size) gT w1.heap.size (-1) [] [] from ⟨hblk, har, ArOk.nil_, fun e => by have e : gT = w1.heap.size := e; omega, by simp⟩)
  have HB := Lib.hid ((K1.out.drew.trans (hb2.mono K1.out.size)).trans (hb3.mono (by have := K1.out.size; omega)))
  have HL := Lib.hid (show w.heap.size ≤ w1.heap.size ∧ w.heap.size ≤ gT by have := K1.out.size; omega)
  have HG := Lib.hid hgT
  clear h1 har hblk hz hb2 hb3 hgT
  go_wp2_with fail
  go_ret
  exact ⟨_, gT, _, by rw [HG.out]; rfl, HTW.out, HB.out, fun k hk => by have hk : k = w1.heap.size := hk; have := HL.out; omega, HL.out.2⟩

end Go.Proofs.Ytbioomilnjikpaa
