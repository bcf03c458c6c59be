/-
  The arena of a tree's nodes: At, Put.
-/
import Derived.Test.YtbioomilnjikpaaSpA
import Derived.Test.YtbioomilnjikpaaHeld
namespace Go.Proofs.Ytbioomilnjikpaa
open Go.RowKit

set_option maxHeartbeats 1000000 in
theorem atN_yes {w : World} {F : Nat → Prop} {g : Nat} {s : List (Option Nd)} {fr : List Nat} (h : ArN w F g s fr) (hs : s.length ≤ 1000000) {k : Nat} {n : Nd} (hk : s[k]? = some (some n)) :
    Calls Try.prog 60 #[.pointer (some ⟨g, 0, none⟩), .int .i64 k] w fun e w' => e = .returned (.tuple #[n.V, .int .i64 0]) ∧ Below w.heap.size w w' := by
  have HA := Lib.hid (fun o => askedN_yes (h.below ((Below.refl w.heap.size w).alloc (Nat.le_refl _) o)) hs hk)
  obtain ⟨vp, vf, h⟩ := h
  have h0 := h.c0
  obtain ⟨hkl, hke⟩ := List.getElem?_eq_some_iff.1 hk
  obtain ⟨b, c, rfl, hc, _, hbl, hr, _⟩ := row_range plC plC_len h.p rfl hkl
  have hr2 : w.rangeAt b (k * (2 + 6)) n.C := fun j v hv => hr j v (by rw [hke, plC_node n j (by rw [← n.C_len]; exact (List.getElem?_eq_some_iff.1 hv).1)]; exact hv)
  have HR := Lib.hid (fun o => range_below hr2 hbl ((Below.refl w.heap.size w).alloc (Nat.le_refl _) o))
  obtain ⟨ns, hns⟩ : ∃ n, s.length = n := ⟨_, rfl⟩
  rw [hns] at h0 hc hkl
  have hkI : (k : Int) < ns := by omega
  have hsI : (ns : Int) ≤ 1000000 := by omega
  have h0a : ∀ o, (w.alloc o).cell? ⟨g, 0, none⟩ = some (.slice (some ⟨b, 0, none⟩) ns c) := fun o => (((Below.refl w.heap.size w).alloc (Nat.le_refl _) o).cell (p := ⟨g, 0, none⟩) (World.block_lt_of_cell? w _ h0)).trans h0
  clear hr hr2 h hns hke hk
  go_enter Try.func60, Try.ntmps60
  go_wp2_with (first
    | (go_at_call 61; refine (HA.out _).mono ?_; rintro e w' ⟨rfl, rfl⟩)
    | (refine wpList_load_mid rfl 80 (.tmp 21) rfl b (k * (2 + 6)) rfl n.C _ (HR.out _) Try.underlying80 rfl (nd_info n) ?_)
    | (refine wpList_store_row rfl 80 (.tmp 4) (.tmp 22) rfl w.heap.size n.C.toArray rfl rfl 80 _ (heap_alloc_new w _) (nd_info n) (by simp [Nd.C_len]) (all_oneCell_toArray n.C_one) ?_; rw [alloc_setRow]))
  exact bodyPost_ret (v := .tuple #[n.V, .int .i64 0]) (results_ct rfl _ _ w.heap.size _ n.C.toArray (0, 0) _ _ rfl rfl (heap_alloc_new w _) Try.underlying80 rfl (nd_info n)) rfl
    ⟨rfl, (Below.refl _ _).alloc (Nat.le_refl _) _⟩

theorem set_C {s : List (Option Nd)} {k : Nat} {n0 n : Nd} (hk : s[k]? = some (some n0)) : setMany (s.flatMap plC) (k * (2 + 6)) n.C = (s.set k (some n)).flatMap plC := by
  obtain ⟨hkl, hke⟩ := List.getElem?_eq_some_iff.1 hk
  refine setMany_flat plC (2 + 6) plC_len s k (some n) hkl n.C (by rw [Nd.C_len]; omega) (fun j hj => plC_node n j (by rw [← n.C_len]; exact hj)) (fun j h1 h2 => ?_)
  rw [Nd.C_len] at h1
  have e : j = 2 + 5 := by omega
  subst e
  rw [hke, plC_flag, plC_flag]
  rfl

set_option maxRecDepth 100000 in
set_option maxHeartbeats 1000000 in
theorem putN_yes {w : World} {F : Nat → Prop} {g : Nat} {s : List (Option Nd)} {fr : List Nat} (h : ArN w F g s fr) (hs : s.length ≤ 1000000) {k : Nat} {n0 : Nd} (hk : s[k]? = some (some n0)) (n : Nd) :
    Calls Try.prog 56 #[.pointer (some ⟨g, 0, none⟩), .int .i64 k, n.V] w fun e w' => e = .returned (.int .i64 0) ∧ ArN w' F g (s.set k (some n)) fr ∧ Grow F w w' F := by
  unfold Nd.V
  obtain ⟨w1, hw1⟩ : ∃ v, w.alloc (.cells n.C.toArray 80) = v := ⟨_, rfl⟩
  have hb1 : Below w.heap.size w w1 := by rw [← hw1]; exact (Below.refl _ _).alloc (Nat.le_refl _) _
  have hx1 : w1.heap[w.heap.size]? = some (.cells n.C.toArray 80) := by rw [← hw1]; exact heap_alloc_new w _
  obtain ⟨bx, hbx⟩ : ∃ v, w.heap.size = v := ⟨_, rfl⟩
  have HA := Lib.hid (askedN_yes (h.below hb1) hs hk)
  have hlt := h.lt
  obtain ⟨vp, vf, h⟩ := h
  obtain ⟨hkl, hke⟩ := List.getElem?_eq_some_iff.1 hk
  have h1 := h.below hb1
  obtain ⟨b, c, rfl, hc, _, hbl, hr, ht⟩ := row_range plC plC_len h1.p rfl hkl
  have h01 := h1.c0
  have h1d : Ar2 w1.drew F g (.slice (some ⟨b, 0, none⟩) s.length c) s.length (s.flatMap plC) vf fr.length (fr.map iV) := StF.drew h1
  have hst := h1d.storesP rfl (k * (2 + 6)) n.C
  rw [set_C hk] at hst
  have HT := Lib.hid (show w1.drew.there b (k * (2 + 6)) n.C.toArray.size from fun j hj => ht j (by simp [Nd.C_len] at hj; omega))
  have hFb : F b := h.2.2.1 0 _ rfl b rfl
  have HS := Lib.hid (And.intro hst (And.intro hb1.drew (And.intro hFb hlt)))
  have hFg := h.2.1
  obtain ⟨ns, hns⟩ : ∃ n, s.length = n := ⟨_, rfl⟩
  have HN := Lib.hid hns
  rw [hns] at h01 hc hkl
  rw [hbx] at hx1
  have hkI : (k : Int) < ns := by omega
  have hsI : (ns : Int) ≤ 1000000 := by omega
  have hbb : b ≠ bx := fun e => by have := hlt b hFb; omega
  have hgb : g ≠ b := fun e => own_row_blk h.p h.1.blk (by decide) (by rw [e]; rfl)
  have hS1 : (w1.drew.setCells b (k * (2 + 6)) n.C).cell? ⟨g, 0, none⟩ = some (.slice (some ⟨b, 0, none⟩) ns c) := (World.cell?_setCells_out b n.C _ w1.drew ⟨g, 0, none⟩ (fun e _ => absurd e hgb)).trans h01
  have hS2 : (w1.drew.setCells b (k * (2 + 6)) n.C).heap[bx]? = some (.cells n.C.toArray 80) := (hst.2.step.block bx (show bx < w1.heap.size from (Array.getElem?_eq_some_iff.1 hx1).1) (fun hF => by have := hlt bx hF; omega)).trans hx1
  clear hr ht hst h1 h1d h hns hke hlt
  go_enter Try.func56, Try.ntmps56
  go_wp2_with fail
  clear hw1 hbx
  refine HA.out.mono ?_
  rintro e w' ⟨rfl, rfl⟩
  go_wp2_with fail
  refine wp_region_held_drew (S := fun w' => w'.cell? ⟨g, 0, none⟩ = some (.slice (some ⟨b, 0, none⟩) ns c) ∧ w'.heap[bx]? = some (.cells n.C.toArray 80)) (by kernel_rfl) ⟨h01, hx1⟩ (fun hHeld => ?_)
  try dsimp only at hHeld
  refine take_at (i := 0) (v := ?_) (some 14) rfl rfl (by kernel_rfl) (by kernel_rfl) (by kernel_rfl) (fun _ _ _ h => h) hHeld (by rfl) (fun wS hSw => ?_) ?_
  rotate_left
  · try dsimp only at hSw
    go_simp
    try with_reducible rfl
  try simp only [Act.put, List.setIfInBounds_toArray, List.set_cons_zero, List.set_cons_succ]
  refine take_at (i := 1) (v := ?_) (some 15) rfl rfl (by kernel_rfl) (by kernel_rfl) (by kernel_rfl) (fun _ _ _ h => h) hHeld (by rfl) (fun wS hSw => ?_) ?_
  rotate_left
  · try dsimp only at hSw
    go_simp
    try with_reducible rfl
  try simp only [Act.put, List.setIfInBounds_toArray, List.set_cons_zero, List.set_cons_succ]
  refine take_at (i := 2) (v := ?_) (some 16) rfl rfl (by kernel_rfl) (by kernel_rfl) (by kernel_rfl) (fun _ _ _ h => h) hHeld (by rfl) (fun wS hSw => ?_) ?_
  rotate_left
  · try dsimp only at hSw
    go_simp
    try with_reducible rfl
  try simp only [Act.put, List.setIfInBounds_toArray, List.set_cons_zero, List.set_cons_succ]
  refine take_at (i := 3) (v := ?_) (some 17) rfl rfl (by kernel_rfl) (by kernel_rfl) (by kernel_rfl) (fun _ _ _ h => h) hHeld (by rfl) (fun wS hSw => ?_) ?_
  rotate_left
  · have hS1 := hSw.1
    try dsimp only at hSw
    go_simp
    try with_reducible rfl
  try simp only [Act.put, List.setIfInBounds_toArray, List.set_cons_zero, List.set_cons_succ]
  refine take_at (i := 4) (v := ?_) (some 18) rfl rfl (by kernel_rfl) (by kernel_rfl) (by kernel_rfl) (fun _ _ _ h => h) hHeld (by rfl) (fun wS hSw => ?_) ?_
  rotate_left
  · try dsimp only at hSw
    go_simp
    try with_reducible rfl
  try simp only [Act.put, List.setIfInBounds_toArray, List.set_cons_zero, List.set_cons_succ]
  refine take_at (i := 5) (v := ?_) (some 19) rfl rfl (by kernel_rfl) (by kernel_rfl) (by kernel_rfl) (fun _ _ _ h => h) hHeld (by rfl) (fun wS hSw => ?_) ?_
  rotate_left
  · refine exec_load_row 80 (.tmp 5) ?_ bx ?_ 80 n.C.toArray (0, 0) _ hSw.2 Try.underlying80 rfl (nd_info n) <;> rfl
  try simp only [Act.put, List.setIfInBounds_toArray, List.set_cons_zero, List.set_cons_succ]
  refine take_at (i := 6) (v := ?_) (some 20) rfl rfl (by kernel_rfl) (by kernel_rfl) (by kernel_rfl) (fun _ _ _ h => h) hHeld (by rfl) (fun wS hSw => ?_) ?_
  rotate_left
  · try dsimp only at hSw
    go_simp
    try with_reducible rfl
  try simp only [Act.put, List.setIfInBounds_toArray, List.set_cons_zero, List.set_cons_succ]
  refine take_at (i := 7) (v := ?_) (some 21) rfl rfl (by kernel_rfl) (by kernel_rfl) (by kernel_rfl) (fun _ _ _ h => h) hHeld (by rfl) (fun wS hSw => ?_) ?_
  rotate_left
  · try dsimp only at hSw
    go_simp
    try with_reducible rfl
  try simp only [Act.put, List.setIfInBounds_toArray, List.set_cons_zero, List.set_cons_succ]
  refine wpAnyH_ready (rs := [8]) (by kernel_rfl) (by simp) ?_
  refine AllReadyH.cons rfl (fun K hK => ?_) AllReadyH.nil
  simp only [List.getElem_toArray, List.getElem_cons_succ, List.getElem_cons_zero]
  refine of_if (by rfl) ?_
  refine wp_store_mid 80 (.tmp 21) (.tmp 19) rfl b (k * (2 + 6)) n.C.toArray rfl rfl (HT.out) (nd_info n) (all_oneCell_toArray n.C_one) ?_
  have hOld := hHeld
  refine hK.out _ _ ⟨hS1, hS2⟩ (fun _ => ?_)
  clear hK K
  refine wpAnyH_mono (S2 := fun w' => w'.cell? ⟨g, 0, none⟩ = some (.slice (some ⟨b, 0, none⟩) ns c) ∧ w'.heap[bx]? = some (.cells n.C.toArray 80)) (fun _ h => h) _ _ _ _ ?_
  clear hHeld
  have hHeld := And.intro hS1 hS2
  clear hOld
  try simp only [Act.put]
  refine wpAnyH_done (by kernel_rfl) ?_ _
  go_wp2_with fail
  go_ret
  have hx := HS.out
  exact ⟨rfl, ArN.of2 hx.1.1 (by rw [List.length_set]) rfl rfl rfl, (Grow.of_below hx.2.1).trans hx.1.2⟩

end Go.Proofs.Ytbioomilnjikpaa
