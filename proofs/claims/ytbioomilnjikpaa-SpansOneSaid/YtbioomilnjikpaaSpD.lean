/-
  The arena of a tree's nodes: Take.
-/
import Derived.Test.YtbioomilnjikpaaSpC
import Derived.Deep.RegionLaw
import Derived.Great.BuildSlice
namespace Go.Proofs.Ytbioomilnjikpaa
open Go.RowKit

theorem exec_build2 {P : Program} {o : Oper} {ev : Operand → Value} {w : World} (t : TypeId) (i j : Nat) (x y : Operand) (ho : o.op = .build t #[(i, x), (j, y)]) (u v : Value) (hx : ev x = u) (hy : ev y = v) (cells : Array Value)
    (h : P.built t [(i, u), (j, v)] = some cells) : (execOp ev o).run P w = .ok (.value (.agg cells)) w := by
  subst hx hy
  unfold execOp
  simp only [ho, Sem.run_bind, List.map_toArray, List.map_cons, List.map_nil, run_build w t #[(i, ev x), (j, ev y)] cells h, Result.andThen_ok, Sem.run_pure]

theorem built_place (n : Nd) : Try.prog.built 99 [(0, .agg n.C.toArray), (1, .bool true)] = some (plC (some n)).toArray := by
  obtain ⟨x, hx, h1, l, r, h, sz, mk⟩ := n
  obtain ⟨a0, a1, rfl⟩ : ∃ a0 a1, x = [a0, a1] := by
    match x, hx with
    | [a0, a1], _ => exact ⟨_, _, rfl⟩
  kernel_rfl

theorem run_place (n : Nd) (w : World) : (Instr.build 99 #[(0, .agg n.C.toArray), (1, .bool true)]).run Try.prog w = .ok (.agg (plC (some n)).toArray) w := run_build w _ _ _ (built_place n)

theorem run_places (n : Nd) (w : World) : (Instr.buildSlice 94 1 #[(0, .agg (plC (some n)).toArray)]).run Try.prog w = .ok (.slice (some ⟨w.heap.size, 0, none⟩) 1 1) (w.alloc (.cells (plC (some n)).toArray 99)) := by
  obtain ⟨x, hx, h1, l, r, h, sz, mk⟩ := n
  obtain ⟨a0, a1, rfl⟩ : ∃ a0 a1, x = [a0, a1] := by
    match x, hx with
    | [a0, a1], _ => exact ⟨_, _, rfl⟩
  kernel_rfl

theorem own_less {w : World} {base : Nat} {e : TypeId} {g n c : Nat} {ys : List Value} (h : w.ownsRow base e 1 (.slice (some ⟨g, 0, none⟩) (n + 1) c) (n + 1) ys) : w.ownsRow base e 1 (.slice (some ⟨g, 0, none⟩) n c) n (ys.take n) := by
  refine ⟨by rw [List.length_take, h.1]; omega, ?_⟩
  rcases h.2 with ⟨h', _⟩ | ⟨g', cap', cur, h', hb, hg, hnc, hcm, hcs, htake⟩
  · cases h'
  · simp only [Value.slice.injEq, Option.some.injEq, Addr.mk.injEq, and_true, true_and] at h'
    obtain ⟨rfl, rfl⟩ := h'
    refine .inr ⟨g, c, cur, rfl, hb, hg, by omega, hcm, hcs, ?_⟩
    rw [← htake, List.take_take, Nat.min_eq_left (by omega), Nat.mul_one]

set_option maxRecDepth 100000 in
set_option maxHeartbeats 2000000 in
theorem takeN_old {w : World} {F : Nat → Prop} {g : Nat} {s : List (Option Nd)} {fr : List Nat} {i : Nat} (h : ArN w F g s (fr ++ [i])) (hs : s.length ≤ 1000000) (hf : fr.length ≤ 1000000) (hi : i < s.length) (n : Nd) :
    Calls Try.prog 47 #[.pointer (some ⟨g, 0, none⟩), n.V] w fun e w' => e = .returned (.int .i64 (i : Int)) ∧ ArN w' F g (s.set i (some n)) fr ∧ Grow F w w' F := by
  unfold Nd.V
  obtain ⟨w1, hw1⟩ : ∃ v, w.alloc (.cells n.C.toArray 80) = v := ⟨_, rfl⟩
  have hb1 : Below w.heap.size w w1 := by rw [← hw1]; exact (Below.refl _ _).alloc (Nat.le_refl _) _
  have hx1 : w1.heap[w.heap.size]? = some (.cells n.C.toArray 80) := by rw [← hw1]; exact heap_alloc_new w _
  obtain ⟨bx, hbx⟩ : ∃ v, w.heap.size = v := ⟨_, rfl⟩
  have hlt := h.lt
  obtain ⟨vp, vf, h⟩ := h
  have h1 := h.below hb1
  have hfr := h1.f
  rw [List.length_append, List.length_singleton] at hfr
  obtain ⟨bf, cf, rfl, hcf, _, hfr2, _⟩ := row_at hfr (k := fr.length) (by omega)
  have hfc : w1.cell? ⟨bf, fr.length, none⟩ = some (.int .i64 (i : Int)) := hfr2 _ _ (by simp [iV])
  have h1' : Ar2 w1 F g vp s.length (s.flatMap plC) (.slice (some ⟨bf, 0, none⟩) (fr.length + 1) cf) (fr.length + 1) ((fr ++ [i]).map iV) := by simpa using h1
  obtain ⟨b, c, rfl, hc, _, hbl, _, ht⟩ := row_range plC plC_len h1.p rfl hi
  have h11 := h1'.c1
  have h01 := h1'.c0
  have hless := own_less hfr
  rw [List.map_append, List.take_left' (by simp)] at hless
  obtain ⟨⟨q1, q2⟩, q3, q4⟩ := h1'.renewF (World.grownBy.refl _ _) hless (fun k hk => .inl (by simpa [Value.ownBlock] using hk))
  have hFbf : F bf := h.2.2.1 1 _ rfl bf rfl
  have eF : (fun k => F k ∨ (Value.slice (some ⟨bf, 0, none⟩) fr.length cf).ownBlock = some k) = F := funext fun k => propext ⟨fun hk => hk.elim id (fun e => by have e : bf = k := Option.some.inj e; exact e ▸ hFbf), .inl⟩
  rw [eF] at q3 q4
  obtain ⟨w2, hw2⟩ : ∃ v, w1.setCell ⟨g, 1, none⟩ (.slice (some ⟨bf, 0, none⟩) fr.length cf) = v := ⟨_, rfl⟩
  rw [hw2] at q3 q4
  obtain ⟨b', c', hv, _, _, _, _, ht2⟩ := row_range plC plC_len q3.p rfl hi
  obtain rfl : b = b' := by injection hv with e1 e2 e3; injection e1 with e1; injection e1
  have h02 := q3.c0
  have hFb : F b := h.2.2.1 0 _ rfl b rfl
  have hx2 : w2.heap[bx]? = some (.cells n.C.toArray 80) := by
    rw [← hbx]
    exact (q4.step.block _ (Array.getElem?_eq_some_iff.1 hx1).1 (fun hF => by have := hlt _ hF; omega)).trans hx1
  have q3d : Ar2 w2.drew F g (.slice (some ⟨b, 0, none⟩) s.length c) s.length (s.flatMap plC) (.slice (some ⟨bf, 0, none⟩) fr.length cf) fr.length (fr.map iV) := StF.drew q3
  have hst := q3d.storesP rfl (i * (2 + 6)) (plC (some n))
  rw [set_some n hi] at hst
  have HT := Lib.hid (show w2.drew.there b (i * (2 + 6)) (plC (some n)).toArray.size from fun j hj => ht2 j (by simp [plC_len] at hj; omega))
  have hgb : g ≠ b := fun e => own_row_blk h.p h.1.blk (by decide) (by rw [e]; rfl)
  have hbb : b ≠ bx := fun e => by have := hlt b hFb; omega
  have HS := Lib.hid (And.intro hst (And.intro hb1 (And.intro q4 hlt)))
  obtain ⟨ns, hns⟩ : ∃ n, s.length = n := ⟨_, rfl⟩
  obtain ⟨nf, hnf⟩ : ∃ n, fr.length = n := ⟨_, rfl⟩
  have HN := Lib.hid (And.intro hns hnf)
  have hS1 : (w2.drew.setCells b (i * (2 + 6)) (plC (some n))).cell? ⟨g, 0, none⟩ = some (.slice (some ⟨b, 0, none⟩) s.length c) := (World.cell?_setCells_out b (plC (some n)) _ w2.drew ⟨g, 0, none⟩ (fun e _ => absurd e hgb)).trans h02
  have hS2 : (w2.drew.setCells b (i * (2 + 6)) (plC (some n))).heap[bx]? = some (.cells n.C.toArray 80) := (hst.2.step.block bx (show bx < w2.heap.size from (Array.getElem?_eq_some_iff.1 hx2).1) (fun hF => by have := hlt bx hF; omega)).trans hx2
  rw [hns] at h01 h02 hc hi hs hS1
  rw [hnf] at h11 hcf hf hfc q1
  have hiI : (i : Int) < ns := by omega
  have hsI : (ns : Int) ≤ 1000000 := by omega
  have hfI : (nf : Int) ≤ 1000000 := by omega
  have g1 : IntKind.i64.wrap ((nf : Int) + 1 - 1) = nf := by rw [show (nf : Int) + 1 - 1 = nf by omega]; exact IntWalk.i64_in _ (by omega)
  have g2 : (nf : Int) ≤ cf := by omega
  rw [hnf] at hw2
  clear ht ht2 hst h h1 h1' hns hnf hlt hfr hfr2 hless q3 q4 q3d eF hv hx1
  go_enter Try.func47, Try.ntmps47
  go_wp2_with fail
  refine wp_region_held_drew (S := fun w' => w'.cell? ⟨g, 0, none⟩ = some (.slice (some ⟨b, 0, none⟩) ns c) ∧ w'.heap[bx]? = some (.cells n.C.toArray 80)) (by kernel_rfl) ⟨h02, hx2⟩ (fun hHeld => ?_)
  try dsimp only at hHeld
  refine take_at (i := 0) (v := ?_) (some 33) rfl rfl (by kernel_rfl) (by kernel_rfl) (by kernel_rfl) (fun _ _ _ h => h) hHeld (by rfl) (fun wS hSw => ?_) ?_
  rotate_left
  · try dsimp only at hSw
    go_simp
    try with_reducible rfl
  try simp only [Act.put, List.setIfInBounds_toArray, List.set_cons_zero, List.set_cons_succ]
  refine take_at (i := 1) (v := ?_) (some 34) rfl rfl (by kernel_rfl) (by kernel_rfl) (by kernel_rfl) (fun _ _ _ h => h) hHeld (by rfl) (fun wS hSw => ?_) ?_
  rotate_left
  · try dsimp only at hSw
    go_simp
    try with_reducible rfl
  try simp only [Act.put, List.setIfInBounds_toArray, List.set_cons_zero, List.set_cons_succ]
  refine take_at (i := 2) (v := ?_) (some 35) rfl rfl (by kernel_rfl) (by kernel_rfl) (by kernel_rfl) (fun _ _ _ h => h) hHeld (by rfl) (fun wS hSw => ?_) ?_
  rotate_left
  · try dsimp only at hSw
    go_simp
    try with_reducible rfl
  try simp only [Act.put, List.setIfInBounds_toArray, List.set_cons_zero, List.set_cons_succ]
  refine take_at (i := 3) (v := ?_) (some 36) rfl rfl (by kernel_rfl) (by kernel_rfl) (by kernel_rfl) (fun _ _ _ h => h) hHeld (by rfl) (fun wS hSw => ?_) ?_
  rotate_left
  · have hS1 := hSw.1
    try dsimp only at hSw
    go_simp
    try with_reducible rfl
  try simp only [Act.put, List.setIfInBounds_toArray, List.set_cons_zero, List.set_cons_succ]
  refine take_at (i := 4) (v := ?_) (some 37) rfl rfl (by kernel_rfl) (by kernel_rfl) (by kernel_rfl) (fun _ _ _ h => h) hHeld (by rfl) (fun wS hSw => ?_) ?_
  rotate_left
  · try dsimp only at hSw
    go_simp
    try with_reducible rfl
  try simp only [Act.put, List.setIfInBounds_toArray, List.set_cons_zero, List.set_cons_succ]
  refine take_at (i := 5) (v := ?_) (some 38) rfl rfl (by kernel_rfl) (by kernel_rfl) (by kernel_rfl) (fun _ _ _ h => h) hHeld (by rfl) (fun wS hSw => ?_) ?_
  rotate_left
  · refine exec_load_row 80 (.tmp 3) ?_ bx ?_ 80 n.C.toArray (0, 0) _ hSw.2 Try.underlying80 rfl (nd_info n) <;> rfl
  try simp only [Act.put, List.setIfInBounds_toArray, List.set_cons_zero, List.set_cons_succ]
  refine take_at (i := 6) (v := ?_) (some 39) rfl rfl (by kernel_rfl) (by kernel_rfl) (by kernel_rfl) (fun _ _ _ h => h) hHeld (by rfl) (fun wS hSw => ?_) ?_
  rotate_left
  · refine exec_build2 99 0 1 (.tmp 38) (.const (.bool true)) ?_ (.agg n.C.toArray) (.bool true) ?_ ?_ (plC (some n)).toArray (built_place n) <;> rfl
  try simp only [Act.put, List.setIfInBounds_toArray, List.set_cons_zero, List.set_cons_succ]
  refine take_at (i := 7) (v := ?_) (some 40) rfl rfl (by kernel_rfl) (by kernel_rfl) (by kernel_rfl) (fun _ _ _ h => h) hHeld (by rfl) (fun wS hSw => ?_) ?_
  rotate_left
  · try dsimp only at hSw
    go_simp
    try with_reducible rfl
  try simp only [Act.put, List.setIfInBounds_toArray, List.set_cons_zero, List.set_cons_succ]
  refine wpAnyH_ready (rs := [8]) (by kernel_rfl) (by simp) ?_
  refine AllReadyH.cons rfl (fun K hK => ?_) AllReadyH.nil
  simp only [List.getElem_toArray, List.getElem_cons_succ, List.getElem_cons_zero]
  refine of_if (by rfl) ?_
  refine wp_store_mid 99 (.tmp 40) (.tmp 39) rfl b (i * (2 + 6)) (plC (some n)).toArray rfl rfl HT.out (pl_info (some n)) (all_oneCell_toArray (plC_one (some n))) ?_
  have hOld := hHeld
  refine hK.out _ _ ⟨hS1, hS2⟩ (fun _ => ?_)
  clear hK K
  refine wpAnyH_mono (S2 := fun w' => w'.cell? ⟨g, 0, none⟩ = some (.slice (some ⟨b, 0, none⟩) ns c) ∧ w'.heap[bx]? = some (.cells n.C.toArray 80)) (fun _ h => h) _ _ _ _ ?_
  clear hHeld
  have hHeld := And.intro hS1 hS2
  clear hOld
  try simp only [Act.put]
  refine wpAnyH_done (by kernel_rfl) ?_ _
  go_wp2_with fail
  go_ret
  have hx := HS.out
  exact ⟨by simp, ArN.of2 hx.1.1 (by rw [List.length_set]) rfl rfl rfl, (Grow.of_below hx.2.1).trans (hx.2.2.1.trans ((⟨(Step.refl F w2).drewN 1, fun _ h => .inl h⟩ : Grow F w2 w2.drew F).trans hx.1.2))⟩

end Go.Proofs.Ytbioomilnjikpaa
