/-
  chunk.Chunk: Split.
-/
import Derived.Test.YtcdpbkhlkgefdaaChunkD
import Derived.Test.YtcdpbkhlkgefdaaHeld
namespace Go.Proofs.Ytcdpbkhlkgefdaa
open Go.RowKit

theorem oper_copy {P : Program} {o : Oper} {a : Act} {w : World} {K : Act → World → Prop} {Q : Exit → Act → World → Prop} (d s : Operand) (dT sT : TypeId)
    (ho : o.op = .call { callee := .builtin .copy, args := #[d, s], argTypes := #[dT, sT] }) (elem : TypeId) (hu : P.underlying dT = some (.slice elem)) (hsz : (P.info? elem).map (·.size) = some 1)
    (dp sp : Option Addr) (dLen dCap sLen sCap : Nat) (hd : a.eval d = .slice dp dLen dCap) (hs : a.eval s = .slice sp sLen sCap)
    (g off : Nat) (cur : List Value) (t : TypeId) (hg : w.heap[g]? = some (.cells cur.toArray t (0, 0))) (cs : List Value) (hn : cs.length = Nat.min sLen dLen)
    (hpos : 0 < cs.length → dp = some ⟨g, off, none⟩ ∧ ∃ ad, sp = some ad ∧ ∀ j v, cs[j]? = some v → w.cell? (ad.add j) = some v)
    (hfit : off + cs.length ≤ cur.length) (h1 : ∀ v ∈ cs, v.oneCell' = true)
    (h : ∀ w', Hid (w'.heap[g]? = some (.cells (splice cur off cs).toArray t (0, 0))) → Step (fun k => k = g) w w' ∧ w'.heap.size = w.heap.size → K (a.put o.dst (goInt cs.length)) w') : Oper.wp P o a w K Q := by
  by_cases h0 : cs.length = 0
  · obtain rfl : cs = [] := List.eq_nil_of_length_eq_zero h0
    have hrun := run_copy_none (P := P) w dT sT o.type elem dp sp dLen dCap sLen sCap hu hsz (by simpa using hn.symm)
    unfold Oper.wp
    simp only [execOp, ho, resolve, invoke, builtin, Sem.run_bind, Sem.run_pure, Result.andThen_ok, List.map_toArray, List.map_cons, List.map_nil, hd, hs, hrun]
    exact h w (show _ = _ by simpa [splice] using hg) ⟨Step.refl _ _, rfl⟩
  · obtain ⟨rfl, ad, rfl, hsrc⟩ := hpos (by omega)
    have hrun := run_copy_row (P := P) w dT sT o.type elem g off dLen dCap ad sLen sCap cur.toArray t cs hu hsz hg hn hsrc (by simpa using hfit) h1
    unfold Oper.wp
    simp only [execOp, ho, resolve, invoke, builtin, Sem.run_bind, Sem.run_pure, Result.andThen_ok, List.map_toArray, List.map_cons, List.map_nil, hd, hs, hrun]
    exact h _ (show _ = _ by simpa [splice] using setRow_heap w g _ _ t _ hg) ⟨⟨rfl, rfl, rfl, by simp [World.setRow], fun k _ hk => setRow_other w g k _ hk⟩, by simp [World.setRow]⟩

theorem results_cct {P : Program} {fn : Func} {p p2 q : Tmp} {ty : TypeId} (h : fn.results = #[.cell p ty, .cell p2 ty, .tmp q]) (tmps : Array Value) (w : World) (g g2 : Nat) (t t2 : TypeId) (cs cs2 : Array Value) (fr fr2 : Nat × Nat) (d : TypeDesc) (x : Value)
    (hp : tmps.getD p undef = .pointer (some ⟨g, 0, none⟩)) (hp2 : tmps.getD p2 undef = .pointer (some ⟨g2, 0, none⟩)) (hq : tmps.getD q undef = x) (hg : w.heap[g]? = some (.cells cs t fr)) (hg2 : w.heap[g2]? = some (.cells cs2 t2 fr2))
    (hu : P.underlying ty = some d) (hd : (match d with | .struct _ | .array _ _ => true | _ => false) = true) (hi : (P.info? ty).map (·.size) = some cs.size) (hi2 : (P.info? ty).map (·.size) = some cs2.size) :
    (results fn tmps).run P w = .ok (.tuple #[.agg cs, .agg cs2, x]) w := by
  have hp' : tmps[p]?.getD undef = .pointer (some ⟨g, 0, none⟩) := by simpa using hp
  have hp2' : tmps[p2]?.getD undef = .pointer (some ⟨g2, 0, none⟩) := by simpa using hp2
  have hq' : tmps[q]?.getD undef = x := by simpa using hq
  simp [results, h, hp', hp2', hq', asAddr, run_loadVar_row w g t ty cs fr d hg hu hd hi, run_loadVar_row w g2 t2 ty cs2 fr2 d hg2 hu hd hi2]

theorem sees_row {w : World} {b : Nat} {l : List Int} {t : TypeId} (h : w.heap[b]? = some (.cells (chC l).toArray t (0, 0))) (hl : l.length ≤ 32) : Sees w (b + 1) 1 (some ⟨b, 0, none⟩) l.length (l.map r32) := by
  refine ⟨by simp, fun _ => ⟨b, 0, rfl, by omega, fun j u hu => ?_⟩⟩
  have hj : j < l.length := by have := (List.getElem?_eq_some_iff.1 hu).1; simpa using this
  rw [Nat.zero_add, cell_of_row w b j _ _ _ h, List.getElem?_toArray, chC_get l j hl (by omega), ← hu]
  simp [r32, hj]

set_option maxRecDepth 100000 in
set_option maxHeartbeats 4000000 in
theorem split_yes (l : List Int) (i : Nat) (w : World) (hl : l.length ≤ 32) (hil : i ≤ l.length) :
    Calls Try.prog 19 #[chV l, .int .i64 i] w fun e w' => e = .returned (.tuple #[chV (l.take i), chV (l.drop i), .int .i64 0]) ∧ Below w.heap.size w w' := by
  have hn := chC_n l hl
  have hiI : (i : Int) ≤ l.length := by omega
  have hi32 : i ≤ 32 := by omega
  have hi32I : (i : Int) ≤ 32 := by omega
  have hlI : (l.length : Int) ≤ 32 := by omega
  unfold chV
  go_enter Try.func19, Try.ntmps19
  go_wp2_with fail
  rw [← ch_nil]
  obtain ⟨b1, hb1⟩ : ∃ b1, w.heap.size + 1 = b1 := ⟨_, rfl⟩
  obtain ⟨b2, hb2⟩ : ∃ b2, b1 + 1 = b2 := ⟨_, rfl⟩
  obtain ⟨b0, hb0⟩ : ∃ b0, w.heap.size = b0 := ⟨_, rfl⟩
  obtain ⟨w1, hw1⟩ : ∃ w1, ((w.alloc (.cells (chC l).toArray 26)).alloc (.cells (chC []).toArray 26)).alloc (.cells (chC []).toArray 26) = w1 := ⟨_, rfl⟩
  rw [hw1, hb1, hb2, hb0]
  have q0 : w1.heap[b0]? = some (.cells (chC l).toArray 26) := by
    rw [← hw1]; simp only [heap_alloc_get, World.size_alloc, hb0]; repeat (first | rw [if_pos trivial] | rw [if_pos rfl] | rw [if_neg (by omega)])
  have q1 : w1.heap[b1]? = some (.cells (chC []).toArray 26) := by
    rw [← hw1]; simp only [heap_alloc_get, World.size_alloc, hb1]; repeat (first | rw [if_pos trivial] | rw [if_pos rfl] | rw [if_neg (by omega)])
  have q2 : w1.heap[b2]? = some (.cells (chC []).toArray 26) := by
    rw [← hw1]; simp only [heap_alloc_get, World.size_alloc, hb1, hb2]; repeat (first | rw [if_pos trivial] | rw [if_pos rfl] | rw [if_neg (by omega)])
  have hB1 : Below w.heap.size w w1 := by rw [← hw1]; exact (((Below.refl _ w).alloc (Nat.le_refl _) _).alloc (by simp) _).alloc (by simp; omega) _
  have H0 := Lib.hid q0
  have H1 := Lib.hid q1
  have H2 := Lib.hid q2
  have HB1 := Lib.hid hB1
  have HO1 := Lib.hid (show w.heap.size ≤ b1 ∧ b1 ≠ b0 ∧ b2 ≠ b0 ∧ b2 ≠ b1 ∧ w.heap.size ≤ b2 by omega)
  have SA := Lib.hid (by have := (sees_row q0 hl).prefix_ hil; rwa [← List.map_take] at this : Sees w1 (b0 + 1) 1 (some ⟨b0, 0, none⟩) i ((l.take i).map r32))
  clear q0 q1 q2 hB1 hw1 hb0 hb1 hb2 hn
  refine wp_region_held_drew (S := fun _ => True) (by kernel_rfl) trivial (fun hHeld => ?_)
  try dsimp only at hHeld
  refine take_at (i := 0) (v := ?_) (some 17) rfl rfl (by kernel_rfl) (by kernel_rfl) (by kernel_rfl) (fun _ _ _ h => h) hHeld (by rfl) (fun wS hSw => ?_) ?_
  rotate_left
  · try dsimp only at hSw
    go_simp
    try with_reducible rfl
  try simp only [Act.put, List.setIfInBounds_toArray, List.set_cons_zero, List.set_cons_succ]
  refine take_at (i := 1) (v := ?_) (some 18) rfl rfl (by kernel_rfl) (by kernel_rfl) (by kernel_rfl) (fun _ _ _ h => h) hHeld (by rfl) (fun wS hSw => ?_) ?_
  rotate_left
  · try dsimp only at hSw
    go_simp
    try with_reducible rfl
  try simp only [Act.put, List.setIfInBounds_toArray, List.set_cons_zero, List.set_cons_succ]
  refine take_at (i := 2) (v := ?_) (some 19) rfl rfl (by kernel_rfl) (by kernel_rfl) (by kernel_rfl) (fun _ _ _ h => h) hHeld (by rfl) (fun wS hSw => ?_) ?_
  rotate_left
  · try dsimp only at hSw
    go_simp
    try with_reducible rfl
  try simp only [Act.put, List.setIfInBounds_toArray, List.set_cons_zero, List.set_cons_succ]
  refine take_at (i := 3) (v := ?_) (some 20) rfl rfl (by kernel_rfl) (by kernel_rfl) (by kernel_rfl) (fun _ _ _ h => h) hHeld (by rfl) (fun wS hSw => ?_) ?_
  rotate_left
  · try dsimp only at hSw
    go_simp
    try with_reducible rfl
  try simp only [Act.put, List.setIfInBounds_toArray, List.set_cons_zero, List.set_cons_succ]
  refine take_at (i := 4) (v := ?_) (some 21) rfl rfl (by kernel_rfl) (by kernel_rfl) (by kernel_rfl) (fun _ _ _ h => h) hHeld (by rfl) (fun wS hSw => ?_) ?_
  rotate_left
  · try dsimp only at hSw
    go_simp
    try with_reducible rfl
  try simp only [Act.put, List.setIfInBounds_toArray, List.set_cons_zero, List.set_cons_succ]
  refine wpAnyH_ready (rs := [5]) (by kernel_rfl) (by simp) ?_
  refine AllReadyH.cons rfl (fun K hK => ?_) AllReadyH.nil
  simp only [List.getElem_toArray, List.getElem_cons_succ, List.getElem_cons_zero]
  refine of_if (by rfl) ?_
  refine oper_copy (.tmp 18) (.tmp 21) 22 22 rfl 21 Try.underlying22 i32_one _ _ 32 32 i 32 rfl rfl b1 0 (chC []) 26 H1.out ((l.take i).map r32)
    (by rw [List.length_map, List.length_take, Nat.min_eq_left hil]; exact (Nat.min_eq_left hi32).symm) (fun hp => ⟨rfl, copy_src (w := w1.drew) SA.out hp⟩) (by rw [List.length_map, List.length_take, chC_len [] (by decide)]; omega) (r32_one _) ?_
  intro w2 hh2 hb2
  have hl1 : (l.take i).length ≤ 32 := by rw [List.length_take]; omega
  have hc2 : w2.cell? ⟨b1, 32, none⟩ = some (.int .i64 0) := by rw [cell_of_row w2 _ 32 _ _ _ hh2.out]; exact splice_last _ hl1
  have hf2 := frozen_of_row w2 _ 32 _ _ hh2.out
  have HB2 := Lib.hid hb2
  clear hb2
  have hOld := hHeld
  refine hK.out _ _ trivial (fun _ => ?_)
  clear hK K
  refine wpAnyH_mono (S2 := fun _ => True) (fun _ h => h) _ _ _ _ ?_
  clear hHeld
  have hHeld := trivial
  clear hOld
  try simp only [Act.put, List.setIfInBounds_toArray, List.set_cons_zero, List.set_cons_succ]
  refine take_at (i := 6) (v := ?_) (some 23) rfl rfl (by kernel_rfl) (by kernel_rfl) (by kernel_rfl) (fun _ _ _ h => h) hHeld (by rfl) (fun wS hSw => ?_) ?_
  rotate_left
  · try dsimp only at hSw
    go_simp
    try with_reducible rfl
  try simp only [Act.put, List.setIfInBounds_toArray, List.set_cons_zero, List.set_cons_succ]
  refine wpAnyH_ready (rs := [7]) (by kernel_rfl) (by simp) ?_
  refine AllReadyH.cons rfl (fun K hK => ?_) AllReadyH.nil
  simp only [List.getElem_toArray, List.getElem_cons_succ, List.getElem_cons_zero]
  go_simp
  try dsimp only
  have hOld := hHeld
  refine hK.out _ _ trivial (fun _ => ?_)
  clear hK K
  refine wpAnyH_mono (S2 := fun _ => True) (fun _ h => h) _ _ _ _ ?_
  clear hHeld
  have hHeld := trivial
  clear hOld
  try simp only [Act.put, List.setIfInBounds_toArray, List.set_cons_zero, List.set_cons_succ]
  refine wpAnyH_done (by kernel_rfl) ?_ _
  obtain ⟨w3, hw3⟩ : ∃ w3, w2.setCell ⟨b1, 32, none⟩ (.int .i64 (i : Int)) = w3 := ⟨_, rfl⟩
  have hz : (l.take i).length = i := by rw [List.length_take]; omega
  have G1 := Lib.hid (show w3.heap[b1]? = some (.cells (chC (l.take i)).toArray 26) by
    have := heap_setCell_same w2 b1 32 _ _ (.int .i64 ((l.take i).length : Int)) hh2.out
    rw [ch_copy _ hl1, hz] at this
    rw [← hw3]; exact this)
  have G0 := Lib.hid (show w3.heap[b0]? = some (.cells (chC l).toArray 26) by
    rw [← hw3, heap_setCell_other _ _ _ _ (by have := HO1.out; show b0 ≠ b1; omega)]
    exact (HB2.out.1.block b0 (Array.getElem?_eq_some_iff.1 H0.out).1 (by have := HO1.out; show ¬ b0 = b1; omega)).trans H0.out)
  have G2 := Lib.hid (show w3.heap[b2]? = some (.cells (chC []).toArray 26) by
    rw [← hw3, heap_setCell_other _ _ _ _ (by have := HO1.out; show b2 ≠ b1; omega)]
    exact (HB2.out.1.block b2 (Array.getElem?_eq_some_iff.1 H2.out).1 (by have := HO1.out; show ¬ b2 = b1; omega)).trans H2.out)
  have HB3 := Lib.hid (show Below w.heap.size w w3 by
    rw [← hw3]
    exact (HB1.out.drew.trans (HB2.out.1.below (B := w.heap.size) HB1.out.size (fun k hk => by have := HO1.out; have hk : k = b1 := hk; omega))).setCell (p := ⟨b1, 32, none⟩) HO1.out.1 _)
  have hn3 : w3.drew.cell? ⟨b0, 32, none⟩ = some (.int .i64 (l.length : Int)) := by
    show w3.cell? _ = _
    rw [cell_of_row w3 b0 32 _ _ _ G0.out]
    simpa using chC_n l hl
  have SB := Lib.hid (by have := (sees_row G0.out hl).cut (k := i) (cap := 32) hil hl; rwa [← List.map_drop] at this : Sees w3 (b0 + 1) 1 (if 32 = i then some ⟨b0, 0, none⟩ else (some (⟨b0, 0, none⟩ : Addr)).map (·.add i)) (l.length - i) ((l.drop i).map r32))
  obtain ⟨AB, hAB⟩ : ∃ AB, (if 32 = i then (⟨b0, 0, none⟩ : Addr) else ⟨b0, i, none⟩) = AB := ⟨_, rfl⟩
  have SB := Lib.hid (show Sees w3 (b0 + 1) 1 (some AB) (l.length - i) ((l.drop i).map r32) by
    have := SB.out
    rw [show (if 32 = i then some (⟨b0, 0, none⟩ : Addr) else (some (⟨b0, 0, none⟩ : Addr)).map (·.add i)) = some AB by rw [← hAB]; split <;> simp [Addr.add_lit]] at this
    exact this)
  rw [hw3]
  clear hc2 hf2 hh2 hw3 hHeld
  go_wp2_with fail
  refine wp_region_held_drew (S := fun w' => w'.cell? ⟨b0, 32, none⟩ = some (.int .i64 l.length)) (by kernel_rfl) hn3 (fun hHeld => ?_)
  try dsimp only at hHeld
  refine take_at (i := 0) (v := ?_) (some 24) rfl rfl (by kernel_rfl) (by kernel_rfl) (by kernel_rfl) (fun _ _ _ h => h) hHeld (by rfl) (fun wS hSw => ?_) ?_
  rotate_left
  · try dsimp only at hSw
    go_simp
    try with_reducible rfl
  try simp only [Act.put, List.setIfInBounds_toArray, List.set_cons_zero, List.set_cons_succ]
  refine take_at (i := 1) (v := ?_) (some 25) rfl rfl (by kernel_rfl) (by kernel_rfl) (by kernel_rfl) (fun _ _ _ h => h) hHeld (by rfl) (fun wS hSw => ?_) ?_
  rotate_left
  · try dsimp only at hSw
    go_simp
    try with_reducible rfl
  try simp only [Act.put, List.setIfInBounds_toArray, List.set_cons_zero, List.set_cons_succ]
  refine take_at (i := 2) (v := ?_) (some 26) rfl rfl (by kernel_rfl) (by kernel_rfl) (by kernel_rfl) (fun _ _ _ h => h) hHeld (by rfl) (fun wS hSw => ?_) ?_
  rotate_left
  · try dsimp only at hSw
    go_simp
    try with_reducible rfl
  try simp only [Act.put, List.setIfInBounds_toArray, List.set_cons_zero, List.set_cons_succ]
  refine take_at (i := 3) (v := ?_) (some 27) rfl rfl (by kernel_rfl) (by kernel_rfl) (by kernel_rfl) (fun _ _ _ h => h) hHeld (by rfl) (fun wS hSw => ?_) ?_
  rotate_left
  · try dsimp only at hSw
    go_simp
    try with_reducible rfl
  try simp only [Act.put, List.setIfInBounds_toArray, List.set_cons_zero, List.set_cons_succ]
  refine take_at (i := 4) (v := ?_) (some 28) rfl rfl (by kernel_rfl) (by kernel_rfl) (by kernel_rfl) (fun _ _ _ h => h) hHeld (by rfl) (fun wS hSw => ?_) ?_
  rotate_left
  · try dsimp only at hSw
    go_simp
    try with_reducible rfl
  try simp only [Act.put, List.setIfInBounds_toArray, List.set_cons_zero, List.set_cons_succ]
  refine take_at (i := 5) (v := ?_) (some 29) rfl rfl (by kernel_rfl) (by kernel_rfl) (by kernel_rfl) (fun _ _ _ h => h) hHeld (by rfl) (fun wS hSw => ?_) ?_
  rotate_left
  · try dsimp only at hSw
    go_simp
    try with_reducible rfl
  try simp only [Act.put, List.setIfInBounds_toArray, List.set_cons_zero, List.set_cons_succ]
  refine take_at (i := 6) (v := ?_) (some 30) rfl rfl (by kernel_rfl) (by kernel_rfl) (by kernel_rfl) (fun _ _ _ h => h) hHeld (by rfl) (fun wS hSw => ?_) ?_
  rotate_left
  · try dsimp only at hSw
    go_simp
    try with_reducible rfl
  try simp only [Act.put, List.setIfInBounds_toArray, List.set_cons_zero, List.set_cons_succ]
  refine wpAnyH_ready (rs := [7]) (by kernel_rfl) (by simp) ?_
  refine AllReadyH.cons rfl (fun K hK => ?_) AllReadyH.nil
  simp only [List.getElem_toArray, List.getElem_cons_succ, List.getElem_cons_zero]
  refine of_if (by rfl) ?_
  refine oper_copy (.tmp 25) (.tmp 30) 22 22 rfl 21 Try.underlying22 i32_one _ _ 32 32 (l.length - i) (32 - i) rfl rfl b2 0 (chC []) 26 G2.out ((l.drop i).map r32)
    (by rw [List.length_map, List.length_drop]; exact (Nat.min_eq_left (by omega)).symm) (fun hp => ⟨rfl, copy_src (w := w3.drew) SB.out hp⟩) (by rw [List.length_map, List.length_drop, chC_len [] (by decide)]; omega) (r32_one _) ?_
  intro w4 hh4 hb4
  have hl2 : (l.drop i).length ≤ 32 := by rw [List.length_drop]; omega
  have hc4 : w4.cell? ⟨b2, 32, none⟩ = some (.int .i64 0) := by rw [cell_of_row w4 _ 32 _ _ _ hh4.out]; exact splice_last _ hl2
  have hf4 := frozen_of_row w4 _ 32 _ _ hh4.out
  have HB4 := Lib.hid hb4
  have hn4 : w4.cell? ⟨b0, 32, none⟩ = some (.int .i64 l.length) := (World.cell?_of_block (w := w3.drew) (a := ⟨b0, 32, none⟩) (hb4.1.block b0 (Array.getElem?_eq_some_iff.1 G0.out).1 (by have := HO1.out; show b0 ≠ b2; omega))).trans hn3
  have hcn : ∀ u, (w4.setCell ⟨b2, 32, none⟩ u).cell? ⟨b0, 32, none⟩ = some (.int .i64 l.length) := fun u => (World.cell?_setCell_other _ _ _ _ (by intro e; injection e with e1; have := HO1.out; omega)).trans hn4
  clear hb4
  have hOld := hHeld
  refine hK.out _ _ hn4 (fun _ => ?_)
  clear hK K
  refine wpAnyH_mono (S2 := fun w' => w'.cell? ⟨b0, 32, none⟩ = some (.int .i64 l.length)) (fun _ h => h) _ _ _ _ ?_
  clear hHeld
  have hHeld := hn4
  clear hOld
  try simp only [Act.put, List.setIfInBounds_toArray, List.set_cons_zero, List.set_cons_succ]
  refine take_at (i := 8) (v := ?_) (some 32) rfl rfl (by kernel_rfl) (by kernel_rfl) (by kernel_rfl) (fun _ _ _ h => h) hHeld (by rfl) (fun wS hSw => ?_) ?_
  rotate_left
  · try dsimp only at hSw
    go_simp
    try with_reducible rfl
  try simp only [Act.put, List.setIfInBounds_toArray, List.set_cons_zero, List.set_cons_succ]
  refine wpAnyH_ready (rs := [9]) (by kernel_rfl) (by simp) ?_
  refine AllReadyH.cons rfl (fun K hK => ?_) AllReadyH.nil
  simp only [List.getElem_toArray, List.getElem_cons_succ, List.getElem_cons_zero]
  go_simp
  try dsimp only
  have hOld := hHeld
  refine hK.out _ _ (hcn _) (fun _ => ?_)
  clear hK K
  refine wpAnyH_mono (S2 := fun w' => w'.cell? ⟨b0, 32, none⟩ = some (.int .i64 l.length)) (fun _ h => h) _ _ _ _ ?_
  clear hHeld
  have hHeld := hOld
  clear hOld
  try simp only [Act.put, List.setIfInBounds_toArray, List.set_cons_zero, List.set_cons_succ]
  refine wpAnyH_done (by kernel_rfl) ?_ _
  obtain ⟨w5, hw5⟩ : ∃ w5, w4.setCell ⟨b2, 32, none⟩ (.int .i64 ((l.length - i : Nat) : Int)) = w5 := ⟨_, rfl⟩
  have hz2 : (l.drop i).length = l.length - i := List.length_drop
  have F2 := Lib.hid (show w5.heap[b2]? = some (.cells (chC (l.drop i)).toArray 26) by
    have := heap_setCell_same w4 b2 32 _ _ (.int .i64 ((l.drop i).length : Int)) hh4.out
    rw [ch_copy _ hl2, hz2] at this
    rw [← hw5]; exact this)
  have F1 := Lib.hid (show w5.heap[b1]? = some (.cells (chC (l.take i)).toArray 26) by
    rw [← hw5, heap_setCell_other _ _ _ _ (by have := HO1.out; show b1 ≠ b2; omega)]
    exact (HB4.out.1.block b1 (Array.getElem?_eq_some_iff.1 G1.out).1 (by have := HO1.out; show ¬ b1 = b2; omega)).trans G1.out)
  have HB5 := Lib.hid (show Below w.heap.size w w5 by
    rw [← hw5]
    exact (HB3.out.drew.trans (HB4.out.1.below (B := w.heap.size) HB3.out.size (fun k hk => by have := HO1.out; have hk : k = b2 := hk; omega))).setCell (p := ⟨b2, 32, none⟩) HO1.out.2.2.2.2 _)
  have F3 := Lib.hid (show (w5.setRow b1 (chC (l.take i)).toArray).heap[b2]? = some (.cells (chC (l.drop i)).toArray 26) by
    rw [setRow_other _ _ _ _ (by have := HO1.out; omega)]; exact F2.out)
  have F4 := Lib.hid (show ((w5.setRow b1 (chC (l.take i)).toArray).setRow b2 (chC (l.drop i)).toArray).heap[b1]? = some (.cells (chC (l.take i)).toArray 26) by
    rw [setRow_other _ _ _ _ (by have := HO1.out; omega)]; exact setRow_heap _ _ _ _ _ _ F1.out)
  have F5 := Lib.hid (show ((w5.setRow b1 (chC (l.take i)).toArray).setRow b2 (chC (l.drop i)).toArray).heap[b2]? = some (.cells (chC (l.drop i)).toArray 26) from setRow_heap _ _ _ _ _ _ F3.out)
  have HB7 := Lib.hid (show Below w.heap.size w ((w5.setRow b1 (chC (l.take i)).toArray).setRow b2 (chC (l.drop i)).toArray) from below_setRow (below_setRow HB5.out HO1.out.1 _) HO1.out.2.2.2.2 _)
  rw [hw5]
  clear hc4 hf4 hh4 hw5 hHeld hn3 hn4 hcn hz hz2
  go_wp2_with (first
    | (refine wpList_load_row rfl 26 (.tmp 4) rfl b1 rfl 26 (chC (l.take i)).toArray (0, 0) _ F1.out Try.underlying26 rfl (ch_info _ hl1) ?_)
    | (refine wpList_load_row rfl 26 (.tmp 5) rfl b2 rfl 26 (chC (l.drop i)).toArray (0, 0) _ F2.out Try.underlying26 rfl (ch_info _ hl2) ?_)
    | (refine wpList_store_row rfl 26 (.tmp 4) (.tmp 33) rfl b1 (chC (l.take i)).toArray rfl rfl 26 (chC (l.take i)).toArray F1.out (ch_info _ hl1) rfl (all_one _) ?_)
    | (refine wpList_store_row rfl 26 (.tmp 5) (.tmp 34) rfl b2 (chC (l.drop i)).toArray rfl rfl 26 (chC (l.drop i)).toArray F3.out (ch_info _ hl2) rfl (all_one _) ?_))
  exact bodyPost_ret (v := .tuple #[.agg (chC (l.take i)).toArray, .agg (chC (l.drop i)).toArray, .int .i64 0]) (results_cct rfl _ _ b1 b2 _ _ _ _ _ _ _ _ rfl rfl rfl F4.out F5.out Try.underlying26 rfl (ch_info _ hl1) (ch_info _ hl2)) rfl ⟨rfl, HB7.out⟩

end Go.Proofs.Ytcdpbkhlkgefdaa
