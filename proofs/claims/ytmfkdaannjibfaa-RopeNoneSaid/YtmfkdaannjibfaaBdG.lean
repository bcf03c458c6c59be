/-
  Several texts in one: RoR.
-/
import Derived.Test.YtmfkdaannjibfaaBdF

namespace Go.Proofs.Ytmfkdaannjibfaa
open Go.RowKit

theorem nodes_le {s : List (Option Nd)} {T : Tr} (hn : (ids T.nodes).Nodup) (h : Holds s T) : T.nodes.length ≤ s.length := by
  have h1 : ∀ i ∈ ids T.nodes, i ∈ List.range s.length := fun i hi => by
    obtain ⟨n, hn⟩ := h.taken i hi
    exact List.mem_range.2 (gt_lt hn)
  have := hn.length_le_of_subset h1
  simpa [ids] using this

set_option maxRecDepth 100000 in
set_option maxHeartbeats 4000000 in
theorem split_left {w : World} {F : Nat → Prop} {gT gA : Nat} {root : Int} {s : List (Option Nd)} {fr : List Nat} (h : TreeW w F gT gA root s fr) {k p : Nat} {u : Th} {L R : Tr} (hT : Holds s (.nd k u L R)) (ho : OkL (Tr.nd k u L R).nodes) (hp : gt s p = none) (hlen : s.length < 90000) (a : Int) (hA : -1000000000000 ≤ a) (hA2 : a ≤ 1000000000000) (ha : a ≤ L.z)
    (ih : ∀ (w : World), TreeW w F gT gA root s fr → ∀ (a : Int), -1000000000000 ≤ a → a ≤ 1000000000000 → Calls Try.prog 54 #[.pointer (some ⟨gT, 0, none⟩), .int .i64 L.rt, .int .i64 a] w fun e w' => ∃ v, e = .returned v ∧ PostS w F gT gA root s p L.nodes a v w') :
    Calls Try.prog 54 #[.pointer (some ⟨gT, 0, none⟩), .int .i64 k, .int .i64 a] w fun e w' => ∃ v, e = .returned v ∧ PostS w F gT gA root s p (Tr.nd k u L R).nodes a v w' := by
  have hLs := Tr.sm (T := L) ho.left
  have hz := hLs.2.1
  have hzt : Sm (sizeT u) := by
    have h3 := sizeT_ok (ho.ok (k, u) (by simp [Tr.nodes]))
    have h5 := ho.sum
    have h6 := sumZ_nonneg ho.left.ok
    have h7 := sumZ_nonneg (L := R.nodes) (ho.right.tail.ok)
    have e : sumZ (Tr.nd k u L R).nodes = sumZ L.nodes + (sizeT u + sumZ R.nodes) := by rw [Tr.nodes, sumZ_append, sumZ]
    dsimp only at h3
    exact ⟨h3, by omega⟩
  have HTk := Lib.hid hT.taken
  have HLz := Lib.hid (Tr.z_eq L)
  have HAt := Lib.hid (at_any h hT.1)
  have HTa := Lib.hid (fun (w1 : World) (hb : Below w.heap.size w w1) => totals_any (h.below hb) hT.2.1.okR)
  rw [hT.2.1.tot.2.1] at HTa
  have HM := Lib.hid (fun w1 => measure_any u w1)
  obtain ⟨zl, hzl⟩ : ∃ x, L.z = x := ⟨_, rfl⟩
  obtain ⟨zt, hzt'⟩ : ∃ x, sizeT u = x := ⟨_, rfl⟩
  rw [hzl] at HTa
  rw [hzt'] at HM
  rw [hzl] at hz
  rw [hzt'] at hzt
  obtain ⟨z1, z2⟩ := hz
  obtain ⟨z3, z4⟩ := hzt
  obtain ⟨n, hn⟩ : ∃ x, topN u L R = x := ⟨_, rfl⟩
  have hnl : n.l = L.rt := by rw [← hn]; rfl
  have hnr : n.r = R.rt := by rw [← hn]; rfl
  have HX := Lib.hid (show n.x = encT u by rw [← hn]; rfl)
  rw [hn] at HAt
  unfold Nd.V at HAt
  have HW := Lib.hid (fun (w1 : World) (hb : Below w.heap.size w w1) => h.below hb)
  have HFL := Lib.hid h.ar.lt
  have HT := Lib.hid hT
  have HP := Lib.hid (And.intro hp hlen)
  have HZ := Lib.hid (And.intro hzl hzt')
  have HOW := Lib.hid (And.intro ho (splitL_ok p (Tr.nd k u L R).nodes a ho (fun e => by obtain ⟨n, hn⟩ := hT.taken p e; rw [hp] at hn; cases hn) (by
    have h1 := (ids (Tr.nd k u L R).nodes)
    have h2 := nodes_le ho.nodup hT
    omega)))
  have hk1 : ((k : Int) == -1) = false := by simp
  have g1 : IntKind.i64.wrap (zl + zt) = zl + zt := IntWalk.i64_in _ (by omega)
  have ha1 : a ≤ zl := by rw [← hzl]; exact ha
  clear ha
  clear h hT ho hLs hn hzl hzt' hp hlen
  go_enter Try.func54, Try.ntmps54
  go_wp2_with fail
  refine HAt.out.mono ?_
  rintro e w1 ⟨rfl, hb1⟩
  obtain ⟨b, hb⟩ : ∃ b, w1.heap.size = b := ⟨_, rfl⟩
  obtain ⟨w2, hw2⟩ : ∃ v, w1.alloc (.cells n.C.toArray 103) = v := ⟨_, rfl⟩
  have N2 := Lib.hid (show NdAt w2 b n by rw [← hw2, ← hb]; exact NdAt.new w1 n)
  have K2 := Lib.hid (show Below w.heap.size w w2 by rw [← hw2]; exact hb1.alloc hb1.size _)
  have HE := Lib.hid (And.intro hw2 hb)
  have HBL := Lib.hid (show w.heap.size ≤ b by have := hb1.size; omega)
  have hc := N2.out.cL
  rw [hnl] at hc
  clear hb1 hw2 hb HAt
  go_wp2_with (refine wpList_store_row rfl 103 (.tmp 8) (.tmp 22) rfl w1.heap.size n.C.toArray rfl rfl 103 _ (heap_alloc_new w1 _) (nd_info n) (by simp [Nd.C_len]) (all_oneCell_toArray n.C_one) ?_; rw [alloc_setRow, HE.out.1, HE.out.2])
  clear hc
  refine (HTa.out w2 K2.out).mono ?_
  rintro e w3 ⟨rfl, hb3⟩
  have K3 := Lib.hid (K2.out.trans (hb3.mono K2.out.size))
  have N3 := Lib.hid (N2.out.below hb3)
  clear hb3 HTa
  go_wp2_with fail
  refine wp_region_held_drew (S := fun w' => w'.cell? ⟨gT, 0, none⟩ = some (.func (.func 46) #[] #[]) ∧ NdAt w' b n) (by kernel_rfl) ⟨(HW.out w3 K3.out).cM, ⟨N3.out.blk⟩⟩ (fun hHeld => ?_)
  try dsimp only at hHeld
  refine take_at (i := 0) (v := ?_) (some 32) rfl rfl (by kernel_rfl) (by kernel_rfl) (by kernel_rfl) (fun _ _ _ h => h) hHeld (by rfl) (fun wS hSw => ?_) ?_
  rotate_left
  · try dsimp only at hSw
    go_simp
    try with_reducible rfl
  try simp only [Act.put, List.setIfInBounds_toArray, List.set_cons_zero, List.set_cons_succ]
  refine take_at (i := 1) (v := ?_) (some 33) rfl rfl (by kernel_rfl) (by kernel_rfl) (by kernel_rfl) (fun _ _ _ h => h) hHeld (by rfl) (fun wS hSw => ?_) ?_
  rotate_left
  · try dsimp only at hSw
    go_simp
    try with_reducible rfl
  try simp only [Act.put, List.setIfInBounds_toArray, List.set_cons_zero, List.set_cons_succ]
  refine take_at (i := 2) (v := ?_) (some 34) rfl rfl (by kernel_rfl) (by kernel_rfl) (by kernel_rfl) (fun _ _ _ h => h) hHeld (by rfl) (fun wS hSw => ?_) ?_
  rotate_left
  · try dsimp only at hSw
    go_simp
    try with_reducible rfl
  try simp only [Act.put, List.setIfInBounds_toArray, List.set_cons_zero, List.set_cons_succ]
  refine take_at (i := 3) (v := ?_) (some 35) rfl rfl (by kernel_rfl) (by kernel_rfl) (by kernel_rfl) (fun _ _ _ h => h) hHeld (by rfl) (fun wS hSw => ?_) ?_
  rotate_left
  · try dsimp only at hSw
    go_simp
    try with_reducible rfl
  try simp only [Act.put, List.setIfInBounds_toArray, List.set_cons_zero, List.set_cons_succ]
  refine take_at (i := 4) (v := ?_) (some 36) rfl rfl (by kernel_rfl) (by kernel_rfl) (by kernel_rfl) (fun _ _ _ h => h) hHeld (by rfl) (fun wS hSw => ?_) ?_
  rotate_left
  · have hS1 := hSw.1
    try dsimp only at hSw
    go_simp
    try with_reducible rfl
  try simp only [Act.put, List.setIfInBounds_toArray, List.set_cons_zero, List.set_cons_succ]
  refine take_at (i := 5) (v := ?_) (some 37) rfl rfl (by kernel_rfl) (by kernel_rfl) (by kernel_rfl) (fun _ _ _ h => h) hHeld (by rfl) (fun wS hSw => ?_) ?_
  rotate_left
  · try dsimp only at hSw
    go_simp
    try with_reducible rfl
  try simp only [Act.put, List.setIfInBounds_toArray, List.set_cons_zero, List.set_cons_succ]
  refine take_at (i := 6) (v := ?_) (some 38) rfl rfl (by kernel_rfl) (by kernel_rfl) (by kernel_rfl) (fun _ _ _ h => h) hHeld (by rfl) (fun wS hSw => ?_) ?_
  rotate_left
  · refine exec_load_mid 58 (.tmp 37) ?_ b 0 ?_ (encT u) _ (HX.out ▸ hSw.2.x) Try.underlying58 rfl (thing_info u) <;> rfl
  try simp only [Act.put, List.setIfInBounds_toArray, List.set_cons_zero, List.set_cons_succ]
  refine wpAnyH_ready (rs := [7]) (by kernel_rfl) (by simp) ?_
  refine AllReadyH.cons rfl (fun K hK => ?_) AllReadyH.nil
  simp only [List.getElem_toArray, List.getElem_cons_succ, List.getElem_cons_zero]
  go_simp
  refine (HM.out _).mono ?_
  rintro e w4 ⟨rfl, hb4⟩
  have hH4 : w4.cell? ⟨gT, 0, none⟩ = some (.func (.func 46) #[] #[]) ∧ NdAt w4 b n := ⟨cell_later hHeld.1 hb4, hHeld.2.below hb4⟩
  have K4 := Lib.hid (K3.out.drew.trans (hb4.mono K3.out.size))
  clear hb4
  try dsimp only
  have hOld := hHeld
  refine hK.out _ _ hH4 (fun _ => ?_)
  clear hK K
  refine wpAnyH_mono (S2 := fun w' => w'.cell? ⟨gT, 0, none⟩ = some (.func (.func 46) #[] #[]) ∧ NdAt w' b n) (fun _ h => h) _ _ _ _ ?_
  clear hHeld
  have hHeld := hH4
  clear hOld
  try simp only [Act.put, List.setIfInBounds_toArray, List.set_cons_zero, List.set_cons_succ]
  refine take_at (i := 8) (v := ?_) (some 31) rfl rfl (by kernel_rfl) (by kernel_rfl) (by kernel_rfl) (fun _ _ _ h => h) hHeld (by rfl) (fun wS hSw => ?_) ?_
  rotate_left
  · try dsimp only at hSw
    go_simp
    try with_reducible rfl
  try simp only [Act.put, List.setIfInBounds_toArray, List.set_cons_zero, List.set_cons_succ]
  refine take_at (i := 9) (v := ?_) (some 40) rfl rfl (by kernel_rfl) (by kernel_rfl) (by kernel_rfl) (fun _ _ _ h => h) hHeld (by rfl) (fun wS hSw => ?_) ?_
  rotate_left
  · try dsimp only at hSw
    go_simp
    try with_reducible rfl
  try simp only [Act.put, List.setIfInBounds_toArray, List.set_cons_zero, List.set_cons_succ]
  refine take_at (i := 10) (v := ?_) (some 41) rfl rfl (by kernel_rfl) (by kernel_rfl) (by kernel_rfl) (fun _ _ _ h => h) hHeld (by rfl) (fun wS hSw => ?_) ?_
  rotate_left
  · try dsimp only at hSw
    go_simp
    try with_reducible rfl
  try simp only [Act.put, List.setIfInBounds_toArray, List.set_cons_zero, List.set_cons_succ]
  refine take_at (i := 11) (v := ?_) (some 12) rfl rfl (by kernel_rfl) (by kernel_rfl) (by kernel_rfl) (fun _ _ _ h => h) hHeld (by rfl) (fun wS hSw => ?_) ?_
  rotate_left
  · try dsimp only at hSw
    go_simp
    try with_reducible rfl
  try simp only [Act.put, List.setIfInBounds_toArray, List.set_cons_zero, List.set_cons_succ]
  refine take_at (i := 12) (v := ?_) (some 13) rfl rfl (by kernel_rfl) (by kernel_rfl) (by kernel_rfl) (fun _ _ _ h => h) hHeld (by rfl) (fun wS hSw => ?_) ?_
  rotate_left
  · try dsimp only at hSw
    go_simp
    try with_reducible rfl
  try simp only [Act.put, List.setIfInBounds_toArray, List.set_cons_zero, List.set_cons_succ]
  refine wpAnyH_done (by kernel_rfl) ?_ _
  have N4 := Lib.hid hH4.2
  clear hHeld hH4 HM
  have hc := N4.out.cL
  rw [hnl] at hc
  have HI := Lib.hid (ih w4 (HW.out w4 K4.out) a hA hA2)
  clear ih
  go_wp2_with fail
  clear hc
  refine HI.out.mono ?_
  rintro e w5 ⟨v5, rfl, F5, fr5, s5, A, B, rfl, hT5, hA5, hB5, hnA, hnB, hk5, hl5, hg5⟩
  have hk5s : ∀ j, j ∉ ids L.nodes → j ∉ ids (A.nodes ++ B.nodes) → gt s5 j = gt s j := by rw [hnA, hnB]; exact hk5
  replace hk5 : ∀ j, j ∉ ids L.nodes → j ≠ p → gt s5 j = gt s j := fun j h1 h2 => hk5 j h1 (fun e => (splitL_ids e).elim h1 h2)
  have hspl := splitL_left p k u R.nodes L.nodes a HOW.out.1.left.ok (by rw [← HLz.out, HZ.out.1]; exact ha1)
  have hwh : (splitL (Tr.nd k u L R).nodes a p).1 = A.nodes ∧ (splitL (Tr.nd k u L R).nodes a p).2 = (Tr.nd k u B R).nodes := by
    rw [hnA, Tr.nodes, Tr.nodes, hnB]; exact ⟨by rw [hspl], by rw [hspl]⟩
  have hokw := HOW.out.2.1
  rw [hwh.1, hwh.2] at hokw
  have hap := OkL.apart (A := L.nodes) (B := (k, u) :: R.nodes) HOW.out.1
  have hkL : k ∉ ids L.nodes := fun e => hap k e (by simp [ids])
  have hkp : ∀ j n, gt s j = some n → j ≠ p := fun j n hj e => by rw [e, HP.out.1] at hj; cases hj
  have hk5' : gt s5 k = some (topN u L R) := (hk5 k hkL (hkp k _ HT.out.1)).trans HT.out.1
  have hR5 : Holds s5 R := HT.out.2.2.keep fun j hj => by
    obtain ⟨m, hm⟩ := HT.out.2.2.taken j hj
    exact hk5 j (fun e => hap j e (by rw [ids, List.map_cons]; exact List.mem_cons.2 (.inr hj))) (hkp j m hm)
  have HJ := Lib.hid (join_any (l0 := L.rt) (r0 := R.rt) _ B R (Nat.le_refl _) w5 s5 hT5 hk5' hB5 hR5 hokw.right)
  have N5 := N4.out.step hg5.step (fun hF => by have := HFL.out _ hF; have := HBL.out; omega)
  have hc := N5.cR
  rw [hnr] at hc
  have H5 := Lib.hid (And.intro hA5 (And.intro hk5s (And.intro hl5 (And.intro hwh (And.intro hokw ((Grow.of_below K4.out).trans hg5))))))
  clear hT5 hA5 hB5 hnA hnB hk5 hk5s hl5 hg5 hspl hwh hokw hap hkL hkp hk5' hR5 HI N5
  go_wp2_with fail
  clear hc
  refine HJ.out.mono ?_
  rintro e w6 ⟨v6, rfl, T6, s6, rfl, hT6, hH6, hn6, hk6, hl6, hg6⟩
  have HPS := Lib.hid (show PostS w F gT gA root s p (Tr.nd k u L R).nodes a (.tuple #[.int .i64 A.rt, .int .i64 T6.rt]) w6 from by
    have hokw := H5.out.2.2.2.2.1
    refine ⟨F5, fr5, s6, A, T6, rfl, hT6, H5.out.1.keep fun j hj => hk6 j (fun e => hokw.apart j hj e), hH6, H5.out.2.2.2.1.1.symm, hn6.trans H5.out.2.2.2.1.2.symm, fun j hj hjp => ?_, by rw [hl6]; exact H5.out.2.2.1, H5.out.2.2.2.2.2.trans hg6⟩
    rw [H5.out.2.2.2.1.1, H5.out.2.2.2.1.2, ids_append, List.mem_append] at hjp
    have h1 : j ∉ ids (Tr.nd k u B R).nodes := fun e => hjp (.inr e)
    rw [hk6 j h1]
    refine H5.out.2.1 j (fun e => hj (by rw [Tr.nodes, ids_append]; exact List.mem_append.2 (.inl e))) (fun e => ?_)
    rw [ids_append, List.mem_append] at e
    rcases e with e | e
    · exact hjp (.inl e)
    · exact h1 (by rw [Tr.nodes, ids_append]; exact List.mem_append.2 (.inl e)))
  clear hT6 hH6 hn6 hk6 hl6 hg6
  go_wp2_with fail
  go_ret2
  exact ⟨_, rfl, HPS.out⟩

set_option maxRecDepth 100000 in
set_option maxHeartbeats 4000000 in
theorem split_right {w : World} {F : Nat → Prop} {gT gA : Nat} {root : Int} {s : List (Option Nd)} {fr : List Nat} (h : TreeW w F gT gA root s fr) {k p : Nat} {u : Th} {L R : Tr} (hT : Holds s (.nd k u L R)) (ho : OkL (Tr.nd k u L R).nodes) (hp : gt s p = none) (hlen : s.length < 90000) (a : Int) (hA : -1000000000000 ≤ a) (hA2 : a ≤ 1000000000000) (ha : L.z < a) (hb : L.z + sizeT u ≤ a)
    (ih : ∀ (w : World), TreeW w F gT gA root s fr → ∀ (a : Int), -1000000000000 ≤ a → a ≤ 1000000000000 → Calls Try.prog 54 #[.pointer (some ⟨gT, 0, none⟩), .int .i64 R.rt, .int .i64 a] w fun e w' => ∃ v, e = .returned v ∧ PostS w F gT gA root s p R.nodes a v w') :
    Calls Try.prog 54 #[.pointer (some ⟨gT, 0, none⟩), .int .i64 k, .int .i64 a] w fun e w' => ∃ v, e = .returned v ∧ PostS w F gT gA root s p (Tr.nd k u L R).nodes a v w' := by
  have hLs := Tr.sm (T := L) ho.left
  have hz := hLs.2.1
  have hzt : Sm (sizeT u) := by
    have h3 := sizeT_ok (ho.ok (k, u) (by simp [Tr.nodes]))
    have h5 := ho.sum
    have h6 := sumZ_nonneg ho.left.ok
    have h7 := sumZ_nonneg (L := R.nodes) (ho.right.tail.ok)
    have e : sumZ (Tr.nd k u L R).nodes = sumZ L.nodes + (sizeT u + sumZ R.nodes) := by rw [Tr.nodes, sumZ_append, sumZ]
    dsimp only at h3
    exact ⟨h3, by omega⟩
  have HTk := Lib.hid hT.taken
  have HLz := Lib.hid (Tr.z_eq L)
  have HAt := Lib.hid (at_any h hT.1)
  have HTa := Lib.hid (fun (w1 : World) (hb : Below w.heap.size w w1) => totals_any (h.below hb) hT.2.1.okR)
  rw [hT.2.1.tot.2.1] at HTa
  have HM := Lib.hid (fun w1 => measure_any u w1)
  obtain ⟨zl, hzl⟩ : ∃ x, L.z = x := ⟨_, rfl⟩
  obtain ⟨zt, hzt'⟩ : ∃ x, sizeT u = x := ⟨_, rfl⟩
  rw [hzl] at HTa
  rw [hzt'] at HM
  rw [hzl] at hz
  rw [hzt'] at hzt
  obtain ⟨z1, z2⟩ := hz
  obtain ⟨z3, z4⟩ := hzt
  obtain ⟨n, hn⟩ : ∃ x, topN u L R = x := ⟨_, rfl⟩
  have hnl : n.l = L.rt := by rw [← hn]; rfl
  have hnr : n.r = R.rt := by rw [← hn]; rfl
  have HX := Lib.hid (show n.x = encT u by rw [← hn]; rfl)
  rw [hn] at HAt
  unfold Nd.V at HAt
  have HW := Lib.hid (fun (w1 : World) (hb : Below w.heap.size w w1) => h.below hb)
  have HFL := Lib.hid h.ar.lt
  have HT := Lib.hid hT
  have HP := Lib.hid (And.intro hp hlen)
  have HZ := Lib.hid (And.intro hzl hzt')
  have HOW := Lib.hid (And.intro ho (splitL_ok p (Tr.nd k u L R).nodes a ho (fun e => by obtain ⟨n, hn⟩ := hT.taken p e; rw [hp] at hn; cases hn) (by
    have h1 := (ids (Tr.nd k u L R).nodes)
    have h2 := nodes_le ho.nodup hT
    omega)))
  have hk1 : ((k : Int) == -1) = false := by simp
  have g1 : IntKind.i64.wrap (zl + zt) = zl + zt := IntWalk.i64_in _ (by omega)
  have ha1 : ¬ a ≤ zl := by omega
  have ha2 : zl + zt ≤ a := by omega
  clear ha hb
  clear h hT ho hLs hn hzl hzt' hp hlen
  go_enter Try.func54, Try.ntmps54
  go_wp2_with fail
  refine HAt.out.mono ?_
  rintro e w1 ⟨rfl, hb1⟩
  obtain ⟨b, hb⟩ : ∃ b, w1.heap.size = b := ⟨_, rfl⟩
  obtain ⟨w2, hw2⟩ : ∃ v, w1.alloc (.cells n.C.toArray 103) = v := ⟨_, rfl⟩
  have N2 := Lib.hid (show NdAt w2 b n by rw [← hw2, ← hb]; exact NdAt.new w1 n)
  have K2 := Lib.hid (show Below w.heap.size w w2 by rw [← hw2]; exact hb1.alloc hb1.size _)
  have HE := Lib.hid (And.intro hw2 hb)
  have HBL := Lib.hid (show w.heap.size ≤ b by have := hb1.size; omega)
  have hc := N2.out.cL
  rw [hnl] at hc
  clear hb1 hw2 hb HAt
  go_wp2_with (refine wpList_store_row rfl 103 (.tmp 8) (.tmp 22) rfl w1.heap.size n.C.toArray rfl rfl 103 _ (heap_alloc_new w1 _) (nd_info n) (by simp [Nd.C_len]) (all_oneCell_toArray n.C_one) ?_; rw [alloc_setRow, HE.out.1, HE.out.2])
  clear hc
  refine (HTa.out w2 K2.out).mono ?_
  rintro e w3 ⟨rfl, hb3⟩
  have K3 := Lib.hid (K2.out.trans (hb3.mono K2.out.size))
  have N3 := Lib.hid (N2.out.below hb3)
  clear hb3 HTa
  go_wp2_with fail
  refine wp_region_held_drew (S := fun w' => w'.cell? ⟨gT, 0, none⟩ = some (.func (.func 46) #[] #[]) ∧ NdAt w' b n) (by kernel_rfl) ⟨(HW.out w3 K3.out).cM, ⟨N3.out.blk⟩⟩ (fun hHeld => ?_)
  try dsimp only at hHeld
  refine take_at (i := 0) (v := ?_) (some 32) rfl rfl (by kernel_rfl) (by kernel_rfl) (by kernel_rfl) (fun _ _ _ h => h) hHeld (by rfl) (fun wS hSw => ?_) ?_
  rotate_left
  · try dsimp only at hSw
    go_simp
    try with_reducible rfl
  try simp only [Act.put, List.setIfInBounds_toArray, List.set_cons_zero, List.set_cons_succ]
  refine take_at (i := 1) (v := ?_) (some 33) rfl rfl (by kernel_rfl) (by kernel_rfl) (by kernel_rfl) (fun _ _ _ h => h) hHeld (by rfl) (fun wS hSw => ?_) ?_
  rotate_left
  · try dsimp only at hSw
    go_simp
    try with_reducible rfl
  try simp only [Act.put, List.setIfInBounds_toArray, List.set_cons_zero, List.set_cons_succ]
  refine take_at (i := 2) (v := ?_) (some 34) rfl rfl (by kernel_rfl) (by kernel_rfl) (by kernel_rfl) (fun _ _ _ h => h) hHeld (by rfl) (fun wS hSw => ?_) ?_
  rotate_left
  · try dsimp only at hSw
    go_simp
    try with_reducible rfl
  try simp only [Act.put, List.setIfInBounds_toArray, List.set_cons_zero, List.set_cons_succ]
  refine take_at (i := 3) (v := ?_) (some 35) rfl rfl (by kernel_rfl) (by kernel_rfl) (by kernel_rfl) (fun _ _ _ h => h) hHeld (by rfl) (fun wS hSw => ?_) ?_
  rotate_left
  · try dsimp only at hSw
    go_simp
    try with_reducible rfl
  try simp only [Act.put, List.setIfInBounds_toArray, List.set_cons_zero, List.set_cons_succ]
  refine take_at (i := 4) (v := ?_) (some 36) rfl rfl (by kernel_rfl) (by kernel_rfl) (by kernel_rfl) (fun _ _ _ h => h) hHeld (by rfl) (fun wS hSw => ?_) ?_
  rotate_left
  · have hS1 := hSw.1
    try dsimp only at hSw
    go_simp
    try with_reducible rfl
  try simp only [Act.put, List.setIfInBounds_toArray, List.set_cons_zero, List.set_cons_succ]
  refine take_at (i := 5) (v := ?_) (some 37) rfl rfl (by kernel_rfl) (by kernel_rfl) (by kernel_rfl) (fun _ _ _ h => h) hHeld (by rfl) (fun wS hSw => ?_) ?_
  rotate_left
  · try dsimp only at hSw
    go_simp
    try with_reducible rfl
  try simp only [Act.put, List.setIfInBounds_toArray, List.set_cons_zero, List.set_cons_succ]
  refine take_at (i := 6) (v := ?_) (some 38) rfl rfl (by kernel_rfl) (by kernel_rfl) (by kernel_rfl) (fun _ _ _ h => h) hHeld (by rfl) (fun wS hSw => ?_) ?_
  rotate_left
  · refine exec_load_mid 58 (.tmp 37) ?_ b 0 ?_ (encT u) _ (HX.out ▸ hSw.2.x) Try.underlying58 rfl (thing_info u) <;> rfl
  try simp only [Act.put, List.setIfInBounds_toArray, List.set_cons_zero, List.set_cons_succ]
  refine wpAnyH_ready (rs := [7]) (by kernel_rfl) (by simp) ?_
  refine AllReadyH.cons rfl (fun K hK => ?_) AllReadyH.nil
  simp only [List.getElem_toArray, List.getElem_cons_succ, List.getElem_cons_zero]
  go_simp
  refine (HM.out _).mono ?_
  rintro e w4 ⟨rfl, hb4⟩
  have hH4 : w4.cell? ⟨gT, 0, none⟩ = some (.func (.func 46) #[] #[]) ∧ NdAt w4 b n := ⟨cell_later hHeld.1 hb4, hHeld.2.below hb4⟩
  have K4 := Lib.hid (K3.out.drew.trans (hb4.mono K3.out.size))
  clear hb4
  try dsimp only
  have hOld := hHeld
  refine hK.out _ _ hH4 (fun _ => ?_)
  clear hK K
  refine wpAnyH_mono (S2 := fun w' => w'.cell? ⟨gT, 0, none⟩ = some (.func (.func 46) #[] #[]) ∧ NdAt w' b n) (fun _ h => h) _ _ _ _ ?_
  clear hHeld
  have hHeld := hH4
  clear hOld
  try simp only [Act.put, List.setIfInBounds_toArray, List.set_cons_zero, List.set_cons_succ]
  refine take_at (i := 8) (v := ?_) (some 31) rfl rfl (by kernel_rfl) (by kernel_rfl) (by kernel_rfl) (fun _ _ _ h => h) hHeld (by rfl) (fun wS hSw => ?_) ?_
  rotate_left
  · try dsimp only at hSw
    go_simp
    try with_reducible rfl
  try simp only [Act.put, List.setIfInBounds_toArray, List.set_cons_zero, List.set_cons_succ]
  refine take_at (i := 9) (v := ?_) (some 40) rfl rfl (by kernel_rfl) (by kernel_rfl) (by kernel_rfl) (fun _ _ _ h => h) hHeld (by rfl) (fun wS hSw => ?_) ?_
  rotate_left
  · try dsimp only at hSw
    go_simp
    try with_reducible rfl
  try simp only [Act.put, List.setIfInBounds_toArray, List.set_cons_zero, List.set_cons_succ]
  refine take_at (i := 10) (v := ?_) (some 41) rfl rfl (by kernel_rfl) (by kernel_rfl) (by kernel_rfl) (fun _ _ _ h => h) hHeld (by rfl) (fun wS hSw => ?_) ?_
  rotate_left
  · try dsimp only at hSw
    go_simp
    try with_reducible rfl
  try simp only [Act.put, List.setIfInBounds_toArray, List.set_cons_zero, List.set_cons_succ]
  refine take_at (i := 11) (v := ?_) (some 12) rfl rfl (by kernel_rfl) (by kernel_rfl) (by kernel_rfl) (fun _ _ _ h => h) hHeld (by rfl) (fun wS hSw => ?_) ?_
  rotate_left
  · try dsimp only at hSw
    go_simp
    try with_reducible rfl
  try simp only [Act.put, List.setIfInBounds_toArray, List.set_cons_zero, List.set_cons_succ]
  refine take_at (i := 12) (v := ?_) (some 13) rfl rfl (by kernel_rfl) (by kernel_rfl) (by kernel_rfl) (fun _ _ _ h => h) hHeld (by rfl) (fun wS hSw => ?_) ?_
  rotate_left
  · try dsimp only at hSw
    go_simp
    try with_reducible rfl
  try simp only [Act.put, List.setIfInBounds_toArray, List.set_cons_zero, List.set_cons_succ]
  refine wpAnyH_done (by kernel_rfl) ?_ _
  have N4 := Lib.hid hH4.2
  clear hHeld hH4 HM
  have hc := N4.out.cR
  rw [hnr] at hc
  have g2 : IntKind.i64.wrap (a - zl) = a - zl := IntWalk.i64_in _ (by omega)
  have g3 : IntKind.i64.wrap (a - zl - zt) = a - zl - zt := IntWalk.i64_in _ (by omega)
  have HI := Lib.hid (ih w4 (HW.out w4 K4.out) (a - zl - zt) (by omega) (by omega))
  clear ih
  go_wp2_with fail
  clear hc
  refine HI.out.mono ?_
  rintro e w5 ⟨v5, rfl, F5, fr5, s5, A, B, rfl, hT5, hA5, hB5, hnA, hnB, hk5, hl5, hg5⟩
  have hk5s : ∀ j, j ∉ ids R.nodes → j ∉ ids (A.nodes ++ B.nodes) → gt s5 j = gt s j := by rw [hnA, hnB]; exact hk5
  replace hk5 : ∀ j, j ∉ ids R.nodes → j ≠ p → gt s5 j = gt s j := fun j h1 h2 => hk5 j h1 (fun e => (splitL_ids e).elim h1 h2)
  have hspl := splitL_right p k u R.nodes L.nodes a HOW.out.1.left.ok (by rw [← HLz.out, HZ.out.1]; omega) (by rw [← HLz.out, HZ.out.1, HZ.out.2]; exact ha2)
  rw [← HLz.out, HZ.out.1, HZ.out.2] at hspl
  have hwh : (splitL (Tr.nd k u L R).nodes a p).1 = (Tr.nd k u L A).nodes ∧ (splitL (Tr.nd k u L R).nodes a p).2 = B.nodes := by
    rw [hnB, Tr.nodes, Tr.nodes, hnA]; exact ⟨by rw [hspl], by rw [hspl]⟩
  have hokw := HOW.out.2.1
  rw [hwh.1, hwh.2] at hokw
  have hap := OkL.apart (A := L.nodes) (B := (k, u) :: R.nodes) HOW.out.1
  have hkR : k ∉ ids R.nodes := by have hn := (OkL.right (A := L.nodes) (B := (k, u) :: R.nodes) HOW.out.1).nodup; rw [ids, List.map_cons, List.nodup_cons] at hn; exact hn.1
  have hkp : ∀ j n, gt s j = some n → j ≠ p := fun j n hj e => by rw [e, HP.out.1] at hj; cases hj
  have hk5' : gt s5 k = some (topN u L R) := (hk5 k hkR (hkp k _ HT.out.1)).trans HT.out.1
  have hL5 : Holds s5 L := HT.out.2.1.keep fun j hj => by
    obtain ⟨m, hm⟩ := HT.out.2.1.taken j hj
    exact hk5 j (fun e => hap j hj (by rw [ids, List.map_cons]; exact List.mem_cons.2 (.inr e))) (hkp j m hm)
  have HJ := Lib.hid (join_any (l0 := L.rt) (r0 := R.rt) _ L A (Nat.le_refl _) w5 s5 hT5 hk5' hL5 hA5 hokw.left)
  have N5 := N4.out.step hg5.step (fun hF => by have := HFL.out _ hF; have := HBL.out; omega)
  have hc := N5.cL
  rw [hnl] at hc
  have H5 := Lib.hid (And.intro hB5 (And.intro hk5s (And.intro hl5 (And.intro hwh (And.intro hokw ((Grow.of_below K4.out).trans hg5))))))
  clear hT5 hA5 hB5 hnA hnB hk5 hk5s hl5 hg5 hspl hwh hokw hap hkR hkp hk5' hL5 HI N5
  go_wp2_with fail
  clear hc
  refine HJ.out.mono ?_
  rintro e w6 ⟨v6, rfl, T6, s6, rfl, hT6, hH6, hn6, hk6, hl6, hg6⟩
  have HPS := Lib.hid (show PostS w F gT gA root s p (Tr.nd k u L R).nodes a (.tuple #[.int .i64 T6.rt, .int .i64 B.rt]) w6 from by
    have hokw := H5.out.2.2.2.2.1
    refine ⟨F5, fr5, s6, T6, B, rfl, hT6, hH6, H5.out.1.keep fun j hj => hk6 j (fun e => hokw.apart j e hj), hn6.trans H5.out.2.2.2.1.1.symm, H5.out.2.2.2.1.2.symm, fun j hj hjp => ?_, by rw [hl6]; exact H5.out.2.2.1, H5.out.2.2.2.2.2.trans hg6⟩
    rw [H5.out.2.2.2.1.1, H5.out.2.2.2.1.2, ids_append, List.mem_append] at hjp
    have h1 : j ∉ ids (Tr.nd k u L A).nodes := fun e => hjp (.inl e)
    rw [hk6 j h1]
    refine H5.out.2.1 j (fun e => hj (by rw [Tr.nodes, ids_append]; exact List.mem_append.2 (.inr (List.mem_cons.2 (.inr e))))) (fun e => ?_)
    rw [ids_append, List.mem_append] at e
    rcases e with e | e
    · exact h1 (by rw [Tr.nodes, ids_append]; exact List.mem_append.2 (.inr (List.mem_cons.2 (.inr e))))
    · exact hjp (.inr e))
  clear hT6 hH6 hn6 hk6 hl6 hg6
  go_wp2_with fail
  go_ret2
  exact ⟨_, rfl, HPS.out⟩

end Go.Proofs.Ytmfkdaannjibfaa
