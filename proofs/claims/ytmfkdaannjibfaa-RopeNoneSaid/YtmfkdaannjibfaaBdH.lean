/-
  Several texts in one: RoS.
-/
import Derived.Deep.RegionLaw
import Derived.Deep.DeepCutAuto
import Derived.Deep.CutRange
import Derived.Test.YtmfkdaannjibfaaBdG

namespace Go.Proofs.Ytmfkdaannjibfaa
open Go.RowKit

theorem there_row {w : World} {b n : Nat} {cs : List Value} {t : TypeId} (h : w.heap[b]? = some (.cells cs.toArray t (0, 0))) (hn : n ≤ cs.length) : w.there b 0 n := fun j hj => by
  refine ⟨?_, frozen_of_row w b _ _ _ h⟩
  rw [Nat.zero_add, cell_of_row w b j _ _ _ h, List.getElem?_toArray, List.getElem?_eq_getElem (by omega)]
  rfl

theorem setMany_front : ∀ (vs a r : List Value), a.length = vs.length → setMany (a ++ r) 0 vs = vs ++ r := by
  intro vs a r h
  apply List.ext_getElem?
  intro i
  rw [setMany_get vs (a ++ r) 0 i (by rw [List.length_append]; omega)]
  by_cases hi : i < vs.length
  · rw [if_pos (by omega), Nat.sub_zero, List.getElem?_append_left hi]
  · rw [if_neg (by omega), List.getElem?_append_right (by omega), List.getElem?_append_right (by omega), h]

/-- A node's thing is written. -/
theorem NdAt.setX {w : World} {b : Nat} {n : Nd} (h : NdAt w b n) (t : Th) : NdAt (w.setCells b 0 (encT t)) b (mkN t n.l n.r n.h n.sz n.mk_) := ⟨by
  rw [setCells_get b _ (encT t) 0 w n.C h.blk, Nd.C, setMany_front _ _ _ (by rw [n.hx, encT_len])]
  rfl⟩
theorem NdAt.there {w : World} {b : Nat} {n : Nd} (h : NdAt w b n) : w.there b 0 33 := there_row h.blk (by rw [Nd.C_len]; omega)

theorem exec_build1 {P : Program} {o : Oper} {ev : Operand → Value} {w : World} (t : TypeId) (i : Nat) (x : Operand) (ho : o.op = .build t #[(i, x)]) (u : Value) (hx : ev x = u) (cells : Array Value)
    (h : P.built t [(i, u)] = some cells) : (execOp ev o).run P w = .ok (.value (.agg cells)) w := by
  subst hx
  unfold execOp
  simp only [ho, Sem.run_bind, List.map_toArray, List.map_cons, List.map_nil, run_build w t #[(i, ev x)] cells h, Result.andThen_ok, Sem.run_pure]

theorem built_node (t : Th) : Try.prog.built 103 [(0, .agg (encT t).toArray)] = some (mkN t 0 0 0 0 0).C.toArray := by
  unfold Nd.C mkN
  dsimp only
  obtain ⟨a0, a1, a2, a3, a4, a5, a6, a7, a8, a9, a10, a11, a12, a13, a14, a15, a16, a17, a18, a19, a20, a21, a22, a23, a24, a25, a26, a27, a28, a29, a30, a31, a32, e⟩ := list_K (encT t) (encT_len t)
  rw [e]
  kernel_rfl

set_option maxRecDepth 100000 in
set_option maxHeartbeats 4000000 in
theorem split_mid {w : World} {F : Nat → Prop} {gT gA : Nat} {root : Int} {s : List (Option Nd)} {fr : List Nat} (h : TreeW w F gT gA root s fr) {k p : Nat} {u : Th} {L R : Tr} (hT : Holds s (.nd k u L R)) (ho : OkL (Tr.nd k u L R).nodes) (hp : gt s p = none) (hlen : s.length < 90000) (a : Int) (hA : -1000000000000 ≤ a) (hA2 : a ≤ 1000000000000) (ha : L.z < a) (hb : a < L.z + sizeT u) (hpn : p = nextOf s fr) :
    Calls Try.prog 54 #[.pointer (some ⟨gT, 0, none⟩), .int .i64 k, .int .i64 a] w fun e w' => ∃ v, e = .returned v ∧ PostS w F gT gA root s p (Tr.nd k u L R).nodes a v w' := by
  have hLs := Tr.sm (T := L) ho.left
  have hz := hLs.2.1
  have hzt : Sm (sizeT u) := by
    have h3 := sizeT_ok (ho.ok (k, u) (by simp [Tr.nodes]))
    have h5 := ho.sum
    have h6 := sumZ_nonneg ho.left.ok
    have h7 := sumZ_nonneg (L := R.nodes) (ho.right.tail.ok)
    have e : sumZ (Tr.nd k u L R).nodes = sumZ L.nodes + (sizeT u + sumZ R.nodes) := by rw [Tr.nodes, sumZ_append, sumZ]
    dsimp only at h3
    exact ⟨h3, by omega⟩
  have HTk := Lib.hid hT.taken
  have HLz := Lib.hid (Tr.z_eq L)
  have HAt := Lib.hid (at_any h hT.1)
  have HTa := Lib.hid (fun (w1 : World) (hb : Below w.heap.size w w1) => totals_any (h.below hb) hT.2.1.okR)
  rw [hT.2.1.tot.2.1] at HTa
  have HM := Lib.hid (fun w1 => measure_any u w1)
  obtain ⟨zl, hzl⟩ : ∃ x, L.z = x := ⟨_, rfl⟩
  obtain ⟨zt, hzt'⟩ : ∃ x, sizeT u = x := ⟨_, rfl⟩
  rw [hzl] at HTa
  rw [hzt'] at HM
  rw [hzl] at hz
  rw [hzt'] at hzt
  obtain ⟨z1, z2⟩ := hz
  obtain ⟨z3, z4⟩ := hzt
  obtain ⟨n, hn⟩ : ∃ x, topN u L R = x := ⟨_, rfl⟩
  have hnl : n.l = L.rt := by rw [← hn]; rfl
  have hnr : n.r = R.rt := by rw [← hn]; rfl
  have HX := Lib.hid (show n.x = encT u by rw [← hn]; rfl)
  rw [hn] at HAt
  unfold Nd.V at HAt
  have HW := Lib.hid (fun (w1 : World) (hb : Below w.heap.size w w1) => h.below hb)
  have HFL := Lib.hid h.ar.lt
  have HT := Lib.hid hT
  have HP := Lib.hid (And.intro hp hlen)
  have HZ := Lib.hid (And.intro hzl hzt')
  have HOW := Lib.hid (And.intro ho (splitL_ok p (Tr.nd k u L R).nodes a ho (fun e => by obtain ⟨n, hn⟩ := hT.taken p e; rw [hp] at hn; cases hn) (by
    have h1 := (ids (Tr.nd k u L R).nodes)
    have h2 := nodes_le ho.nodup hT
    omega)))
  have hk1 : ((k : Int) == -1) = false := by simp
  have g1 : IntKind.i64.wrap (zl + zt) = zl + zt := IntWalk.i64_in _ (by omega)
  have ha1 : ¬ a ≤ zl := by omega
  have ha2 : ¬ zl + zt ≤ a := by omega
  have g2 : IntKind.i64.wrap (a - zl) = a - zl := IntWalk.i64_in _ (by omega)
  have HCUT := Lib.hid (fun w1 => cut_any u (a - zl) w1 (by omega) (by rw [hzt'] at hb; have : sizeT u = zt := hzt'; show a - zl ≤ sizeT u; omega) (ho.ok (k, u) (by simp [Tr.nodes])).2)
  have HPN := Lib.hid hpn
  have HSPL := Lib.hid (splitL_mid p k u R.nodes L.nodes a ho.left.ok (by rw [← HLz.out]; exact ha) (by rw [← HLz.out]; exact hb))
  rw [← HLz.out, hzl] at HSPL
  clear ha hb hpn
  clear h hT ho hLs hn hzl hzt' hp hlen
  go_enter Try.func54, Try.ntmps54
  go_wp2_with fail
  refine HAt.out.mono ?_
  rintro e w1 ⟨rfl, hb1⟩
  obtain ⟨b, hb⟩ : ∃ b, w1.heap.size = b := ⟨_, rfl⟩
  obtain ⟨w2, hw2⟩ : ∃ v, w1.alloc (.cells n.C.toArray 103) = v := ⟨_, rfl⟩
  have N2 := Lib.hid (show NdAt w2 b n by rw [← hw2, ← hb]; exact NdAt.new w1 n)
  have K2 := Lib.hid (show Below w.heap.size w w2 by rw [← hw2]; exact hb1.alloc hb1.size _)
  have HE := Lib.hid (And.intro hw2 hb)
  have HBL := Lib.hid (show w.heap.size ≤ b by have := hb1.size; omega)
  have hc := N2.out.cL
  rw [hnl] at hc
  clear hb1 hw2 hb HAt
  go_wp2_with (refine wpList_store_row rfl 103 (.tmp 8) (.tmp 22) rfl w1.heap.size n.C.toArray rfl rfl 103 _ (heap_alloc_new w1 _) (nd_info n) (by simp [Nd.C_len]) (all_oneCell_toArray n.C_one) ?_; rw [alloc_setRow, HE.out.1, HE.out.2])
  clear hc
  refine (HTa.out w2 K2.out).mono ?_
  rintro e w3 ⟨rfl, hb3⟩
  have K3 := Lib.hid (K2.out.trans (hb3.mono K2.out.size))
  have N3 := Lib.hid (N2.out.below hb3)
  clear hb3 HTa
  go_wp2_with fail
  refine wp_region_held_drew (S := fun w' => w'.cell? ⟨gT, 0, none⟩ = some (.func (.func 46) #[] #[]) ∧ NdAt w' b n) (by kernel_rfl) ⟨(HW.out w3 K3.out).cM, ⟨N3.out.blk⟩⟩ (fun hHeld => ?_)
  try dsimp only at hHeld
  refine take_at (i := 0) (v := ?_) (some 32) rfl rfl (by kernel_rfl) (by kernel_rfl) (by kernel_rfl) (fun _ _ _ h => h) hHeld (by rfl) (fun wS hSw => ?_) ?_
  rotate_left
  · try dsimp only at hSw
    go_simp
    try with_reducible rfl
  try simp only [Act.put, List.setIfInBounds_toArray, List.set_cons_zero, List.set_cons_succ]
  refine take_at (i := 1) (v := ?_) (some 33) rfl rfl (by kernel_rfl) (by kernel_rfl) (by kernel_rfl) (fun _ _ _ h => h) hHeld (by rfl) (fun wS hSw => ?_) ?_
  rotate_left
  · try dsimp only at hSw
    go_simp
    try with_reducible rfl
  try simp only [Act.put, List.setIfInBounds_toArray, List.set_cons_zero, List.set_cons_succ]
  refine take_at (i := 2) (v := ?_) (some 34) rfl rfl (by kernel_rfl) (by kernel_rfl) (by kernel_rfl) (fun _ _ _ h => h) hHeld (by rfl) (fun wS hSw => ?_) ?_
  rotate_left
  · try dsimp only at hSw
    go_simp
    try with_reducible rfl
  try simp only [Act.put, List.setIfInBounds_toArray, List.set_cons_zero, List.set_cons_succ]
  refine take_at (i := 3) (v := ?_) (some 35) rfl rfl (by kernel_rfl) (by kernel_rfl) (by kernel_rfl) (fun _ _ _ h => h) hHeld (by rfl) (fun wS hSw => ?_) ?_
  rotate_left
  · try dsimp only at hSw
    go_simp
    try with_reducible rfl
  try simp only [Act.put, List.setIfInBounds_toArray, List.set_cons_zero, List.set_cons_succ]
  refine take_at (i := 4) (v := ?_) (some 36) rfl rfl (by kernel_rfl) (by kernel_rfl) (by kernel_rfl) (fun _ _ _ h => h) hHeld (by rfl) (fun wS hSw => ?_) ?_
  rotate_left
  · have hS1 := hSw.1
    try dsimp only at hSw
    go_simp
    try with_reducible rfl
  try simp only [Act.put, List.setIfInBounds_toArray, List.set_cons_zero, List.set_cons_succ]
  refine take_at (i := 5) (v := ?_) (some 37) rfl rfl (by kernel_rfl) (by kernel_rfl) (by kernel_rfl) (fun _ _ _ h => h) hHeld (by rfl) (fun wS hSw => ?_) ?_
  rotate_left
  · try dsimp only at hSw
    go_simp
    try with_reducible rfl
  try simp only [Act.put, List.setIfInBounds_toArray, List.set_cons_zero, List.set_cons_succ]
  refine take_at (i := 6) (v := ?_) (some 38) rfl rfl (by kernel_rfl) (by kernel_rfl) (by kernel_rfl) (fun _ _ _ h => h) hHeld (by rfl) (fun wS hSw => ?_) ?_
  rotate_left
  · refine exec_load_mid 58 (.tmp 37) ?_ b 0 ?_ (encT u) _ (HX.out ▸ hSw.2.x) Try.underlying58 rfl (thing_info u) <;> rfl
  try simp only [Act.put, List.setIfInBounds_toArray, List.set_cons_zero, List.set_cons_succ]
  refine wpAnyH_ready (rs := [7]) (by kernel_rfl) (by simp) ?_
  refine AllReadyH.cons rfl (fun K hK => ?_) AllReadyH.nil
  simp only [List.getElem_toArray, List.getElem_cons_succ, List.getElem_cons_zero]
  go_simp
  refine (HM.out _).mono ?_
  rintro e w4 ⟨rfl, hb4⟩
  have hH4 : w4.cell? ⟨gT, 0, none⟩ = some (.func (.func 46) #[] #[]) ∧ NdAt w4 b n := ⟨cell_later hHeld.1 hb4, hHeld.2.below hb4⟩
  have K4 := Lib.hid (K3.out.drew.trans (hb4.mono K3.out.size))
  clear hb4
  try dsimp only
  have hOld := hHeld
  refine hK.out _ _ hH4 (fun _ => ?_)
  clear hK K
  refine wpAnyH_mono (S2 := fun w' => w'.cell? ⟨gT, 0, none⟩ = some (.func (.func 46) #[] #[]) ∧ NdAt w' b n) (fun _ h => h) _ _ _ _ ?_
  clear hHeld
  have hHeld := hH4
  clear hOld
  try simp only [Act.put, List.setIfInBounds_toArray, List.set_cons_zero, List.set_cons_succ]
  refine take_at (i := 8) (v := ?_) (some 31) rfl rfl (by kernel_rfl) (by kernel_rfl) (by kernel_rfl) (fun _ _ _ h => h) hHeld (by rfl) (fun wS hSw => ?_) ?_
  rotate_left
  · try dsimp only at hSw
    go_simp
    try with_reducible rfl
  try simp only [Act.put, List.setIfInBounds_toArray, List.set_cons_zero, List.set_cons_succ]
  refine take_at (i := 9) (v := ?_) (some 40) rfl rfl (by kernel_rfl) (by kernel_rfl) (by kernel_rfl) (fun _ _ _ h => h) hHeld (by rfl) (fun wS hSw => ?_) ?_
  rotate_left
  · try dsimp only at hSw
    go_simp
    try with_reducible rfl
  try simp only [Act.put, List.setIfInBounds_toArray, List.set_cons_zero, List.set_cons_succ]
  refine take_at (i := 10) (v := ?_) (some 41) rfl rfl (by kernel_rfl) (by kernel_rfl) (by kernel_rfl) (fun _ _ _ h => h) hHeld (by rfl) (fun wS hSw => ?_) ?_
  rotate_left
  · try dsimp only at hSw
    go_simp
    try with_reducible rfl
  try simp only [Act.put, List.setIfInBounds_toArray, List.set_cons_zero, List.set_cons_succ]
  refine take_at (i := 11) (v := ?_) (some 12) rfl rfl (by kernel_rfl) (by kernel_rfl) (by kernel_rfl) (fun _ _ _ h => h) hHeld (by rfl) (fun wS hSw => ?_) ?_
  rotate_left
  · try dsimp only at hSw
    go_simp
    try with_reducible rfl
  try simp only [Act.put, List.setIfInBounds_toArray, List.set_cons_zero, List.set_cons_succ]
  refine take_at (i := 12) (v := ?_) (some 13) rfl rfl (by kernel_rfl) (by kernel_rfl) (by kernel_rfl) (fun _ _ _ h => h) hHeld (by rfl) (fun wS hSw => ?_) ?_
  rotate_left
  · try dsimp only at hSw
    go_simp
    try with_reducible rfl
  try simp only [Act.put, List.setIfInBounds_toArray, List.set_cons_zero, List.set_cons_succ]
  refine wpAnyH_done (by kernel_rfl) ?_ _
  have N4 := Lib.hid hH4.2
  clear hHeld hH4 HM
  go_wp2_with fail
  go_cut [14, 15] from 86 to 99 (fun v14 v15 wz => ∃ ba bb : Nat, v14 = .pointer (some ⟨ba, 0, none⟩) ∧ v15 = .pointer (some ⟨bb, 0, none⟩) ∧ ba ≠ bb ∧ w4.heap.size ≤ ba ∧ w4.heap.size ≤ bb ∧ wz.heap[ba]? = some (.cells (encT (cutA u (a - zl))).toArray 58) ∧ wz.heap[bb]? = some (.cells (encT (cutB u (a - zl))).toArray 58) ∧ Below w4.heap.size w4 wz)
  case first =>
    refine wp_region_held_drew (S := fun w' => w'.cell? ⟨gT, 1, none⟩ = some (.func (.func 49) #[] #[]) ∧ NdAt w' b n) (by kernel_rfl) ⟨(HW.out w4 K4.out).cC, ⟨N4.out.blk⟩⟩ (fun hHeld => ?_)
    try dsimp only at hHeld
    refine take_at (i := 0) (v := ?_) (some 87) rfl rfl (by kernel_rfl) (by kernel_rfl) (by kernel_rfl) (fun _ _ _ h => h) hHeld (by rfl) (fun wS hSw => ?_) ?_
    rotate_left
    · try dsimp only at hSw
      go_simp
      try with_reducible rfl
    try simp only [Act.put, List.setIfInBounds_toArray, List.set_cons_zero, List.set_cons_succ]
    refine take_at (i := 1) (v := ?_) (some 88) rfl rfl (by kernel_rfl) (by kernel_rfl) (by kernel_rfl) (fun _ _ _ h => h) hHeld (by rfl) (fun wS hSw => ?_) ?_
    rotate_left
    · try dsimp only at hSw
      go_simp
      try with_reducible rfl
    try simp only [Act.put, List.setIfInBounds_toArray, List.set_cons_zero, List.set_cons_succ]
    refine take_at (i := 2) (v := ?_) (some 89) rfl rfl (by kernel_rfl) (by kernel_rfl) (by kernel_rfl) (fun _ _ _ h => h) hHeld (by rfl) (fun wS hSw => ?_) ?_
    rotate_left
    · try dsimp only at hSw
      go_simp
      try with_reducible rfl
    try simp only [Act.put, List.setIfInBounds_toArray, List.set_cons_zero, List.set_cons_succ]
    refine take_at (i := 3) (v := ?_) (some 90) rfl rfl (by kernel_rfl) (by kernel_rfl) (by kernel_rfl) (fun _ _ _ h => h) hHeld (by rfl) (fun wS hSw => ?_) ?_
    rotate_left
    · try dsimp only at hSw
      go_simp
      try with_reducible rfl
    try simp only [Act.put, List.setIfInBounds_toArray, List.set_cons_zero, List.set_cons_succ]
    refine take_at (i := 4) (v := ?_) (some 91) rfl rfl (by kernel_rfl) (by kernel_rfl) (by kernel_rfl) (fun _ _ _ h => h) hHeld (by rfl) (fun wS hSw => ?_) ?_
    rotate_left
    · have hS1 := hSw.1
      try dsimp only at hSw
      go_simp
      try with_reducible rfl
    try simp only [Act.put, List.setIfInBounds_toArray, List.set_cons_zero, List.set_cons_succ]
    refine take_at (i := 5) (v := ?_) (some 92) rfl rfl (by kernel_rfl) (by kernel_rfl) (by kernel_rfl) (fun _ _ _ h => h) hHeld (by rfl) (fun wS hSw => ?_) ?_
    rotate_left
    · try dsimp only at hSw
      go_simp
      try with_reducible rfl
    try simp only [Act.put, List.setIfInBounds_toArray, List.set_cons_zero, List.set_cons_succ]
    refine take_at (i := 6) (v := ?_) (some 93) rfl rfl (by kernel_rfl) (by kernel_rfl) (by kernel_rfl) (fun _ _ _ h => h) hHeld (by rfl) (fun wS hSw => ?_) ?_
    rotate_left
    · refine exec_load_mid 58 (.tmp 92) ?_ b 0 ?_ (encT u) _ (HX.out ▸ hSw.2.x) Try.underlying58 rfl (thing_info u) <;> rfl
    try simp only [Act.put, List.setIfInBounds_toArray, List.set_cons_zero, List.set_cons_succ]
    refine take_at (i := 7) (v := ?_) (some 94) rfl rfl (by kernel_rfl) (by kernel_rfl) (by kernel_rfl) (fun _ _ _ h => h) hHeld (by rfl) (fun wS hSw => ?_) ?_
    rotate_left
    · try dsimp only at hSw
      go_simp
      try with_reducible rfl
    try simp only [Act.put, List.setIfInBounds_toArray, List.set_cons_zero, List.set_cons_succ]
    refine take_at (i := 8) (v := ?_) (some 95) rfl rfl (by kernel_rfl) (by kernel_rfl) (by kernel_rfl) (fun _ _ _ h => h) hHeld (by rfl) (fun wS hSw => ?_) ?_
    rotate_left
    · try dsimp only at hSw
      go_simp
      try with_reducible rfl
    try simp only [Act.put, List.setIfInBounds_toArray, List.set_cons_zero, List.set_cons_succ]
    refine take_at (i := 9) (v := ?_) (some 96) rfl rfl (by kernel_rfl) (by kernel_rfl) (by kernel_rfl) (fun _ _ _ h => h) hHeld (by rfl) (fun wS hSw => ?_) ?_
    rotate_left
    · try dsimp only at hSw
      go_simp
      try with_reducible rfl
    try simp only [Act.put, List.setIfInBounds_toArray, List.set_cons_zero, List.set_cons_succ]
    obtain ⟨wd, hwd⟩ : ∃ v, w4.drew = v := ⟨_, rfl⟩
    have hW0 := Lib.hid (show Below w4.heap.size w4 wd by rw [← hwd]; exact (Below.refl w4.heap.size w4).drew)
    rw [hwd] at hHeld
    rw [hwd]
    clear hwd
    refine wpAnyH_ready (rs := [10, 14, 15]) (by kernel_rfl) (by simp) ?_
    refine AllReadyH.cons rfl (fun K hK => ?_) (AllReadyH.cons rfl (fun K hK => ?_) (AllReadyH.cons rfl (fun K hK => ?_) (AllReadyH.nil)))
    · simp only [List.getElem_toArray, List.getElem_cons_succ, List.getElem_cons_zero]
      go_simp
      refine (HCUT.out _).mono ?_
      rintro e x1 ⟨rfl, hb1⟩
      have hW1 := Lib.hid (hW0.out.trans (hb1.mono hW0.out.size))
      have hS1 : x1.cell? ⟨gT, 1, none⟩ = some (.func (.func 49) #[] #[]) ∧ NdAt x1 b n := ⟨cell_later hHeld.1 hb1, hHeld.2.below hb1⟩
      clear hb1
      try dsimp only
      refine hK.out _ _ hS1 (fun hHeld => ?_)
      clear hK K
      try simp only [Act.put, List.setIfInBounds_toArray, List.set_cons_zero, List.set_cons_succ]
      refine take_at (i := 11) (v := ?_) (some 86) rfl rfl (by kernel_rfl) (by kernel_rfl) (by kernel_rfl) (fun _ _ _ h => h) hHeld (by rfl) (fun wS hSw => ?_) ?_
      rotate_left
      · try dsimp only at hSw
        go_simp
        try with_reducible rfl
      try simp only [Act.put, List.setIfInBounds_toArray, List.set_cons_zero, List.set_cons_succ]
      refine take_at (i := 12) (v := ?_) (some 98) rfl rfl (by kernel_rfl) (by kernel_rfl) (by kernel_rfl) (fun _ _ _ h => h) hHeld (by rfl) (fun wS hSw => ?_) ?_
      rotate_left
      · try dsimp only at hSw
        go_simp
        try with_reducible rfl
      try simp only [Act.put, List.setIfInBounds_toArray, List.set_cons_zero, List.set_cons_succ]
      refine take_at (i := 13) (v := ?_) (some 99) rfl rfl (by kernel_rfl) (by kernel_rfl) (by kernel_rfl) (fun _ _ _ h => h) hHeld (by rfl) (fun wS hSw => ?_) ?_
      rotate_left
      · try dsimp only at hSw
        go_simp
        try with_reducible rfl
      try simp only [Act.put, List.setIfInBounds_toArray, List.set_cons_zero, List.set_cons_succ]
      refine wpAnyH_ready (rs := [14, 15]) (by kernel_rfl) (by simp) ?_
      refine AllReadyH.cons rfl (fun K hK => ?_) (AllReadyH.cons rfl (fun K hK => ?_) (AllReadyH.nil))
      · simp only [List.getElem_toArray, List.getElem_cons_succ, List.getElem_cons_zero]
        go_simp
        try dsimp only
        obtain ⟨x2, hw2⟩ : ∃ v, (x1).alloc (.cells #[.int .i32 0, .int .i32 0, .int .i32 0, .int .i32 0, .int .i32 0, .int .i32 0, .int .i32 0, .int .i32 0, .int .i32 0, .int .i32 0, .int .i32 0, .int .i32 0, .int .i32 0, .int .i32 0, .int .i32 0, .int .i32 0, .int .i32 0, .int .i32 0, .int .i32 0, .int .i32 0, .int .i32 0, .int .i32 0, .int .i32 0, .int .i32 0, .int .i32 0, .int .i32 0, .int .i32 0, .int .i32 0, .int .i32 0, .int .i32 0, .int .i32 0, .int .i32 0, .int .i64 0] 58) = v := ⟨_, rfl⟩
        obtain ⟨ba, hba⟩ : ∃ v, (x1).heap.size = v := ⟨_, rfl⟩
        have hb2 : Below (x1).heap.size (x1) x2 := by rw [← hw2]; exact (Below.refl _ _).alloc (Nat.le_refl _) _
        have fa2 : x2.heap[ba]? = some (.cells ([.int .i32 0, .int .i32 0, .int .i32 0, .int .i32 0, .int .i32 0, .int .i32 0, .int .i32 0, .int .i32 0, .int .i32 0, .int .i32 0, .int .i32 0, .int .i32 0, .int .i32 0, .int .i32 0, .int .i32 0, .int .i32 0, .int .i32 0, .int .i32 0, .int .i32 0, .int .i32 0, .int .i32 0, .int .i32 0, .int .i32 0, .int .i32 0, .int .i32 0, .int .i32 0, .int .i32 0, .int .i32 0, .int .i32 0, .int .i32 0, .int .i32 0, .int .i32 0, .int .i64 0] : List Value).toArray 58) := by rw [← hw2, ← hba]; exact heap_alloc_new _ _
        have hW2 := Lib.hid (hW1.out.trans (hb2.mono hW1.out.size))
        have lba : w4.heap.size ≤ ba := by rw [← hba]; exact hW1.out.size
        have hS2 : x2.cell? ⟨gT, 1, none⟩ = some (.func (.func 49) #[] #[]) ∧ NdAt x2 b n := ⟨cell_later (w := x1) hHeld.1 hb2, NdAt.below (w := x1) hHeld.2 hb2⟩
        rw [hw2, hba]
        clear hw2 hba hb2
        refine hK.out _ _ hS2 (fun hHeld => ?_)
        clear hK K
        try simp only [Act.put, List.setIfInBounds_toArray, List.set_cons_zero, List.set_cons_succ]
        refine wpAnyH_ready (rs := [15]) (by kernel_rfl) (by simp) ?_
        refine AllReadyH.cons rfl (fun K hK => ?_) (AllReadyH.nil)
        · simp only [List.getElem_toArray, List.getElem_cons_succ, List.getElem_cons_zero]
          go_simp
          try dsimp only
          obtain ⟨x3, hw3⟩ : ∃ v, (x2).alloc (.cells #[.int .i32 0, .int .i32 0, .int .i32 0, .int .i32 0, .int .i32 0, .int .i32 0, .int .i32 0, .int .i32 0, .int .i32 0, .int .i32 0, .int .i32 0, .int .i32 0, .int .i32 0, .int .i32 0, .int .i32 0, .int .i32 0, .int .i32 0, .int .i32 0, .int .i32 0, .int .i32 0, .int .i32 0, .int .i32 0, .int .i32 0, .int .i32 0, .int .i32 0, .int .i32 0, .int .i32 0, .int .i32 0, .int .i32 0, .int .i32 0, .int .i32 0, .int .i32 0, .int .i64 0] 58) = v := ⟨_, rfl⟩
          obtain ⟨bb, hbb⟩ : ∃ v, (x2).heap.size = v := ⟨_, rfl⟩
          have hb3 : Below (x2).heap.size (x2) x3 := by rw [← hw3]; exact (Below.refl _ _).alloc (Nat.le_refl _) _
          have fb3 : x3.heap[bb]? = some (.cells ([.int .i32 0, .int .i32 0, .int .i32 0, .int .i32 0, .int .i32 0, .int .i32 0, .int .i32 0, .int .i32 0, .int .i32 0, .int .i32 0, .int .i32 0, .int .i32 0, .int .i32 0, .int .i32 0, .int .i32 0, .int .i32 0, .int .i32 0, .int .i32 0, .int .i32 0, .int .i32 0, .int .i32 0, .int .i32 0, .int .i32 0, .int .i32 0, .int .i32 0, .int .i32 0, .int .i32 0, .int .i32 0, .int .i32 0, .int .i32 0, .int .i32 0, .int .i32 0, .int .i64 0] : List Value).toArray 58) := by rw [← hw3, ← hbb]; exact heap_alloc_new _ _
          have hW3 := Lib.hid (hW2.out.trans (hb3.mono hW2.out.size))
          have lbb : w4.heap.size ≤ bb := by rw [← hbb]; exact hW2.out.size
          have hS3 : x3.cell? ⟨gT, 1, none⟩ = some (.func (.func 49) #[] #[]) ∧ NdAt x3 b n := ⟨cell_later (w := x2) hHeld.1 hb3, NdAt.below (w := x2) hHeld.2 hb3⟩
          have fa3 := heap_later (w := x2) fa2 hb3
          have hne : ba ≠ bb := by have h1 := (Array.getElem?_eq_some_iff.1 (show (x2).heap[ba]? = _ from fa2)).1; omega
          rw [hw3, hbb]
          clear hw3 hbb hb3
          refine hK.out _ _ hS3 (fun hHeld => ?_)
          clear hK K
          try simp only [Act.put, List.setIfInBounds_toArray, List.set_cons_zero, List.set_cons_succ]
          refine wpAnyH_ready (rs := [16]) (by kernel_rfl) (by simp) ?_
          refine AllReadyH.cons rfl (fun K hK => ?_) (AllReadyH.nil)
          · simp only [List.getElem_toArray, List.getElem_cons_succ, List.getElem_cons_zero]
            refine of_if (by rfl) ?_
            refine wp_store_mid 58 (.tmp 14) (.tmp 98) rfl ba 0 (encT (cutA u (a - zl))).toArray rfl rfl (there_row fa3 (by rw [List.size_toArray, encT_len]; exact Nat.le_refl _)) (by rw [List.size_toArray]; exact thing_info _) (all_oneCell_toArray (encT_one _)) ?_
            rw [List.toList_toArray]
            obtain ⟨x4, hw4⟩ : ∃ v, (x3).setCells ba 0 (encT (cutA u (a - zl))) = v := ⟨_, rfl⟩
            have fa4 : x4.heap[ba]? = some (.cells (encT (cutA u (a - zl))).toArray 58) := by rw [← hw4]; exact setCells_row fa3 (by rw [encT_len]; rfl)
            have fb4 := (show x4.heap[bb]? = (x3).heap[bb]? by rw [← hw4]; exact setCells_other _ _ _ _ (fun e => hne e.symm)).trans fb3
            have hW4 := Lib.hid (show Below w4.heap.size w4 x4 by rw [← hw4]; exact below_setCells lba _ _ _ hW3.out)
            have hS4 : x4.cell? ⟨gT, 1, none⟩ = some (.func (.func 49) #[] #[]) ∧ NdAt x4 b n := ⟨(HW.out x4 (K4.out.trans (hW4.out.mono K4.out.size))).cC, N4.out.below hW4.out⟩
            rw [hw4]
            clear hw4
            refine hK.out _ _ hS4 (fun hHeld => ?_)
            clear hK K
            try simp only [Act.put]
            refine wpAnyH_ready (rs := [17]) (by kernel_rfl) (by simp) ?_
            refine AllReadyH.cons rfl (fun K hK => ?_) (AllReadyH.nil)
            · simp only [List.getElem_toArray, List.getElem_cons_succ, List.getElem_cons_zero]
              refine of_if (by rfl) ?_
              refine wp_store_mid 58 (.tmp 15) (.tmp 99) rfl bb 0 (encT (cutB u (a - zl))).toArray rfl rfl (there_row fb4 (by rw [List.size_toArray, encT_len]; exact Nat.le_refl _)) (by rw [List.size_toArray]; exact thing_info _) (all_oneCell_toArray (encT_one _)) ?_
              rw [List.toList_toArray]
              obtain ⟨x5, hw5⟩ : ∃ v, (x4).setCells bb 0 (encT (cutB u (a - zl))) = v := ⟨_, rfl⟩
              have fb5 : x5.heap[bb]? = some (.cells (encT (cutB u (a - zl))).toArray 58) := by rw [← hw5]; exact setCells_row fb4 (by rw [encT_len]; rfl)
              have fa5 := (show x5.heap[ba]? = (x4).heap[ba]? by rw [← hw5]; exact setCells_other _ _ _ _ (fun e => hne e)).trans fa4
              have hW5 := Lib.hid (show Below w4.heap.size w4 x5 by rw [← hw5]; exact below_setCells lbb _ _ _ hW4.out)
              have hS5 : x5.cell? ⟨gT, 1, none⟩ = some (.func (.func 49) #[] #[]) ∧ NdAt x5 b n := ⟨(HW.out x5 (K4.out.trans (hW5.out.mono K4.out.size))).cC, N4.out.below hW5.out⟩
              rw [hw5]
              clear hw5
              refine hK.out _ _ hS5 (fun hHeld => ?_)
              clear hK K
              try simp only [Act.put]
              refine wpAnyH_done (by kernel_rfl) ?_ _
              go_wp2_with fail
              go_meet
              case rel => exact ⟨ba, bb, rfl, rfl, hne, lba, lbb, fa5, fb5, hW5.out⟩
      · simp only [List.getElem_toArray, List.getElem_cons_succ, List.getElem_cons_zero]
        go_simp
        try dsimp only
        obtain ⟨x6, hw6⟩ : ∃ v, (x1).alloc (.cells #[.int .i32 0, .int .i32 0, .int .i32 0, .int .i32 0, .int .i32 0, .int .i32 0, .int .i32 0, .int .i32 0, .int .i32 0, .int .i32 0, .int .i32 0, .int .i32 0, .int .i32 0, .int .i32 0, .int .i32 0, .int .i32 0, .int .i32 0, .int .i32 0, .int .i32 0, .int .i32 0, .int .i32 0, .int .i32 0, .int .i32 0, .int .i32 0, .int .i32 0, .int .i32 0, .int .i32 0, .int .i32 0, .int .i32 0, .int .i32 0, .int .i32 0, .int .i32 0, .int .i64 0] 58) = v := ⟨_, rfl⟩
        obtain ⟨bb, hbb⟩ : ∃ v, (x1).heap.size = v := ⟨_, rfl⟩
        have hb6 : Below (x1).heap.size (x1) x6 := by rw [← hw6]; exact (Below.refl _ _).alloc (Nat.le_refl _) _
        have fb6 : x6.heap[bb]? = some (.cells ([.int .i32 0, .int .i32 0, .int .i32 0, .int .i32 0, .int .i32 0, .int .i32 0, .int .i32 0, .int .i32 0, .int .i32 0, .int .i32 0, .int .i32 0, .int .i32 0, .int .i32 0, .int .i32 0, .int .i32 0, .int .i32 0, .int .i32 0, .int .i32 0, .int .i32 0, .int .i32 0, .int .i32 0, .int .i32 0, .int .i32 0, .int .i32 0, .int .i32 0, .int .i32 0, .int .i32 0, .int .i32 0, .int .i32 0, .int .i32 0, .int .i32 0, .int .i32 0, .int .i64 0] : List Value).toArray 58) := by rw [← hw6, ← hbb]; exact heap_alloc_new _ _
        have hW6 := Lib.hid (hW1.out.trans (hb6.mono hW1.out.size))
        have lbb : w4.heap.size ≤ bb := by rw [← hbb]; exact hW1.out.size
        have hS6 : x6.cell? ⟨gT, 1, none⟩ = some (.func (.func 49) #[] #[]) ∧ NdAt x6 b n := ⟨cell_later (w := x1) hHeld.1 hb6, NdAt.below (w := x1) hHeld.2 hb6⟩
        rw [hw6, hbb]
        clear hw6 hbb hb6
        refine hK.out _ _ hS6 (fun hHeld => ?_)
        clear hK K
        try simp only [Act.put, List.setIfInBounds_toArray, List.set_cons_zero, List.set_cons_succ]
        refine wpAnyH_ready (rs := [14]) (by kernel_rfl) (by simp) ?_
        refine AllReadyH.cons rfl (fun K hK => ?_) (AllReadyH.nil)
        · simp only [List.getElem_toArray, List.getElem_cons_succ, List.getElem_cons_zero]
          go_simp
          try dsimp only
          obtain ⟨x7, hw7⟩ : ∃ v, (x6).alloc (.cells #[.int .i32 0, .int .i32 0, .int .i32 0, .int .i32 0, .int .i32 0, .int .i32 0, .int .i32 0, .int .i32 0, .int .i32 0, .int .i32 0, .int .i32 0, .int .i32 0, .int .i32 0, .int .i32 0, .int .i32 0, .int .i32 0, .int .i32 0, .int .i32 0, .int .i32 0, .int .i32 0, .int .i32 0, .int .i32 0, .int .i32 0, .int .i32 0, .int .i32 0, .int .i32 0, .int .i32 0, .int .i32 0, .int .i32 0, .int .i32 0, .int .i32 0, .int .i32 0, .int .i64 0] 58) = v := ⟨_, rfl⟩
          obtain ⟨ba, hba⟩ : ∃ v, (x6).heap.size = v := ⟨_, rfl⟩
          have hb7 : Below (x6).heap.size (x6) x7 := by rw [← hw7]; exact (Below.refl _ _).alloc (Nat.le_refl _) _
          have fa7 : x7.heap[ba]? = some (.cells ([.int .i32 0, .int .i32 0, .int .i32 0, .int .i32 0, .int .i32 0, .int .i32 0, .int .i32 0, .int .i32 0, .int .i32 0, .int .i32 0, .int .i32 0, .int .i32 0, .int .i32 0, .int .i32 0, .int .i32 0, .int .i32 0, .int .i32 0, .int .i32 0, .int .i32 0, .int .i32 0, .int .i32 0, .int .i32 0, .int .i32 0, .int .i32 0, .int .i32 0, .int .i32 0, .int .i32 0, .int .i32 0, .int .i32 0, .int .i32 0, .int .i32 0, .int .i32 0, .int .i64 0] : List Value).toArray 58) := by rw [← hw7, ← hba]; exact heap_alloc_new _ _
          have hW7 := Lib.hid (hW6.out.trans (hb7.mono hW6.out.size))
          have lba : w4.heap.size ≤ ba := by rw [← hba]; exact hW6.out.size
          have hS7 : x7.cell? ⟨gT, 1, none⟩ = some (.func (.func 49) #[] #[]) ∧ NdAt x7 b n := ⟨cell_later (w := x6) hHeld.1 hb7, NdAt.below (w := x6) hHeld.2 hb7⟩
          have fb7 := heap_later (w := x6) fb6 hb7
          have hne : ba ≠ bb := by have h1 := (Array.getElem?_eq_some_iff.1 (show (x6).heap[bb]? = _ from fb6)).1; omega
          rw [hw7, hba]
          clear hw7 hba hb7
          refine hK.out _ _ hS7 (fun hHeld => ?_)
          clear hK K
          try simp only [Act.put, List.setIfInBounds_toArray, List.set_cons_zero, List.set_cons_succ]
          refine wpAnyH_ready (rs := [16]) (by kernel_rfl) (by simp) ?_
          refine AllReadyH.cons rfl (fun K hK => ?_) (AllReadyH.nil)
          · simp only [List.getElem_toArray, List.getElem_cons_succ, List.getElem_cons_zero]
            refine of_if (by rfl) ?_
            refine wp_store_mid 58 (.tmp 14) (.tmp 98) rfl ba 0 (encT (cutA u (a - zl))).toArray rfl rfl (there_row fa7 (by rw [List.size_toArray, encT_len]; exact Nat.le_refl _)) (by rw [List.size_toArray]; exact thing_info _) (all_oneCell_toArray (encT_one _)) ?_
            rw [List.toList_toArray]
            obtain ⟨x8, hw8⟩ : ∃ v, (x7).setCells ba 0 (encT (cutA u (a - zl))) = v := ⟨_, rfl⟩
            have fa8 : x8.heap[ba]? = some (.cells (encT (cutA u (a - zl))).toArray 58) := by rw [← hw8]; exact setCells_row fa7 (by rw [encT_len]; rfl)
            have fb8 := (show x8.heap[bb]? = (x7).heap[bb]? by rw [← hw8]; exact setCells_other _ _ _ _ (fun e => hne e.symm)).trans fb7
            have hW8 := Lib.hid (show Below w4.heap.size w4 x8 by rw [← hw8]; exact below_setCells lba _ _ _ hW7.out)
            have hS8 : x8.cell? ⟨gT, 1, none⟩ = some (.func (.func 49) #[] #[]) ∧ NdAt x8 b n := ⟨(HW.out x8 (K4.out.trans (hW8.out.mono K4.out.size))).cC, N4.out.below hW8.out⟩
            rw [hw8]
            clear hw8
            refine hK.out _ _ hS8 (fun hHeld => ?_)
            clear hK K
            try simp only [Act.put]
            refine wpAnyH_ready (rs := [17]) (by kernel_rfl) (by simp) ?_
            refine AllReadyH.cons rfl (fun K hK => ?_) (AllReadyH.nil)
            · simp only [List.getElem_toArray, List.getElem_cons_succ, List.getElem_cons_zero]
              refine of_if (by rfl) ?_
              refine wp_store_mid 58 (.tmp 15) (.tmp 99) rfl bb 0 (encT (cutB u (a - zl))).toArray rfl rfl (there_row fb8 (by rw [List.size_toArray, encT_len]; exact Nat.le_refl _)) (by rw [List.size_toArray]; exact thing_info _) (all_oneCell_toArray (encT_one _)) ?_
              rw [List.toList_toArray]
              obtain ⟨x9, hw9⟩ : ∃ v, (x8).setCells bb 0 (encT (cutB u (a - zl))) = v := ⟨_, rfl⟩
              have fb9 : x9.heap[bb]? = some (.cells (encT (cutB u (a - zl))).toArray 58) := by rw [← hw9]; exact setCells_row fb8 (by rw [encT_len]; rfl)
              have fa9 := (show x9.heap[ba]? = (x8).heap[ba]? by rw [← hw9]; exact setCells_other _ _ _ _ (fun e => hne e)).trans fa8
              have hW9 := Lib.hid (show Below w4.heap.size w4 x9 by rw [← hw9]; exact below_setCells lbb _ _ _ hW8.out)
              have hS9 : x9.cell? ⟨gT, 1, none⟩ = some (.func (.func 49) #[] #[]) ∧ NdAt x9 b n := ⟨(HW.out x9 (K4.out.trans (hW9.out.mono K4.out.size))).cC, N4.out.below hW9.out⟩
              rw [hw9]
              clear hw9
              refine hK.out _ _ hS9 (fun hHeld => ?_)
              clear hK K
              try simp only [Act.put]
              refine wpAnyH_done (by kernel_rfl) ?_ _
              go_wp2_with fail
              go_meet
              case rel => exact ⟨ba, bb, rfl, rfl, hne, lba, lbb, fa9, fb9, hW9.out⟩
    · simp only [List.getElem_toArray, List.getElem_cons_succ, List.getElem_cons_zero]
      go_simp
      try dsimp only
      obtain ⟨x10, hw10⟩ : ∃ v, (wd).alloc (.cells #[.int .i32 0, .int .i32 0, .int .i32 0, .int .i32 0, .int .i32 0, .int .i32 0, .int .i32 0, .int .i32 0, .int .i32 0, .int .i32 0, .int .i32 0, .int .i32 0, .int .i32 0, .int .i32 0, .int .i32 0, .int .i32 0, .int .i32 0, .int .i32 0, .int .i32 0, .int .i32 0, .int .i32 0, .int .i32 0, .int .i32 0, .int .i32 0, .int .i32 0, .int .i32 0, .int .i32 0, .int .i32 0, .int .i32 0, .int .i32 0, .int .i32 0, .int .i32 0, .int .i64 0] 58) = v := ⟨_, rfl⟩
      obtain ⟨ba, hba⟩ : ∃ v, (wd).heap.size = v := ⟨_, rfl⟩
      have hb10 : Below (wd).heap.size (wd) x10 := by rw [← hw10]; exact (Below.refl _ _).alloc (Nat.le_refl _) _
      have fa10 : x10.heap[ba]? = some (.cells ([.int .i32 0, .int .i32 0, .int .i32 0, .int .i32 0, .int .i32 0, .int .i32 0, .int .i32 0, .int .i32 0, .int .i32 0, .int .i32 0, .int .i32 0, .int .i32 0, .int .i32 0, .int .i32 0, .int .i32 0, .int .i32 0, .int .i32 0, .int .i32 0, .int .i32 0, .int .i32 0, .int .i32 0, .int .i32 0, .int .i32 0, .int .i32 0, .int .i32 0, .int .i32 0, .int .i32 0, .int .i32 0, .int .i32 0, .int .i32 0, .int .i32 0, .int .i32 0, .int .i64 0] : List Value).toArray 58) := by rw [← hw10, ← hba]; exact heap_alloc_new _ _
      have hW10 := Lib.hid (hW0.out.trans (hb10.mono hW0.out.size))
      have lba : w4.heap.size ≤ ba := by rw [← hba]; exact hW0.out.size
      have hS10 : x10.cell? ⟨gT, 1, none⟩ = some (.func (.func 49) #[] #[]) ∧ NdAt x10 b n := ⟨cell_later (w := wd) hHeld.1 hb10, NdAt.below (w := wd) hHeld.2 hb10⟩
      rw [hw10, hba]
      clear hw10 hba hb10
      refine hK.out _ _ hS10 (fun hHeld => ?_)
      clear hK K
      try simp only [Act.put, List.setIfInBounds_toArray, List.set_cons_zero, List.set_cons_succ]
      refine wpAnyH_ready (rs := [10, 15]) (by kernel_rfl) (by simp) ?_
      refine AllReadyH.cons rfl (fun K hK => ?_) (AllReadyH.cons rfl (fun K hK => ?_) (AllReadyH.nil))
      · simp only [List.getElem_toArray, List.getElem_cons_succ, List.getElem_cons_zero]
        go_simp
        refine (HCUT.out _).mono ?_
        rintro e x11 ⟨rfl, hb11⟩
        have hW11 := Lib.hid (hW10.out.trans (hb11.mono hW10.out.size))
        have hS11 : x11.cell? ⟨gT, 1, none⟩ = some (.func (.func 49) #[] #[]) ∧ NdAt x11 b n := ⟨cell_later hHeld.1 hb11, hHeld.2.below hb11⟩
        have fa11 := heap_later fa10 hb11
        clear hb11
        try dsimp only
        refine hK.out _ _ hS11 (fun hHeld => ?_)
        clear hK K
        try simp only [Act.put, List.setIfInBounds_toArray, List.set_cons_zero, List.set_cons_succ]
        refine take_at (i := 11) (v := ?_) (some 86) rfl rfl (by kernel_rfl) (by kernel_rfl) (by kernel_rfl) (fun _ _ _ h => h) hHeld (by rfl) (fun wS hSw => ?_) ?_
        rotate_left
        · try dsimp only at hSw
          go_simp
          try with_reducible rfl
        try simp only [Act.put, List.setIfInBounds_toArray, List.set_cons_zero, List.set_cons_succ]
        refine take_at (i := 12) (v := ?_) (some 98) rfl rfl (by kernel_rfl) (by kernel_rfl) (by kernel_rfl) (fun _ _ _ h => h) hHeld (by rfl) (fun wS hSw => ?_) ?_
        rotate_left
        · try dsimp only at hSw
          go_simp
          try with_reducible rfl
        try simp only [Act.put, List.setIfInBounds_toArray, List.set_cons_zero, List.set_cons_succ]
        refine take_at (i := 13) (v := ?_) (some 99) rfl rfl (by kernel_rfl) (by kernel_rfl) (by kernel_rfl) (fun _ _ _ h => h) hHeld (by rfl) (fun wS hSw => ?_) ?_
        rotate_left
        · try dsimp only at hSw
          go_simp
          try with_reducible rfl
        try simp only [Act.put, List.setIfInBounds_toArray, List.set_cons_zero, List.set_cons_succ]
        refine wpAnyH_ready (rs := [15]) (by kernel_rfl) (by simp) ?_
        refine AllReadyH.cons rfl (fun K hK => ?_) (AllReadyH.nil)
        · simp only [List.getElem_toArray, List.getElem_cons_succ, List.getElem_cons_zero]
          go_simp
          try dsimp only
          obtain ⟨x12, hw12⟩ : ∃ v, (x11).alloc (.cells #[.int .i32 0, .int .i32 0, .int .i32 0, .int .i32 0, .int .i32 0, .int .i32 0, .int .i32 0, .int .i32 0, .int .i32 0, .int .i32 0, .int .i32 0, .int .i32 0, .int .i32 0, .int .i32 0, .int .i32 0, .int .i32 0, .int .i32 0, .int .i32 0, .int .i32 0, .int .i32 0, .int .i32 0, .int .i32 0, .int .i32 0, .int .i32 0, .int .i32 0, .int .i32 0, .int .i32 0, .int .i32 0, .int .i32 0, .int .i32 0, .int .i32 0, .int .i32 0, .int .i64 0] 58) = v := ⟨_, rfl⟩
          obtain ⟨bb, hbb⟩ : ∃ v, (x11).heap.size = v := ⟨_, rfl⟩
          have hb12 : Below (x11).heap.size (x11) x12 := by rw [← hw12]; exact (Below.refl _ _).alloc (Nat.le_refl _) _
          have fb12 : x12.heap[bb]? = some (.cells ([.int .i32 0, .int .i32 0, .int .i32 0, .int .i32 0, .int .i32 0, .int .i32 0, .int .i32 0, .int .i32 0, .int .i32 0, .int .i32 0, .int .i32 0, .int .i32 0, .int .i32 0, .int .i32 0, .int .i32 0, .int .i32 0, .int .i32 0, .int .i32 0, .int .i32 0, .int .i32 0, .int .i32 0, .int .i32 0, .int .i32 0, .int .i32 0, .int .i32 0, .int .i32 0, .int .i32 0, .int .i32 0, .int .i32 0, .int .i32 0, .int .i32 0, .int .i32 0, .int .i64 0] : List Value).toArray 58) := by rw [← hw12, ← hbb]; exact heap_alloc_new _ _
          have hW12 := Lib.hid (hW11.out.trans (hb12.mono hW11.out.size))
          have lbb : w4.heap.size ≤ bb := by rw [← hbb]; exact hW11.out.size
          have hS12 : x12.cell? ⟨gT, 1, none⟩ = some (.func (.func 49) #[] #[]) ∧ NdAt x12 b n := ⟨cell_later (w := x11) hHeld.1 hb12, NdAt.below (w := x11) hHeld.2 hb12⟩
          have fa12 := heap_later (w := x11) fa11 hb12
          have hne : ba ≠ bb := by have h1 := (Array.getElem?_eq_some_iff.1 (show (x11).heap[ba]? = _ from fa11)).1; omega
          rw [hw12, hbb]
          clear hw12 hbb hb12
          refine hK.out _ _ hS12 (fun hHeld => ?_)
          clear hK K
          try simp only [Act.put, List.setIfInBounds_toArray, List.set_cons_zero, List.set_cons_succ]
          refine wpAnyH_ready (rs := [16]) (by kernel_rfl) (by simp) ?_
          refine AllReadyH.cons rfl (fun K hK => ?_) (AllReadyH.nil)
          · simp only [List.getElem_toArray, List.getElem_cons_succ, List.getElem_cons_zero]
            refine of_if (by rfl) ?_
            refine wp_store_mid 58 (.tmp 14) (.tmp 98) rfl ba 0 (encT (cutA u (a - zl))).toArray rfl rfl (there_row fa12 (by rw [List.size_toArray, encT_len]; exact Nat.le_refl _)) (by rw [List.size_toArray]; exact thing_info _) (all_oneCell_toArray (encT_one _)) ?_
            rw [List.toList_toArray]
            obtain ⟨x13, hw13⟩ : ∃ v, (x12).setCells ba 0 (encT (cutA u (a - zl))) = v := ⟨_, rfl⟩
            have fa13 : x13.heap[ba]? = some (.cells (encT (cutA u (a - zl))).toArray 58) := by rw [← hw13]; exact setCells_row fa12 (by rw [encT_len]; rfl)
            have fb13 := (show x13.heap[bb]? = (x12).heap[bb]? by rw [← hw13]; exact setCells_other _ _ _ _ (fun e => hne e.symm)).trans fb12
            have hW13 := Lib.hid (show Below w4.heap.size w4 x13 by rw [← hw13]; exact below_setCells lba _ _ _ hW12.out)
            have hS13 : x13.cell? ⟨gT, 1, none⟩ = some (.func (.func 49) #[] #[]) ∧ NdAt x13 b n := ⟨(HW.out x13 (K4.out.trans (hW13.out.mono K4.out.size))).cC, N4.out.below hW13.out⟩
            rw [hw13]
            clear hw13
            refine hK.out _ _ hS13 (fun hHeld => ?_)
            clear hK K
            try simp only [Act.put]
            refine wpAnyH_ready (rs := [17]) (by kernel_rfl) (by simp) ?_
            refine AllReadyH.cons rfl (fun K hK => ?_) (AllReadyH.nil)
            · simp only [List.getElem_toArray, List.getElem_cons_succ, List.getElem_cons_zero]
              refine of_if (by rfl) ?_
              refine wp_store_mid 58 (.tmp 15) (.tmp 99) rfl bb 0 (encT (cutB u (a - zl))).toArray rfl rfl (there_row fb13 (by rw [List.size_toArray, encT_len]; exact Nat.le_refl _)) (by rw [List.size_toArray]; exact thing_info _) (all_oneCell_toArray (encT_one _)) ?_
              rw [List.toList_toArray]
              obtain ⟨x14, hw14⟩ : ∃ v, (x13).setCells bb 0 (encT (cutB u (a - zl))) = v := ⟨_, rfl⟩
              have fb14 : x14.heap[bb]? = some (.cells (encT (cutB u (a - zl))).toArray 58) := by rw [← hw14]; exact setCells_row fb13 (by rw [encT_len]; rfl)
              have fa14 := (show x14.heap[ba]? = (x13).heap[ba]? by rw [← hw14]; exact setCells_other _ _ _ _ (fun e => hne e)).trans fa13
              have hW14 := Lib.hid (show Below w4.heap.size w4 x14 by rw [← hw14]; exact below_setCells lbb _ _ _ hW13.out)
              have hS14 : x14.cell? ⟨gT, 1, none⟩ = some (.func (.func 49) #[] #[]) ∧ NdAt x14 b n := ⟨(HW.out x14 (K4.out.trans (hW14.out.mono K4.out.size))).cC, N4.out.below hW14.out⟩
              rw [hw14]
              clear hw14
              refine hK.out _ _ hS14 (fun hHeld => ?_)
              clear hK K
              try simp only [Act.put]
              refine wpAnyH_done (by kernel_rfl) ?_ _
              go_wp2_with fail
              go_meet
              case rel => exact ⟨ba, bb, rfl, rfl, hne, lba, lbb, fa14, fb14, hW14.out⟩
      · simp only [List.getElem_toArray, List.getElem_cons_succ, List.getElem_cons_zero]
        go_simp
        try dsimp only
        obtain ⟨x15, hw15⟩ : ∃ v, (x10).alloc (.cells #[.int .i32 0, .int .i32 0, .int .i32 0, .int .i32 0, .int .i32 0, .int .i32 0, .int .i32 0, .int .i32 0, .int .i32 0, .int .i32 0, .int .i32 0, .int .i32 0, .int .i32 0, .int .i32 0, .int .i32 0, .int .i32 0, .int .i32 0, .int .i32 0, .int .i32 0, .int .i32 0, .int .i32 0, .int .i32 0, .int .i32 0, .int .i32 0, .int .i32 0, .int .i32 0, .int .i32 0, .int .i32 0, .int .i32 0, .int .i32 0, .int .i32 0, .int .i32 0, .int .i64 0] 58) = v := ⟨_, rfl⟩
        obtain ⟨bb, hbb⟩ : ∃ v, (x10).heap.size = v := ⟨_, rfl⟩
        have hb15 : Below (x10).heap.size (x10) x15 := by rw [← hw15]; exact (Below.refl _ _).alloc (Nat.le_refl _) _
        have fb15 : x15.heap[bb]? = some (.cells ([.int .i32 0, .int .i32 0, .int .i32 0, .int .i32 0, .int .i32 0, .int .i32 0, .int .i32 0, .int .i32 0, .int .i32 0, .int .i32 0, .int .i32 0, .int .i32 0, .int .i32 0, .int .i32 0, .int .i32 0, .int .i32 0, .int .i32 0, .int .i32 0, .int .i32 0, .int .i32 0, .int .i32 0, .int .i32 0, .int .i32 0, .int .i32 0, .int .i32 0, .int .i32 0, .int .i32 0, .int .i32 0, .int .i32 0, .int .i32 0, .int .i32 0, .int .i32 0, .int .i64 0] : List Value).toArray 58) := by rw [← hw15, ← hbb]; exact heap_alloc_new _ _
        have hW15 := Lib.hid (hW10.out.trans (hb15.mono hW10.out.size))
        have lbb : w4.heap.size ≤ bb := by rw [← hbb]; exact hW10.out.size
        have hS15 : x15.cell? ⟨gT, 1, none⟩ = some (.func (.func 49) #[] #[]) ∧ NdAt x15 b n := ⟨cell_later (w := x10) hHeld.1 hb15, NdAt.below (w := x10) hHeld.2 hb15⟩
        have fa15 := heap_later (w := x10) fa10 hb15
        have hne : ba ≠ bb := by have h1 := (Array.getElem?_eq_some_iff.1 (show (x10).heap[ba]? = _ from fa10)).1; omega
        rw [hw15, hbb]
        clear hw15 hbb hb15
        refine hK.out _ _ hS15 (fun hHeld => ?_)
        clear hK K
        try simp only [Act.put, List.setIfInBounds_toArray, List.set_cons_zero, List.set_cons_succ]
        refine wpAnyH_ready (rs := [10]) (by kernel_rfl) (by simp) ?_
        refine AllReadyH.cons rfl (fun K hK => ?_) (AllReadyH.nil)
        · simp only [List.getElem_toArray, List.getElem_cons_succ, List.getElem_cons_zero]
          go_simp
          refine (HCUT.out _).mono ?_
          rintro e x16 ⟨rfl, hb16⟩
          have hW16 := Lib.hid (hW15.out.trans (hb16.mono hW15.out.size))
          have hS16 : x16.cell? ⟨gT, 1, none⟩ = some (.func (.func 49) #[] #[]) ∧ NdAt x16 b n := ⟨cell_later hHeld.1 hb16, hHeld.2.below hb16⟩
          have fa16 := heap_later fa15 hb16
          have fb16 := heap_later fb15 hb16
          clear hb16
          try dsimp only
          refine hK.out _ _ hS16 (fun hHeld => ?_)
          clear hK K
          try simp only [Act.put, List.setIfInBounds_toArray, List.set_cons_zero, List.set_cons_succ]
          refine take_at (i := 11) (v := ?_) (some 86) rfl rfl (by kernel_rfl) (by kernel_rfl) (by kernel_rfl) (fun _ _ _ h => h) hHeld (by rfl) (fun wS hSw => ?_) ?_
          rotate_left
          · try dsimp only at hSw
            go_simp
            try with_reducible rfl
          try simp only [Act.put, List.setIfInBounds_toArray, List.set_cons_zero, List.set_cons_succ]
          refine take_at (i := 12) (v := ?_) (some 98) rfl rfl (by kernel_rfl) (by kernel_rfl) (by kernel_rfl) (fun _ _ _ h => h) hHeld (by rfl) (fun wS hSw => ?_) ?_
          rotate_left
          · try dsimp only at hSw
            go_simp
            try with_reducible rfl
          try simp only [Act.put, List.setIfInBounds_toArray, List.set_cons_zero, List.set_cons_succ]
          refine take_at (i := 13) (v := ?_) (some 99) rfl rfl (by kernel_rfl) (by kernel_rfl) (by kernel_rfl) (fun _ _ _ h => h) hHeld (by rfl) (fun wS hSw => ?_) ?_
          rotate_left
          · try dsimp only at hSw
            go_simp
            try with_reducible rfl
          try simp only [Act.put, List.setIfInBounds_toArray, List.set_cons_zero, List.set_cons_succ]
          refine wpAnyH_ready (rs := [16]) (by kernel_rfl) (by simp) ?_
          refine AllReadyH.cons rfl (fun K hK => ?_) (AllReadyH.nil)
          · simp only [List.getElem_toArray, List.getElem_cons_succ, List.getElem_cons_zero]
            refine of_if (by rfl) ?_
            refine wp_store_mid 58 (.tmp 14) (.tmp 98) rfl ba 0 (encT (cutA u (a - zl))).toArray rfl rfl (there_row fa16 (by rw [List.size_toArray, encT_len]; exact Nat.le_refl _)) (by rw [List.size_toArray]; exact thing_info _) (all_oneCell_toArray (encT_one _)) ?_
            rw [List.toList_toArray]
            obtain ⟨x17, hw17⟩ : ∃ v, (x16).setCells ba 0 (encT (cutA u (a - zl))) = v := ⟨_, rfl⟩
            have fa17 : x17.heap[ba]? = some (.cells (encT (cutA u (a - zl))).toArray 58) := by rw [← hw17]; exact setCells_row fa16 (by rw [encT_len]; rfl)
            have fb17 := (show x17.heap[bb]? = (x16).heap[bb]? by rw [← hw17]; exact setCells_other _ _ _ _ (fun e => hne e.symm)).trans fb16
            have hW17 := Lib.hid (show Below w4.heap.size w4 x17 by rw [← hw17]; exact below_setCells lba _ _ _ hW16.out)
            have hS17 : x17.cell? ⟨gT, 1, none⟩ = some (.func (.func 49) #[] #[]) ∧ NdAt x17 b n := ⟨(HW.out x17 (K4.out.trans (hW17.out.mono K4.out.size))).cC, N4.out.below hW17.out⟩
            rw [hw17]
            clear hw17
            refine hK.out _ _ hS17 (fun hHeld => ?_)
            clear hK K
            try simp only [Act.put]
            refine wpAnyH_ready (rs := [17]) (by kernel_rfl) (by simp) ?_
            refine AllReadyH.cons rfl (fun K hK => ?_) (AllReadyH.nil)
            · simp only [List.getElem_toArray, List.getElem_cons_succ, List.getElem_cons_zero]
              refine of_if (by rfl) ?_
              refine wp_store_mid 58 (.tmp 15) (.tmp 99) rfl bb 0 (encT (cutB u (a - zl))).toArray rfl rfl (there_row fb17 (by rw [List.size_toArray, encT_len]; exact Nat.le_refl _)) (by rw [List.size_toArray]; exact thing_info _) (all_oneCell_toArray (encT_one _)) ?_
              rw [List.toList_toArray]
              obtain ⟨x18, hw18⟩ : ∃ v, (x17).setCells bb 0 (encT (cutB u (a - zl))) = v := ⟨_, rfl⟩
              have fb18 : x18.heap[bb]? = some (.cells (encT (cutB u (a - zl))).toArray 58) := by rw [← hw18]; exact setCells_row fb17 (by rw [encT_len]; rfl)
              have fa18 := (show x18.heap[ba]? = (x17).heap[ba]? by rw [← hw18]; exact setCells_other _ _ _ _ (fun e => hne e)).trans fa17
              have hW18 := Lib.hid (show Below w4.heap.size w4 x18 by rw [← hw18]; exact below_setCells lbb _ _ _ hW17.out)
              have hS18 : x18.cell? ⟨gT, 1, none⟩ = some (.func (.func 49) #[] #[]) ∧ NdAt x18 b n := ⟨(HW.out x18 (K4.out.trans (hW18.out.mono K4.out.size))).cC, N4.out.below hW18.out⟩
              rw [hw18]
              clear hw18
              refine hK.out _ _ hS18 (fun hHeld => ?_)
              clear hK K
              try simp only [Act.put]
              refine wpAnyH_done (by kernel_rfl) ?_ _
              go_wp2_with fail
              go_meet
              case rel => exact ⟨ba, bb, rfl, rfl, hne, lba, lbb, fa18, fb18, hW18.out⟩
    · simp only [List.getElem_toArray, List.getElem_cons_succ, List.getElem_cons_zero]
      go_simp
      try dsimp only
      obtain ⟨x19, hw19⟩ : ∃ v, (wd).alloc (.cells #[.int .i32 0, .int .i32 0, .int .i32 0, .int .i32 0, .int .i32 0, .int .i32 0, .int .i32 0, .int .i32 0, .int .i32 0, .int .i32 0, .int .i32 0, .int .i32 0, .int .i32 0, .int .i32 0, .int .i32 0, .int .i32 0, .int .i32 0, .int .i32 0, .int .i32 0, .int .i32 0, .int .i32 0, .int .i32 0, .int .i32 0, .int .i32 0, .int .i32 0, .int .i32 0, .int .i32 0, .int .i32 0, .int .i32 0, .int .i32 0, .int .i32 0, .int .i32 0, .int .i64 0] 58) = v := ⟨_, rfl⟩
      obtain ⟨bb, hbb⟩ : ∃ v, (wd).heap.size = v := ⟨_, rfl⟩
      have hb19 : Below (wd).heap.size (wd) x19 := by rw [← hw19]; exact (Below.refl _ _).alloc (Nat.le_refl _) _
      have fb19 : x19.heap[bb]? = some (.cells ([.int .i32 0, .int .i32 0, .int .i32 0, .int .i32 0, .int .i32 0, .int .i32 0, .int .i32 0, .int .i32 0, .int .i32 0, .int .i32 0, .int .i32 0, .int .i32 0, .int .i32 0, .int .i32 0, .int .i32 0, .int .i32 0, .int .i32 0, .int .i32 0, .int .i32 0, .int .i32 0, .int .i32 0, .int .i32 0, .int .i32 0, .int .i32 0, .int .i32 0, .int .i32 0, .int .i32 0, .int .i32 0, .int .i32 0, .int .i32 0, .int .i32 0, .int .i32 0, .int .i64 0] : List Value).toArray 58) := by rw [← hw19, ← hbb]; exact heap_alloc_new _ _
      have hW19 := Lib.hid (hW0.out.trans (hb19.mono hW0.out.size))
      have lbb : w4.heap.size ≤ bb := by rw [← hbb]; exact hW0.out.size
      have hS19 : x19.cell? ⟨gT, 1, none⟩ = some (.func (.func 49) #[] #[]) ∧ NdAt x19 b n := ⟨cell_later (w := wd) hHeld.1 hb19, NdAt.below (w := wd) hHeld.2 hb19⟩
      rw [hw19, hbb]
      clear hw19 hbb hb19
      refine hK.out _ _ hS19 (fun hHeld => ?_)
      clear hK K
      try simp only [Act.put, List.setIfInBounds_toArray, List.set_cons_zero, List.set_cons_succ]
      refine wpAnyH_ready (rs := [10, 14]) (by kernel_rfl) (by simp) ?_
      refine AllReadyH.cons rfl (fun K hK => ?_) (AllReadyH.cons rfl (fun K hK => ?_) (AllReadyH.nil))
      · simp only [List.getElem_toArray, List.getElem_cons_succ, List.getElem_cons_zero]
        go_simp
        refine (HCUT.out _).mono ?_
        rintro e x20 ⟨rfl, hb20⟩
        have hW20 := Lib.hid (hW19.out.trans (hb20.mono hW19.out.size))
        have hS20 : x20.cell? ⟨gT, 1, none⟩ = some (.func (.func 49) #[] #[]) ∧ NdAt x20 b n := ⟨cell_later hHeld.1 hb20, hHeld.2.below hb20⟩
        have fb20 := heap_later fb19 hb20
        clear hb20
        try dsimp only
        refine hK.out _ _ hS20 (fun hHeld => ?_)
        clear hK K
        try simp only [Act.put, List.setIfInBounds_toArray, List.set_cons_zero, List.set_cons_succ]
        refine take_at (i := 11) (v := ?_) (some 86) rfl rfl (by kernel_rfl) (by kernel_rfl) (by kernel_rfl) (fun _ _ _ h => h) hHeld (by rfl) (fun wS hSw => ?_) ?_
        rotate_left
        · try dsimp only at hSw
          go_simp
          try with_reducible rfl
        try simp only [Act.put, List.setIfInBounds_toArray, List.set_cons_zero, List.set_cons_succ]
        refine take_at (i := 12) (v := ?_) (some 98) rfl rfl (by kernel_rfl) (by kernel_rfl) (by kernel_rfl) (fun _ _ _ h => h) hHeld (by rfl) (fun wS hSw => ?_) ?_
        rotate_left
        · try dsimp only at hSw
          go_simp
          try with_reducible rfl
        try simp only [Act.put, List.setIfInBounds_toArray, List.set_cons_zero, List.set_cons_succ]
        refine take_at (i := 13) (v := ?_) (some 99) rfl rfl (by kernel_rfl) (by kernel_rfl) (by kernel_rfl) (fun _ _ _ h => h) hHeld (by rfl) (fun wS hSw => ?_) ?_
        rotate_left
        · try dsimp only at hSw
          go_simp
          try with_reducible rfl
        try simp only [Act.put, List.setIfInBounds_toArray, List.set_cons_zero, List.set_cons_succ]
        refine wpAnyH_ready (rs := [14]) (by kernel_rfl) (by simp) ?_
        refine AllReadyH.cons rfl (fun K hK => ?_) (AllReadyH.nil)
        · simp only [List.getElem_toArray, List.getElem_cons_succ, List.getElem_cons_zero]
          go_simp
          try dsimp only
          obtain ⟨x21, hw21⟩ : ∃ v, (x20).alloc (.cells #[.int .i32 0, .int .i32 0, .int .i32 0, .int .i32 0, .int .i32 0, .int .i32 0, .int .i32 0, .int .i32 0, .int .i32 0, .int .i32 0, .int .i32 0, .int .i32 0, .int .i32 0, .int .i32 0, .int .i32 0, .int .i32 0, .int .i32 0, .int .i32 0, .int .i32 0, .int .i32 0, .int .i32 0, .int .i32 0, .int .i32 0, .int .i32 0, .int .i32 0, .int .i32 0, .int .i32 0, .int .i32 0, .int .i32 0, .int .i32 0, .int .i32 0, .int .i32 0, .int .i64 0] 58) = v := ⟨_, rfl⟩
          obtain ⟨ba, hba⟩ : ∃ v, (x20).heap.size = v := ⟨_, rfl⟩
          have hb21 : Below (x20).heap.size (x20) x21 := by rw [← hw21]; exact (Below.refl _ _).alloc (Nat.le_refl _) _
          have fa21 : x21.heap[ba]? = some (.cells ([.int .i32 0, .int .i32 0, .int .i32 0, .int .i32 0, .int .i32 0, .int .i32 0, .int .i32 0, .int .i32 0, .int .i32 0, .int .i32 0, .int .i32 0, .int .i32 0, .int .i32 0, .int .i32 0, .int .i32 0, .int .i32 0, .int .i32 0, .int .i32 0, .int .i32 0, .int .i32 0, .int .i32 0, .int .i32 0, .int .i32 0, .int .i32 0, .int .i32 0, .int .i32 0, .int .i32 0, .int .i32 0, .int .i32 0, .int .i32 0, .int .i32 0, .int .i32 0, .int .i64 0] : List Value).toArray 58) := by rw [← hw21, ← hba]; exact heap_alloc_new _ _
          have hW21 := Lib.hid (hW20.out.trans (hb21.mono hW20.out.size))
          have lba : w4.heap.size ≤ ba := by rw [← hba]; exact hW20.out.size
          have hS21 : x21.cell? ⟨gT, 1, none⟩ = some (.func (.func 49) #[] #[]) ∧ NdAt x21 b n := ⟨cell_later (w := x20) hHeld.1 hb21, NdAt.below (w := x20) hHeld.2 hb21⟩
          have fb21 := heap_later (w := x20) fb20 hb21
          have hne : ba ≠ bb := by have h1 := (Array.getElem?_eq_some_iff.1 (show (x20).heap[bb]? = _ from fb20)).1; omega
          rw [hw21, hba]
          clear hw21 hba hb21
          refine hK.out _ _ hS21 (fun hHeld => ?_)
          clear hK K
          try simp only [Act.put, List.setIfInBounds_toArray, List.set_cons_zero, List.set_cons_succ]
          refine wpAnyH_ready (rs := [16]) (by kernel_rfl) (by simp) ?_
          refine AllReadyH.cons rfl (fun K hK => ?_) (AllReadyH.nil)
          · simp only [List.getElem_toArray, List.getElem_cons_succ, List.getElem_cons_zero]
            refine of_if (by rfl) ?_
            refine wp_store_mid 58 (.tmp 14) (.tmp 98) rfl ba 0 (encT (cutA u (a - zl))).toArray rfl rfl (there_row fa21 (by rw [List.size_toArray, encT_len]; exact Nat.le_refl _)) (by rw [List.size_toArray]; exact thing_info _) (all_oneCell_toArray (encT_one _)) ?_
            rw [List.toList_toArray]
            obtain ⟨x22, hw22⟩ : ∃ v, (x21).setCells ba 0 (encT (cutA u (a - zl))) = v := ⟨_, rfl⟩
            have fa22 : x22.heap[ba]? = some (.cells (encT (cutA u (a - zl))).toArray 58) := by rw [← hw22]; exact setCells_row fa21 (by rw [encT_len]; rfl)
            have fb22 := (show x22.heap[bb]? = (x21).heap[bb]? by rw [← hw22]; exact setCells_other _ _ _ _ (fun e => hne e.symm)).trans fb21
            have hW22 := Lib.hid (show Below w4.heap.size w4 x22 by rw [← hw22]; exact below_setCells lba _ _ _ hW21.out)
            have hS22 : x22.cell? ⟨gT, 1, none⟩ = some (.func (.func 49) #[] #[]) ∧ NdAt x22 b n := ⟨(HW.out x22 (K4.out.trans (hW22.out.mono K4.out.size))).cC, N4.out.below hW22.out⟩
            rw [hw22]
            clear hw22
            refine hK.out _ _ hS22 (fun hHeld => ?_)
            clear hK K
            try simp only [Act.put]
            refine wpAnyH_ready (rs := [17]) (by kernel_rfl) (by simp) ?_
            refine AllReadyH.cons rfl (fun K hK => ?_) (AllReadyH.nil)
            · simp only [List.getElem_toArray, List.getElem_cons_succ, List.getElem_cons_zero]
              refine of_if (by rfl) ?_
              refine wp_store_mid 58 (.tmp 15) (.tmp 99) rfl bb 0 (encT (cutB u (a - zl))).toArray rfl rfl (there_row fb22 (by rw [List.size_toArray, encT_len]; exact Nat.le_refl _)) (by rw [List.size_toArray]; exact thing_info _) (all_oneCell_toArray (encT_one _)) ?_
              rw [List.toList_toArray]
              obtain ⟨x23, hw23⟩ : ∃ v, (x22).setCells bb 0 (encT (cutB u (a - zl))) = v := ⟨_, rfl⟩
              have fb23 : x23.heap[bb]? = some (.cells (encT (cutB u (a - zl))).toArray 58) := by rw [← hw23]; exact setCells_row fb22 (by rw [encT_len]; rfl)
              have fa23 := (show x23.heap[ba]? = (x22).heap[ba]? by rw [← hw23]; exact setCells_other _ _ _ _ (fun e => hne e)).trans fa22
              have hW23 := Lib.hid (show Below w4.heap.size w4 x23 by rw [← hw23]; exact below_setCells lbb _ _ _ hW22.out)
              have hS23 : x23.cell? ⟨gT, 1, none⟩ = some (.func (.func 49) #[] #[]) ∧ NdAt x23 b n := ⟨(HW.out x23 (K4.out.trans (hW23.out.mono K4.out.size))).cC, N4.out.below hW23.out⟩
              rw [hw23]
              clear hw23
              refine hK.out _ _ hS23 (fun hHeld => ?_)
              clear hK K
              try simp only [Act.put]
              refine wpAnyH_done (by kernel_rfl) ?_ _
              go_wp2_with fail
              go_meet
              case rel => exact ⟨ba, bb, rfl, rfl, hne, lba, lbb, fa23, fb23, hW23.out⟩
      · simp only [List.getElem_toArray, List.getElem_cons_succ, List.getElem_cons_zero]
        go_simp
        try dsimp only
        obtain ⟨x24, hw24⟩ : ∃ v, (x19).alloc (.cells #[.int .i32 0, .int .i32 0, .int .i32 0, .int .i32 0, .int .i32 0, .int .i32 0, .int .i32 0, .int .i32 0, .int .i32 0, .int .i32 0, .int .i32 0, .int .i32 0, .int .i32 0, .int .i32 0, .int .i32 0, .int .i32 0, .int .i32 0, .int .i32 0, .int .i32 0, .int .i32 0, .int .i32 0, .int .i32 0, .int .i32 0, .int .i32 0, .int .i32 0, .int .i32 0, .int .i32 0, .int .i32 0, .int .i32 0, .int .i32 0, .int .i32 0, .int .i32 0, .int .i64 0] 58) = v := ⟨_, rfl⟩
        obtain ⟨ba, hba⟩ : ∃ v, (x19).heap.size = v := ⟨_, rfl⟩
        have hb24 : Below (x19).heap.size (x19) x24 := by rw [← hw24]; exact (Below.refl _ _).alloc (Nat.le_refl _) _
        have fa24 : x24.heap[ba]? = some (.cells ([.int .i32 0, .int .i32 0, .int .i32 0, .int .i32 0, .int .i32 0, .int .i32 0, .int .i32 0, .int .i32 0, .int .i32 0, .int .i32 0, .int .i32 0, .int .i32 0, .int .i32 0, .int .i32 0, .int .i32 0, .int .i32 0, .int .i32 0, .int .i32 0, .int .i32 0, .int .i32 0, .int .i32 0, .int .i32 0, .int .i32 0, .int .i32 0, .int .i32 0, .int .i32 0, .int .i32 0, .int .i32 0, .int .i32 0, .int .i32 0, .int .i32 0, .int .i32 0, .int .i64 0] : List Value).toArray 58) := by rw [← hw24, ← hba]; exact heap_alloc_new _ _
        have hW24 := Lib.hid (hW19.out.trans (hb24.mono hW19.out.size))
        have lba : w4.heap.size ≤ ba := by rw [← hba]; exact hW19.out.size
        have hS24 : x24.cell? ⟨gT, 1, none⟩ = some (.func (.func 49) #[] #[]) ∧ NdAt x24 b n := ⟨cell_later (w := x19) hHeld.1 hb24, NdAt.below (w := x19) hHeld.2 hb24⟩
        have fb24 := heap_later (w := x19) fb19 hb24
        have hne : ba ≠ bb := by have h1 := (Array.getElem?_eq_some_iff.1 (show (x19).heap[bb]? = _ from fb19)).1; omega
        rw [hw24, hba]
        clear hw24 hba hb24
        refine hK.out _ _ hS24 (fun hHeld => ?_)
        clear hK K
        try simp only [Act.put, List.setIfInBounds_toArray, List.set_cons_zero, List.set_cons_succ]
        refine wpAnyH_ready (rs := [10]) (by kernel_rfl) (by simp) ?_
        refine AllReadyH.cons rfl (fun K hK => ?_) (AllReadyH.nil)
        · simp only [List.getElem_toArray, List.getElem_cons_succ, List.getElem_cons_zero]
          go_simp
          refine (HCUT.out _).mono ?_
          rintro e x25 ⟨rfl, hb25⟩
          have hW25 := Lib.hid (hW24.out.trans (hb25.mono hW24.out.size))
          have hS25 : x25.cell? ⟨gT, 1, none⟩ = some (.func (.func 49) #[] #[]) ∧ NdAt x25 b n := ⟨cell_later hHeld.1 hb25, hHeld.2.below hb25⟩
          have fa25 := heap_later fa24 hb25
          have fb25 := heap_later fb24 hb25
          clear hb25
          try dsimp only
          refine hK.out _ _ hS25 (fun hHeld => ?_)
          clear hK K
          try simp only [Act.put, List.setIfInBounds_toArray, List.set_cons_zero, List.set_cons_succ]
          refine take_at (i := 11) (v := ?_) (some 86) rfl rfl (by kernel_rfl) (by kernel_rfl) (by kernel_rfl) (fun _ _ _ h => h) hHeld (by rfl) (fun wS hSw => ?_) ?_
          rotate_left
          · try dsimp only at hSw
            go_simp
            try with_reducible rfl
          try simp only [Act.put, List.setIfInBounds_toArray, List.set_cons_zero, List.set_cons_succ]
          refine take_at (i := 12) (v := ?_) (some 98) rfl rfl (by kernel_rfl) (by kernel_rfl) (by kernel_rfl) (fun _ _ _ h => h) hHeld (by rfl) (fun wS hSw => ?_) ?_
          rotate_left
          · try dsimp only at hSw
            go_simp
            try with_reducible rfl
          try simp only [Act.put, List.setIfInBounds_toArray, List.set_cons_zero, List.set_cons_succ]
          refine take_at (i := 13) (v := ?_) (some 99) rfl rfl (by kernel_rfl) (by kernel_rfl) (by kernel_rfl) (fun _ _ _ h => h) hHeld (by rfl) (fun wS hSw => ?_) ?_
          rotate_left
          · try dsimp only at hSw
            go_simp
            try with_reducible rfl
          try simp only [Act.put, List.setIfInBounds_toArray, List.set_cons_zero, List.set_cons_succ]
          refine wpAnyH_ready (rs := [16]) (by kernel_rfl) (by simp) ?_
          refine AllReadyH.cons rfl (fun K hK => ?_) (AllReadyH.nil)
          · simp only [List.getElem_toArray, List.getElem_cons_succ, List.getElem_cons_zero]
            refine of_if (by rfl) ?_
            refine wp_store_mid 58 (.tmp 14) (.tmp 98) rfl ba 0 (encT (cutA u (a - zl))).toArray rfl rfl (there_row fa25 (by rw [List.size_toArray, encT_len]; exact Nat.le_refl _)) (by rw [List.size_toArray]; exact thing_info _) (all_oneCell_toArray (encT_one _)) ?_
            rw [List.toList_toArray]
            obtain ⟨x26, hw26⟩ : ∃ v, (x25).setCells ba 0 (encT (cutA u (a - zl))) = v := ⟨_, rfl⟩
            have fa26 : x26.heap[ba]? = some (.cells (encT (cutA u (a - zl))).toArray 58) := by rw [← hw26]; exact setCells_row fa25 (by rw [encT_len]; rfl)
            have fb26 := (show x26.heap[bb]? = (x25).heap[bb]? by rw [← hw26]; exact setCells_other _ _ _ _ (fun e => hne e.symm)).trans fb25
            have hW26 := Lib.hid (show Below w4.heap.size w4 x26 by rw [← hw26]; exact below_setCells lba _ _ _ hW25.out)
            have hS26 : x26.cell? ⟨gT, 1, none⟩ = some (.func (.func 49) #[] #[]) ∧ NdAt x26 b n := ⟨(HW.out x26 (K4.out.trans (hW26.out.mono K4.out.size))).cC, N4.out.below hW26.out⟩
            rw [hw26]
            clear hw26
            refine hK.out _ _ hS26 (fun hHeld => ?_)
            clear hK K
            try simp only [Act.put]
            refine wpAnyH_ready (rs := [17]) (by kernel_rfl) (by simp) ?_
            refine AllReadyH.cons rfl (fun K hK => ?_) (AllReadyH.nil)
            · simp only [List.getElem_toArray, List.getElem_cons_succ, List.getElem_cons_zero]
              refine of_if (by rfl) ?_
              refine wp_store_mid 58 (.tmp 15) (.tmp 99) rfl bb 0 (encT (cutB u (a - zl))).toArray rfl rfl (there_row fb26 (by rw [List.size_toArray, encT_len]; exact Nat.le_refl _)) (by rw [List.size_toArray]; exact thing_info _) (all_oneCell_toArray (encT_one _)) ?_
              rw [List.toList_toArray]
              obtain ⟨x27, hw27⟩ : ∃ v, (x26).setCells bb 0 (encT (cutB u (a - zl))) = v := ⟨_, rfl⟩
              have fb27 : x27.heap[bb]? = some (.cells (encT (cutB u (a - zl))).toArray 58) := by rw [← hw27]; exact setCells_row fb26 (by rw [encT_len]; rfl)
              have fa27 := (show x27.heap[ba]? = (x26).heap[ba]? by rw [← hw27]; exact setCells_other _ _ _ _ (fun e => hne e)).trans fa26
              have hW27 := Lib.hid (show Below w4.heap.size w4 x27 by rw [← hw27]; exact below_setCells lbb _ _ _ hW26.out)
              have hS27 : x27.cell? ⟨gT, 1, none⟩ = some (.func (.func 49) #[] #[]) ∧ NdAt x27 b n := ⟨(HW.out x27 (K4.out.trans (hW27.out.mono K4.out.size))).cC, N4.out.below hW27.out⟩
              rw [hw27]
              clear hw27
              refine hK.out _ _ hS27 (fun hHeld => ?_)
              clear hK K
              try simp only [Act.put]
              refine wpAnyH_done (by kernel_rfl) ?_ _
              go_wp2_with fail
              go_meet
              case rel => exact ⟨ba, bb, rfl, rfl, hne, lba, lbb, fa27, fb27, hW27.out⟩
  case rest =>
    clear HCUT
    obtain ⟨ba, bb, rfl, rfl, hne, hla, hlb, hfa, hfb, hbc⟩ := hcut
    have Kc := Lib.hid (K4.out.trans (hbc.mono K4.out.size))
    have Nc := Lib.hid (N4.out.below hbc)
    have FAB := Lib.hid (And.intro hfa (And.intro hfb (And.intro hla hlb)))
    have hc1 := Nc.out.cL
    rw [hnl] at hc1
    have hc2 := Nc.out.cR
    rw [hnr] at hc2
    clear hne hla hlb hfa hfb hbc
    go_wp2_with fail
    go_quiet (fail)
    obtain ⟨we, hwe⟩ : ∃ v, wc.drewN nq = v := ⟨_, rfl⟩
    have Ke := Lib.hid (show Below w.heap.size w we by rw [← hwe]; exact below_drewN Kc.out nq)
    have Be : Below wc.heap.size wc we := by rw [← hwe]; exact below_drewN (Below.refl _ _) nq
    have Ne := Lib.hid (Nc.out.below Be)
    have FA := Lib.hid (heap_later FAB.out.1 Be)
    have FB := Lib.hid (heap_later FAB.out.2.1 Be)
    have hbb : b < w4.heap.size := N4.out.lt
    have HLB := Lib.hid (show w.heap.size ≤ bb ∧ bb ≠ b by have h1 := FAB.out.2.2.2; have h2 := K4.out.size; omega)
    rw [hwe]
    clear hwe Be hc1 hc2 hbb
    obtain ⟨n5, hn5⟩ : ∃ x, mkN (cutA u (a - zl)) n.l n.r n.h n.sz n.mk_ = x := ⟨_, rfl⟩
    obtain ⟨w5, hw5⟩ : ∃ x, we.setCells b 0 (encT (cutA u (a - zl))) = x := ⟨_, rfl⟩
    have N5 := Lib.hid (show NdAt w5 b n5 by rw [← hw5, ← hn5]; exact Ne.out.setX _)
    have K5 := Lib.hid (show Below w.heap.size w w5 by rw [← hw5]; exact below_setCells HBL.out _ _ _ Ke.out)
    have FB5 := Lib.hid (show w5.heap[bb]? = _ from (show w5.heap[bb]? = we.heap[bb]? by rw [← hw5]; exact setCells_other _ _ _ _ HLB.out.2).trans FB.out)
    have HW5 := Lib.hid hw5
    have HN5 := Lib.hid (show n5 = mkN (cutA u (a - zl)) L.rt R.rt n.h n.sz n.mk_ by rw [← hn5, hnl, hnr])
    clear hw5 hn5
    go_wp2_with (first
      | (refine wpList_load_row rfl 58 (.tmp 14) rfl ba rfl 58 (encT (cutA u (a - zl))).toArray (0, 0) _ FA.out Try.underlying58 rfl (by rw [List.size_toArray]; exact thing_info _) ?_)
      | (refine wpList_store_mid rfl 58 (.tmp 105) (.tmp 104) rfl b 0 (encT (cutA u (a - zl))).toArray rfl rfl (by rw [List.size_toArray, encT_len]; exact Ne.out.there) (by rw [List.size_toArray]; exact thing_info _) (all_oneCell_toArray (encT_one _)) ?_; rw [List.toList_toArray, HW5.out]))
    refine wp_region_held_drew (S := fun w' => w'.cell? ⟨gT, 3, none⟩ = some (.pointer (some ⟨gA, 0, none⟩)) ∧ NdAt w' b n5) (by kernel_rfl) ⟨(HW.out w5 K5.out).cN, ⟨N5.out.blk⟩⟩ (fun hHeld => ?_)
    try dsimp only at hHeld
    refine take_at (i := 0) (v := ?_) (some 106) rfl rfl (by kernel_rfl) (by kernel_rfl) (by kernel_rfl) (fun _ _ _ h => h) hHeld (by rfl) (fun wS hSw => ?_) ?_
    rotate_left
    · try dsimp only at hSw
      go_simp
      try with_reducible rfl
    try simp only [Act.put, List.setIfInBounds_toArray, List.set_cons_zero, List.set_cons_succ]
    refine take_at (i := 1) (v := ?_) (some 107) rfl rfl (by kernel_rfl) (by kernel_rfl) (by kernel_rfl) (fun _ _ _ h => h) hHeld (by rfl) (fun wS hSw => ?_) ?_
    rotate_left
    · try dsimp only at hSw
      go_simp
      try with_reducible rfl
    try simp only [Act.put, List.setIfInBounds_toArray, List.set_cons_zero, List.set_cons_succ]
    refine take_at (i := 2) (v := ?_) (some 108) rfl rfl (by kernel_rfl) (by kernel_rfl) (by kernel_rfl) (fun _ _ _ h => h) hHeld (by rfl) (fun wS hSw => ?_) ?_
    rotate_left
    · try dsimp only at hSw
      go_simp
      try with_reducible rfl
    try simp only [Act.put, List.setIfInBounds_toArray, List.set_cons_zero, List.set_cons_succ]
    refine take_at (i := 3) (v := ?_) (some 109) rfl rfl (by kernel_rfl) (by kernel_rfl) (by kernel_rfl) (fun _ _ _ h => h) hHeld (by rfl) (fun wS hSw => ?_) ?_
    rotate_left
    · have hS1 := hSw.1
      try dsimp only at hSw
      go_simp
      try with_reducible rfl
    try simp only [Act.put, List.setIfInBounds_toArray, List.set_cons_zero, List.set_cons_succ]
    refine take_at (i := 4) (v := ?_) (some 110) rfl rfl (by kernel_rfl) (by kernel_rfl) (by kernel_rfl) (fun _ _ _ h => h) hHeld (by rfl) (fun wS hSw => ?_) ?_
    rotate_left
    · try dsimp only at hSw
      go_simp
      try with_reducible rfl
    try simp only [Act.put, List.setIfInBounds_toArray, List.set_cons_zero, List.set_cons_succ]
    refine take_at (i := 5) (v := ?_) (some 111) rfl rfl (by kernel_rfl) (by kernel_rfl) (by kernel_rfl) (fun _ _ _ h => h) hHeld (by rfl) (fun wS hSw => ?_) ?_
    rotate_left
    · refine exec_load_row 103 (.tmp 8) ?_ b ?_ 103 n5.C.toArray (0, 0) _ hSw.2.blk Try.underlying103 rfl (nd_info n5) <;> rfl
    try simp only [Act.put, List.setIfInBounds_toArray, List.set_cons_zero, List.set_cons_succ]
    refine wpAnyH_ready (rs := [6]) (by kernel_rfl) (by simp) ?_
    refine AllReadyH.cons rfl (fun K hK => ?_) AllReadyH.nil
    simp only [List.getElem_toArray, List.getElem_cons_succ, List.getElem_cons_zero]
    go_simp
    have hT5 := HW.out w5.drew K5.out.drew
    refine (putN_yes hT5.ar (by have := hT5.len; omega) (gt_some.1 HT.out.1) n5).mono ?_
    rintro e w6 ⟨rfl, ha6, hg6⟩
    have hFb : ¬ F b := fun hF => by have := HFL.out _ hF; have := HBL.out; omega
    have hH6 : w6.cell? ⟨gT, 3, none⟩ = some (.pointer (some ⟨gA, 0, none⟩)) ∧ NdAt w6 b n5 := ⟨(hT5.arena ha6 (hT5.ok.put (gt_some.1 HT.out.1) n5) hg6 (by rw [List.length_set]; exact hT5.len)).cN, hHeld.2.step hg6.step hFb⟩
    have FB6 := Lib.hid (show w6.heap[bb]? = _ from (hg6.step.block bb (Array.getElem?_eq_some_iff.1 FB5.out).1 (fun hF => by have := HFL.out _ hF; have := HLB.out.1; omega)).trans FB5.out)
    have HF6 := Lib.hid (And.intro (hT5.arena ha6 (hT5.ok.put (gt_some.1 HT.out.1) n5) hg6 (by rw [List.length_set]; exact hT5.len)) ((Grow.of_below K5.out.drew).trans hg6))
    clear ha6 hg6 hT5 hFb
    try dsimp only
    have hOld := hHeld
    refine hK.out _ _ hH6 (fun _ => ?_)
    clear hK K
    refine wpAnyH_mono (S2 := fun w' => w'.cell? ⟨gT, 3, none⟩ = some (.pointer (some ⟨gA, 0, none⟩)) ∧ NdAt w' b n5) (fun _ h => h) _ _ _ _ ?_
    clear hHeld
    have hHeld := hH6
    clear hOld
    try simp only [Act.put, List.setIfInBounds_toArray, List.set_cons_zero, List.set_cons_succ]
    refine wpAnyH_done (by kernel_rfl) ?_ _
    clear hHeld hH6
    obtain ⟨s6, hs6⟩ : ∃ x, s.set k (some n5) = x := ⟨_, rfl⟩
    have hkl := gt_lt HT.out.1
    have K6 := Lib.hid (show ∀ j, j ≠ k → gt s6 j = gt s j from fun j hj => by rw [← hs6]; exact gt_set_other hkl _ hj)
    have I6 := Lib.hid (show gt s6 k = some (mkN (cutA u (a - zl)) L.rt R.rt n.h n.sz n.mk_) by rw [← hs6, ← HN5.out]; exact gt_set_self hkl _)
    have L6 := Lib.hid (show s6.length = s.length by rw [← hs6, List.length_set])
    rw [hs6] at HF6
    clear hs6 hkl
    have HOK := Lib.hid (show OkL ((L.nodes ++ [(k, (cutA u (a - zl)))]) ++ (p, (cutB u (a - zl))) :: R.nodes) by have h := HOW.out.2.1; rw [Tr.nodes, HSPL.out] at h; exact h)
    have HAP := Lib.hid (OkL.apart (A := L.nodes) (B := (k, u) :: R.nodes) HOW.out.1)
    have HKR := Lib.hid (show k ∉ ids R.nodes by have hn := (OkL.right (A := L.nodes) (B := (k, u) :: R.nodes) HOW.out.1).nodup; rw [ids, List.map_cons, List.nodup_cons] at hn; exact hn.1)
    have hL6 : Holds s6 L := HT.out.2.1.keep (fun j hj => K6.out j (fun e => HAP.out j hj (by rw [e]; simp [ids])))
    have HJ7 := Lib.hid (fun (w1 : World) (hT : TreeW w1 F gT gA root s6 fr) => (show Calls Try.prog 60 #[.pointer (some ⟨gT, 0, none⟩), .int .i64 L.rt, .int .i64 k, .int .i64 (-1)] w1 _ from join_any (l0 := L.rt) (r0 := R.rt) _ L .nil (Nat.le_refl _) w1 s6 hT I6.out hL6 trivial HOK.out.left))
    have HJ9 := Lib.hid (fun (F8 : Nat → Prop) (fr8 : List Nat) (w1 : World) (s8 : List (Option Nd)) (hT : TreeW w1 F8 gT gA root s8 fr8) (hi : gt s8 p = some (mkN (cutB u (a - zl)) 0 0 0 0 0)) (hR : Holds s8 R) => (show Calls Try.prog 60 #[.pointer (some ⟨gT, 0, none⟩), .int .i64 (-1), .int .i64 p, .int .i64 R.rt] w1 _ from join_any (l0 := 0) (r0 := 0) _ .nil R (Nat.le_refl _) w1 s8 hT hi trivial hR HOK.out.right))
    clear hL6
    go_wp2_with fail
    refine wp_region_held_drew (S := fun w' => w'.cell? ⟨gT, 3, none⟩ = some (.pointer (some ⟨gA, 0, none⟩)) ∧ w'.heap[bb]? = some (.cells (encT (cutB u (a - zl))).toArray 58)) (by kernel_rfl) ⟨HF6.out.1.cN, FB6.out⟩ (fun hHeld => ?_)
    try dsimp only at hHeld
    refine take_at (i := 0) (v := ?_) (some 113) rfl rfl (by kernel_rfl) (by kernel_rfl) (by kernel_rfl) (fun _ _ _ h => h) hHeld (by rfl) (fun wS hSw => ?_) ?_
    rotate_left
    · try dsimp only at hSw
      go_simp
      try with_reducible rfl
    try simp only [Act.put, List.setIfInBounds_toArray, List.set_cons_zero, List.set_cons_succ]
    refine take_at (i := 1) (v := ?_) (some 114) rfl rfl (by kernel_rfl) (by kernel_rfl) (by kernel_rfl) (fun _ _ _ h => h) hHeld (by rfl) (fun wS hSw => ?_) ?_
    rotate_left
    · try dsimp only at hSw
      go_simp
      try with_reducible rfl
    try simp only [Act.put, List.setIfInBounds_toArray, List.set_cons_zero, List.set_cons_succ]
    refine take_at (i := 2) (v := ?_) (some 115) rfl rfl (by kernel_rfl) (by kernel_rfl) (by kernel_rfl) (fun _ _ _ h => h) hHeld (by rfl) (fun wS hSw => ?_) ?_
    rotate_left
    · try dsimp only at hSw
      go_simp
      try with_reducible rfl
    try simp only [Act.put, List.setIfInBounds_toArray, List.set_cons_zero, List.set_cons_succ]
    refine take_at (i := 4) (v := ?_) (some 117) rfl rfl (by kernel_rfl) (by kernel_rfl) (by kernel_rfl) (fun _ _ _ h => h) hHeld (by rfl) (fun wS hSw => ?_) ?_
    rotate_left
    · try dsimp only at hSw
      go_simp
      try with_reducible rfl
    try simp only [Act.put, List.setIfInBounds_toArray, List.set_cons_zero, List.set_cons_succ]
    refine take_at (i := 5) (v := ?_) (some 118) rfl rfl (by kernel_rfl) (by kernel_rfl) (by kernel_rfl) (fun _ _ _ h => h) hHeld (by rfl) (fun wS hSw => ?_) ?_
    rotate_left
    · try dsimp only at hSw
      go_simp
      try with_reducible rfl
    try simp only [Act.put, List.setIfInBounds_toArray, List.set_cons_zero, List.set_cons_succ]
    refine take_at (i := 6) (v := ?_) (some 119) rfl rfl (by kernel_rfl) (by kernel_rfl) (by kernel_rfl) (fun _ _ _ h => h) hHeld (by rfl) (fun wS hSw => ?_) ?_
    rotate_left
    · try dsimp only at hSw
      go_simp
      try with_reducible rfl
    try simp only [Act.put, List.setIfInBounds_toArray, List.set_cons_zero, List.set_cons_succ]
    refine take_at (i := 7) (v := ?_) (some 120) rfl rfl (by kernel_rfl) (by kernel_rfl) (by kernel_rfl) (fun _ _ _ h => h) hHeld (by rfl) (fun wS hSw => ?_) ?_
    rotate_left
    · try dsimp only at hSw
      go_simp
      try with_reducible rfl
    try simp only [Act.put, List.setIfInBounds_toArray, List.set_cons_zero, List.set_cons_succ]
    refine take_at (i := 8) (v := ?_) (some 121) rfl rfl (by kernel_rfl) (by kernel_rfl) (by kernel_rfl) (fun _ _ _ h => h) hHeld (by rfl) (fun wS hSw => ?_) ?_
    rotate_left
    · have hS1 := hSw.1
      try dsimp only at hSw
      go_simp
      try with_reducible rfl
    try simp only [Act.put, List.setIfInBounds_toArray, List.set_cons_zero, List.set_cons_succ]
    refine take_at (i := 9) (v := ?_) (some 122) rfl rfl (by kernel_rfl) (by kernel_rfl) (by kernel_rfl) (fun _ _ _ h => h) hHeld (by rfl) (fun wS hSw => ?_) ?_
    rotate_left
    · refine exec_load_row 58 (.tmp 15) ?_ bb ?_ 58 (encT (cutB u (a - zl))).toArray (0, 0) _ hSw.2 Try.underlying58 rfl (by rw [List.size_toArray]; exact thing_info _) <;> rfl
    try simp only [Act.put, List.setIfInBounds_toArray, List.set_cons_zero, List.set_cons_succ]
    refine take_at (i := 10) (v := ?_) (some 123) rfl rfl (by kernel_rfl) (by kernel_rfl) (by kernel_rfl) (fun _ _ _ h => h) hHeld (by rfl) (fun wS hSw => ?_) ?_
    rotate_left
    · refine exec_build1 103 0 (.tmp 122) ?_ (.agg (encT (cutB u (a - zl))).toArray) ?_ (mkN (cutB u (a - zl)) 0 0 0 0 0).C.toArray (built_node _) <;> rfl
    try simp only [Act.put, List.setIfInBounds_toArray, List.set_cons_zero, List.set_cons_succ]
    refine take_at (i := 12) (v := ?_) (some 125) rfl rfl (by kernel_rfl) (by kernel_rfl) (by kernel_rfl) (fun _ _ _ h => h) hHeld (by rfl) (fun wS hSw => ?_) ?_
    rotate_left
    · try dsimp only at hSw
      go_simp
      try with_reducible rfl
    try simp only [Act.put, List.setIfInBounds_toArray, List.set_cons_zero, List.set_cons_succ]
    refine wpAnyH_ready (rs := [3]) (by kernel_rfl) (by simp) ?_
    refine AllReadyH.cons rfl (fun K hK => ?_) AllReadyH.nil
    simp only [List.getElem_toArray, List.getElem_cons_succ, List.getElem_cons_zero]
    go_simp
    refine (HJ7.out _ (HF6.out.1.below ((Below.refl _ _).drew))).mono ?_
    rintro e w7 ⟨v7, rfl, T7, s7, rfl, hT7, hH7, hn7, hk7, hl7, hg7⟩
    have hS7 : w7.cell? ⟨gT, 3, none⟩ = some (.pointer (some ⟨gA, 0, none⟩)) ∧ w7.heap[bb]? = some (.cells (encT (cutB u (a - zl))).toArray 58) := ⟨hT7.cN, (hg7.step.block bb (Array.getElem?_eq_some_iff.1 hHeld.2).1 (fun hF => by have := HFL.out _ hF; have := HLB.out.1; omega)).trans hHeld.2⟩
    have HF7 := Lib.hid (And.intro hT7 (And.intro hH7 (And.intro (show T7.nodes = L.nodes ++ [(k, (cutA u (a - zl)))] from hn7) (And.intro (show ∀ j, j ∉ ids (L.nodes ++ [(k, (cutA u (a - zl)))]) → gt s7 j = gt s6 j from hk7) (And.intro (hl7.trans L6.out) (HF6.out.2.trans ((Grow.of_below ((Below.refl _ _).drew)).trans hg7)))))))
    clear hT7 hH7 hn7 hk7 hl7 hg7
    try dsimp only
    have hOld := hHeld
    refine hK.out _ _ hS7 (fun _ => ?_)
    clear hK K
    refine wpAnyH_mono (S2 := fun w' => w'.cell? ⟨gT, 3, none⟩ = some (.pointer (some ⟨gA, 0, none⟩)) ∧ w'.heap[bb]? = some (.cells (encT (cutB u (a - zl))).toArray 58)) (fun _ h => h) _ _ _ _ ?_
    clear hHeld
    have hHeld := hS7
    clear hOld
    try simp only [Act.put, List.setIfInBounds_toArray, List.set_cons_zero, List.set_cons_succ]
    refine wpAnyH_ready (rs := [11]) (by kernel_rfl) (by simp) ?_
    refine AllReadyH.cons rfl (fun K hK => ?_) AllReadyH.nil
    simp only [List.getElem_toArray, List.getElem_cons_succ, List.getElem_cons_zero]
    go_simp
    have htk := takeN_F HF7.out.1.ar HF7.out.1.ok (by have := HF7.out.1.len; omega) (mkN (cutB u (a - zl)) 0 0 0 0 0)
    rw [show nextOf s7 fr = p by rw [HPN.out]; unfold nextOf; rw [HF7.out.2.2.2.2.1]] at htk
    unfold Nd.V at htk
    refine htk.mono ?_
    clear htk
    rintro e w8 ⟨F8, rfl, ha8, hg8⟩
    obtain ⟨s8, hs8⟩ : ∃ x, takeS s7 fr (mkN (cutB u (a - zl)) 0 0 0 0 0) = x := ⟨_, rfl⟩
    obtain ⟨fr8, hfr8⟩ : ∃ x, fr.dropLast = x := ⟨_, rfl⟩
    have hlen8 : s8.length ≤ s.length + 1 := by rw [← hs8, ← HF7.out.2.2.2.2.1]; exact takeS_le _
    have hok8 := HF7.out.1.ok.take (mkN (cutB u (a - zl)) 0 0 0 0 0)
    have hgt8 := gt_takeS HF7.out.1.ok (mkN (cutB u (a - zl)) 0 0 0 0 0)
    rw [show nextOf s7 fr = p by rw [HPN.out]; unfold nextOf; rw [HF7.out.2.2.2.2.1]] at hgt8
    rw [hs8] at ha8 hok8 hgt8
    rw [hfr8] at ha8 hok8
    have hT8 := HF7.out.1.arena ha8 hok8 hg8 (by have := HP.out.2; omega)
    have hS8 : w8.cell? ⟨gT, 3, none⟩ = some (.pointer (some ⟨gA, 0, none⟩)) ∧ w8.heap[bb]? = some (.cells (encT (cutB u (a - zl))).toArray 58) := ⟨hT8.cN, (hg8.step.block bb (Array.getElem?_eq_some_iff.1 hHeld.2).1 (fun hF => by have := HFL.out _ hF; have := HLB.out.1; omega)).trans hHeld.2⟩
    have HF8 := Lib.hid (And.intro hT8 (And.intro hgt8 (And.intro hlen8 (And.intro (HF7.out.2.2.2.2.2.trans hg8) (show ¬ F8 bb from fun hF => by rcases hg8.new bb hF with e | e; exact (fun hF => by have := HFL.out _ hF; have := HLB.out.1; omega) e; exact absurd (Array.getElem?_eq_some_iff.1 hHeld.2).1 (by omega))))))
    clear ha8 hok8 hgt8 hg8 hT8 hlen8 hs8 hfr8
    try dsimp only
    have hOld := hHeld
    refine hK.out _ _ hS8 (fun _ => ?_)
    clear hK K
    refine wpAnyH_mono (S2 := fun w' => w'.cell? ⟨gT, 3, none⟩ = some (.pointer (some ⟨gA, 0, none⟩)) ∧ w'.heap[bb]? = some (.cells (encT (cutB u (a - zl))).toArray 58)) (fun _ h => h) _ _ _ _ ?_
    clear hHeld
    have hHeld := hS8
    clear hOld
    try simp only [Act.put, List.setIfInBounds_toArray, List.set_cons_zero, List.set_cons_succ]
    refine wpAnyH_ready (rs := [13]) (by kernel_rfl) (by simp) ?_
    refine AllReadyH.cons rfl (fun K hK => ?_) AllReadyH.nil
    simp only [List.getElem_toArray, List.getElem_cons_succ, List.getElem_cons_zero]
    go_simp
    have hR8 : Holds s8 R := HT.out.2.2.keep fun j hj => by
      have hjp : j ≠ p := fun e => by obtain ⟨m, hm⟩ := HT.out.2.2.taken j hj; rw [e, HP.out.1] at hm; cases hm
      have hjk : j ≠ k := fun e => HKR.out (by rw [← e]; exact hj)
      rw [HF8.out.2.1 j, if_neg hjp, HF7.out.2.2.2.1 j (fun e => ?_), K6.out j hjk]
      rw [ids_append, List.mem_append] at e
      rcases e with e | e
      · exact HAP.out j e (by rw [ids, List.map_cons]; exact List.mem_cons.2 (.inr hj))
      · simp [ids] at e; exact hjk e
    refine (HJ9.out F8 fr8 _ s8 HF8.out.1 (by rw [HF8.out.2.1 p, if_pos rfl]) hR8).mono ?_
    clear hR8
    rintro e w9 ⟨v9, rfl, T9, s9, rfl, hT9, hH9, hn9, hk9, hl9, hg9⟩
    have hS9 : w9.cell? ⟨gT, 3, none⟩ = some (.pointer (some ⟨gA, 0, none⟩)) ∧ w9.heap[bb]? = some (.cells (encT (cutB u (a - zl))).toArray 58) := ⟨hT9.cN, (hg9.step.block bb (Array.getElem?_eq_some_iff.1 hHeld.2).1 HF8.out.2.2.2.2).trans hHeld.2⟩
    have HF9 := Lib.hid (And.intro hT9 (And.intro hH9 (And.intro (show T9.nodes = (p, (cutB u (a - zl))) :: R.nodes from hn9) (And.intro (show ∀ j, j ∉ ids ((p, (cutB u (a - zl))) :: R.nodes) → gt s9 j = gt s8 j from hk9) (And.intro hl9 (HF8.out.2.2.2.1.trans hg9))))))
    clear hT9 hH9 hn9 hk9 hl9 hg9
    have hH9 := hS9
    clear hS9
    try dsimp only
    have hOld := hHeld
    refine hK.out _ _ hH9 (fun _ => ?_)
    clear hK K
    refine wpAnyH_mono (S2 := fun w' => w'.cell? ⟨gT, 3, none⟩ = some (.pointer (some ⟨gA, 0, none⟩)) ∧ w'.heap[bb]? = some (.cells (encT (cutB u (a - zl))).toArray 58)) (fun _ h => h) _ _ _ _ ?_
    clear hHeld
    have hHeld := hH9
    clear hOld
    try simp only [Act.put, List.setIfInBounds_toArray, List.set_cons_zero, List.set_cons_succ]
    refine take_at (i := 14) (v := ?_) (some 6) rfl rfl (by kernel_rfl) (by kernel_rfl) (by kernel_rfl) (fun _ _ _ h => h) hHeld (by rfl) (fun wS hSw => ?_) ?_
    rotate_left
    · try dsimp only at hSw
      go_simp
      try with_reducible rfl
    try simp only [Act.put, List.setIfInBounds_toArray, List.set_cons_zero, List.set_cons_succ]
    refine take_at (i := 15) (v := ?_) (some 7) rfl rfl (by kernel_rfl) (by kernel_rfl) (by kernel_rfl) (fun _ _ _ h => h) hHeld (by rfl) (fun wS hSw => ?_) ?_
    rotate_left
    · try dsimp only at hSw
      go_simp
      try with_reducible rfl
    try simp only [Act.put, List.setIfInBounds_toArray, List.set_cons_zero, List.set_cons_succ]
    refine wpAnyH_done (by kernel_rfl) ?_ _
    clear hHeld hH9 HJ7 HJ9
    have HPS := Lib.hid (show PostS w F gT gA root s p (Tr.nd k u L R).nodes a (.tuple #[.int .i64 T7.rt, .int .i64 T9.rt]) w9 from by
      refine ⟨F8, fr8, s9, T7, T9, rfl, HF9.out.1, HF7.out.2.1.keep fun j hj => ?_, HF9.out.2.1, ?_, ?_, fun j hj hjp => ?_, ?_, HF9.out.2.2.2.2.2⟩
      · rw [HF7.out.2.2.1] at hj
        have h1 := HOK.out.apart j hj
        rw [HF9.out.2.2.2.1 j h1, HF8.out.2.1 j, if_neg (fun e => h1 (by rw [e]; simp [ids]))]
      · rw [HF7.out.2.2.1, Tr.nodes, HSPL.out]
      · rw [HF9.out.2.2.1, Tr.nodes, HSPL.out]
      · replace hjp : j ≠ p := fun e => hjp (by rw [Tr.nodes, HSPL.out, e]; simp [ids])
        have hjn : j ∉ ids L.nodes ∧ j ≠ k ∧ j ∉ ids R.nodes := by
          rw [Tr.nodes, ids_append, List.mem_append] at hj
          refine ⟨fun e => hj (.inl e), fun e => hj (.inr (by rw [e]; simp [ids])), fun e => hj (.inr ?_)⟩
          rw [ids, List.map_cons]; exact List.mem_cons.2 (.inr e)
        rw [HF9.out.2.2.2.1 j (fun e => by rw [ids, List.map_cons] at e; rcases List.mem_cons.1 e with e | e; exact hjp e; exact hjn.2.2 e), HF8.out.2.1 j, if_neg hjp,
          HF7.out.2.2.2.1 j (fun e => by rw [ids_append, List.mem_append] at e; rcases e with e | e; exact hjn.1 e; simp [ids] at e; exact hjn.2.1 e), K6.out j hjn.2.1]
      · rw [HF9.out.2.2.2.2.1]; exact HF8.out.2.2.1)
    go_wp2_with fail
    go_ret2
    exact ⟨_, rfl, HPS.out⟩

end Go.Proofs.Ytmfkdaannjibfaa
