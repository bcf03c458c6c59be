/-
  avl.Tree: over.
-/
import Derived.Test.YtbioomilnjikpaaSpY6
namespace Go.Proofs.Ytbioomilnjikpaa
open Go.RowKit
attribute [local go_sem] Oper.semAt_some

set_option maxRecDepth 100000 in
set_option maxHeartbeats 2000000 in
theorem over_stop (w : World) (gT : Nat) (r i j : Int) (l : Nat) (h : r = -1 ∨ j ≤ i) :
    Calls Try.prog 51 #[.pointer (some ⟨gT, 0, none⟩), .int .i64 r, .int .i64 i, .int .i64 j, .func (.yield l) #[] #[]] w fun e w' => e = .returned (.bool true) ∧ w = w' := by
  by_cases h1 : r = -1
  · subst h1
    clear h
    go_enter Try.func51, Try.ntmps51
    go_wp2_with fail
    go_ret
    exact ⟨rfl, rfl⟩
  · have h2 : j ≤ i := by rcases h with e | e; exact absurd e h1; exact e
    have h3 : (r == -1) = false := by simpa using h1
    clear h h1
    go_enter Try.func51, Try.ntmps51
    go_wp2_with fail
    go_ret
    exact ⟨rfl, rfl⟩

set_option maxRecDepth 100000 in
set_option maxHeartbeats 16000000 in
theorem over_step {F : Nat → Prop} {gT gA : Nat} {root : Int} {s : List (Option Nd)} {fr : List Nat} {J Jx : List Th → World → Prop} {Bad : Nat → Obj → Prop} {N m l B0 : Nat}
    (hJ : ∀ pre A B, J pre A → Below A.heap.size A B → J pre B) (hY : ∀ (pre : List Th) (x : Th) (W1 : World), J pre W1 → pre.length < N → YieldAt Fence.wide m Try.prog l #[thV x] W1 fun e W' => (e = .returned (.bool true) ∧ J (pre ++ [x]) W' ∧ KeepsO Bad W1 W') ∨ (e = .returned (.bool false) ∧ Jx (pre ++ [x]) W'))
    (hFB : ∀ k, F k → ∀ o, ¬ Bad k o) (hTB : ∀ o, ¬ Bad gT o) (hNB : ∀ b, B0 ≤ b → ∀ cs fr, ¬ Bad b (.cells cs 80 fr))
    {k : Nat} {u : Th} {L R : Tr} (ihL : ∀ (W : World) (pre : List Th) (i j : Int), B0 ≤ W.heap.size → TreeW W F gT gA root s fr → 0 ≤ i → i ≤ 1000000000000 → -1000000000000 ≤ j → j ≤ 1000000000000 → J pre W → pre.length + (overT L.things i j).length ≤ N → Calls Try.prog 51 #[.pointer (some ⟨gT, 0, none⟩), .int .i64 L.rt, .int .i64 i, .int .i64 j, .func (.yield l) #[] #[]] W fun e W' => OverP J Jx Bad W pre (overT L.things i j) e W') (ihR : ∀ (W : World) (pre : List Th) (i j : Int), B0 ≤ W.heap.size → TreeW W F gT gA root s fr → 0 ≤ i → i ≤ 1000000000000 → -1000000000000 ≤ j → j ≤ 1000000000000 → J pre W → pre.length + (overT R.things i j).length ≤ N → Calls Try.prog 51 #[.pointer (some ⟨gT, 0, none⟩), .int .i64 R.rt, .int .i64 i, .int .i64 j, .func (.yield l) #[] #[]] W fun e W' => OverP J Jx Bad W pre (overT R.things i j) e W')
    {w : World} {pre : List Th} {i j : Int} (hB0 : B0 ≤ w.heap.size) (h : TreeW w F gT gA root s fr) (hT : Holds s (.nd k u L R)) (ho : OkL (Tr.nd k u L R).nodes) (h0 : 0 ≤ i) (h1 : i ≤ 1000000000000) (h2 : j ≤ 1000000000000) (hij : i < j) (hJ0 : J pre w)
    (hlen : pre.length + (overT (Tr.nd k u L R).things i j).length ≤ N) :
    Calls Try.prog 51 #[.pointer (some ⟨gT, 0, none⟩), .int .i64 k, .int .i64 i, .int .i64 j, .func (.yield l) #[] #[]] w fun e w' => OverP J Jx Bad w pre (overT (Tr.nd k u L R).things i j) e w' := by
  have hLs := Tr.sm (T := L) ho.left
  have hz := hLs.2.1
  have hzt : Sm (sizeT u) := by
    have h3 := sizeT_ok (ho.ok (k, u) (by simp [Tr.nodes]))
    have h5 := ho.sum
    have h6 := sumZ_nonneg ho.left.ok
    have h7 := sumZ_nonneg (L := R.nodes) (ho.right.tail.ok)
    have e : sumZ (Tr.nd k u L R).nodes = sumZ L.nodes + (sizeT u + sumZ R.nodes) := by rw [Tr.nodes, sumZ_append, sumZ]
    dsimp only at h3
    exact ⟨h3, by omega⟩
  have hth : (Tr.nd k u L R).things = L.things ++ u :: R.things := by simp [Tr.things, Tr.nodes]
  have hokL := OkL.things (T := L) ho.left
  have hokR := OkL.things (T := R) ho.right.tail
  have hoku := ho.ok (k, u) (by simp [Tr.nodes])
  obtain ⟨zl, hzl⟩ : ∃ x, L.z = x := ⟨_, rfl⟩
  obtain ⟨zt, hzt'⟩ : ∃ x, sizeT u = x := ⟨_, rfl⟩
  have hov : overT (Tr.nd k u L R).things i j = overT L.things i j ++ ((if max (i - zl) 0 < min (j - zl) zt then [partT u (i - zl) (j - zl)] else []) ++ overT R.things (i - zl - zt) (j - zl - zt)) := by
    rw [hth, overT_app, overT, ← Tr.z_things, hzl, hzt']
  obtain ⟨PL, hPL⟩ : ∃ x, overT L.things i j = x := ⟨_, rfl⟩
  obtain ⟨PU, hPU⟩ : ∃ x, (if max (i - zl) 0 < min (j - zl) zt then [partT u (i - zl) (j - zl)] else []) = x := ⟨_, rfl⟩
  obtain ⟨PR, hPR⟩ : ∃ x, overT R.things (i - zl - zt) (j - zl - zt) = x := ⟨_, rfl⟩
  rw [hPL, hPU, hPR] at hov
  rw [hov] at hlen ⊢
  rw [List.length_append, List.length_append] at hlen
  have hLj : overT L.things i (min j zl) = PL := by rw [← hPL]; refine overT_congr _ _ _ _ _ hokL rfl ?_; rw [← Tr.z_things, hzl]; omega
  have hRj : overT R.things (max (i - zl - zt) 0) (j - zl - zt) = PR := by rw [← hPR]; refine overT_congr _ _ _ _ _ hokR ?_ rfl; omega
  have hLno : zl ≤ i → PL = [] := fun e => by rw [← hPL]; exact overT_none _ _ _ hokL (.inr (.inl (by rw [← Tr.z_things, hzl]; exact e)))
  have hRno : j ≤ zl + zt → PR = [] := fun e => by rw [← hPR]; exact overT_none _ _ _ hokR (.inl (by omega))
  have HP := Lib.hid (And.intro hLj (And.intro hRj (And.intro hLno (And.intro hRno (And.intro hPU (And.intro hlen (And.intro hoku hzt')))))))
  rw [hzl] at hz
  rw [hzt'] at hzt
  obtain ⟨z1, z2⟩ := hz
  obtain ⟨z3, z4⟩ := hzt
  have HAt := Lib.hid (at_any h hT.1)
  have HTa := Lib.hid (fun (w1 : World) (hb : Below w.heap.size w w1) => totals_any (h.below hb) hT.2.1.okR)
  rw [hT.2.1.tot.2.1, hzl] at HTa
  have HM := Lib.hid (fun w1 => measure_any u w1)
  rw [hzt'] at HM
  obtain ⟨n, hn⟩ : ∃ x, topN u L R = x := ⟨_, rfl⟩
  have hnl : n.l = L.rt := by rw [← hn]; rfl
  have hnr : n.r = R.rt := by rw [← hn]; rfl
  have HX := Lib.hid (show n.x = encT u by rw [← hn]; rfl)
  rw [hn] at HAt
  unfold Nd.V at HAt
  have HW := Lib.hid (fun (w1 : World) (hb : Below w.heap.size w w1) => h.below hb)
  have HB := Lib.hid (And.intro hB0 (And.intro hFB (And.intro hTB hNB)))
  have HJ := Lib.hid (And.intro hJ hJ0)
  have HY := Lib.hid hY
  have HIL := Lib.hid ihL
  have HIR := Lib.hid ihR
  have hk1 : ((k : Int) == -1) = false := by simp
  have g1 : IntKind.i64.wrap (zl + zt) = zl + zt := IntWalk.i64_in _ (by omega)
  clear hJ hY hFB hTB hNB ihL ihR hB0 h hT ho hJ0 hlen hLs hn hzl hzt' hth hokL hokR hoku hov hPL hPU hPR hLj hRj hLno hRno
  go_enter Try.func51, Try.ntmps51
  go_wp2_with fail
  refine HAt.out.mono ?_
  rintro e w1 ⟨rfl, hb1⟩
  obtain ⟨b, hb⟩ : ∃ b, w1.heap.size = b := ⟨_, rfl⟩
  obtain ⟨w2, hw2⟩ : ∃ v, w1.alloc (.cells n.C.toArray 80) = v := ⟨_, rfl⟩
  have N2 := Lib.hid (show NdAt w2 b n by rw [← hw2, ← hb]; exact NdAt.new w1 n)
  have K2 := Lib.hid (show Below w.heap.size w w2 by rw [← hw2]; exact hb1.alloc hb1.size _)
  have HE := Lib.hid (And.intro hw2 hb)
  have HBB := Lib.hid (show B0 ≤ b by have h1 := HB.out.1; have h2 := hb1.size; omega)
  have hc := N2.out.cL
  rw [hnl] at hc
  clear hb1 hw2 hb HAt
  go_wp2_with (refine wpList_store_row rfl 80 (.tmp 11) (.tmp 29) rfl w1.heap.size n.C.toArray rfl rfl 80 _ (heap_alloc_new w1 _) (nd_info n) (by simp [Nd.C_len]) (all_oneCell_toArray n.C_one) ?_; rw [alloc_setRow, HE.out.1, HE.out.2])
  clear hc
  refine (HTa.out w2 K2.out).mono ?_
  rintro e w3 ⟨rfl, hb3⟩
  have K3 := Lib.hid (K2.out.trans (hb3.mono K2.out.size))
  have N3 := Lib.hid (N2.out.below hb3)
  clear hb3 HTa
  go_wp2_with fail
  refine wp_region_held_drew (S := fun w' => w'.cell? ⟨gT, 0, none⟩ = some (.func (.func 37) #[] #[]) ∧ NdAt w' b n) (by kernel_rfl) ⟨(HW.out w3 K3.out).cM, ⟨N3.out.blk⟩⟩ (fun hHeld => ?_)
  try dsimp only at hHeld
  refine take_at (i := 0) (v := ?_) (some 39) rfl rfl (by kernel_rfl) (by kernel_rfl) (by kernel_rfl) (fun _ _ _ h => h) hHeld (by rfl) (fun wS hSw => ?_) ?_
  rotate_left
  · try dsimp only at hSw
    go_simp
    try with_reducible rfl
  try simp only [Act.put, List.setIfInBounds_toArray, List.set_cons_zero, List.set_cons_succ]
  refine take_at (i := 1) (v := ?_) (some 40) rfl rfl (by kernel_rfl) (by kernel_rfl) (by kernel_rfl) (fun _ _ _ h => h) hHeld (by rfl) (fun wS hSw => ?_) ?_
  rotate_left
  · try dsimp only at hSw
    go_simp
    try with_reducible rfl
  try simp only [Act.put, List.setIfInBounds_toArray, List.set_cons_zero, List.set_cons_succ]
  refine take_at (i := 2) (v := ?_) (some 41) rfl rfl (by kernel_rfl) (by kernel_rfl) (by kernel_rfl) (fun _ _ _ h => h) hHeld (by rfl) (fun wS hSw => ?_) ?_
  rotate_left
  · try dsimp only at hSw
    go_simp
    try with_reducible rfl
  try simp only [Act.put, List.setIfInBounds_toArray, List.set_cons_zero, List.set_cons_succ]
  refine take_at (i := 3) (v := ?_) (some 42) rfl rfl (by kernel_rfl) (by kernel_rfl) (by kernel_rfl) (fun _ _ _ h => h) hHeld (by rfl) (fun wS hSw => ?_) ?_
  rotate_left
  · try dsimp only at hSw
    go_simp
    try with_reducible rfl
  try simp only [Act.put, List.setIfInBounds_toArray, List.set_cons_zero, List.set_cons_succ]
  refine take_at (i := 4) (v := ?_) (some 43) rfl rfl (by kernel_rfl) (by kernel_rfl) (by kernel_rfl) (fun _ _ _ h => h) hHeld (by rfl) (fun wS hSw => ?_) ?_
  rotate_left
  · have hS1 := hSw.1
    try dsimp only at hSw
    go_simp
    try with_reducible rfl
  try simp only [Act.put, List.setIfInBounds_toArray, List.set_cons_zero, List.set_cons_succ]
  refine take_at (i := 5) (v := ?_) (some 44) rfl rfl (by kernel_rfl) (by kernel_rfl) (by kernel_rfl) (fun _ _ _ h => h) hHeld (by rfl) (fun wS hSw => ?_) ?_
  rotate_left
  · try dsimp only at hSw
    go_simp
    try with_reducible rfl
  try simp only [Act.put, List.setIfInBounds_toArray, List.set_cons_zero, List.set_cons_succ]
  refine take_at (i := 6) (v := ?_) (some 45) rfl rfl (by kernel_rfl) (by kernel_rfl) (by kernel_rfl) (fun _ _ _ h => h) hHeld (by rfl) (fun wS hSw => ?_) ?_
  rotate_left
  · refine exec_load_mid 34 (.tmp 44) ?_ b 0 ?_ (encT u) _ (HX.out ▸ hSw.2.x) Try.underlying34 rfl (thing_info u) <;> rfl
  try simp only [Act.put, List.setIfInBounds_toArray, List.set_cons_zero, List.set_cons_succ]
  refine wpAnyH_ready (rs := [7]) (by kernel_rfl) (by simp) ?_
  refine AllReadyH.cons rfl (fun K hK => ?_) AllReadyH.nil
  simp only [List.getElem_toArray, List.getElem_cons_succ, List.getElem_cons_zero]
  go_simp
  refine (HM.out _).mono ?_
  rintro e w4 ⟨rfl, hb4⟩
  have hH4 : w4.cell? ⟨gT, 0, none⟩ = some (.func (.func 37) #[] #[]) ∧ NdAt w4 b n := ⟨cell_later hHeld.1 hb4, hHeld.2.below hb4⟩
  have K4 := Lib.hid (K3.out.drew.trans (hb4.mono K3.out.size))
  clear hb4
  try dsimp only
  have hOld := hHeld
  refine hK.out _ _ hH4 (fun _ => ?_)
  clear hK K
  refine wpAnyH_mono (S2 := fun w' => w'.cell? ⟨gT, 0, none⟩ = some (.func (.func 37) #[] #[]) ∧ NdAt w' b n) (fun _ h => h) _ _ _ _ ?_
  clear hHeld
  have hHeld := hH4
  clear hOld
  try simp only [Act.put, List.setIfInBounds_toArray, List.set_cons_zero, List.set_cons_succ]
  refine take_at (i := 8) (v := ?_) (some 38) rfl rfl (by kernel_rfl) (by kernel_rfl) (by kernel_rfl) (fun _ _ _ h => h) hHeld (by rfl) (fun wS hSw => ?_) ?_
  rotate_left
  · try dsimp only at hSw
    go_simp
    try with_reducible rfl
  try simp only [Act.put, List.setIfInBounds_toArray, List.set_cons_zero, List.set_cons_succ]
  refine take_at (i := 9) (v := ?_) (some 47) rfl rfl (by kernel_rfl) (by kernel_rfl) (by kernel_rfl) (fun _ _ _ h => h) hHeld (by rfl) (fun wS hSw => ?_) ?_
  rotate_left
  · try dsimp only at hSw
    go_simp
    try with_reducible rfl
  try simp only [Act.put, List.setIfInBounds_toArray, List.set_cons_zero, List.set_cons_succ]
  refine take_at (i := 10) (v := ?_) (some 48) rfl rfl (by kernel_rfl) (by kernel_rfl) (by kernel_rfl) (fun _ _ _ h => h) hHeld (by rfl) (fun wS hSw => ?_) ?_
  rotate_left
  · try dsimp only at hSw
    go_simp
    try with_reducible rfl
  try simp only [Act.put, List.setIfInBounds_toArray, List.set_cons_zero, List.set_cons_succ]
  refine take_at (i := 11) (v := ?_) (some 15) rfl rfl (by kernel_rfl) (by kernel_rfl) (by kernel_rfl) (fun _ _ _ h => h) hHeld (by rfl) (fun wS hSw => ?_) ?_
  rotate_left
  · try dsimp only at hSw
    go_simp
    try with_reducible rfl
  try simp only [Act.put, List.setIfInBounds_toArray, List.set_cons_zero, List.set_cons_succ]
  refine take_at (i := 12) (v := ?_) (some 16) rfl rfl (by kernel_rfl) (by kernel_rfl) (by kernel_rfl) (fun _ _ _ h => h) hHeld (by rfl) (fun wS hSw => ?_) ?_
  rotate_left
  · try dsimp only at hSw
    go_simp
    try with_reducible rfl
  try simp only [Act.put, List.setIfInBounds_toArray, List.set_cons_zero, List.set_cons_succ]
  refine wpAnyH_done (by kernel_rfl) ?_ _
  have N4 := Lib.hid hH4.2
  clear hHeld hH4 HM
  go_upto_region 6 with fail
  go_cut [63] from 49 to 62 (fun v63 wz => (v63 = .bool false ∧ J (pre ++ PL) wz ∧ KeepsO Bad w wz ∧ NdAt wz b n) ∨ (v63 = .bool true ∧ ∃ q, q <+: PL ∧ Jx (pre ++ q) wz))
  case first =>
    by_cases ha : i < zl
    · have hc := N4.out.cL
      rw [hnl] at hc
      have hI := HIL.out w4 pre i (min j zl) (by have h1 := HB.out.1; have h2 := K4.out.size; omega) (HW.out w4 K4.out) h0 h1 (by omega) (by omega) (HJ.out.1 _ _ _ HJ.out.2 K4.out) (by rw [HP.out.1]; have h1 := HP.out.2.2.2.2.2.1; omega)
      rw [HP.out.1] at hI
      have HI := Lib.hid (fun (j' : Int) (e : j' = min j zl) => show Calls Try.prog 51 #[.pointer (some ⟨gT, 0, none⟩), .int .i64 L.rt, .int .i64 i, .int .i64 j', .func (.yield l) #[] #[]] w4 (fun e w' => OverP J Jx Bad w4 pre PL e w') by rw [e]; exact hI)
      clear hI
      go_wp2_with fail
      all_goals
        refine (HI.out _ (by omega)).mono ?_
        rintro e w5 (⟨rfl, hj, hk⟩ | ⟨rfl, q, hq, hj⟩)
        · have HR := Lib.hid (And.intro hj (And.intro ((KeepsO.of_below K4.out).trans hk) (N4.out.keepsO hk (HB.out.2.2.2 b HBB.out))))
          clear hj hk hc
          go_wp2_with fail
          go_meet
          case rel => exact .inl ⟨rfl, HR.out⟩
        · have HR := Lib.hid (And.intro hq hj)
          clear hj hq hc
          go_wp2_with fail
          go_meet
          case rel => exact .inr ⟨rfl, q, HR.out⟩
    · have HR := Lib.hid (show J (pre ++ PL) w4 ∧ KeepsO Bad w w4 ∧ NdAt w4 b n from ⟨by rw [HP.out.2.2.1 (by omega), List.append_nil]; exact HJ.out.1 _ _ _ HJ.out.2 K4.out, KeepsO.of_below K4.out, N4.out⟩)
      go_wp2_with fail
      go_meet
      case rel => exact .inl ⟨rfl, HR.out⟩
  case rest =>
    rcases hcut with ⟨rfl, hj5, hk5, hn5⟩ | ⟨rfl, q, hq, hjx⟩
    · rename World => w5
      have hTw5 := (HW.out w (Below.refl _ _)).keepsO hk5 HB.out.2.1 HB.out.2.2.1
      have T5 := Lib.hid (fun (w6 : World) (hb : Below w5.heap.size w5 w6) => hTw5.below hb)
      have Q5 := Lib.hid (And.intro hj5 (And.intro hk5 hn5))
      have hb5 : B0 ≤ w5.heap.size := by have h1 := HBB.out; have h2 := hn5.lt; omega
      have HB5 := Lib.hid hb5
      clear hTw5 hj5 hk5 hn5 hb5 HIL
      go_upto_region 8 with fail
      go_cut [17, 18] from 64 to 72 (fun v17 v18 wz => v17 = .int .i64 (max (i - zl) 0) ∧ v18 = .int .i64 (min (j - zl) zt) ∧ w5 = wz)
      case first =>
        have g2 : IntKind.i64.wrap (i - zl) = i - zl := IntWalk.i64_in _ (by omega)
        have g3 : IntKind.i64.wrap (j - zl) = j - zl := IntWalk.i64_in _ (by omega)
        go_wp2_with fail
        all_goals
          go_meet
          case rel => exact ⟨by congr 1; omega, by congr 1; omega, rfl⟩
      case rest =>
      obtain ⟨rfl, rfl, rfl⟩ := hcut
      obtain ⟨fi, hfi⟩ : ∃ x, max (i - zl) 0 = x := ⟨_, rfl⟩
      obtain ⟨ti, hti⟩ : ∃ x, min (j - zl) zt = x := ⟨_, rfl⟩
      have hfi0 : 0 ≤ fi := by omega
      have hti0 : ti ≤ zt := by omega
      have HFT := Lib.hid (And.intro hfi hti)
      have hPU := HP.out.2.2.2.2.1
      rw [hfi, hti] at hPU ⊢
      have HPU := Lib.hid hPU
      clear hfi hti hPU
      go_upto_if 75 with fail
      go_cut [19] from 75 to 108 (fun _ wz => J (pre ++ PL ++ PU) wz ∧ KeepsO Bad w wz ∧ NdAt wz b n)
      case first =>
        by_cases hft : fi < ti
        · have HPP := Lib.hid (show PU = [partT u (i - zl) (j - zl)] by rw [← HPU.out, if_pos hft])
          have hoku := HP.out.2.2.2.2.2.2.1
          have hzt' := HP.out.2.2.2.2.2.2.2
          have HA := Lib.hid (partA_ok (t := u) (i := i - zl) (j := j - zl) hoku (by rw [hzt', HFT.out.1, HFT.out.2]; exact hft))
          obtain ⟨bx, hbx⟩ : ∃ v, w5.heap.size = v := ⟨_, rfl⟩
          obtain ⟨w6, hw6⟩ : ∃ v, w5.alloc (.cells (encT u).toArray 34) = v := ⟨_, rfl⟩
          have B6 := Lib.hid (show Below w5.heap.size w5 w6 by rw [← hw6]; exact (Below.refl _ _).alloc (Nat.le_refl _) _)
          have F6 := Lib.hid (show w6.heap[bx]? = some (.cells (encT u).toArray 34) by rw [← hw6, ← hbx]; exact heap_alloc_new w5 _)
          have HBX := Lib.hid (show w5.heap.size ≤ bx by omega)
          have HE6 := Lib.hid (And.intro hw6 hbx)
          have HOU := Lib.hid (And.intro hoku hzt')
          clear hw6 hbx hoku hzt'
          go_upto_if 80 with (first
            | (refine wpList_load_mid rfl 34 (.tmp 76) rfl b 0 rfl (encT u) _ (HX.out ▸ Q5.out.2.2.x) Try.underlying34 rfl (thing_info u) ?_)
            | (refine wpList_store_row rfl 34 (.tmp 19) (.tmp 77) rfl w5.heap.size (encT u).toArray rfl rfl 34 _ (heap_alloc_new w5 _) (by rw [List.size_toArray]; exact thing_info _) (by rfl) (all_oneCell_toArray (encT_one _)) ?_; rw [alloc_setRow, HE6.out.1, HE6.out.2]))
          go_cut [] from 80 to 91 (fun wz => Below w5.heap.size w5 wz ∧ wz.heap[bx]? = some (.cells (encT (partA u (j - zl))).toArray 34))
          case first =>
            by_cases hto : ti < zt
            · have HCT := Lib.hid (fun w1 => cut_any u ti w1 (by omega) (by have h1 := HOU.out.2; show ti ≤ sizeT u; omega) HOU.out.1.2)
              rw [show cutA u ti = partA u (j - zl) by unfold partA; rw [HOU.out.2, HFT.out.2, if_pos hto]] at HCT
              rw [thV_cells u, thV_cells (partA u (j - zl))] at HCT
              go_wp2_with fail
              refine wp_region_held_drew (S := fun w' => w'.cell? ⟨gT, 1, none⟩ = some (.func (.func 38) #[] #[])) (by kernel_rfl) (T5.out w6 B6.out).cC (fun hHeld => ?_)
              try dsimp only at hHeld
              refine take_at (i := 0) (v := ?_) (some 82) rfl rfl (by kernel_rfl) (by kernel_rfl) (by kernel_rfl) (fun _ _ _ h => h) hHeld (by rfl) (fun wS hSw => ?_) ?_
              rotate_left
              · try dsimp only at hSw
                go_simp
                try with_reducible rfl
              try simp only [Act.put, List.setIfInBounds_toArray, List.set_cons_zero, List.set_cons_succ]
              refine take_at (i := 1) (v := ?_) (some 83) rfl rfl (by kernel_rfl) (by kernel_rfl) (by kernel_rfl) (fun _ _ _ h => h) hHeld (by rfl) (fun wS hSw => ?_) ?_
              rotate_left
              · try dsimp only at hSw
                go_simp
                try with_reducible rfl
              try simp only [Act.put, List.setIfInBounds_toArray, List.set_cons_zero, List.set_cons_succ]
              refine take_at (i := 2) (v := ?_) (some 84) rfl rfl (by kernel_rfl) (by kernel_rfl) (by kernel_rfl) (fun _ _ _ h => h) hHeld (by rfl) (fun wS hSw => ?_) ?_
              rotate_left
              · try dsimp only at hSw
                go_simp
                try with_reducible rfl
              try simp only [Act.put, List.setIfInBounds_toArray, List.set_cons_zero, List.set_cons_succ]
              refine take_at (i := 3) (v := ?_) (some 85) rfl rfl (by kernel_rfl) (by kernel_rfl) (by kernel_rfl) (fun _ _ _ h => h) hHeld (by rfl) (fun wS hSw => ?_) ?_
              rotate_left
              · try dsimp only at hSw
                go_simp
                try with_reducible rfl
              try simp only [Act.put, List.setIfInBounds_toArray, List.set_cons_zero, List.set_cons_succ]
              refine take_at (i := 4) (v := ?_) (some 86) rfl rfl (by kernel_rfl) (by kernel_rfl) (by kernel_rfl) (fun _ _ _ h => h) hHeld (by rfl) (fun wS hSw => ?_) ?_
              rotate_left
              · have hS1 := hSw
                try dsimp only at hSw
                go_simp
                try with_reducible rfl
              try simp only [Act.put, List.setIfInBounds_toArray, List.set_cons_zero, List.set_cons_succ]
              refine take_at (i := 6) (v := ?_) (some 88) rfl rfl (by kernel_rfl) (by kernel_rfl) (by kernel_rfl) (fun _ _ _ h => h) hHeld (by rfl) (fun wS hSw => ?_) ?_
              rotate_left
              · try dsimp only at hSw
                go_simp
                try with_reducible rfl
              try simp only [Act.put, List.setIfInBounds_toArray, List.set_cons_zero, List.set_cons_succ]
              refine wpAnyH_ready (rs := [5]) (by kernel_rfl) (by simp) ?_
              refine AllReadyH.cons rfl (fun K hK => ?_) AllReadyH.nil
              simp only [List.getElem_toArray, List.getElem_cons_succ, List.getElem_cons_zero]
              refine of_if (by rfl) ?_
              refine wp_load_row 34 (.tmp 19) rfl bx rfl 34 (encT u).toArray (0, 0) _ F6.out Try.underlying34 rfl (by rw [List.size_toArray]; exact thing_info _) ?_
              have hOld := hHeld
              refine hK.out _ _ hHeld (fun _ => ?_)
              clear hK K
              refine wpAnyH_mono (S2 := fun w' => w'.cell? ⟨gT, 1, none⟩ = some (.func (.func 38) #[] #[])) (fun _ h => h) _ _ _ _ ?_
              clear hHeld
              have hHeld := hOld
              clear hOld
              try simp only [Act.put, List.setIfInBounds_toArray, List.set_cons_zero, List.set_cons_succ]
              refine wpAnyH_ready (rs := [7]) (by kernel_rfl) (by simp) ?_
              refine AllReadyH.cons rfl (fun K hK => ?_) AllReadyH.nil
              simp only [List.getElem_toArray, List.getElem_cons_succ, List.getElem_cons_zero]
              go_simp
              refine (HCT.out _).mono ?_
              rintro e w7 ⟨rfl, hb7⟩
              have hB7 := Lib.hid (show Below w5.heap.size w5 w7 from B6.out.drew.trans (hb7.mono B6.out.size))
              have hF7 := Lib.hid (show w7.heap[bx]? = _ from heap_later (w := w6.drew) F6.out hb7)
              clear hb7
              try dsimp only
              have hOld := hHeld
              refine hK.out _ _ (T5.out w7 hB7.out).cC (fun _ => ?_)
              clear hK K
              refine wpAnyH_mono (S2 := fun w' => w'.cell? ⟨gT, 1, none⟩ = some (.func (.func 38) #[] #[])) (fun _ h => h) _ _ _ _ ?_
              clear hHeld
              have hHeld := (T5.out w7 hB7.out).cC
              clear hOld
              try simp only [Act.put, List.setIfInBounds_toArray, List.set_cons_zero, List.set_cons_succ]
              refine take_at (i := 8) (v := ?_) (some 81) rfl rfl (by kernel_rfl) (by kernel_rfl) (by kernel_rfl) (fun _ _ _ h => h) hHeld (by rfl) (fun wS hSw => ?_) ?_
              rotate_left
              · try dsimp only at hSw
                go_simp
                try with_reducible rfl
              try simp only [Act.put, List.setIfInBounds_toArray, List.set_cons_zero, List.set_cons_succ]
              refine take_at (i := 9) (v := ?_) (some 90) rfl rfl (by kernel_rfl) (by kernel_rfl) (by kernel_rfl) (fun _ _ _ h => h) hHeld (by rfl) (fun wS hSw => ?_) ?_
              rotate_left
              · try dsimp only at hSw
                go_simp
                try with_reducible rfl
              try simp only [Act.put, List.setIfInBounds_toArray, List.set_cons_zero, List.set_cons_succ]
              refine take_at (i := 10) (v := ?_) (some 91) rfl rfl (by kernel_rfl) (by kernel_rfl) (by kernel_rfl) (fun _ _ _ h => h) hHeld (by rfl) (fun wS hSw => ?_) ?_
              rotate_left
              · try dsimp only at hSw
                go_simp
                try with_reducible rfl
              try simp only [Act.put, List.setIfInBounds_toArray, List.set_cons_zero, List.set_cons_succ]
              refine wpAnyH_ready (rs := [11]) (by kernel_rfl) (by simp) ?_
              refine AllReadyH.cons rfl (fun K hK => ?_) AllReadyH.nil
              simp only [List.getElem_toArray, List.getElem_cons_succ, List.getElem_cons_zero]
              refine of_if (by rfl) ?_
              refine wp_store_row 34 (.tmp 19) (.tmp 90) rfl bx (encT (partA u (j - zl))).toArray rfl rfl 34 (encT u).toArray hF7.out (by rw [List.size_toArray]; exact thing_info _) (by rw [List.size_toArray, List.size_toArray, encT_len, encT_len]) (all_oneCell_toArray (encT_one _)) ?_
              have hB8 := Lib.hid (show Below w5.heap.size w5 (w7.setRow bx (encT (partA u (j - zl))).toArray) from below_setRow hB7.out hB7.out.size HBX.out _)
              have hF8 := Lib.hid (setRow_heap _ _ _ _ _ _ hF7.out : (w7.setRow bx (encT (partA u (j - zl))).toArray).heap[bx]? = some (.cells (encT (partA u (j - zl))).toArray 34))
              have hOld := hHeld
              refine hK.out _ _ (T5.out _ hB8.out).cC (fun _ => ?_)
              clear hK K
              refine wpAnyH_mono (S2 := fun w' => w'.cell? ⟨gT, 1, none⟩ = some (.func (.func 38) #[] #[])) (fun _ h => h) _ _ _ _ ?_
              clear hHeld
              have hHeld := (T5.out _ hB8.out).cC
              clear hOld
              try simp only [Act.put]
              refine wpAnyH_done (by kernel_rfl) ?_ _
              clear hHeld
              go_wp2_with fail
              go_meet
              case rel => exact ⟨hB8.out, hF8.out⟩
            · have HR := Lib.hid (show Below w5.heap.size w5 w6 ∧ w6.heap[bx]? = some (.cells (encT (partA u (j - zl))).toArray 34) from ⟨B6.out, by unfold partA; rw [HOU.out.2, HFT.out.2, if_neg hto]; exact F6.out⟩)
              go_wp2_with fail
              go_meet
              case rel => exact HR.out
          case rest =>
          have Bc := Lib.hid hcut.1
          have Fc := Lib.hid hcut.2
          clear hcut
          go_upto_if 93 with fail
          go_cut [] from 93 to 104 (fun wz => Below w5.heap.size w5 wz ∧ wz.heap[bx]? = some (.cells (encT (partT u (i - zl) (j - zl))).toArray 34))
          case first =>
            by_cases hfr : 0 < fi
            · have HCT := Lib.hid (fun w1 => cut_any (partA u (j - zl)) fi w1 (by omega) (by have h1 := HA.out.2; rw [HOU.out.2, HFT.out.2] at h1; show fi ≤ sizeT _; omega) HA.out.1.2)
              rw [show cutB (partA u (j - zl)) fi = partT u (i - zl) (j - zl) by unfold partT; rw [HFT.out.1, if_pos hfr]] at HCT
              rw [thV_cells (partA u (j - zl)), thV_cells (partT u (i - zl) (j - zl))] at HCT
              go_wp2_with fail
              refine wp_region_held_drew (S := fun w' => w'.cell? ⟨gT, 1, none⟩ = some (.func (.func 38) #[] #[])) (by kernel_rfl) (T5.out wc Bc.out).cC (fun hHeld => ?_)
              try dsimp only at hHeld
              refine take_at (i := 0) (v := ?_) (some 95) rfl rfl (by kernel_rfl) (by kernel_rfl) (by kernel_rfl) (fun _ _ _ h => h) hHeld (by rfl) (fun wS hSw => ?_) ?_
              rotate_left
              · try dsimp only at hSw
                go_simp
                try with_reducible rfl
              try simp only [Act.put, List.setIfInBounds_toArray, List.set_cons_zero, List.set_cons_succ]
              refine take_at (i := 1) (v := ?_) (some 96) rfl rfl (by kernel_rfl) (by kernel_rfl) (by kernel_rfl) (fun _ _ _ h => h) hHeld (by rfl) (fun wS hSw => ?_) ?_
              rotate_left
              · try dsimp only at hSw
                go_simp
                try with_reducible rfl
              try simp only [Act.put, List.setIfInBounds_toArray, List.set_cons_zero, List.set_cons_succ]
              refine take_at (i := 2) (v := ?_) (some 97) rfl rfl (by kernel_rfl) (by kernel_rfl) (by kernel_rfl) (fun _ _ _ h => h) hHeld (by rfl) (fun wS hSw => ?_) ?_
              rotate_left
              · try dsimp only at hSw
                go_simp
                try with_reducible rfl
              try simp only [Act.put, List.setIfInBounds_toArray, List.set_cons_zero, List.set_cons_succ]
              refine take_at (i := 3) (v := ?_) (some 98) rfl rfl (by kernel_rfl) (by kernel_rfl) (by kernel_rfl) (fun _ _ _ h => h) hHeld (by rfl) (fun wS hSw => ?_) ?_
              rotate_left
              · try dsimp only at hSw
                go_simp
                try with_reducible rfl
              try simp only [Act.put, List.setIfInBounds_toArray, List.set_cons_zero, List.set_cons_succ]
              refine take_at (i := 4) (v := ?_) (some 99) rfl rfl (by kernel_rfl) (by kernel_rfl) (by kernel_rfl) (fun _ _ _ h => h) hHeld (by rfl) (fun wS hSw => ?_) ?_
              rotate_left
              · have hS1 := hSw
                try dsimp only at hSw
                go_simp
                try with_reducible rfl
              try simp only [Act.put, List.setIfInBounds_toArray, List.set_cons_zero, List.set_cons_succ]
              refine take_at (i := 6) (v := ?_) (some 101) rfl rfl (by kernel_rfl) (by kernel_rfl) (by kernel_rfl) (fun _ _ _ h => h) hHeld (by rfl) (fun wS hSw => ?_) ?_
              rotate_left
              · try dsimp only at hSw
                go_simp
                try with_reducible rfl
              try simp only [Act.put, List.setIfInBounds_toArray, List.set_cons_zero, List.set_cons_succ]
              refine wpAnyH_ready (rs := [5]) (by kernel_rfl) (by simp) ?_
              refine AllReadyH.cons rfl (fun K hK => ?_) AllReadyH.nil
              simp only [List.getElem_toArray, List.getElem_cons_succ, List.getElem_cons_zero]
              refine of_if (by rfl) ?_
              refine wp_load_row 34 (.tmp 19) rfl bx rfl 34 (encT (partA u (j - zl))).toArray (0, 0) _ Fc.out Try.underlying34 rfl (by rw [List.size_toArray]; exact thing_info _) ?_
              have hOld := hHeld
              refine hK.out _ _ hHeld (fun _ => ?_)
              clear hK K
              refine wpAnyH_mono (S2 := fun w' => w'.cell? ⟨gT, 1, none⟩ = some (.func (.func 38) #[] #[])) (fun _ h => h) _ _ _ _ ?_
              clear hHeld
              have hHeld := hOld
              clear hOld
              try simp only [Act.put, List.setIfInBounds_toArray, List.set_cons_zero, List.set_cons_succ]
              refine wpAnyH_ready (rs := [7]) (by kernel_rfl) (by simp) ?_
              refine AllReadyH.cons rfl (fun K hK => ?_) AllReadyH.nil
              simp only [List.getElem_toArray, List.getElem_cons_succ, List.getElem_cons_zero]
              go_simp
              refine (HCT.out _).mono ?_
              rintro e w9 ⟨rfl, hb9⟩
              have hB9 := Lib.hid (show Below w5.heap.size w5 w9 from Bc.out.drew.trans (hb9.mono Bc.out.size))
              have hF9 := Lib.hid (show w9.heap[bx]? = _ from heap_later (w := wc.drew) Fc.out hb9)
              clear hb9
              try dsimp only
              have hOld := hHeld
              refine hK.out _ _ (T5.out w9 hB9.out).cC (fun _ => ?_)
              clear hK K
              refine wpAnyH_mono (S2 := fun w' => w'.cell? ⟨gT, 1, none⟩ = some (.func (.func 38) #[] #[])) (fun _ h => h) _ _ _ _ ?_
              clear hHeld
              have hHeld := (T5.out w9 hB9.out).cC
              clear hOld
              try simp only [Act.put, List.setIfInBounds_toArray, List.set_cons_zero, List.set_cons_succ]
              refine take_at (i := 8) (v := ?_) (some 94) rfl rfl (by kernel_rfl) (by kernel_rfl) (by kernel_rfl) (fun _ _ _ h => h) hHeld (by rfl) (fun wS hSw => ?_) ?_
              rotate_left
              · try dsimp only at hSw
                go_simp
                try with_reducible rfl
              try simp only [Act.put, List.setIfInBounds_toArray, List.set_cons_zero, List.set_cons_succ]
              refine take_at (i := 9) (v := ?_) (some 103) rfl rfl (by kernel_rfl) (by kernel_rfl) (by kernel_rfl) (fun _ _ _ h => h) hHeld (by rfl) (fun wS hSw => ?_) ?_
              rotate_left
              · try dsimp only at hSw
                go_simp
                try with_reducible rfl
              try simp only [Act.put, List.setIfInBounds_toArray, List.set_cons_zero, List.set_cons_succ]
              refine take_at (i := 10) (v := ?_) (some 104) rfl rfl (by kernel_rfl) (by kernel_rfl) (by kernel_rfl) (fun _ _ _ h => h) hHeld (by rfl) (fun wS hSw => ?_) ?_
              rotate_left
              · try dsimp only at hSw
                go_simp
                try with_reducible rfl
              try simp only [Act.put, List.setIfInBounds_toArray, List.set_cons_zero, List.set_cons_succ]
              refine wpAnyH_ready (rs := [11]) (by kernel_rfl) (by simp) ?_
              refine AllReadyH.cons rfl (fun K hK => ?_) AllReadyH.nil
              simp only [List.getElem_toArray, List.getElem_cons_succ, List.getElem_cons_zero]
              refine of_if (by rfl) ?_
              refine wp_store_row 34 (.tmp 19) (.tmp 104) rfl bx (encT (partT u (i - zl) (j - zl))).toArray rfl rfl 34 (encT (partA u (j - zl))).toArray hF9.out (by rw [List.size_toArray]; exact thing_info _) (by rw [List.size_toArray, List.size_toArray, encT_len, encT_len]) (all_oneCell_toArray (encT_one _)) ?_
              have hB10 := Lib.hid (show Below w5.heap.size w5 (w9.setRow bx (encT (partT u (i - zl) (j - zl))).toArray) from below_setRow hB9.out hB9.out.size HBX.out _)
              have hF10 := Lib.hid (setRow_heap _ _ _ _ _ _ hF9.out : (w9.setRow bx (encT (partT u (i - zl) (j - zl))).toArray).heap[bx]? = some (.cells (encT (partT u (i - zl) (j - zl))).toArray 34))
              have hOld := hHeld
              refine hK.out _ _ (T5.out _ hB10.out).cC (fun _ => ?_)
              clear hK K
              refine wpAnyH_mono (S2 := fun w' => w'.cell? ⟨gT, 1, none⟩ = some (.func (.func 38) #[] #[])) (fun _ h => h) _ _ _ _ ?_
              clear hHeld
              have hHeld := (T5.out _ hB10.out).cC
              clear hOld
              try simp only [Act.put]
              refine wpAnyH_done (by kernel_rfl) ?_ _
              clear hHeld
              go_wp2_with fail
              go_meet
              case rel => exact ⟨hB10.out, hF10.out⟩
            · have HR := Lib.hid (show Below w5.heap.size w5 wc ∧ wc.heap[bx]? = some (.cells (encT (partT u (i - zl) (j - zl))).toArray 34) from ⟨Bc.out, by unfold partT; rw [HFT.out.1, if_neg hfr]; exact Fc.out⟩)
              go_wp2_with fail
              go_meet
              case rel => exact HR.out
          case rest =>
          rename World => w11
          obtain ⟨x, hx⟩ : ∃ x, partT u (i - zl) (j - zl) = x := ⟨_, rfl⟩
          rw [hx] at hcut HPP
          have hlt : (pre ++ PL).length < N := by have h1 := HP.out.2.2.2.2.2.1; rw [HPP.out, List.length_singleton] at h1; rw [List.length_append]; omega
          obtain ⟨fn, tmps, assign, body, hy, hR⟩ := HY.out (pre ++ PL) x w11 (HJ.out.1 _ _ _ Q5.out.1 hcut.1) hlt
          rw [thV_cells x] at hy
          have HR := Lib.hid hR
          have F11 := Lib.hid hcut.2
          have K11 := Lib.hid ((show KeepsO Bad w w5 from Q5.out.2.1).trans (KeepsO.of_below hcut.1))
          have N11 := Lib.hid (Q5.out.2.2.below hcut.1)
          clear hcut hx hlt hR
          go_upto_region 15 with fail
          refine (wpIn_wide (n := m + 1)).1 ?_
          gi_wp2_with (refine wpListIn_known rfl rfl (by intro c e; cases e) (exec_load_row 34 (.tmp 19) rfl bx rfl 34 (encT x).toArray (0, 0) _ F11.out Try.underlying34 rfl (by rw [List.size_toArray]; exact thing_info _)) ?_)
          refine HR.out.mono ?_
          rintro e w12 (⟨rfl, hj, hk⟩ | ⟨rfl, hjx⟩)
          · have R12 := Lib.hid (show J (pre ++ PL ++ PU) w12 ∧ KeepsO Bad w w12 ∧ NdAt w12 b n from ⟨by rw [HPP.out]; exact hj, K11.out.trans hk, N11.out.keepsO hk (HB.out.2.2.2 b HBB.out)⟩)
            clear hj hk hy
            gi_wp2
            go_wp2_with fail
            go_meet
            case rel => exact R12.out
          · have R12 := Lib.hid (show OverP J Jx Bad w pre (PL ++ (PU ++ PR)) (.returned (.bool false)) w12 from .inr ⟨rfl, PL ++ [x], by rw [HPP.out, ← List.append_assoc]; exact List.prefix_append _ _, by rw [← List.append_assoc]; exact hjx⟩)
            clear hjx hy
            gi_wp2
            go_wp2_with fail
            go_ret
            exact R12.out
        · have HR := Lib.hid (show J (pre ++ PL ++ PU) w5 ∧ KeepsO Bad w w5 ∧ NdAt w5 b n from ⟨by rw [← HPU.out, if_neg hft, List.append_nil]; exact Q5.out.1, Q5.out.2⟩)
          go_wp2_with fail
          go_meet
          case rel => exact HR.out
      case rest =>
        rename World => w13
        have Q13 := Lib.hid hcut
        clear hcut
        by_cases hjz : j ≤ zl + zt
        · have HR := Lib.hid (show OverP J Jx Bad w pre (PL ++ (PU ++ PR)) (.returned (.bool true)) w13 from .inl ⟨rfl, by rw [HP.out.2.2.2.1 hjz, List.append_nil, ← List.append_assoc]; exact Q13.out.1, Q13.out.2.1⟩)
          go_wp2_with fail
          go_ret
          exact HR.out
        · have hc := Q13.out.2.2.cR
          rw [hnr] at hc
          have hjz0 : zl + zt < j := by omega
          have g4 : IntKind.i64.wrap (i - zl) = i - zl := IntWalk.i64_in _ (by omega)
          have g5 : IntKind.i64.wrap (i - zl - zt) = i - zl - zt := IntWalk.i64_in _ (by omega)
          have g6 : IntKind.i64.wrap (j - zl) = j - zl := IntWalk.i64_in _ (by omega)
          have g7 : IntKind.i64.wrap (j - zl - zt) = j - zl - zt := IntWalk.i64_in _ (by omega)
          have hI := HIR.out w13 (pre ++ PL ++ PU) (max (i - zl - zt) 0) (j - zl - zt) (by have h1 := HBB.out; have h2 := Q13.out.2.2.lt; omega) ((HW.out w (Below.refl _ _)).keepsO Q13.out.2.1 HB.out.2.1 HB.out.2.2.1) (by omega) (by omega) (by omega) (by omega) Q13.out.1 (by rw [HP.out.2.1]; have h1 := HP.out.2.2.2.2.2.1; rw [List.length_append, List.length_append]; omega)
          rw [HP.out.2.1] at hI
          have HI := Lib.hid (fun (i' : Int) (e : i' = max (i - zl - zt) 0) => show Calls Try.prog 51 #[.pointer (some ⟨gT, 0, none⟩), .int .i64 R.rt, .int .i64 i', .int .i64 (j - zl - zt), .func (.yield l) #[] #[]] w13 (fun e w' => OverP J Jx Bad w13 (pre ++ PL ++ PU) PR e w') by rw [e]; exact hI)
          clear hI
          go_wp2_with fail
          all_goals
            refine (HI.out _ (by omega)).mono ?_
            rintro e w14 (⟨rfl, hj, hk⟩ | ⟨rfl, q, hq, hj⟩)
            · have HR := Lib.hid (show OverP J Jx Bad w pre (PL ++ (PU ++ PR)) (.returned (.bool true)) w14 from .inl ⟨rfl, by rw [List.append_assoc, List.append_assoc] at hj; exact hj, Q13.out.2.1.trans hk⟩)
              clear hj hk hc
              go_wp2_with fail
              go_ret
              exact HR.out
            · have HR := Lib.hid (show OverP J Jx Bad w pre (PL ++ (PU ++ PR)) (.returned (.bool false)) w14 from .inr ⟨rfl, PL ++ (PU ++ q), by
                obtain ⟨r, hr⟩ := hq
                exact ⟨r, by rw [← hr]; simp [List.append_assoc]⟩, by rw [List.append_assoc, List.append_assoc] at hj; exact hj⟩)
              clear hj hq hc
              go_wp2_with fail
              go_ret
              exact HR.out
    · have HR := Lib.hid (show OverP J Jx Bad w pre (PL ++ (PU ++ PR)) (.returned (.bool false)) wc from .inr ⟨rfl, q, hq.trans (List.prefix_append _ _), hjx⟩)
      clear hq hjx
      go_wp2_with fail
      go_ret
      exact HR.out

theorem over_any {F : Nat → Prop} {gT gA : Nat} {root : Int} {s : List (Option Nd)} {fr : List Nat} {J Jx : List Th → World → Prop} {Bad : Nat → Obj → Prop} {N m l B0 : Nat}
    (hJ : ∀ pre A B, J pre A → Below A.heap.size A B → J pre B) (hY : ∀ (pre : List Th) (x : Th) (W1 : World), J pre W1 → pre.length < N → YieldAt Fence.wide m Try.prog l #[thV x] W1 fun e W' => (e = .returned (.bool true) ∧ J (pre ++ [x]) W' ∧ KeepsO Bad W1 W') ∨ (e = .returned (.bool false) ∧ Jx (pre ++ [x]) W'))
    (hFB : ∀ k, F k → ∀ o, ¬ Bad k o) (hTB : ∀ o, ¬ Bad gT o) (hNB : ∀ b, B0 ≤ b → ∀ cs fr, ¬ Bad b (.cells cs 80 fr)) : ∀ (T : Tr), Holds s T → OkL T.nodes → ∀ (W : World) (pre : List Th) (i j : Int), B0 ≤ W.heap.size → TreeW W F gT gA root s fr → 0 ≤ i → i ≤ 1000000000000 → -1000000000000 ≤ j → j ≤ 1000000000000 → J pre W → pre.length + (overT T.things i j).length ≤ N → Calls Try.prog 51 #[.pointer (some ⟨gT, 0, none⟩), .int .i64 T.rt, .int .i64 i, .int .i64 j, .func (.yield l) #[] #[]] W fun e W' => OverP J Jx Bad W pre (overT T.things i j) e W'
  | .nil, _, _, W, pre, i, j, _, _, _, _, _, _, hp, _ => (over_stop W gT (-1) i j l (.inl rfl)).mono fun e w' ⟨he, hw⟩ => by
    subst hw
    exact .inl ⟨he, by show J (pre ++ []) W; rw [List.append_nil]; exact hp, KeepsO.refl _ _⟩
  | .nd k u L R, hT, ho, W, pre, i, j, hB, h, h0, h1, h2, h3, hp, hlen => by
    by_cases hij : i < j
    · exact over_step hJ hY hFB hTB hNB (fun W pre i j => over_any hJ hY hFB hTB hNB L hT.2.1 ho.left W pre i j) (fun W pre i j => over_any hJ hY hFB hTB hNB R hT.2.2 ho.right.tail W pre i j) hB h hT ho h0 h1 h3 hij hp hlen
    · refine (over_stop W gT k i j l (.inr (by omega))).mono ?_
      rintro e w' ⟨rfl, rfl⟩
      exact .inl ⟨rfl, by rw [overT_none _ _ _ (OkL.things ho) (.inr (.inr (by omega))), List.append_nil]; exact hp, KeepsO.refl _ _⟩

end Go.Proofs.Ytbioomilnjikpaa
