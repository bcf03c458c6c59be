/-
  Several texts in one: RoY7, RoY8, RoY9, RoU.
-/
import Derived.StillTailTactics
import Derived.Test.YtmfkdaannjibfaaBdK

namespace Go.Proofs.Ytmfkdaannjibfaa
open Go.RowKit
attribute [local go_sem] Oper.semAt_some

set_option maxRecDepth 100000 in
set_option maxHeartbeats 2000000 in
theorem over_stop (w : World) (gT : Nat) (r i j : Int) (l : Nat) (h : r = -1 ∨ j ≤ i) :
    Calls Try.prog 69 #[.pointer (some ⟨gT, 0, none⟩), .int .i64 r, .int .i64 i, .int .i64 j, .func (.yield l) #[] #[]] w fun e w' => e = .returned (.bool true) ∧ w = w' := by
  by_cases h1 : r = -1
  · subst h1
    clear h
    go_enter Try.func69, Try.ntmps69
    go_wp2_with fail
    go_ret
    exact ⟨rfl, rfl⟩
  · have h2 : j ≤ i := by rcases h with e | e; exact absurd e h1; exact e
    have h3 : (r == -1) = false := by simpa using h1
    clear h h1
    go_enter Try.func69, Try.ntmps69
    go_wp2_with fail
    go_ret
    exact ⟨rfl, rfl⟩

set_option maxRecDepth 100000 in
set_option maxHeartbeats 16000000 in
theorem over_step {F : Nat → Prop} {gT gA : Nat} {root : Int} {s : List (Option Nd)} {fr : List Nat} {J Jx : List Th → World → Prop} {Bad : Nat → Obj → Prop} {N m l B0 : Nat}
    (hJ : ∀ pre A B, J pre A → Below A.heap.size A B → J pre B) (hY : ∀ (pre : List Th) (x : Th) (W1 : World), J pre W1 → pre.length < N → YieldAt Fence.wide m Try.prog l #[thV x] W1 fun e W' => (e = .returned (.bool true) ∧ J (pre ++ [x]) W' ∧ KeepsO Bad W1 W') ∨ (e = .returned (.bool false) ∧ Jx (pre ++ [x]) W'))
    (hFB : ∀ k, F k → ∀ o, ¬ Bad k o) (hTB : ∀ o, ¬ Bad gT o) (hNB : ∀ b, B0 ≤ b → ∀ cs fr, ¬ Bad b (.cells cs 103 fr))
    {k : Nat} {u : Th} {L R : Tr} (ihL : ∀ (W : World) (pre : List Th) (i j : Int), B0 ≤ W.heap.size → TreeW W F gT gA root s fr → 0 ≤ i → i ≤ 1000000000000 → -1000000000000 ≤ j → j ≤ 1000000000000 → J pre W → pre.length + (overT L.things i j).length ≤ N → Calls Try.prog 69 #[.pointer (some ⟨gT, 0, none⟩), .int .i64 L.rt, .int .i64 i, .int .i64 j, .func (.yield l) #[] #[]] W fun e W' => OverP J Jx Bad W pre (overT L.things i j) e W') (ihR : ∀ (W : World) (pre : List Th) (i j : Int), B0 ≤ W.heap.size → TreeW W F gT gA root s fr → 0 ≤ i → i ≤ 1000000000000 → -1000000000000 ≤ j → j ≤ 1000000000000 → J pre W → pre.length + (overT R.things i j).length ≤ N → Calls Try.prog 69 #[.pointer (some ⟨gT, 0, none⟩), .int .i64 R.rt, .int .i64 i, .int .i64 j, .func (.yield l) #[] #[]] W fun e W' => OverP J Jx Bad W pre (overT R.things i j) e W')
    {w : World} {pre : List Th} {i j : Int} (hB0 : B0 ≤ w.heap.size) (h : TreeW w F gT gA root s fr) (hT : Holds s (.nd k u L R)) (ho : OkL (Tr.nd k u L R).nodes) (h0 : 0 ≤ i) (h1 : i ≤ 1000000000000) (h2 : j ≤ 1000000000000) (hij : i < j) (hJ0 : J pre w)
    (hlen : pre.length + (overT (Tr.nd k u L R).things i j).length ≤ N) :
    Calls Try.prog 69 #[.pointer (some ⟨gT, 0, none⟩), .int .i64 k, .int .i64 i, .int .i64 j, .func (.yield l) #[] #[]] w fun e w' => OverP J Jx Bad w pre (overT (Tr.nd k u L R).things i j) e w' := by
  have hLs := Tr.sm (T := L) ho.left
  have hz := hLs.2.1
  have hzt : Sm (sizeT u) := by
    have h3 := sizeT_ok (ho.ok (k, u) (by simp [Tr.nodes]))
    have h5 := ho.sum
    have h6 := sumZ_nonneg ho.left.ok
    have h7 := sumZ_nonneg (L := R.nodes) (ho.right.tail.ok)
    have e : sumZ (Tr.nd k u L R).nodes = sumZ L.nodes + (sizeT u + sumZ R.nodes) := by rw [Tr.nodes, sumZ_append, sumZ]
    dsimp only at h3
    exact ⟨h3, by omega⟩
  have hth : (Tr.nd k u L R).things = L.things ++ u :: R.things := by simp [Tr.things, Tr.nodes]
  have hokL := OkL.things (T := L) ho.left
  have hokR := OkL.things (T := R) ho.right.tail
  have hoku := ho.ok (k, u) (by simp [Tr.nodes])
  obtain ⟨zl, hzl⟩ : ∃ x, L.z = x := ⟨_, rfl⟩
  obtain ⟨zt, hzt'⟩ : ∃ x, sizeT u = x := ⟨_, rfl⟩
  have hov : overT (Tr.nd k u L R).things i j = overT L.things i j ++ ((if max (i - zl) 0 < min (j - zl) zt then [partT u (i - zl) (j - zl)] else []) ++ overT R.things (i - zl - zt) (j - zl - zt)) := by
    rw [hth, overT_app, overT, ← Tr.z_things, hzl, hzt']
  obtain ⟨PL, hPL⟩ : ∃ x, overT L.things i j = x := ⟨_, rfl⟩
  obtain ⟨PU, hPU⟩ : ∃ x, (if max (i - zl) 0 < min (j - zl) zt then [partT u (i - zl) (j - zl)] else []) = x := ⟨_, rfl⟩
  obtain ⟨PR, hPR⟩ : ∃ x, overT R.things (i - zl - zt) (j - zl - zt) = x := ⟨_, rfl⟩
  rw [hPL, hPU, hPR] at hov
  rw [hov] at hlen ⊢
  rw [List.length_append, List.length_append] at hlen
  have hLj : overT L.things i (min j zl) = PL := by rw [← hPL]; refine overT_congr _ _ _ _ _ hokL rfl ?_; rw [← Tr.z_things, hzl]; omega
  have hRj : overT R.things (max (i - zl - zt) 0) (j - zl - zt) = PR := by rw [← hPR]; refine overT_congr _ _ _ _ _ hokR ?_ rfl; omega
  have hLno : zl ≤ i → PL = [] := fun e => by rw [← hPL]; exact overT_none _ _ _ hokL (.inr (.inl (by rw [← Tr.z_things, hzl]; exact e)))
  have hRno : j ≤ zl + zt → PR = [] := fun e => by rw [← hPR]; exact overT_none _ _ _ hokR (.inl (by omega))
  have HP := Lib.hid (And.intro hLj (And.intro hRj (And.intro hLno (And.intro hRno (And.intro hPU (And.intro hlen (And.intro hoku hzt')))))))
  rw [hzl] at hz
  rw [hzt'] at hzt
  obtain ⟨z1, z2⟩ := hz
  obtain ⟨z3, z4⟩ := hzt
  have HAt := Lib.hid (at_any h hT.1)
  have HTa := Lib.hid (fun (w1 : World) (hb : Below w.heap.size w w1) => totals_any (h.below hb) hT.2.1.okR)
  rw [hT.2.1.tot.2.1, hzl] at HTa
  have HM := Lib.hid (fun w1 => measure_any u w1)
  rw [hzt'] at HM
  obtain ⟨n, hn⟩ : ∃ x, topN u L R = x := ⟨_, rfl⟩
  have hnl : n.l = L.rt := by rw [← hn]; rfl
  have hnr : n.r = R.rt := by rw [← hn]; rfl
  have HX := Lib.hid (show n.x = encT u by rw [← hn]; rfl)
  rw [hn] at HAt
  unfold Nd.V at HAt
  have HW := Lib.hid (fun (w1 : World) (hb : Below w.heap.size w w1) => h.below hb)
  have HB := Lib.hid (And.intro hB0 (And.intro hFB (And.intro hTB hNB)))
  have HJ := Lib.hid (And.intro hJ hJ0)
  have HY := Lib.hid hY
  have HIL := Lib.hid ihL
  have HIR := Lib.hid ihR
  have hk1 : ((k : Int) == -1) = false := by simp
  have g1 : IntKind.i64.wrap (zl + zt) = zl + zt := IntWalk.i64_in _ (by omega)
  clear hJ hY hFB hTB hNB ihL ihR hB0 h hT ho hJ0 hlen hLs hn hzl hzt' hth hokL hokR hoku hov hPL hPU hPR hLj hRj hLno hRno
  go_enter Try.func69, Try.ntmps69
  go_wp2_with fail
  refine HAt.out.mono ?_
  rintro e w1 ⟨rfl, hb1⟩
  obtain ⟨b, hb⟩ : ∃ b, w1.heap.size = b := ⟨_, rfl⟩
  obtain ⟨w2, hw2⟩ : ∃ v, w1.alloc (.cells n.C.toArray 103) = v := ⟨_, rfl⟩
  have N2 := Lib.hid (show NdAt w2 b n by rw [← hw2, ← hb]; exact NdAt.new w1 n)
  have K2 := Lib.hid (show Below w.heap.size w w2 by rw [← hw2]; exact hb1.alloc hb1.size _)
  have HE := Lib.hid (And.intro hw2 hb)
  have HBB := Lib.hid (show B0 ≤ b by have h1 := HB.out.1; have h2 := hb1.size; omega)
  have hc := N2.out.cL
  rw [hnl] at hc
  clear hb1 hw2 hb HAt
  go_wp2_with (refine wpList_store_row rfl 103 (.tmp 11) (.tmp 29) rfl w1.heap.size n.C.toArray rfl rfl 103 _ (heap_alloc_new w1 _) (nd_info n) (by simp [Nd.C_len]) (all_oneCell_toArray n.C_one) ?_; rw [alloc_setRow, HE.out.1, HE.out.2])
  clear hc
  refine (HTa.out w2 K2.out).mono ?_
  rintro e w3 ⟨rfl, hb3⟩
  have K3 := Lib.hid (K2.out.trans (hb3.mono K2.out.size))
  have N3 := Lib.hid (N2.out.below hb3)
  clear hb3 HTa
  go_wp2_with fail
  refine wp_region_held_drew (S := fun w' => w'.cell? ⟨gT, 0, none⟩ = some (.func (.func 46) #[] #[]) ∧ NdAt w' b n) (by kernel_rfl) ⟨(HW.out w3 K3.out).cM, ⟨N3.out.blk⟩⟩ (fun hHeld => ?_)
  try dsimp only at hHeld
  refine take_at (i := 0) (v := ?_) (some 39) rfl rfl (by kernel_rfl) (by kernel_rfl) (by kernel_rfl) (fun _ _ _ h => h) hHeld (by rfl) (fun wS hSw => ?_) ?_
  rotate_left
  · try dsimp only at hSw
    go_simp
    try with_reducible rfl
  try simp only [Act.put, List.setIfInBounds_toArray, List.set_cons_zero, List.set_cons_succ]
  refine take_at (i := 1) (v := ?_) (some 40) rfl rfl (by kernel_rfl) (by kernel_rfl) (by kernel_rfl) (fun _ _ _ h => h) hHeld (by rfl) (fun wS hSw => ?_) ?_
  rotate_left
  · try dsimp only at hSw
    go_simp
    try with_reducible rfl
  try simp only [Act.put, List.setIfInBounds_toArray, List.set_cons_zero, List.set_cons_succ]
  refine take_at (i := 2) (v := ?_) (some 41) rfl rfl (by kernel_rfl) (by kernel_rfl) (by kernel_rfl) (fun _ _ _ h => h) hHeld (by rfl) (fun wS hSw => ?_) ?_
  rotate_left
  · try dsimp only at hSw
    go_simp
    try with_reducible rfl
  try simp only [Act.put, List.setIfInBounds_toArray, List.set_cons_zero, List.set_cons_succ]
  refine take_at (i := 3) (v := ?_) (some 42) rfl rfl (by kernel_rfl) (by kernel_rfl) (by kernel_rfl) (fun _ _ _ h => h) hHeld (by rfl) (fun wS hSw => ?_) ?_
  rotate_left
  · try dsimp only at hSw
    go_simp
    try with_reducible rfl
  try simp only [Act.put, List.setIfInBounds_toArray, List.set_cons_zero, List.set_cons_succ]
  refine take_at (i := 4) (v := ?_) (some 43) rfl rfl (by kernel_rfl) (by kernel_rfl) (by kernel_rfl) (fun _ _ _ h => h) hHeld (by rfl) (fun wS hSw => ?_) ?_
  rotate_left
  · have hS1 := hSw.1
    try dsimp only at hSw
    go_simp
    try with_reducible rfl
  try simp only [Act.put, List.setIfInBounds_toArray, List.set_cons_zero, List.set_cons_succ]
  refine take_at (i := 5) (v := ?_) (some 44) rfl rfl (by kernel_rfl) (by kernel_rfl) (by kernel_rfl) (fun _ _ _ h => h) hHeld (by rfl) (fun wS hSw => ?_) ?_
  rotate_left
  · try dsimp only at hSw
    go_simp
    try with_reducible rfl
  try simp only [Act.put, List.setIfInBounds_toArray, List.set_cons_zero, List.set_cons_succ]
  refine take_at (i := 6) (v := ?_) (some 45) rfl rfl (by kernel_rfl) (by kernel_rfl) (by kernel_rfl) (fun _ _ _ h => h) hHeld (by rfl) (fun wS hSw => ?_) ?_
  rotate_left
  · refine exec_load_mid 58 (.tmp 44) ?_ b 0 ?_ (encT u) _ (HX.out ▸ hSw.2.x) Try.underlying58 rfl (thing_info u) <;> rfl
  try simp only [Act.put, List.setIfInBounds_toArray, List.set_cons_zero, List.set_cons_succ]
  refine wpAnyH_ready (rs := [7]) (by kernel_rfl) (by simp) ?_
  refine AllReadyH.cons rfl (fun K hK => ?_) AllReadyH.nil
  simp only [List.getElem_toArray, List.getElem_cons_succ, List.getElem_cons_zero]
  go_simp
  refine (HM.out _).mono ?_
  rintro e w4 ⟨rfl, hb4⟩
  have hH4 : w4.cell? ⟨gT, 0, none⟩ = some (.func (.func 46) #[] #[]) ∧ NdAt w4 b n := ⟨cell_later hHeld.1 hb4, hHeld.2.below hb4⟩
  have K4 := Lib.hid (K3.out.drew.trans (hb4.mono K3.out.size))
  clear hb4
  try dsimp only
  have hOld := hHeld
  refine hK.out _ _ hH4 (fun _ => ?_)
  clear hK K
  refine wpAnyH_mono (S2 := fun w' => w'.cell? ⟨gT, 0, none⟩ = some (.func (.func 46) #[] #[]) ∧ NdAt w' b n) (fun _ h => h) _ _ _ _ ?_
  clear hHeld
  have hHeld := hH4
  clear hOld
  try simp only [Act.put, List.setIfInBounds_toArray, List.set_cons_zero, List.set_cons_succ]
  refine take_at (i := 8) (v := ?_) (some 38) rfl rfl (by kernel_rfl) (by kernel_rfl) (by kernel_rfl) (fun _ _ _ h => h) hHeld (by rfl) (fun wS hSw => ?_) ?_
  rotate_left
  · try dsimp only at hSw
    go_simp
    try with_reducible rfl
  try simp only [Act.put, List.setIfInBounds_toArray, List.set_cons_zero, List.set_cons_succ]
  refine take_at (i := 9) (v := ?_) (some 47) rfl rfl (by kernel_rfl) (by kernel_rfl) (by kernel_rfl) (fun _ _ _ h => h) hHeld (by rfl) (fun wS hSw => ?_) ?_
  rotate_left
  · try dsimp only at hSw
    go_simp
    try with_reducible rfl
  try simp only [Act.put, List.setIfInBounds_toArray, List.set_cons_zero, List.set_cons_succ]
  refine take_at (i := 10) (v := ?_) (some 48) rfl rfl (by kernel_rfl) (by kernel_rfl) (by kernel_rfl) (fun _ _ _ h => h) hHeld (by rfl) (fun wS hSw => ?_) ?_
  rotate_left
  · try dsimp only at hSw
    go_simp
    try with_reducible rfl
  try simp only [Act.put, List.setIfInBounds_toArray, List.set_cons_zero, List.set_cons_succ]
  refine take_at (i := 11) (v := ?_) (some 15) rfl rfl (by kernel_rfl) (by kernel_rfl) (by kernel_rfl) (fun _ _ _ h => h) hHeld (by rfl) (fun wS hSw => ?_) ?_
  rotate_left
  · try dsimp only at hSw
    go_simp
    try with_reducible rfl
  try simp only [Act.put, List.setIfInBounds_toArray, List.set_cons_zero, List.set_cons_succ]
  refine take_at (i := 12) (v := ?_) (some 16) rfl rfl (by kernel_rfl) (by kernel_rfl) (by kernel_rfl) (fun _ _ _ h => h) hHeld (by rfl) (fun wS hSw => ?_) ?_
  rotate_left
  · try dsimp only at hSw
    go_simp
    try with_reducible rfl
  try simp only [Act.put, List.setIfInBounds_toArray, List.set_cons_zero, List.set_cons_succ]
  refine wpAnyH_done (by kernel_rfl) ?_ _
  have N4 := Lib.hid hH4.2
  clear hHeld hH4 HM
  go_upto_region 6 with fail
  go_cut [63] from 49 to 62 (fun v63 wz => (v63 = .bool false ∧ J (pre ++ PL) wz ∧ KeepsO Bad w wz ∧ NdAt wz b n) ∨ (v63 = .bool true ∧ ∃ q, q <+: PL ∧ Jx (pre ++ q) wz))
  case first =>
    by_cases ha : i < zl
    · have hc := N4.out.cL
      rw [hnl] at hc
      have hI := HIL.out w4 pre i (min j zl) (by have h1 := HB.out.1; have h2 := K4.out.size; omega) (HW.out w4 K4.out) h0 h1 (by omega) (by omega) (HJ.out.1 _ _ _ HJ.out.2 K4.out) (by rw [HP.out.1]; have h1 := HP.out.2.2.2.2.2.1; omega)
      rw [HP.out.1] at hI
      have HI := Lib.hid (fun (j' : Int) (e : j' = min j zl) => show Calls Try.prog 69 #[.pointer (some ⟨gT, 0, none⟩), .int .i64 L.rt, .int .i64 i, .int .i64 j', .func (.yield l) #[] #[]] w4 (fun e w' => OverP J Jx Bad w4 pre PL e w') by rw [e]; exact hI)
      clear hI
      go_wp2_with fail
      all_goals
        refine (HI.out _ (by omega)).mono ?_
        rintro e w5 (⟨rfl, hj, hk⟩ | ⟨rfl, q, hq, hj⟩)
        · have HR := Lib.hid (And.intro hj (And.intro ((KeepsO.of_below K4.out).trans hk) (N4.out.keepsO hk (HB.out.2.2.2 b HBB.out))))
          clear hj hk hc
          go_wp2_with fail
          go_meet
          case rel => exact .inl ⟨rfl, HR.out⟩
        · have HR := Lib.hid (And.intro hq hj)
          clear hj hq hc
          go_wp2_with fail
          go_meet
          case rel => exact .inr ⟨rfl, q, HR.out⟩
    · have HR := Lib.hid (show J (pre ++ PL) w4 ∧ KeepsO Bad w w4 ∧ NdAt w4 b n from ⟨by rw [HP.out.2.2.1 (by omega), List.append_nil]; exact HJ.out.1 _ _ _ HJ.out.2 K4.out, KeepsO.of_below K4.out, N4.out⟩)
      go_wp2_with fail
      go_meet
      case rel => exact .inl ⟨rfl, HR.out⟩
  case rest =>
    rcases hcut with ⟨rfl, hj5, hk5, hn5⟩ | ⟨rfl, q, hq, hjx⟩
    · rename World => w5
      have hTw5 := (HW.out w (Below.refl _ _)).keepsO hk5 HB.out.2.1 HB.out.2.2.1
      have T5 := Lib.hid (fun (w6 : World) (hb : Below w5.heap.size w5 w6) => hTw5.below hb)
      have Q5 := Lib.hid (And.intro hj5 (And.intro hk5 hn5))
      have hb5 : B0 ≤ w5.heap.size := by have h1 := HBB.out; have h2 := hn5.lt; omega
      have HB5 := Lib.hid hb5
      clear hTw5 hj5 hk5 hn5 hb5 HIL
      go_upto_region 8 with fail
      go_cut [17, 18] from 64 to 72 (fun v17 v18 wz => v17 = .int .i64 (max (i - zl) 0) ∧ v18 = .int .i64 (min (j - zl) zt) ∧ w5 = wz)
      case first =>
        have g2 : IntKind.i64.wrap (i - zl) = i - zl := IntWalk.i64_in _ (by omega)
        have g3 : IntKind.i64.wrap (j - zl) = j - zl := IntWalk.i64_in _ (by omega)
        go_wp2_with fail
        all_goals
          go_meet
          case rel => exact ⟨by congr 1; omega, by congr 1; omega, rfl⟩
      case rest =>
      obtain ⟨rfl, rfl, rfl⟩ := hcut
      obtain ⟨fi, hfi⟩ : ∃ x, max (i - zl) 0 = x := ⟨_, rfl⟩
      obtain ⟨ti, hti⟩ : ∃ x, min (j - zl) zt = x := ⟨_, rfl⟩
      have hfi0 : 0 ≤ fi := by omega
      have hti0 : ti ≤ zt := by omega
      have HFT := Lib.hid (And.intro hfi hti)
      have hPU := HP.out.2.2.2.2.1
      rw [hfi, hti] at hPU ⊢
      have HPU := Lib.hid hPU
      clear hfi hti hPU
      go_upto_if 75 with fail
      go_cut [19] from 75 to 108 (fun _ wz => J (pre ++ PL ++ PU) wz ∧ KeepsO Bad w wz ∧ NdAt wz b n)
      case first =>
        by_cases hft : fi < ti
        · have HPP := Lib.hid (show PU = [partT u (i - zl) (j - zl)] by rw [← HPU.out, if_pos hft])
          have hoku := HP.out.2.2.2.2.2.2.1
          have hzt' := HP.out.2.2.2.2.2.2.2
          have HA := Lib.hid (partA_ok (t := u) (i := i - zl) (j := j - zl) hoku (by rw [hzt', HFT.out.1, HFT.out.2]; exact hft))
          obtain ⟨bx, hbx⟩ : ∃ v, w5.heap.size = v := ⟨_, rfl⟩
          obtain ⟨w6, hw6⟩ : ∃ v, w5.alloc (.cells (encT u).toArray 58) = v := ⟨_, rfl⟩
          have B6 := Lib.hid (show Below w5.heap.size w5 w6 by rw [← hw6]; exact (Below.refl _ _).alloc (Nat.le_refl _) _)
          have F6 := Lib.hid (show w6.heap[bx]? = some (.cells (encT u).toArray 58) by rw [← hw6, ← hbx]; exact heap_alloc_new w5 _)
          have HBX := Lib.hid (show w5.heap.size ≤ bx by omega)
          have HE6 := Lib.hid (And.intro hw6 hbx)
          have HOU := Lib.hid (And.intro hoku hzt')
          clear hw6 hbx hoku hzt'
          go_upto_if 80 with (first
            | (refine wpList_load_mid rfl 58 (.tmp 76) rfl b 0 rfl (encT u) _ (HX.out ▸ Q5.out.2.2.x) Try.underlying58 rfl (thing_info u) ?_)
            | (refine wpList_store_row rfl 58 (.tmp 19) (.tmp 77) rfl w5.heap.size (encT u).toArray rfl rfl 58 _ (heap_alloc_new w5 _) (by rw [List.size_toArray]; exact thing_info _) ((by rfl : _ = 33).trans (encT_size _).symm) (all_oneCell_toArray (encT_one _)) ?_; rw [alloc_setRow, HE6.out.1, HE6.out.2]))
          go_cut [] from 80 to 91 (fun wz => Below w5.heap.size w5 wz ∧ wz.heap[bx]? = some (.cells (encT (partA u (j - zl))).toArray 58))
          case first =>
            by_cases hto : ti < zt
            · have HCT := Lib.hid (fun w1 => cut_any u ti w1 (by omega) (by have h1 := HOU.out.2; show ti ≤ sizeT u; omega) HOU.out.1.2)
              rw [show cutA u ti = partA u (j - zl) by unfold partA; rw [HOU.out.2, HFT.out.2, if_pos hto]] at HCT
              rw [thV_cells u, thV_cells (partA u (j - zl))] at HCT
              go_wp2_with fail
              refine wp_region_held_drew (S := fun w' => w'.cell? ⟨gT, 1, none⟩ = some (.func (.func 49) #[] #[])) (by kernel_rfl) (T5.out w6 B6.out).cC (fun hHeld => ?_)
              try dsimp only at hHeld
              refine take_at (i := 0) (v := ?_) (some 82) rfl rfl (by kernel_rfl) (by kernel_rfl) (by kernel_rfl) (fun _ _ _ h => h) hHeld (by rfl) (fun wS hSw => ?_) ?_
              rotate_left
              · try dsimp only at hSw
                go_simp
                try with_reducible rfl
              try simp only [Act.put, List.setIfInBounds_toArray, List.set_cons_zero, List.set_cons_succ]
              refine take_at (i := 1) (v := ?_) (some 83) rfl rfl (by kernel_rfl) (by kernel_rfl) (by kernel_rfl) (fun _ _ _ h => h) hHeld (by rfl) (fun wS hSw => ?_) ?_
              rotate_left
              · try dsimp only at hSw
                go_simp
                try with_reducible rfl
              try simp only [Act.put, List.setIfInBounds_toArray, List.set_cons_zero, List.set_cons_succ]
              refine take_at (i := 2) (v := ?_) (some 84) rfl rfl (by kernel_rfl) (by kernel_rfl) (by kernel_rfl) (fun _ _ _ h => h) hHeld (by rfl) (fun wS hSw => ?_) ?_
              rotate_left
              · try dsimp only at hSw
                go_simp
                try with_reducible rfl
              try simp only [Act.put, List.setIfInBounds_toArray, List.set_cons_zero, List.set_cons_succ]
              refine take_at (i := 3) (v := ?_) (some 85) rfl rfl (by kernel_rfl) (by kernel_rfl) (by kernel_rfl) (fun _ _ _ h => h) hHeld (by rfl) (fun wS hSw => ?_) ?_
              rotate_left
              · try dsimp only at hSw
                go_simp
                try with_reducible rfl
              try simp only [Act.put, List.setIfInBounds_toArray, List.set_cons_zero, List.set_cons_succ]
              refine take_at (i := 4) (v := ?_) (some 86) rfl rfl (by kernel_rfl) (by kernel_rfl) (by kernel_rfl) (fun _ _ _ h => h) hHeld (by rfl) (fun wS hSw => ?_) ?_
              rotate_left
              · have hS1 := hSw
                try dsimp only at hSw
                go_simp
                try with_reducible rfl
              try simp only [Act.put, List.setIfInBounds_toArray, List.set_cons_zero, List.set_cons_succ]
              refine take_at (i := 6) (v := ?_) (some 88) rfl rfl (by kernel_rfl) (by kernel_rfl) (by kernel_rfl) (fun _ _ _ h => h) hHeld (by rfl) (fun wS hSw => ?_) ?_
              rotate_left
              · try dsimp only at hSw
                go_simp
                try with_reducible rfl
              try simp only [Act.put, List.setIfInBounds_toArray, List.set_cons_zero, List.set_cons_succ]
              refine wpAnyH_ready (rs := [5]) (by kernel_rfl) (by simp) ?_
              refine AllReadyH.cons rfl (fun K hK => ?_) AllReadyH.nil
              simp only [List.getElem_toArray, List.getElem_cons_succ, List.getElem_cons_zero]
              refine of_if (by rfl) ?_
              refine wp_load_row 58 (.tmp 19) rfl bx rfl 58 (encT u).toArray (0, 0) _ F6.out Try.underlying58 rfl (by rw [List.size_toArray]; exact thing_info _) ?_
              have hOld := hHeld
              refine hK.out _ _ hHeld (fun _ => ?_)
              clear hK K
              refine wpAnyH_mono (S2 := fun w' => w'.cell? ⟨gT, 1, none⟩ = some (.func (.func 49) #[] #[])) (fun _ h => h) _ _ _ _ ?_
              clear hHeld
              have hHeld := hOld
              clear hOld
              try simp only [Act.put, List.setIfInBounds_toArray, List.set_cons_zero, List.set_cons_succ]
              refine wpAnyH_ready (rs := [7]) (by kernel_rfl) (by simp) ?_
              refine AllReadyH.cons rfl (fun K hK => ?_) AllReadyH.nil
              simp only [List.getElem_toArray, List.getElem_cons_succ, List.getElem_cons_zero]
              go_simp
              refine (HCT.out _).mono ?_
              rintro e w7 ⟨rfl, hb7⟩
              have hB7 := Lib.hid (show Below w5.heap.size w5 w7 from B6.out.drew.trans (hb7.mono B6.out.size))
              have hF7 := Lib.hid (show w7.heap[bx]? = _ from heap_later (w := w6.drew) F6.out hb7)
              clear hb7
              try dsimp only
              have hOld := hHeld
              refine hK.out _ _ (T5.out w7 hB7.out).cC (fun _ => ?_)
              clear hK K
              refine wpAnyH_mono (S2 := fun w' => w'.cell? ⟨gT, 1, none⟩ = some (.func (.func 49) #[] #[])) (fun _ h => h) _ _ _ _ ?_
              clear hHeld
              have hHeld := (T5.out w7 hB7.out).cC
              clear hOld
              try simp only [Act.put, List.setIfInBounds_toArray, List.set_cons_zero, List.set_cons_succ]
              refine take_at (i := 8) (v := ?_) (some 81) rfl rfl (by kernel_rfl) (by kernel_rfl) (by kernel_rfl) (fun _ _ _ h => h) hHeld (by rfl) (fun wS hSw => ?_) ?_
              rotate_left
              · try dsimp only at hSw
                go_simp
                try with_reducible rfl
              try simp only [Act.put, List.setIfInBounds_toArray, List.set_cons_zero, List.set_cons_succ]
              refine take_at (i := 9) (v := ?_) (some 90) rfl rfl (by kernel_rfl) (by kernel_rfl) (by kernel_rfl) (fun _ _ _ h => h) hHeld (by rfl) (fun wS hSw => ?_) ?_
              rotate_left
              · try dsimp only at hSw
                go_simp
                try with_reducible rfl
              try simp only [Act.put, List.setIfInBounds_toArray, List.set_cons_zero, List.set_cons_succ]
              refine take_at (i := 10) (v := ?_) (some 91) rfl rfl (by kernel_rfl) (by kernel_rfl) (by kernel_rfl) (fun _ _ _ h => h) hHeld (by rfl) (fun wS hSw => ?_) ?_
              rotate_left
              · try dsimp only at hSw
                go_simp
                try with_reducible rfl
              try simp only [Act.put, List.setIfInBounds_toArray, List.set_cons_zero, List.set_cons_succ]
              refine wpAnyH_ready (rs := [11]) (by kernel_rfl) (by simp) ?_
              refine AllReadyH.cons rfl (fun K hK => ?_) AllReadyH.nil
              simp only [List.getElem_toArray, List.getElem_cons_succ, List.getElem_cons_zero]
              refine of_if (by rfl) ?_
              refine wp_store_row 58 (.tmp 19) (.tmp 90) rfl bx (encT (partA u (j - zl))).toArray rfl rfl 58 (encT u).toArray hF7.out (by rw [List.size_toArray]; exact thing_info _) (by rw [List.size_toArray, List.size_toArray, encT_len, encT_len]) (all_oneCell_toArray (encT_one _)) ?_
              have hB8 := Lib.hid (show Below w5.heap.size w5 (w7.setRow bx (encT (partA u (j - zl))).toArray) from below_setRow hB7.out hB7.out.size HBX.out _)
              have hF8 := Lib.hid (setRow_heap _ _ _ _ _ _ hF7.out : (w7.setRow bx (encT (partA u (j - zl))).toArray).heap[bx]? = some (.cells (encT (partA u (j - zl))).toArray 58))
              have hOld := hHeld
              refine hK.out _ _ (T5.out _ hB8.out).cC (fun _ => ?_)
              clear hK K
              refine wpAnyH_mono (S2 := fun w' => w'.cell? ⟨gT, 1, none⟩ = some (.func (.func 49) #[] #[])) (fun _ h => h) _ _ _ _ ?_
              clear hHeld
              have hHeld := (T5.out _ hB8.out).cC
              clear hOld
              try simp only [Act.put]
              refine wpAnyH_done (by kernel_rfl) ?_ _
              clear hHeld
              go_wp2_with fail
              go_meet
              case rel => exact ⟨hB8.out, hF8.out⟩
            · have HR := Lib.hid (show Below w5.heap.size w5 w6 ∧ w6.heap[bx]? = some (.cells (encT (partA u (j - zl))).toArray 58) from ⟨B6.out, by unfold partA; rw [HOU.out.2, HFT.out.2, if_neg hto]; exact F6.out⟩)
              go_wp2_with fail
              go_meet
              case rel => exact HR.out
          case rest =>
          have Bc := Lib.hid hcut.1
          have Fc := Lib.hid hcut.2
          clear hcut
          go_upto_if 93 with fail
          go_cut [] from 93 to 104 (fun wz => Below w5.heap.size w5 wz ∧ wz.heap[bx]? = some (.cells (encT (partT u (i - zl) (j - zl))).toArray 58))
          case first =>
            by_cases hfr : 0 < fi
            · have HCT := Lib.hid (fun w1 => cut_any (partA u (j - zl)) fi w1 (by omega) (by have h1 := HA.out.2; rw [HOU.out.2, HFT.out.2] at h1; show fi ≤ sizeT _; omega) HA.out.1.2)
              rw [show cutB (partA u (j - zl)) fi = partT u (i - zl) (j - zl) by unfold partT; rw [HFT.out.1, if_pos hfr]] at HCT
              rw [thV_cells (partA u (j - zl)), thV_cells (partT u (i - zl) (j - zl))] at HCT
              go_wp2_with fail
              refine wp_region_held_drew (S := fun w' => w'.cell? ⟨gT, 1, none⟩ = some (.func (.func 49) #[] #[])) (by kernel_rfl) (T5.out wc Bc.out).cC (fun hHeld => ?_)
              try dsimp only at hHeld
              refine take_at (i := 0) (v := ?_) (some 95) rfl rfl (by kernel_rfl) (by kernel_rfl) (by kernel_rfl) (fun _ _ _ h => h) hHeld (by rfl) (fun wS hSw => ?_) ?_
              rotate_left
              · try dsimp only at hSw
                go_simp
                try with_reducible rfl
              try simp only [Act.put, List.setIfInBounds_toArray, List.set_cons_zero, List.set_cons_succ]
              refine take_at (i := 1) (v := ?_) (some 96) rfl rfl (by kernel_rfl) (by kernel_rfl) (by kernel_rfl) (fun _ _ _ h => h) hHeld (by rfl) (fun wS hSw => ?_) ?_
              rotate_left
              · try dsimp only at hSw
                go_simp
                try with_reducible rfl
              try simp only [Act.put, List.setIfInBounds_toArray, List.set_cons_zero, List.set_cons_succ]
              refine take_at (i := 2) (v := ?_) (some 97) rfl rfl (by kernel_rfl) (by kernel_rfl) (by kernel_rfl) (fun _ _ _ h => h) hHeld (by rfl) (fun wS hSw => ?_) ?_
              rotate_left
              · try dsimp only at hSw
                go_simp
                try with_reducible rfl
              try simp only [Act.put, List.setIfInBounds_toArray, List.set_cons_zero, List.set_cons_succ]
              refine take_at (i := 3) (v := ?_) (some 98) rfl rfl (by kernel_rfl) (by kernel_rfl) (by kernel_rfl) (fun _ _ _ h => h) hHeld (by rfl) (fun wS hSw => ?_) ?_
              rotate_left
              · try dsimp only at hSw
                go_simp
                try with_reducible rfl
              try simp only [Act.put, List.setIfInBounds_toArray, List.set_cons_zero, List.set_cons_succ]
              refine take_at (i := 4) (v := ?_) (some 99) rfl rfl (by kernel_rfl) (by kernel_rfl) (by kernel_rfl) (fun _ _ _ h => h) hHeld (by rfl) (fun wS hSw => ?_) ?_
              rotate_left
              · have hS1 := hSw
                try dsimp only at hSw
                go_simp
                try with_reducible rfl
              try simp only [Act.put, List.setIfInBounds_toArray, List.set_cons_zero, List.set_cons_succ]
              refine take_at (i := 6) (v := ?_) (some 101) rfl rfl (by kernel_rfl) (by kernel_rfl) (by kernel_rfl) (fun _ _ _ h => h) hHeld (by rfl) (fun wS hSw => ?_) ?_
              rotate_left
              · try dsimp only at hSw
                go_simp
                try with_reducible rfl
              try simp only [Act.put, List.setIfInBounds_toArray, List.set_cons_zero, List.set_cons_succ]
              refine wpAnyH_ready (rs := [5]) (by kernel_rfl) (by simp) ?_
              refine AllReadyH.cons rfl (fun K hK => ?_) AllReadyH.nil
              simp only [List.getElem_toArray, List.getElem_cons_succ, List.getElem_cons_zero]
              refine of_if (by rfl) ?_
              refine wp_load_row 58 (.tmp 19) rfl bx rfl 58 (encT (partA u (j - zl))).toArray (0, 0) _ Fc.out Try.underlying58 rfl (by rw [List.size_toArray]; exact thing_info _) ?_
              have hOld := hHeld
              refine hK.out _ _ hHeld (fun _ => ?_)
              clear hK K
              refine wpAnyH_mono (S2 := fun w' => w'.cell? ⟨gT, 1, none⟩ = some (.func (.func 49) #[] #[])) (fun _ h => h) _ _ _ _ ?_
              clear hHeld
              have hHeld := hOld
              clear hOld
              try simp only [Act.put, List.setIfInBounds_toArray, List.set_cons_zero, List.set_cons_succ]
              refine wpAnyH_ready (rs := [7]) (by kernel_rfl) (by simp) ?_
              refine AllReadyH.cons rfl (fun K hK => ?_) AllReadyH.nil
              simp only [List.getElem_toArray, List.getElem_cons_succ, List.getElem_cons_zero]
              go_simp
              refine (HCT.out _).mono ?_
              rintro e w9 ⟨rfl, hb9⟩
              have hB9 := Lib.hid (show Below w5.heap.size w5 w9 from Bc.out.drew.trans (hb9.mono Bc.out.size))
              have hF9 := Lib.hid (show w9.heap[bx]? = _ from heap_later (w := wc.drew) Fc.out hb9)
              clear hb9
              try dsimp only
              have hOld := hHeld
              refine hK.out _ _ (T5.out w9 hB9.out).cC (fun _ => ?_)
              clear hK K
              refine wpAnyH_mono (S2 := fun w' => w'.cell? ⟨gT, 1, none⟩ = some (.func (.func 49) #[] #[])) (fun _ h => h) _ _ _ _ ?_
              clear hHeld
              have hHeld := (T5.out w9 hB9.out).cC
              clear hOld
              try simp only [Act.put, List.setIfInBounds_toArray, List.set_cons_zero, List.set_cons_succ]
              refine take_at (i := 8) (v := ?_) (some 94) rfl rfl (by kernel_rfl) (by kernel_rfl) (by kernel_rfl) (fun _ _ _ h => h) hHeld (by rfl) (fun wS hSw => ?_) ?_
              rotate_left
              · try dsimp only at hSw
                go_simp
                try with_reducible rfl
              try simp only [Act.put, List.setIfInBounds_toArray, List.set_cons_zero, List.set_cons_succ]
              refine take_at (i := 9) (v := ?_) (some 103) rfl rfl (by kernel_rfl) (by kernel_rfl) (by kernel_rfl) (fun _ _ _ h => h) hHeld (by rfl) (fun wS hSw => ?_) ?_
              rotate_left
              · try dsimp only at hSw
                go_simp
                try with_reducible rfl
              try simp only [Act.put, List.setIfInBounds_toArray, List.set_cons_zero, List.set_cons_succ]
              refine take_at (i := 10) (v := ?_) (some 104) rfl rfl (by kernel_rfl) (by kernel_rfl) (by kernel_rfl) (fun _ _ _ h => h) hHeld (by rfl) (fun wS hSw => ?_) ?_
              rotate_left
              · try dsimp only at hSw
                go_simp
                try with_reducible rfl
              try simp only [Act.put, List.setIfInBounds_toArray, List.set_cons_zero, List.set_cons_succ]
              refine wpAnyH_ready (rs := [11]) (by kernel_rfl) (by simp) ?_
              refine AllReadyH.cons rfl (fun K hK => ?_) AllReadyH.nil
              simp only [List.getElem_toArray, List.getElem_cons_succ, List.getElem_cons_zero]
              refine of_if (by rfl) ?_
              refine wp_store_row 58 (.tmp 19) (.tmp 104) rfl bx (encT (partT u (i - zl) (j - zl))).toArray rfl rfl 58 (encT (partA u (j - zl))).toArray hF9.out (by rw [List.size_toArray]; exact thing_info _) (by rw [List.size_toArray, List.size_toArray, encT_len, encT_len]) (all_oneCell_toArray (encT_one _)) ?_
              have hB10 := Lib.hid (show Below w5.heap.size w5 (w9.setRow bx (encT (partT u (i - zl) (j - zl))).toArray) from below_setRow hB9.out hB9.out.size HBX.out _)
              have hF10 := Lib.hid (setRow_heap _ _ _ _ _ _ hF9.out : (w9.setRow bx (encT (partT u (i - zl) (j - zl))).toArray).heap[bx]? = some (.cells (encT (partT u (i - zl) (j - zl))).toArray 58))
              have hOld := hHeld
              refine hK.out _ _ (T5.out _ hB10.out).cC (fun _ => ?_)
              clear hK K
              refine wpAnyH_mono (S2 := fun w' => w'.cell? ⟨gT, 1, none⟩ = some (.func (.func 49) #[] #[])) (fun _ h => h) _ _ _ _ ?_
              clear hHeld
              have hHeld := (T5.out _ hB10.out).cC
              clear hOld
              try simp only [Act.put]
              refine wpAnyH_done (by kernel_rfl) ?_ _
              clear hHeld
              go_wp2_with fail
              go_meet
              case rel => exact ⟨hB10.out, hF10.out⟩
            · have HR := Lib.hid (show Below w5.heap.size w5 wc ∧ wc.heap[bx]? = some (.cells (encT (partT u (i - zl) (j - zl))).toArray 58) from ⟨Bc.out, by unfold partT; rw [HFT.out.1, if_neg hfr]; exact Fc.out⟩)
              go_wp2_with fail
              go_meet
              case rel => exact HR.out
          case rest =>
          rename World => w11
          obtain ⟨x, hx⟩ : ∃ x, partT u (i - zl) (j - zl) = x := ⟨_, rfl⟩
          rw [hx] at hcut HPP
          have hlt : (pre ++ PL).length < N := by have h1 := HP.out.2.2.2.2.2.1; rw [HPP.out, List.length_singleton] at h1; rw [List.length_append]; omega
          obtain ⟨fn, tmps, assign, body, hy, hR⟩ := HY.out (pre ++ PL) x w11 (HJ.out.1 _ _ _ Q5.out.1 hcut.1) hlt
          rw [thV_cells x] at hy
          have HR := Lib.hid hR
          have F11 := Lib.hid hcut.2
          have K11 := Lib.hid ((show KeepsO Bad w w5 from Q5.out.2.1).trans (KeepsO.of_below hcut.1))
          have N11 := Lib.hid (Q5.out.2.2.below hcut.1)
          clear hcut hx hlt hR
          go_upto_region 15 with fail
          refine (wpIn_wide (n := m + 1)).1 ?_
          gi_wp2_with (refine wpListIn_known rfl rfl (by intro c e; cases e) (exec_load_row 58 (.tmp 19) rfl bx rfl 58 (encT x).toArray (0, 0) _ F11.out Try.underlying58 rfl (by rw [List.size_toArray]; exact thing_info _)) ?_)
          refine HR.out.mono ?_
          rintro e w12 (⟨rfl, hj, hk⟩ | ⟨rfl, hjx⟩)
          · have R12 := Lib.hid (show J (pre ++ PL ++ PU) w12 ∧ KeepsO Bad w w12 ∧ NdAt w12 b n from ⟨by rw [HPP.out]; exact hj, K11.out.trans hk, N11.out.keepsO hk (HB.out.2.2.2 b HBB.out)⟩)
            clear hj hk hy
            gi_wp2
            go_wp2_with fail
            go_meet
            case rel => exact R12.out
          · have R12 := Lib.hid (show OverP J Jx Bad w pre (PL ++ (PU ++ PR)) (.returned (.bool false)) w12 from .inr ⟨rfl, PL ++ [x], by rw [HPP.out, ← List.append_assoc]; exact List.prefix_append _ _, by rw [← List.append_assoc]; exact hjx⟩)
            clear hjx hy
            gi_wp2
            go_wp2_with fail
            go_ret
            exact R12.out
        · have HR := Lib.hid (show J (pre ++ PL ++ PU) w5 ∧ KeepsO Bad w w5 ∧ NdAt w5 b n from ⟨by rw [← HPU.out, if_neg hft, List.append_nil]; exact Q5.out.1, Q5.out.2⟩)
          go_wp2_with fail
          go_meet
          case rel => exact HR.out
      case rest =>
        rename World => w13
        have Q13 := Lib.hid hcut
        clear hcut
        by_cases hjz : j ≤ zl + zt
        · have HR := Lib.hid (show OverP J Jx Bad w pre (PL ++ (PU ++ PR)) (.returned (.bool true)) w13 from .inl ⟨rfl, by rw [HP.out.2.2.2.1 hjz, List.append_nil, ← List.append_assoc]; exact Q13.out.1, Q13.out.2.1⟩)
          go_wp2_with fail
          go_ret
          exact HR.out
        · have hc := Q13.out.2.2.cR
          rw [hnr] at hc
          have hjz0 : zl + zt < j := by omega
          have g4 : IntKind.i64.wrap (i - zl) = i - zl := IntWalk.i64_in _ (by omega)
          have g5 : IntKind.i64.wrap (i - zl - zt) = i - zl - zt := IntWalk.i64_in _ (by omega)
          have g6 : IntKind.i64.wrap (j - zl) = j - zl := IntWalk.i64_in _ (by omega)
          have g7 : IntKind.i64.wrap (j - zl - zt) = j - zl - zt := IntWalk.i64_in _ (by omega)
          have hI := HIR.out w13 (pre ++ PL ++ PU) (max (i - zl - zt) 0) (j - zl - zt) (by have h1 := HBB.out; have h2 := Q13.out.2.2.lt; omega) ((HW.out w (Below.refl _ _)).keepsO Q13.out.2.1 HB.out.2.1 HB.out.2.2.1) (by omega) (by omega) (by omega) (by omega) Q13.out.1 (by rw [HP.out.2.1]; have h1 := HP.out.2.2.2.2.2.1; rw [List.length_append, List.length_append]; omega)
          rw [HP.out.2.1] at hI
          have HI := Lib.hid (fun (i' : Int) (e : i' = max (i - zl - zt) 0) => show Calls Try.prog 69 #[.pointer (some ⟨gT, 0, none⟩), .int .i64 R.rt, .int .i64 i', .int .i64 (j - zl - zt), .func (.yield l) #[] #[]] w13 (fun e w' => OverP J Jx Bad w13 (pre ++ PL ++ PU) PR e w') by rw [e]; exact hI)
          clear hI
          go_wp2_with fail
          all_goals
            refine (HI.out _ (by omega)).mono ?_
            rintro e w14 (⟨rfl, hj, hk⟩ | ⟨rfl, q, hq, hj⟩)
            · have HR := Lib.hid (show OverP J Jx Bad w pre (PL ++ (PU ++ PR)) (.returned (.bool true)) w14 from .inl ⟨rfl, by rw [List.append_assoc, List.append_assoc] at hj; exact hj, Q13.out.2.1.trans hk⟩)
              clear hj hk hc
              go_wp2_with fail
              go_ret
              exact HR.out
            · have HR := Lib.hid (show OverP J Jx Bad w pre (PL ++ (PU ++ PR)) (.returned (.bool false)) w14 from .inr ⟨rfl, PL ++ (PU ++ q), by
                obtain ⟨r, hr⟩ := hq
                exact ⟨r, by rw [← hr]; simp [List.append_assoc]⟩, by rw [List.append_assoc, List.append_assoc] at hj; exact hj⟩)
              clear hj hq hc
              go_wp2_with fail
              go_ret
              exact HR.out
    · have HR := Lib.hid (show OverP J Jx Bad w pre (PL ++ (PU ++ PR)) (.returned (.bool false)) wc from .inr ⟨rfl, q, hq.trans (List.prefix_append _ _), hjx⟩)
      clear hq hjx
      go_wp2_with fail
      go_ret
      exact HR.out

theorem over_any {F : Nat → Prop} {gT gA : Nat} {root : Int} {s : List (Option Nd)} {fr : List Nat} {J Jx : List Th → World → Prop} {Bad : Nat → Obj → Prop} {N m l B0 : Nat}
    (hJ : ∀ pre A B, J pre A → Below A.heap.size A B → J pre B) (hY : ∀ (pre : List Th) (x : Th) (W1 : World), J pre W1 → pre.length < N → YieldAt Fence.wide m Try.prog l #[thV x] W1 fun e W' => (e = .returned (.bool true) ∧ J (pre ++ [x]) W' ∧ KeepsO Bad W1 W') ∨ (e = .returned (.bool false) ∧ Jx (pre ++ [x]) W'))
    (hFB : ∀ k, F k → ∀ o, ¬ Bad k o) (hTB : ∀ o, ¬ Bad gT o) (hNB : ∀ b, B0 ≤ b → ∀ cs fr, ¬ Bad b (.cells cs 103 fr)) : ∀ (T : Tr), Holds s T → OkL T.nodes → ∀ (W : World) (pre : List Th) (i j : Int), B0 ≤ W.heap.size → TreeW W F gT gA root s fr → 0 ≤ i → i ≤ 1000000000000 → -1000000000000 ≤ j → j ≤ 1000000000000 → J pre W → pre.length + (overT T.things i j).length ≤ N → Calls Try.prog 69 #[.pointer (some ⟨gT, 0, none⟩), .int .i64 T.rt, .int .i64 i, .int .i64 j, .func (.yield l) #[] #[]] W fun e W' => OverP J Jx Bad W pre (overT T.things i j) e W'
  | .nil, _, _, W, pre, i, j, _, _, _, _, _, _, hp, _ => (over_stop W gT (-1) i j l (.inl rfl)).mono fun e w' ⟨he, hw⟩ => by
    subst hw
    exact .inl ⟨he, by show J (pre ++ []) W; rw [List.append_nil]; exact hp, KeepsO.refl _ _⟩
  | .nd k u L R, hT, ho, W, pre, i, j, hB, h, h0, h1, h2, h3, hp, hlen => by
    by_cases hij : i < j
    · exact over_step hJ hY hFB hTB hNB (fun W pre i j => over_any hJ hY hFB hTB hNB L hT.2.1 ho.left W pre i j) (fun W pre i j => over_any hJ hY hFB hTB hNB R hT.2.2 ho.right.tail W pre i j) hB h hT ho h0 h1 h3 hij hp hlen
    · refine (over_stop W gT k i j l (.inr (by omega))).mono ?_
      rintro e w' ⟨rfl, rfl⟩
      exact .inl ⟨rfl, by rw [overT_none _ _ _ (OkL.things ho) (.inr (.inr (by omega))), List.append_nil]; exact hp, KeepsO.refl _ _⟩

end Go.Proofs.Ytmfkdaannjibfaa

namespace Go.Proofs.Ytmfkdaannjibfaa
open Go.RowKit
attribute [local go_sem] Oper.semAt_some

/-- An iterator over the parts of a tree. -/
def OverAt (w : World) (gT : Nat) (i j : Int) (b : Nat) : Prop :=
  w.cell? ⟨b, 0, none⟩ = some (.pointer (some ⟨gT, 0, none⟩)) ∧ w.cell? ⟨b + 1, 0, none⟩ = some (.int .i64 i) ∧ w.cell? ⟨b + 1 + 1, 0, none⟩ = some (.int .i64 j)
def overF (b : Nat) : Value := .func (.func 68) #[] #[.pointer (some ⟨b, 0, none⟩), .pointer (some ⟨b + 1, 0, none⟩), .pointer (some ⟨b + 1 + 1, 0, none⟩)]

theorem OverAt.below {w w' : World} {gT b : Nat} {i j : Int} (h : OverAt w gT i j b) (hb : Below w.heap.size w w') : OverAt w' gT i j b := ⟨cell_later h.1 hb, cell_later h.2.1 hb, cell_later h.2.2 hb⟩

set_option maxHeartbeats 1000000 in
theorem overF_any (gT : Nat) (i j : Int) (w : World) :
    Calls Try.prog 39 #[.pointer (some ⟨gT, 0, none⟩), .int .i64 i, .int .i64 j] w fun e w' => ∃ b, e = .returned (overF b) ∧ OverAt w' gT i j b ∧ Below w.heap.size w w' ∧ w.heap.size ≤ b := by
  go_enter Try.func39, Try.ntmps39
  go_wp2_with fail
  obtain ⟨b, hb⟩ : ∃ b, w.heap.size = b := ⟨_, rfl⟩
  obtain ⟨w1, hw1⟩ : ∃ v, ((w.alloc (.cells #[.pointer (some ⟨gT, 0, none⟩)] 48)).alloc (.cells #[.int .i64 i] 3)).alloc (.cells #[.int .i64 j] 3) = v := ⟨_, rfl⟩
  have q0 : w1.heap[b]? = some (.cells #[.pointer (some ⟨gT, 0, none⟩)] 48) := by
    rw [← hw1]; simp only [heap_alloc_get, World.size_alloc, hb]; repeat (first | rw [if_pos trivial] | rw [if_pos rfl] | rw [if_neg (by omega)])
  have q1 : w1.heap[b + 1]? = some (.cells #[.int .i64 i] 3) := by
    rw [← hw1]; simp only [heap_alloc_get, World.size_alloc, hb]; repeat (first | rw [if_pos trivial] | rw [if_pos rfl] | rw [if_neg (by omega)])
  have q2 : w1.heap[b + 1 + 1]? = some (.cells #[.int .i64 j] 3) := by
    rw [← hw1]; simp only [heap_alloc_get, World.size_alloc, hb]; repeat (first | rw [if_pos trivial] | rw [if_pos rfl] | rw [if_neg (by omega)])
  have hB : Below w.heap.size w w1 := by rw [← hw1]; exact (((Below.refl _ w).alloc (Nat.le_refl _) _).alloc (by simp) _).alloc (by simp; omega) _
  have HQ := Lib.hid (show OverAt w1 gT i j b ∧ Below w.heap.size w w1 from ⟨⟨by rw [cell_of_row w1 _ 0 _ _ _ q0]; rfl, by rw [cell_of_row w1 _ 0 _ _ _ q1]; rfl, by rw [cell_of_row w1 _ 0 _ _ _ q2]; rfl⟩, hB⟩)
  have HB := Lib.hid hb
  rw [hb, hw1]
  clear hw1 q0 q1 q2 hB hb
  go_ret
  exact ⟨b, rfl, HQ.out.1, by have h1 := HQ.out.2; rw [HB.out] at h1; exact h1, Nat.le_refl _⟩

set_option maxRecDepth 100000 in
set_option maxHeartbeats 4000000 in
theorem over_stops {w : World} {G : Nat → Prop} {gT N : Nat} {X : List Th} (n : Nat) (h : TreeX w G gT X N) {i j : Int} {b : Nat} (hb : OverAt w gT i j b) (h0 : 0 ≤ i) (h1 : i ≤ 1000000000000) (h2 : -1000000000000 ≤ j) (h3 : j ≤ 1000000000000) (Bad : Nat → Obj → Prop) (hG : ∀ k, G k → ∀ o, ¬ Bad k o) (hNB : ∀ b, w.heap.size ≤ b → ∀ cs fr, ¬ Bad b (.cells cs 103 fr)) :
    SeqStopsK Fence.wide n Try.prog 68 #[.pointer (some ⟨b, 0, none⟩), .pointer (some ⟨b + 1, 0, none⟩), .pointer (some ⟨b + 1 + 1, 0, none⟩)] (fun x => #[thV x]) (KeepsO Bad) (fun xs => xs = overT X i j) (fun pre => pre <+: overT X i j) (overT X i j).length w := fun l J Jx W hW hJ hJx hY h00 => by
  obtain ⟨F, gA, T, s, fr, hGF, hS, rfl, hsN⟩ := h
  have hO := hb.below hW
  have hT := hS.tw.below hW
  have hcR := hT.cR
  have HO := Lib.hid (over_any (F := F) (gT := gT) (gA := gA) (root := T.rt) (s := s) (fr := fr) (J := J) (Jx := Jx) (Bad := Bad) (N := (overT T.things i j).length) (m := n - 1) (l := l) (B0 := w.heap.size)
    (fun pre A B hp hb => hJ pre A B none hp (grown_none hb) (fun r e => by cases e)) hY (fun k hk => hG k ((hGF k).2 (.inl hk))) (hG gT ((hGF gT).2 (.inr rfl))) hNB T hS.holds hS.ok (W.drew) [] i j hW.size (hT.below ((Below.refl _ _).drew)) h0 h1 h2 h3 (hJ [] W _ none h00 (grown_none (Below.refl _ _).drew) (fun r e => by cases e)) (by simp))
  obtain ⟨c0, c1, c2⟩ := hO
  clear hJ hJx hY h00 hb hT hS hsN hGF
  refine callsIn_wide.2 ?_
  show Calls _ _ #[.func (.yield l) #[] #[], .pointer (some ⟨b, 0, none⟩), .pointer (some ⟨b + 1, 0, none⟩), .pointer (some ⟨b + 1 + 1, 0, none⟩)] W _
  go_enter Try.func68, Try.ntmps68
  go_wp2_with fail
  go_still_tail 8, (by kernel_rfl)
  change wpList _ _ _ _ _ W.drew
  go_wp2_with fail
  refine HO.out.mono ?_
  rintro e w1 (⟨rfl, hj, hk⟩ | ⟨rfl, q, hq, hj⟩)
  · have HR := Lib.hid (show J (overT T.things i j) w1 from hj)
    clear hj hk c0 c1 c2 hcR
    go_wp2_with fail
    go_end0
    exact ⟨⟨_, rfl⟩, .inl ⟨_, rfl, HR.out⟩⟩
  · have HR := Lib.hid (And.intro hq (show Jx q w1 from hj))
    clear hj hq c0 c1 c2 hcR
    go_wp2_with fail
    go_end0
    exact ⟨⟨_, rfl⟩, .inr ⟨q, HR.out.1, HR.out.2⟩⟩

end Go.Proofs.Ytmfkdaannjibfaa

namespace Go.Proofs.Ytmfkdaannjibfaa
open Go.RowKit
attribute [local go_sem] Oper.semAt_some

/-- While they are appended: the box, the row. -/
def CollI (w : World) (bs : Nat) (xs : List Th) (W : World) : Prop := ∃ v, W.heap[bs]? = some (.cells #[v] 60) ∧ OwnT W w.heap.size v xs ∧ Below w.heap.size w W

theorem CollI.own {w : World} {bs B : Nat} (hw : w.heap.size ≤ B) (hb : bs < B) : OwnFrom B (CollI w bs) := by
  rintro xs W W' row ⟨v, h1, h2, h3⟩ hg hr
  refine ⟨v, (hg.block bs (Array.getElem?_eq_some_iff.1 h1).1 (fun e => by have := (hr bs e.symm).1; omega)).trans h1, ?_, h3.grown hg h3.size (fun k e => by have := (hr k e).1; omega)⟩
  refine own_step h2 (grown_step hg) (fun k hk e => ?_)
  obtain ⟨cs, hc⟩ := own_blk h2 hk
  obtain ⟨_, o, ho, hn⟩ := hr k e
  rw [hc] at ho
  cases ho
  cases hn

theorem TreeX.below {w w' : World} {G : Nat → Prop} {gT N : Nat} {X : List Th} (h : TreeX w G gT X N) (hb : Below w.heap.size w w') : TreeX w' G gT X N := by
  obtain ⟨F, gA, T, s, fr, hG, hS, hX, hN⟩ := h
  exact ⟨F, gA, T, s, fr, hG, ⟨hS.tw.below hb, hS.holds, hS.ok, hS.live⟩, hX, hN⟩
theorem TreeX.lt {w : World} {G : Nat → Prop} {gT N : Nat} {X : List Th} (h : TreeX w G gT X N) : ∀ k, G k → k < w.heap.size := by
  obtain ⟨F, gA, T, s, fr, hG, hS, hX, hN⟩ := h
  intro k hk
  rcases (hG k).1 hk with e | e
  · exact hS.tw.ar.lt k e
  · rw [e]; exact hS.tw.lt
theorem TreeX.okX {w : World} {G : Nat → Prop} {gT N : Nat} {X : List Th} (h : TreeX w G gT X N) : (∀ x ∈ X, okT x) ∧ X.length ≤ 100000 ∧ sumT X ≤ 100000000000 := by
  obtain ⟨F, gA, T, s, fr, hG, hS, rfl, hN⟩ := h
  exact ⟨OkL.things hS.ok, by rw [Tr.things_len]; exact hS.ok.len, by have := hS.ok.sum; rw [sumT_of] at this; exact this⟩

set_option maxRecDepth 100000 in
set_option maxHeartbeats 4000000 in
theorem appendSeq_any {w : World} {G : Nat → Prop} {gT N : Nat} {X : List Th} (h : TreeX w G gT X N) {i j : Int} {b : Nat} (hb : OverAt w gT i j b) (h0 : 0 ≤ i) (h1 : i ≤ 1000000000000) (h2 : -1000000000000 ≤ j) (h3 : j ≤ 1000000000000) :
    Calls Try.prog 71 #[.slice none 0 0, overF b] w fun e w' => ∃ v, e = .returned v ∧ OwnT w' w.heap.size v (overT X i j) ∧ Below w.heap.size w w' := by
  obtain ⟨i0, ii0, iz0, iz1, iz2⟩ := info_parts thing_info4
  have hok := h.okX
  have hlen : (overT X i j).length ≤ 100000 := Nat.le_trans (overT_ok X i j hok.1).2 hok.2.1
  have hlt := h.lt
  obtain ⟨w1, hw1⟩ : ∃ v, w.alloc (.cells #[.slice none 0 0] 60) = v := ⟨_, rfl⟩
  obtain ⟨bs, hbs⟩ : ∃ v, w.heap.size = v := ⟨_, rfl⟩
  have hB1 : Below w.heap.size w w1 := by rw [← hw1]; exact (Below.refl _ _).alloc (Nat.le_refl _) _
  have hq1 : w1.heap[bs]? = some (.cells #[.slice none 0 0] 60) := by rw [← hw1, ← hbs]; exact heap_alloc_new w _
  have hbl : bs < w1.heap.size := (Array.getElem?_eq_some_iff.1 hq1).1
  have HSQ := Lib.hid (over_stops 8 (h.below hB1) (hb.below hB1) h0 h1 h2 h3 (fun k o => k = bs ∨ (w.heap.size ≤ k ∧ ∃ cs fr, o = .cells cs 58 fr))
    (fun k hk o e => by have h4 := hlt k hk; rcases e with e | e; omega; omega)
    (fun b' hb' cs fr e => by
      rcases e with e | ⟨_, cs', fr', e⟩
      · omega
      · injection e with _ e2; exact absurd e2 (by decide)))
  obtain ⟨P, hP⟩ : ∃ x, overT X i j = x := ⟨_, rfl⟩
  rw [hP] at HSQ hlen ⊢
  have HI1 := Lib.hid (show CollI w bs [] w1 from ⟨_, hq1, ⟨rfl, .inl ⟨rfl, rfl⟩⟩, hB1⟩)
  have HB := Lib.hid (And.intro hbs (And.intro hbl (And.intro hB1.size hw1)))
  clear h hb hok hlt hq1 hB1 hP
  unfold overF
  refine (callsIn_wide (n := 9)).1 ?_
  refine callsIn_of_wp_marks Try.func71 rfl trivial ?_ rfl
  refine (wpIn_wide (n := 9)).2 ?_
  simp only [Try.ntmps71, List.size_toArray, List.length_cons, List.length_nil, Nat.reduceAdd, Nat.reduceSub, Array.replicate_succ, Array.replicate_zero, List.push_toArray, List.append_toArray, List.nil_append, List.cons_append]
  go_wp2_with fail
  clear hw1 hbs hbl
  refine (wpIn_wide (n := 9)).1 ?_
  obtain ⟨fF, hfF⟩ : ∃ x : Value, .func (.func 68) #[] #[.pointer (some ⟨b, 0, none⟩), .pointer (some ⟨b + 1, 0, none⟩), .pointer (some ⟨b + 1 + 1, 0, none⟩)] = x := ⟨_, rfl⟩
  rw [hfF]
  refine wpIn_rangeFunc_ownH rfl (by omega) (gf := 68) (lb := #[.pointer (some ⟨b, 0, none⟩), .pointer (some ⟨b + 1, 0, none⟩), .pointer (some ⟨b + 1 + 1, 0, none⟩)]) hfF.symm trivial (enters_of Try.func68 (by kernel_rfl) rfl)
    HSQ.out KeepsO.trans KeepsO.put (Below.refl _ _) (fun _ => rfl) (CollI w bs) (fun _ _ _ => False) (CollI.own HB.out.2.2.1 HB.out.2.1) (fun _ _ _ _ _ h _ _ => h.elim) HI1.out
    (fun x a' W => ∃ bx, a' = { tmps := #[.slice none 0 0, fF, .pointer (some ⟨bs, 0, none⟩), undef, .slice none 0 0, .pointer (some ⟨bx, 0, none⟩), fF, thV x, undef, undef, undef, undef, undef], defers := [] } ∧ W.heap[bx]? = some (.cells (encT x).toArray 58) ∧ w1.heap.size ≤ bx)
    ?ax ?assign ?body ?done ?stop
  case ax =>
    rintro x a' _ W W' row ⟨bx, h1, h2, h3⟩ hg hr
    refine ⟨bx, h1, (hg.block bx (Array.getElem?_eq_some_iff.1 h2).1 (fun e => ?_)).trans h2, h3⟩
    obtain ⟨_, o, ho, hn⟩ := hr bx e.symm
    rw [h2] at ho
    cases ho
    cases hn
  case assign =>
    intro l pre x W K hI hK
    rw [thV_cells]
    obtain ⟨v, hq, ho, hbW⟩ := hI
    obtain ⟨bx, hbx⟩ : ∃ v, W.heap.size = v := ⟨_, rfl⟩
    obtain ⟨w2, hw2⟩ : ∃ v, W.alloc (.cells (encT x).toArray 58) = v := ⟨_, rfl⟩
    have B2 : Below W.heap.size W w2 := by rw [← hw2]; exact (Below.refl _ _).alloc (Nat.le_refl _) _
    have HR := Lib.hid (show KeepsFrom w1.heap.size W w2 ∧ KeepsO (fun k o => k = bs ∨ (w.heap.size ≤ k ∧ ∃ cs fr, o = .cells cs 58 fr)) W w2 ∧ CollI w bs pre w2 ∧ w2.heap[bx]? = some (.cells (encT x).toArray 58) from
      ⟨KeepsFrom.of_step (Step.of_below B2 (fun _ => False)) (fun _ _ _ h => h.elim), KeepsO.of_below B2, ⟨v, heap_later hq B2, OwnT.later ho B2, hbW.trans (B2.mono hbW.size)⟩, by rw [← hw2, ← hbx]; exact heap_alloc_new W _⟩)
    have HE := Lib.hid (And.intro hw2 hbx)
    have hbl : w1.heap.size ≤ bx := by
      have e1 := congrArg (fun z : World => z.heap.size) HB.out.2.2.2
      have e2 := (Array.getElem?_eq_some_iff.1 hq).1
      have e3 := HB.out.1
      simp only [World.size_alloc] at e1
      omega
    clear hq ho hbW hbx hw2 B2
    gi_wp2_with (refine wpListIn_skipped rfl rfl (by intro c e; cases e) (exec_store_row 58 (.tmp 5) (.tmp 7) rfl W.heap.size (encT x).toArray rfl rfl 58 _ (heap_alloc_new W _) (by rw [List.size_toArray]; exact thing_info _) ((by rfl : _ = 33).trans (encT_size _).symm) (all_oneCell_toArray (encT_one _))) ?_; rw [alloc_setRow, HE.out.1, HE.out.2])
    refine hK _ _ HR.out.1 HR.out.2.1 HR.out.2.2.1 ⟨bx, ?_, HR.out.2.2.2, hbl⟩
    rw [thV_cells]
    rfl
  case stop => exact fun _ _ _ _ _ _ h => h.elim
  case done =>
    rintro D ys W hD rfl ⟨v, hq, ho, hbW⟩ hK
    have hcb : W.cell? ⟨bs, 0, none⟩ = some v := by rw [cell_of_row W bs 0 _ _ _ hq]; rfl
    have HM : Marks w.heap.size W [{ target := .collected D, args := #[] }] := ⟨by simp, fun d hd => by simp at hd; subst hd; exact ⟨D, rfl, by have := HB.out.2.2.1; omega, hK⟩⟩
    have HR := Lib.hid (And.intro ho (And.intro hbW HM))
    clear hq ho hbW hK hD HM
    go_wp2_with fail
    refine leaves_marks _ _ HR.out.2.2 (fun w' hs => ?_)
    refine ⟨v, ?_, v, rfl, ?_, ?_⟩
    · simp [results, Try.f71, go_sem]
    · exact hs.cells.own HR.out.1 (fun _ _ h => h)
    · exact HR.out.2.1.trans hs.below
  case body =>
    rintro l pre x _ W hl - ⟨v, hq, ho, hbW⟩ ⟨bx, rfl, hbx, hbxl⟩ hlt
    have hpl : pre.length ≤ 100000 := by omega
    have hcb : W.cell? ⟨bs, 0, none⟩ = some v := by rw [cell_of_row W bs 0 _ _ _ hq]; rfl
    obtain ⟨bz, hbz⟩ : ∃ v, W.heap.size = v := ⟨_, rfl⟩
    obtain ⟨wa, hwa⟩ : ∃ v, W.alloc (.cells (encT x).toArray 58) = v := ⟨_, rfl⟩
    have Ba := Lib.hid (show Below W.heap.size W wa by rw [← hwa]; exact (Below.refl _ _).alloc (Nat.le_refl _) _)
    have Sa := Lib.hid (show Sees wa (bz + 1) 33 (some ⟨bz, 0, none⟩) 1 (rowT [x]) from Sees.things (by rw [rowT_one, ← hwa, ← hbz]; exact heap_alloc_new _ _))
    have HR := Lib.hid (run_things x W)
    rw [hwa, hbz] at HR
    have Oa := Lib.hid (show wa.ownsRow w.heap.size 58 33 v pre.length (rowT pre) from own_later ho Ba.out)
    have HF := Lib.hid hbx
    have HQ := Lib.hid (And.intro hq (And.intro ho hbW))
    have hbsz : w.heap.size ≤ wa.heap.size := Nat.le_trans hbW.size Ba.out.size
    obtain ⟨np, hnp⟩ : ∃ n, pre.length = n := ⟨_, rfl⟩
    have HNP := Lib.hid hnp
    rw [hnp] at Oa hpl
    have hvb : ∀ k, v.ownBlock = some k → w.heap.size ≤ k ∧ k ≠ bs := fun k hk => ⟨own_base ho hk, fun e => own_row_blk ho hq (by decide) (e ▸ hk)⟩
    have HV := Lib.hid hvb
    have hca : wa.cell? ⟨bs, 0, none⟩ = some v := cell_later hcb Ba.out
    clear hwa hbz hq ho hbW hbx hlt hnp hvb
    gi_wp2_with (first
      | (refine wpListIn_known rfl rfl (by intro c e; cases e) (exec_load_row 58 (.tmp 5) rfl bx rfl 58 (encT x).toArray (0, 0) _ HF.out Try.underlying58 rfl (by rw [List.size_toArray]; exact thing_info _)) ?_)
      | (refine wpListIn_known rfl rfl (by intro c e; cases e) (exec_slice1 60 (.tmp 9) rfl (.agg (encT x).toArray) rfl HR.out) ?_)
      | (gi_at_builtin
         refine wpListIn_append_sees _ rfl _ _ _ rfl w.heap.size 58 i0 _ 33 136 Try.underlying60 ii0 iz0 iz1 iz2 rfl (by omega) _ np (rowT pre) rfl Oa.out (bz + 1) _ 1 1 (rowT [x]) rfl Sa.out (rowT_oneCell _) (by simp only [maxLen]; omega) (by omega) hbsz ?_
         intro v5 w5 hown5 hg5 hat5 hnil5
         have P5 := Lib.hid (And.intro hown5 (And.intro hg5 hat5))
         have hq5 : w5.heap[bs]? = some (.cells #[v] 60) := (hg5.block bs (Nat.lt_of_lt_of_le (Array.getElem?_eq_some_iff.1 HQ.out.1).1 Ba.out.size) (fun e => (HV.out bs e.symm).2 rfl)).trans (heap_later HQ.out.1 Ba.out)
         have hc5 : w5.cell? ⟨bs, 0, none⟩ = some v := by rw [cell_of_row w5 bs 0 _ _ _ hq5]; rfl
         have hf5 : w5.frozen? ⟨bs, 0, none⟩ = false := frozen_of_row w5 bs 0 _ _ hq5
         have HQ5 := Lib.hid hq5
         obtain ⟨A5, c5, rfl, hx5⟩ := own_shape hown5
         clear hown5 hg5 hat5 hnil5 hq5 hca hx5))
    obtain ⟨v5, hv5⟩ : ∃ x : Value, .slice A5 (np + 1) c5 = x := ⟨_, rfl⟩
    rw [hv5] at P5 ⊢
    have K5 : Below w.heap.size w w5 := (HQ.out.2.2.trans (Ba.out.mono HQ.out.2.2.size)).grown P5.out.2.1 hbsz (fun k hk => (HV.out k hk).1)
    have hst : Step (fun k => k = bs ∨ v.ownBlock = some k) W (w5.setCell ⟨bs, 0, none⟩ v5) :=
      (((Step.of_below Ba.out _).trans ((grown_step P5.out.2.1).mono (fun k _ hk => .inr hk)))).setCell (p := ⟨bs, 0, none⟩) (.inl (.inl rfl)) _
    refine ⟨KeepsFrom.of_step hst (fun k o ho hk => ?_), KeepsO.of_step hst (fun k o ho hk => ?_), v5, ?_, ?_, K5.setCell (p := ⟨bs, 0, none⟩) (by rw [← HB.out.1]; exact Nat.le_refl _) _⟩
    · rcases hk with e | e
      · rw [e, HQ.out.1] at ho; cases ho; rfl
      · obtain ⟨cs, hc⟩ := own_blk HQ.out.2.1 e
        rw [hc] at ho; cases ho; rfl
    · rcases hk with e | e
      · exact .inl e
      · obtain ⟨cs, hc⟩ := own_blk HQ.out.2.1 e
        rw [hc] at ho
        first | exact .inr ⟨(HV.out k e).1, cs, _, (Option.some.inj ho).symm⟩ | exact .inr ⟨(HV.out k e).1, cs, _, _, (Option.some.inj ho).symm⟩
    · rw [heap_setCell_same w5 bs 0 _ _ _ HQ5.out]; rfl
    · refine own_step (show OwnT w5 w.heap.size v5 (pre ++ [x]) from ?_) ((Step.refl (fun k => k = bs) w5).setCell (p := ⟨bs, 0, none⟩) (.inl rfl) _) (fun k hk e => ?_)
      · unfold OwnT; rw [rowT_append, List.length_append, HNP.out]; exact P5.out.1
      · have e : k = bs := e
        subst e
        exact own_row_blk P5.out.1 HQ5.out (by decide) hk

set_option maxHeartbeats 1000000 in
theorem collect_any {w : World} {G : Nat → Prop} {gT N : Nat} {X : List Th} (h : TreeX w G gT X N) {i j : Int} {b : Nat} (hb : OverAt w gT i j b) (h0 : 0 ≤ i) (h1 : i ≤ 1000000000000) (h2 : -1000000000000 ≤ j) (h3 : j ≤ 1000000000000) :
    Calls Try.prog 41 #[overF b] w fun e w' => ∃ v, e = .returned v ∧ OwnT w' w.heap.size v (overT X i j) ∧ Below w.heap.size w w' := by
  have HA := Lib.hid (appendSeq_any h hb h0 h1 h2 h3)
  clear h hb
  unfold overF at HA ⊢
  go_enter Try.func41, Try.ntmps41
  go_wp2_with fail
  refine HA.out.mono ?_
  rintro e w1 ⟨v, rfl, ho, hb1⟩
  have HR := Lib.hid (And.intro ho hb1)
  clear ho hb1
  go_wp2_with fail
  go_ret
  exact ⟨v, rfl, HR.out.1, HR.out.2⟩

end Go.Proofs.Ytmfkdaannjibfaa

namespace Go.Proofs.Ytmfkdaannjibfaa
open Go.RowKit

set_option maxHeartbeats 1000000 in
theorem size_any {w : World} {F : Nat → Prop} {gT gA : Nat} {T : Tr} {s : List (Option Nd)} {fr : List Nat} (h : TreeW w F gT gA T.rt s fr) (hT : Holds s T) :
    Calls Try.prog 26 #[.pointer (some ⟨gT, 0, none⟩)] w fun e w' => e = .returned (.int .i64 T.z) ∧ Below w.heap.size w w' := by
  have hR := h.cR
  have HTo := Lib.hid (totals_any h hT.okR)
  rw [hT.tot.1, hT.tot.2.1, hT.tot.2.2] at HTo
  clear h hT
  go_enter Try.func26, Try.ntmps26
  go_wp2_with fail
  refine HTo.out.mono ?_
  rintro e w1 ⟨rfl, hb⟩
  go_wp2_with fail
  go_ret
  exact ⟨rfl, hb⟩

set_option maxHeartbeats 1000000 in
theorem height_any {w : World} {F : Nat → Prop} {gT gA : Nat} {T : Tr} {s : List (Option Nd)} {fr : List Nat} (h : TreeW w F gT gA T.rt s fr) (hT : Holds s T) :
    Calls Try.prog 43 #[.pointer (some ⟨gT, 0, none⟩)] w fun e w' => e = .returned (.int .i64 T.h) ∧ Below w.heap.size w w' := by
  have hR := h.cR
  have HTo := Lib.hid (totals_any h hT.okR)
  rw [hT.tot.1, hT.tot.2.1, hT.tot.2.2] at HTo
  clear h hT
  go_enter Try.func43, Try.ntmps43
  go_wp2_with fail
  refine HTo.out.mono ?_
  rintro e w1 ⟨rfl, hb⟩
  go_wp2_with fail
  go_ret
  exact ⟨rfl, hb⟩

set_option maxRecDepth 100000 in
set_option maxHeartbeats 1000000 in
theorem newT_any (w : World) :
    Calls Try.prog 45 #[.agg #[.func (.func 46) #[] #[], .func (.func 49) #[] #[], .func (.func 51) #[] #[]]] w fun e w' => ∃ F gT gA, e = .returned (.pointer (some ⟨gT, 0, none⟩)) ∧ TreeW w' F gT gA (-1) [] [] ∧ Below w.heap.size w w' ∧ (∀ k, F k → w.heap.size ≤ k) ∧ w.heap.size ≤ gT := by
  go_enter Try.func45, Try.ntmps45
  go_wp2_with fail
  obtain ⟨w1, hw1⟩ : ∃ v, w.alloc (.cells #[.func (.func 46) #[] #[], .func (.func 49) #[] #[], .func (.func 51) #[] #[]] 88) = v := ⟨_, rfl⟩
  obtain ⟨b, hb⟩ : ∃ v, w.heap.size = v := ⟨_, rfl⟩
  have hq : w1.heap[b]? = some (.cells #[.func (.func 46) #[] #[], .func (.func 49) #[] #[], .func (.func 51) #[] #[]] 88) := by rw [← hw1, ← hb]; exact heap_alloc_new w _
  have K1 := Lib.hid (show Below w.heap.size w w1 by rw [← hw1]; exact (Below.refl _ _).alloc (Nat.le_refl _) _)
  rw [hw1, hb]
  clear hw1 hb
  refine wp_region_held_drew (S := fun w' => w'.heap[b]? = some (.cells #[.func (.func 46) #[] #[], .func (.func 49) #[] #[], .func (.func 51) #[] #[]] 88)) (by kernel_rfl) hq (fun hHeld => ?_)
  try dsimp only at hHeld
  refine take_at (i := 0) (v := ?_) (some 3) rfl rfl (by kernel_rfl) (by kernel_rfl) (by kernel_rfl) (fun _ _ _ h => h) hHeld (by rfl) (fun wS hSw => ?_) ?_
  rotate_left
  · refine exec_load_row 88 (.tmp 1) ?_ b ?_ 88 #[.func (.func 46) #[] #[], .func (.func 49) #[] #[], .func (.func 51) #[] #[]] (0, 0) _ hSw Try.underlying88 rfl (by kernel_rfl) <;> rfl
  try simp only [Act.put, List.setIfInBounds_toArray, List.set_cons_zero, List.set_cons_succ]
  refine wpAnyH_ready (rs := [1]) (by kernel_rfl) (by simp) ?_
  refine AllReadyH.cons rfl (fun K hK => ?_) AllReadyH.nil
  simp only [List.getElem_toArray, List.getElem_cons_succ, List.getElem_cons_zero]
  go_simp
  refine (newN_any _).mono ?_
  rintro e w2 ⟨rfl, hw2⟩
  have hb2 : Below w1.drew.heap.size w1.drew w2 := by rw [hw2]; exact (Below.refl _ _).alloc (Nat.le_refl _) _
  have hq2 := heap_later (w := w1.drew) hq hb2
  have HW2 := Lib.hid hw2
  clear hw2
  try dsimp only
  have hOld := hHeld
  refine hK.out _ _ hq2 (fun _ => ?_)
  clear hK K
  refine wpAnyH_mono (S2 := fun w' => w'.heap[b]? = some (.cells #[.func (.func 46) #[] #[], .func (.func 49) #[] #[], .func (.func 51) #[] #[]] 88)) (fun _ h => h) _ _ _ _ ?_
  clear hHeld
  have hHeld := hq2
  clear hOld
  try simp only [Act.put, List.setIfInBounds_toArray, List.set_cons_zero, List.set_cons_succ]
  refine take_at (i := 2) (v := ?_) (some 5) rfl rfl (by kernel_rfl) (by kernel_rfl) (by kernel_rfl) (fun _ _ _ h => h) hHeld (by rfl) (fun wS hSw => ?_) ?_
  rotate_left
  · try dsimp only at hSw
    go_simp
    try with_reducible rfl
  try simp only [Act.put, List.setIfInBounds_toArray, List.set_cons_zero, List.set_cons_succ]
  refine wpAnyH_ready (rs := [3]) (by kernel_rfl) (by simp) ?_
  refine AllReadyH.cons rfl (fun K hK => ?_) AllReadyH.nil
  simp only [List.getElem_toArray, List.getElem_cons_succ, List.getElem_cons_zero]
  go_simp
  try dsimp only
  obtain ⟨w3, hw3⟩ : ∃ v, w2.alloc (.cells #[.func (.func 46) #[] #[], .func (.func 49) #[] #[], .func (.func 51) #[] #[], .pointer (some ⟨w1.heap.size, 0, none⟩), .int .i64 (-1)] 93) = v := ⟨_, rfl⟩
  have hb3 : Below w2.heap.size w2 w3 := by rw [← hw3]; exact (Below.refl _ _).alloc (Nat.le_refl _) _
  have hq3 := heap_later hq2 hb3
  have HW3 := Lib.hid hw3
  rw [hw3]
  clear hw3
  have hOld := hHeld
  refine hK.out _ _ hq3 (fun _ => ?_)
  clear hK K
  refine wpAnyH_mono (S2 := fun w' => w'.heap[b]? = some (.cells #[.func (.func 46) #[] #[], .func (.func 49) #[] #[], .func (.func 51) #[] #[]] 88)) (fun _ h => h) _ _ _ _ ?_
  clear hHeld
  have hHeld := hq3
  clear hOld
  try simp only [Act.put, List.setIfInBounds_toArray, List.set_cons_zero, List.set_cons_succ]
  refine take_at (i := 4) (v := ?_) (some 2) rfl rfl (by kernel_rfl) (by kernel_rfl) (by kernel_rfl) (fun _ _ _ h => h) hHeld (by rfl) (fun wS hSw => ?_) ?_
  rotate_left
  · try dsimp only at hSw
    go_simp
    try with_reducible rfl
  try simp only [Act.put, List.setIfInBounds_toArray, List.set_cons_zero, List.set_cons_succ]
  refine wpAnyH_done (by kernel_rfl) ?_ _
  clear hHeld hq3 hq2 hq
  obtain ⟨gT, hgT⟩ : ∃ g, w2.heap.size = g := ⟨_, rfl⟩
  have h1 : w2.heap[w1.heap.size]? = some (.cells #[.slice none 0 0, .slice none 0 0] 122) := by rw [HW2.out]; exact heap_alloc_new w1.drew _
  have har := (ar_zero h1).below hb3
  have hblk : w3.heap[gT]? = some (.cells (treeC w1.heap.size (-1)) 93) := by rw [← HW3.out, ← hgT]; exact heap_alloc_new w2 _
  have hz : w1.heap.size < w2.heap.size := (Array.getElem?_eq_some_iff.1 h1).1
  have HTW := Lib.hid (show TreeW w3 (fun k => k = w1.heap.size) gT w1.heap.size (-1) [] [] from ⟨hblk, har, ArOk.nil_, fun e => by have e : gT = w1.heap.size := e; omega, by simp⟩)
  have HB := Lib.hid ((K1.out.drew.trans (hb2.mono K1.out.size)).trans (hb3.mono (by have := K1.out.size; omega)))
  have HL := Lib.hid (show w.heap.size ≤ w1.heap.size ∧ w.heap.size ≤ gT by have := K1.out.size; omega)
  have HG := Lib.hid hgT
  clear h1 har hblk hz hb2 hb3 hgT
  go_wp2_with fail
  go_ret
  exact ⟨_, gT, _, by rw [HG.out]; rfl, HTW.out, HB.out, fun k hk => by have hk : k = w1.heap.size := hk; have := HL.out; omega, HL.out.2⟩

end Go.Proofs.Ytmfkdaannjibfaa
