/-
  avl.Tree: set, lean.
-/
import Derived.Test.YtbioomilnjikpaaSpG
import Derived.Test.YtbioomilnjikpaaSpT
namespace Go.Proofs.Ytbioomilnjikpaa
open Go.RowKit

/-- A node of a thing. -/
def mkN (t : Th) (l r h sz mk : Int) : Nd := ⟨encT t, encT_len t, encT_one t, l, r, h, sz, mk⟩

/-- A number that is no great one. -/
def Sm (x : Int) : Prop := 0 ≤ x ∧ x ≤ 1000000000000

/-- A node with its totals. -/
def totN (s : List (Option Nd)) (t : Th) (l r : Int) : Nd := mkN t l r (1 + max (hS s l) (hS s r)) (zS s l + zS s r + sizeT t) (mS s l + mS s r + marksT t)

theorem thing_info (t : Th) : (Try.prog.info? 34).map (·.size) = some (encT t).length := by rw [encT_len]; kernel_rfl

set_option maxRecDepth 100000 in
set_option maxHeartbeats 4000000 in
theorem set_any {w : World} {F : Nat → Prop} {gT gA : Nat} {root : Int} {s : List (Option Nd)} {fr : List Nat} (h : TreeW w F gT gA root s fr) {k : Nat} {n0 : Nd} (hk : gt s k = some n0) (t : Th) (l r hh sz mk : Int)
    (hl : okR s l) (hr : okR s r) (b1 : Sm (hS s l)) (b2 : Sm (hS s r)) (b3 : Sm (zS s l)) (b4 : Sm (zS s r)) (b5 : Sm (mS s l)) (b6 : Sm (mS s r)) (b7 : Sm (sizeT t)) (b8 : Sm (marksT t)) :
    Calls Try.prog 59 #[.pointer (some ⟨gT, 0, none⟩), .int .i64 k, (mkN t l r hh sz mk).V] w fun e w' => (∃ v, e = .returned v) ∧ TreeW w' F gT gA root (s.set k (some (totN s t l r))) fr ∧ Grow F w w' F := by
  obtain ⟨n, hn⟩ : ∃ n, mkN t l r hh sz mk = n := ⟨_, rfl⟩
  rw [hn]
  have hnl : n.l = l := by rw [← hn]; rfl
  have hnr : n.r = r := by rw [← hn]; rfl
  have hnx : n.x = encT t := by rw [← hn]; rfl
  have HT := Lib.hid (And.intro hl hr)
  obtain ⟨ha, hha⟩ : ∃ x, hS s l = x := ⟨_, rfl⟩
  obtain ⟨hb, hhb⟩ : ∃ x, hS s r = x := ⟨_, rfl⟩
  obtain ⟨za, hza⟩ : ∃ x, zS s l = x := ⟨_, rfl⟩
  obtain ⟨zb, hzb⟩ : ∃ x, zS s r = x := ⟨_, rfl⟩
  obtain ⟨ma, hma⟩ : ∃ x, mS s l = x := ⟨_, rfl⟩
  obtain ⟨mb, hmb⟩ : ∃ x, mS s r = x := ⟨_, rfl⟩
  obtain ⟨zt, hzt⟩ : ∃ x, sizeT t = x := ⟨_, rfl⟩
  obtain ⟨mt, hmt⟩ : ∃ x, marksT t = x := ⟨_, rfl⟩
  rw [hha] at b1; rw [hhb] at b2; rw [hza] at b3; rw [hzb] at b4; rw [hma] at b5; rw [hmb] at b6; rw [hzt] at b7; rw [hmt] at b8
  obtain ⟨b1, b1'⟩ := b1; obtain ⟨b2, b2'⟩ := b2; obtain ⟨b3, b3'⟩ := b3; obtain ⟨b4, b4'⟩ := b4
  obtain ⟨b5, b5'⟩ := b5; obtain ⟨b6, b6'⟩ := b6; obtain ⟨b7, b7'⟩ := b7; obtain ⟨b8, b8'⟩ := b8
  have HTa := Lib.hid (fun (w1 : World) (hb : Below w.heap.size w w1) => totals_any (h.below hb) hl)
  have HTb := Lib.hid (fun (w1 : World) (hb : Below w.heap.size w w1) => totals_any (h.below hb) hr)
  have HM := Lib.hid (fun w1 => measure_any t w1)
  rw [hha, hza, hma] at HTa
  rw [hhb, hzb, hmb] at HTb
  rw [hzt, hmt] at HM
  have HTW := Lib.hid (fun (w1 : World) (hb : Below w.heap.size w w1) => h.below hb)
  have HN := Lib.hid (show totN s t l r = mkN t l r (1 + max ha hb) (za + zb + zt) (ma + mb + mt) by unfold totN; rw [hha, hhb, hza, hzb, hma, hmb, hzt, hmt])
  have HK := Lib.hid hk
  have HE := Lib.hid hn
  have HX := Lib.hid hnx
  have HFb := Lib.hid (show ¬ F w.heap.size from fun hF => by have := h.ar.lt _ hF; omega)
  obtain ⟨w1, hw1⟩ : ∃ v, w.alloc (.cells n.C.toArray 80) = v := ⟨_, rfl⟩
  obtain ⟨bn, hbn⟩ : ∃ v, w.heap.size = v := ⟨_, rfl⟩
  have HBN := Lib.hid (Nat.le_of_eq hbn)
  rw [hbn] at HFb
  have N1 := Lib.hid (show NdAt w1 bn n by rw [← hw1, ← hbn]; exact NdAt.new w n)
  have K1 := Lib.hid (show Below w.heap.size w w1 by rw [← hw1]; exact (Below.refl _ _).alloc (Nat.le_refl _) _)
  have hl1 := N1.out.cL
  rw [hnl] at hl1
  unfold Nd.V
  clear hha hhb hza hzb hma hmb hzt hmt hl hr hk h hn
  go_enter Try.func59, Try.ntmps59
  go_wp2_with fail
  clear hl1
  refine (HTa.out w1 K1.out).mono ?_
  rintro e w2 ⟨rfl, hb2⟩
  have K2 := Lib.hid (K1.out.trans (hb2.mono K1.out.size))
  have N2 := Lib.hid (N1.out.below hb2)
  have hr2 := N2.out.cR
  rw [hnr] at hr2
  clear hb2
  go_wp2_with fail
  clear hr2
  refine (HTb.out w2 K2.out).mono ?_
  rintro e w3 ⟨rfl, hb3⟩
  have K3 := Lib.hid (K2.out.trans (hb3.mono K2.out.size))
  have N3 := Lib.hid (N2.out.below hb3)
  clear hb3
  go_wp2_with fail
  refine wp_region_held_drew (S := fun w' => w'.cell? ⟨gT, 0, none⟩ = some (.func (.func 37) #[] #[]) ∧ NdAt w' bn n) (by kernel_rfl) ⟨(HTW.out w3 K3.out).cM, ⟨N3.out.blk⟩⟩ (fun hHeld => ?_)
  try dsimp only at hHeld
  refine take_at (i := 0) (v := ?_) (some 31) rfl rfl (by kernel_rfl) (by kernel_rfl) (by kernel_rfl) (fun _ _ _ h => h) hHeld (by rfl) (fun wS hSw => ?_) ?_
  rotate_left
  · try dsimp only at hSw
    go_simp
    try with_reducible rfl
  try simp only [Act.put, List.setIfInBounds_toArray, List.set_cons_zero, List.set_cons_succ]
  refine take_at (i := 1) (v := ?_) (some 32) rfl rfl (by kernel_rfl) (by kernel_rfl) (by kernel_rfl) (fun _ _ _ h => h) hHeld (by rfl) (fun wS hSw => ?_) ?_
  rotate_left
  · try dsimp only at hSw
    go_simp
    try with_reducible rfl
  try simp only [Act.put, List.setIfInBounds_toArray, List.set_cons_zero, List.set_cons_succ]
  refine take_at (i := 2) (v := ?_) (some 33) rfl rfl (by kernel_rfl) (by kernel_rfl) (by kernel_rfl) (fun _ _ _ h => h) hHeld (by rfl) (fun wS hSw => ?_) ?_
  rotate_left
  · try dsimp only at hSw
    go_simp
    try with_reducible rfl
  try simp only [Act.put, List.setIfInBounds_toArray, List.set_cons_zero, List.set_cons_succ]
  refine take_at (i := 3) (v := ?_) (some 34) rfl rfl (by kernel_rfl) (by kernel_rfl) (by kernel_rfl) (fun _ _ _ h => h) hHeld (by rfl) (fun wS hSw => ?_) ?_
  rotate_left
  · try dsimp only at hSw
    go_simp
    try with_reducible rfl
  try simp only [Act.put, List.setIfInBounds_toArray, List.set_cons_zero, List.set_cons_succ]
  refine take_at (i := 4) (v := ?_) (some 35) rfl rfl (by kernel_rfl) (by kernel_rfl) (by kernel_rfl) (fun _ _ _ h => h) hHeld (by rfl) (fun wS hSw => ?_) ?_
  rotate_left
  · have hS1 := hSw.1
    try dsimp only at hSw
    go_simp
    try with_reducible rfl
  try simp only [Act.put, List.setIfInBounds_toArray, List.set_cons_zero, List.set_cons_succ]
  refine take_at (i := 5) (v := ?_) (some 36) rfl rfl (by kernel_rfl) (by kernel_rfl) (by kernel_rfl) (fun _ _ _ h => h) hHeld (by rfl) (fun wS hSw => ?_) ?_
  rotate_left
  · try dsimp only at hSw
    go_simp
    try with_reducible rfl
  try simp only [Act.put, List.setIfInBounds_toArray, List.set_cons_zero, List.set_cons_succ]
  refine take_at (i := 6) (v := ?_) (some 37) rfl rfl (by kernel_rfl) (by kernel_rfl) (by kernel_rfl) (fun _ _ _ h => h) hHeld (by rfl) (fun wS hSw => ?_) ?_
  rotate_left
  · refine exec_load_mid 34 (.tmp 36) ?_ bn 0 ?_ (encT t) _ (HX.out ▸ hSw.2.x) Try.underlying34 rfl (thing_info t) <;> rfl
  try simp only [Act.put, List.setIfInBounds_toArray, List.set_cons_zero, List.set_cons_succ]
  refine wpAnyH_ready (rs := [7]) (by kernel_rfl) (by simp) ?_
  refine AllReadyH.cons rfl (fun K hK => ?_) AllReadyH.nil
  simp only [List.getElem_toArray, List.getElem_cons_succ, List.getElem_cons_zero]
  go_simp
  refine (HM.out _).mono ?_
  rintro e w4 ⟨rfl, hb4⟩
  have hH4 : w4.cell? ⟨gT, 0, none⟩ = some (.func (.func 37) #[] #[]) ∧ NdAt w4 bn n := ⟨cell_later hHeld.1 hb4, hHeld.2.below hb4⟩
  have K4 := Lib.hid (K3.out.drew.trans (hb4.mono K3.out.size))
  clear hb4
  try dsimp only
  have hOld := hHeld
  refine hK.out _ _ hH4 (fun _ => ?_)
  clear hK K
  refine wpAnyH_mono (S2 := fun w' => w'.cell? ⟨gT, 0, none⟩ = some (.func (.func 37) #[] #[]) ∧ NdAt w' bn n) (fun _ h => h) _ _ _ _ ?_
  clear hHeld
  have hHeld := hH4
  clear hOld
  try simp only [Act.put, List.setIfInBounds_toArray, List.set_cons_zero, List.set_cons_succ]
  refine take_at (i := 8) (v := ?_) (some 30) rfl rfl (by kernel_rfl) (by kernel_rfl) (by kernel_rfl) (fun _ _ _ h => h) hHeld (by rfl) (fun wS hSw => ?_) ?_
  rotate_left
  · try dsimp only at hSw
    go_simp
    try with_reducible rfl
  try simp only [Act.put, List.setIfInBounds_toArray, List.set_cons_zero, List.set_cons_succ]
  refine take_at (i := 9) (v := ?_) (some 39) rfl rfl (by kernel_rfl) (by kernel_rfl) (by kernel_rfl) (fun _ _ _ h => h) hHeld (by rfl) (fun wS hSw => ?_) ?_
  rotate_left
  · try dsimp only at hSw
    go_simp
    try with_reducible rfl
  try simp only [Act.put, List.setIfInBounds_toArray, List.set_cons_zero, List.set_cons_succ]
  refine take_at (i := 10) (v := ?_) (some 40) rfl rfl (by kernel_rfl) (by kernel_rfl) (by kernel_rfl) (fun _ _ _ h => h) hHeld (by rfl) (fun wS hSw => ?_) ?_
  rotate_left
  · try dsimp only at hSw
    go_simp
    try with_reducible rfl
  try simp only [Act.put, List.setIfInBounds_toArray, List.set_cons_zero, List.set_cons_succ]
  refine take_at (i := 11) (v := ?_) (some 12) rfl rfl (by kernel_rfl) (by kernel_rfl) (by kernel_rfl) (fun _ _ _ h => h) hHeld (by rfl) (fun wS hSw => ?_) ?_
  rotate_left
  · try dsimp only at hSw
    go_simp
    try with_reducible rfl
  try simp only [Act.put, List.setIfInBounds_toArray, List.set_cons_zero, List.set_cons_succ]
  refine take_at (i := 12) (v := ?_) (some 13) rfl rfl (by kernel_rfl) (by kernel_rfl) (by kernel_rfl) (fun _ _ _ h => h) hHeld (by rfl) (fun wS hSw => ?_) ?_
  rotate_left
  · try dsimp only at hSw
    go_simp
    try with_reducible rfl
  try simp only [Act.put, List.setIfInBounds_toArray, List.set_cons_zero, List.set_cons_succ]
  refine wpAnyH_done (by kernel_rfl) ?_ _
  have N4 := Lib.hid hH4.2
  clear hHeld hH4
  have e1 := N4.out.cH
  have e2 := N4.out.cS
  have e3 := N4.out.cM
  have fz := N4.out.fz
  have g2 : IntKind.i64.wrap (za + zb) = za + zb := IntWalk.i64_in _ (by omega)
  have g3 : IntKind.i64.wrap (za + zb + zt) = za + zb + zt := IntWalk.i64_in _ (by omega)
  have g4 : IntKind.i64.wrap (ma + mb) = ma + mb := IntWalk.i64_in _ (by omega)
  have g5 : IntKind.i64.wrap (ma + mb + mt) = ma + mb + mt := IntWalk.i64_in _ (by omega)
  have g1 : IntKind.i64.wrap (1 + max ha hb) = 1 + max ha hb := IntWalk.i64_in _ (by omega)
  go_wp2_with fail
  all_goals
    first | rw [show 1 + ha = 1 + max ha hb by omega] | rw [show 1 + hb = 1 + max ha hb by omega]
    obtain ⟨n5, hn5⟩ : ∃ x, mkN t l r (1 + max ha hb) (za + zb + zt) (ma + mb + mt) = x := ⟨_, rfl⟩
    obtain ⟨w5, hw5⟩ : ∃ v, ((w4.setCell ⟨bn, 4, none⟩ (.int .i64 (1 + max ha hb))).setCell ⟨bn, 5, none⟩ (.int .i64 (za + zb + zt))).setCell ⟨bn, 6, none⟩ (.int .i64 (ma + mb + mt)) = v := ⟨_, rfl⟩
    have N5 := Lib.hid (show NdAt w5 bn n5 by
      rw [← hw5, ← hn5]
      have hn := HE.out
      have m1 := N4.out.set 2 (.int .i64 (1 + max ha hb)) (mkN t l r (1 + max ha hb) sz mk) (by rw [← hn]; rfl) (by rw [← hn]; rfl)
      have m2 := m1.set 3 (.int .i64 (za + zb + zt)) (mkN t l r (1 + max ha hb) (za + zb + zt) mk) rfl rfl
      exact m2.set 4 (.int .i64 (ma + mb + mt)) (mkN t l r (1 + max ha hb) (za + zb + zt) (ma + mb + mt)) rfl rfl)
    have K5 := Lib.hid (show Below w.heap.size w w5 by
      rw [← hw5]
      have hB := HBN.out
      exact ((K4.out.setCell (p := ⟨bn, 4, none⟩) hB _).setCell (p := ⟨bn, 5, none⟩) hB _).setCell (p := ⟨bn, 6, none⟩) hB _)
    have HN5 := Lib.hid (show totN s t l r = n5 by rw [HN.out, hn5])
    rw [hw5]
    clear hw5 hn5 e1 e2 e3 fz g1 g2 g3 g4 g5
    refine wp_region_held_drew (S := fun w' => w'.cell? ⟨gT, 3, none⟩ = some (.pointer (some ⟨gA, 0, none⟩)) ∧ NdAt w' bn n5) (by kernel_rfl) ⟨(HTW.out w5 K5.out).cN, ⟨N5.out.blk⟩⟩ (fun hHeld => ?_)
    try dsimp only at hHeld
    refine take_at (i := 0) (v := ?_) (some 58) rfl rfl (by kernel_rfl) (by kernel_rfl) (by kernel_rfl) (fun _ _ _ h => h) hHeld (by rfl) (fun wS hSw => ?_) ?_
    rotate_left
    · try dsimp only at hSw
      go_simp
      try with_reducible rfl
    try simp only [Act.put, List.setIfInBounds_toArray, List.set_cons_zero, List.set_cons_succ]
    refine take_at (i := 1) (v := ?_) (some 59) rfl rfl (by kernel_rfl) (by kernel_rfl) (by kernel_rfl) (fun _ _ _ h => h) hHeld (by rfl) (fun wS hSw => ?_) ?_
    rotate_left
    · try dsimp only at hSw
      go_simp
      try with_reducible rfl
    try simp only [Act.put, List.setIfInBounds_toArray, List.set_cons_zero, List.set_cons_succ]
    refine take_at (i := 2) (v := ?_) (some 60) rfl rfl (by kernel_rfl) (by kernel_rfl) (by kernel_rfl) (fun _ _ _ h => h) hHeld (by rfl) (fun wS hSw => ?_) ?_
    rotate_left
    · try dsimp only at hSw
      go_simp
      try with_reducible rfl
    try simp only [Act.put, List.setIfInBounds_toArray, List.set_cons_zero, List.set_cons_succ]
    refine take_at (i := 3) (v := ?_) (some 61) rfl rfl (by kernel_rfl) (by kernel_rfl) (by kernel_rfl) (fun _ _ _ h => h) hHeld (by rfl) (fun wS hSw => ?_) ?_
    rotate_left
    · have hS1 := hSw.1
      try dsimp only at hSw
      go_simp
      try with_reducible rfl
    try simp only [Act.put, List.setIfInBounds_toArray, List.set_cons_zero, List.set_cons_succ]
    refine take_at (i := 4) (v := ?_) (some 62) rfl rfl (by kernel_rfl) (by kernel_rfl) (by kernel_rfl) (fun _ _ _ h => h) hHeld (by rfl) (fun wS hSw => ?_) ?_
    rotate_left
    · try dsimp only at hSw
      go_simp
      try with_reducible rfl
    try simp only [Act.put, List.setIfInBounds_toArray, List.set_cons_zero, List.set_cons_succ]
    refine take_at (i := 5) (v := ?_) (some 63) rfl rfl (by kernel_rfl) (by kernel_rfl) (by kernel_rfl) (fun _ _ _ h => h) hHeld (by rfl) (fun wS hSw => ?_) ?_
    rotate_left
    · refine exec_load_row 80 (.tmp 5) ?_ bn ?_ 80 n5.C.toArray (0, 0) _ hSw.2.blk Try.underlying80 rfl (nd_info n5) <;> rfl
    try simp only [Act.put, List.setIfInBounds_toArray, List.set_cons_zero, List.set_cons_succ]
    refine wpAnyH_ready (rs := [6]) (by kernel_rfl) (by simp) ?_
    refine AllReadyH.cons rfl (fun K hK => ?_) AllReadyH.nil
    simp only [List.getElem_toArray, List.getElem_cons_succ, List.getElem_cons_zero]
    go_simp
    have hT5 := HTW.out w5.drew K5.out.drew
    clear HN
    refine (putN_yes hT5.ar (by have := hT5.len; omega) (gt_some.1 HK.out) n5).mono ?_
    rintro e w6 ⟨rfl, ha6, hg6⟩
    have hH6 : w6.cell? ⟨gT, 3, none⟩ = some (.pointer (some ⟨gA, 0, none⟩)) ∧ NdAt w6 bn n5 := ⟨(hT5.arena ha6 (hT5.ok.put (gt_some.1 HK.out) n5) hg6 (by rw [List.length_set]; exact hT5.len)).cN, hHeld.2.step hg6.step HFb.out⟩
    have HF6 := Lib.hid (And.intro (hT5.arena ha6 (hT5.ok.put (gt_some.1 HK.out) n5) hg6 (by rw [List.length_set]; exact hT5.len)) ((Grow.of_below K5.out.drew).trans hg6))
    clear ha6 hg6 hT5
    try dsimp only
    have hOld := hHeld
    refine hK.out _ _ hH6 (fun _ => ?_)
    clear hK K
    refine wpAnyH_mono (S2 := fun w' => w'.cell? ⟨gT, 3, none⟩ = some (.pointer (some ⟨gA, 0, none⟩)) ∧ NdAt w' bn n5) (fun _ h => h) _ _ _ _ ?_
    clear hHeld
    have hHeld := hH6
    clear hOld
    try simp only [Act.put, List.setIfInBounds_toArray, List.set_cons_zero, List.set_cons_succ]
    refine wpAnyH_done (by kernel_rfl) ?_ _
    clear hHeld hH6
    go_wp2_with fail
    go_end0
    rw [HN5.out]
    exact ⟨⟨_, rfl⟩, HF6.out.1, HF6.out.2⟩

end Go.Proofs.Ytbioomilnjikpaa
