/-
  avl.Tree: lean, lift.
-/
import Derived.Test.YtbioomilnjikpaaSpI
namespace Go.Proofs.Ytbioomilnjikpaa
open Go.RowKit

/-- What a call on a tree hands back: a tree of these nodes; all else stays. -/
def Post (w : World) (F : Nat → Prop) (gT gA : Nat) (root : Int) (s : List (Option Nd)) (fr : List Nat) (L : List (Nat × Th)) (v : Value) (w' : World) : Prop :=
  ∃ (T : Tr) (s' : List (Option Nd)), v = .int .i64 T.rt ∧ TreeW w' F gT gA root s' fr ∧ Holds s' T ∧ T.nodes = L ∧ (∀ j, j ∉ ids L → gt s' j = gt s j) ∧ s'.length = s.length ∧ Grow F w w' F

theorem topN_l (t : Th) (L R : Tr) : (topN t L R).l = L.rt := rfl
theorem topN_r (t : Th) (L R : Tr) : (topN t L R).r = R.rt := rfl

set_option maxHeartbeats 2000000 in
theorem lean_tree {w : World} {F : Nat → Prop} {gT gA : Nat} {root : Int} {s : List (Option Nd)} {fr : List Nat} (h : TreeW w F gT gA root s fr) {i : Nat} {t : Th} {L R : Tr} (hT : Holds s (.nd i t L R)) (ho : OkL (Tr.nd i t L R).nodes) :
    Calls Try.prog 62 #[.pointer (some ⟨gT, 0, none⟩), .int .i64 i] w fun e w' => e = .returned (.int .i64 (L.h - R.h)) ∧ Below w.heap.size w w' := by
  have hL := Tr.sm ho.left
  have hR := Tr.sm ho.right.tail
  obtain ⟨a1, a2⟩ := hL.1
  obtain ⟨b1, b2⟩ := hR.1
  have HA := Lib.hid (at_any h hT.1)
  have HTa := Lib.hid (fun (w1 : World) (hb : Below w.heap.size w w1) => totals_any (h.below hb) hT.2.1.okR)
  have HTb := Lib.hid (fun (w1 : World) (hb : Below w.heap.size w w1) => totals_any (h.below hb) hT.2.2.okR)
  rw [hT.2.1.tot.1] at HTa
  rw [hT.2.2.tot.1] at HTb
  obtain ⟨n, hn⟩ : ∃ x, topN t L R = x := ⟨_, rfl⟩
  have hl : n.l = L.rt := by rw [← hn]; rfl
  have hr : n.r = R.rt := by rw [← hn]; rfl
  rw [hn] at HA
  unfold Nd.V at HA
  have g1 : IntKind.i64.wrap (L.h - R.h) = L.h - R.h := IntWalk.i64_in _ (by omega)
  clear h hT ho hL hR hn
  go_enter Try.func62, Try.ntmps62
  go_wp2_with fail
  refine HA.out.mono ?_
  rintro e w1 ⟨rfl, hb1⟩
  obtain ⟨b, hb⟩ : ∃ b, w1.heap.size = b := ⟨_, rfl⟩
  obtain ⟨w2, hw2⟩ : ∃ v, w1.alloc (.cells n.C.toArray 80) = v := ⟨_, rfl⟩
  have N2 := Lib.hid (show NdAt w2 b n by rw [← hw2, ← hb]; exact NdAt.new w1 n)
  have K2 := Lib.hid (show Below w.heap.size w w2 by rw [← hw2]; exact hb1.alloc hb1.size _)
  have HE := Lib.hid (And.intro hw2 hb)
  have hl2 := N2.out.cL
  rw [hl] at hl2
  clear hb1 hw2 hb
  go_wp2_with (refine wpList_store_row rfl 80 (.tmp 5) (.tmp 14) rfl w1.heap.size n.C.toArray rfl rfl 80 _ (heap_alloc_new w1 _) (nd_info n) (by simp [Nd.C_len]) (all_oneCell_toArray n.C_one) ?_; rw [alloc_setRow, HE.out.1, HE.out.2])
  clear hl2
  refine (HTa.out w2 K2.out).mono ?_
  rintro e w3 ⟨rfl, hb3⟩
  have K3 := Lib.hid (K2.out.trans (hb3.mono K2.out.size))
  have hr3 := (N2.out.below hb3).cR
  rw [hr] at hr3
  clear hb3
  go_wp2_with fail
  clear hr3
  refine (HTb.out w3 K3.out).mono ?_
  rintro e w4 ⟨rfl, hb4⟩
  have K4 := Lib.hid (K3.out.trans (hb4.mono K3.out.size))
  clear hb4
  go_wp2_with fail
  go_ret
  exact ⟨rfl, K4.out⟩

set_option maxHeartbeats 4000000 in
theorem lift_left {w : World} {F : Nat → Prop} {gT gA : Nat} {root : Int} {s : List (Option Nd)} {fr : List Nat} (h : TreeW w F gT gA root s fr) {i j : Nat} {t u : Th} {A B R : Tr} (hT : Holds s (.nd i t (.nd j u A B) R)) (ho : OkL (Tr.nd i t (.nd j u A B) R).nodes) :
    Calls Try.prog 63 #[.pointer (some ⟨gT, 0, none⟩), .int .i64 i, .bool true] w fun e w' => ∃ s', e = .returned (.int .i64 j) ∧ TreeW w' F gT gA root s' fr ∧ Holds s' (.nd j u A (.nd i t B R)) ∧ (∀ q, q ∉ ids (Tr.nd i t (.nd j u A B) R).nodes → gt s' q = gt s q) ∧ s'.length = s.length ∧ Grow F w w' F := by
  have hnod : (Tr.nd i t (.nd j u A B) R).nodes = (Tr.nd j u A (.nd i t B R)).nodes := by simp [Tr.nodes]
  have ho1 : OkL (Tr.nd j u A (.nd i t B R)).nodes := hnod ▸ ho
  have hoI : OkL (B.nodes ++ (i, t) :: R.nodes) := (OkL.right (A := A.nodes) (B := _) (by simpa [Tr.nodes] using ho1)).tail
  have hij : i ≠ j := fun e => OkL.apart (A := (Tr.nd j u A B).nodes) (B := (i, t) :: R.nodes) ho j (by simp [Tr.nodes, ids]) (by rw [← e]; simp [ids])
  have HI := Lib.hid hT.1
  have HJ := Lib.hid hT.2.1.1
  have HA := Lib.hid (at_any h hT.1)
  have HB := Lib.hid (fun (w1 : World) (hb : Below w.heap.size w w1) => at_any (h.below hb) hT.2.1.1)
  obtain ⟨n, hn⟩ : ∃ x, topN t (.nd j u A B) R = x := ⟨_, rfl⟩
  obtain ⟨m, hm⟩ : ∃ x, topN u A B = x := ⟨_, rfl⟩
  have hnl : n.l = (j : Int) := by rw [← hn]; rfl
  have hmr : m.r = B.rt := by rw [← hm]; rfl
  rw [hn] at HA
  rw [hm] at HB
  unfold Nd.V at HA HB
  have HW := Lib.hid (fun (w1 : World) (hb : Below w.heap.size w w1) => h.below hb)
  have HF := Lib.hid h.ar.lt
  have HGT := Lib.hid h.lt
  have hiA := Lib.hid (show i ∉ ids A.nodes from fun hq => OkL.apart (A := A.nodes) (B := (j, u) :: (B.nodes ++ (i, t) :: R.nodes)) (by simpa [Tr.nodes] using ho1) i hq (by simp [ids]))
  have HT := Lib.hid hT
  have HO := Lib.hid (And.intro ho (And.intro ho1 hoI))
  have HN := Lib.hid (And.intro hn hm)
  clear h hT ho ho1 hoI hn hm hnod
  go_enter Try.func63, Try.ntmps63
  go_wp2_with fail
  refine HA.out.mono ?_
  rintro e w1 ⟨rfl, hb1⟩
  obtain ⟨bi, hbi⟩ : ∃ b, w1.heap.size = b := ⟨_, rfl⟩
  obtain ⟨w2, hw2⟩ : ∃ v, w1.alloc (.cells n.C.toArray 80) = v := ⟨_, rfl⟩
  have N2 := Lib.hid (show NdAt w2 bi n by rw [← hw2, ← hbi]; exact NdAt.new w1 n)
  have K2 := Lib.hid (show Below w.heap.size w w2 by rw [← hw2]; exact hb1.alloc hb1.size _)
  have HE := Lib.hid (And.intro hw2 hbi)
  have HLi := Lib.hid (show w.heap.size ≤ bi by have := hb1.size; omega)
  have hl2 := N2.out.cL
  rw [hnl] at hl2
  clear hb1 hw2 hbi
  go_wp2_with (refine wpList_store_row rfl 80 (.tmp 7) (.tmp 13) rfl w1.heap.size n.C.toArray rfl rfl 80 _ (heap_alloc_new w1 _) (nd_info n) (by simp [Nd.C_len]) (all_oneCell_toArray n.C_one) ?_; rw [alloc_setRow, HE.out.1, HE.out.2])
  clear hl2
  refine (HB.out w2 K2.out).mono ?_
  rintro e w3 ⟨rfl, hb3⟩
  have K3 := Lib.hid (K2.out.trans (hb3.mono K2.out.size))
  have N3 := Lib.hid (N2.out.below hb3)
  clear hb3
  obtain ⟨bj, hbj⟩ : ∃ b, w3.heap.size = b := ⟨_, rfl⟩
  obtain ⟨w4, hw4⟩ : ∃ v, w3.alloc (.cells m.C.toArray 80) = v := ⟨_, rfl⟩
  have M4 := Lib.hid (show NdAt w4 bj m by rw [← hw4, ← hbj]; exact NdAt.new w3 m)
  have N4 := Lib.hid (show NdAt w4 bi n by rw [← hw4]; exact N3.out.below ((Below.refl _ _).alloc (Nat.le_refl _) _))
  have K4 := Lib.hid (show Below w.heap.size w w4 by rw [← hw4]; exact K3.out.alloc K3.out.size _)
  have HE4 := Lib.hid (And.intro hw4 hbj)
  have HLj := Lib.hid (show w.heap.size ≤ bj ∧ bi < bj by have := K3.out.size; have := N3.out.lt; omega)
  clear hw4 hbj
  obtain ⟨n5, hn5⟩ : ∃ x, mkN t B.rt R.rt (1 + max (Tr.nd j u A B).h R.h) ((Tr.nd j u A B).z + R.z + sizeT t) ((Tr.nd j u A B).m + R.m + marksT t) = x := ⟨_, rfl⟩
  obtain ⟨w5, hw5⟩ : ∃ v, w4.setCell ⟨bi, 2, none⟩ (.int .i64 B.rt) = v := ⟨_, rfl⟩
  have N5 := Lib.hid (show NdAt w5 bi n5 by
    rw [← hw5]
    exact N4.out.set 0 (.int .i64 B.rt) n5 (by rw [← hn5, ← HN.out.1]; rfl) (by rw [← hn5, ← HN.out.1]; rfl))
  have M5 := Lib.hid (show NdAt w5 bj m from ⟨by rw [← hw5]; exact (heap_setCell_other _ _ _ _ (by have := HLj.out; show bj ≠ bi; omega)).trans M4.out.blk⟩)
  have K5 := Lib.hid (show Below w.heap.size w w5 by rw [← hw5]; exact K4.out.setCell (p := ⟨bi, _, none⟩) HLi.out _)
  have hr4 := M4.out.cR
  rw [hmr] at hr4
  have hc4 := N4.out.cL
  have fz4 := N4.out.fz
  have HW5 := Lib.hid hw5
  clear hw5
  go_wp2_with (first | (refine wpList_store_row rfl 80 (.tmp 9) (.tmp 19) rfl w3.heap.size m.C.toArray rfl rfl 80 _ (heap_alloc_new w3 _) (nd_info m) (by simp [Nd.C_len]) (all_oneCell_toArray m.C_one) ?_; rw [alloc_setRow, HE4.out.1, HE4.out.2]) | (rw [HW5.out]; (refine wpList_load_row rfl 80 (.tmp 7) rfl bi rfl 80 n5.C.toArray (0, 0) _ N5.out.blk Try.underlying80 rfl (nd_info n5) ?_)))
  clear hr4 hc4 fz4
  subst hn5
  have hset := fun hh sz mk => set_tree (HW.out w5 K5.out) HI.out t B R hh sz mk HT.out.2.1.2.2 HT.out.2.2 HO.out.2.2
  simp only [Nd.V] at hset
  refine (hset _ _ _).mono ?_
  clear hset
  rintro e w6 ⟨⟨v6, rfl⟩, hT6, hH6, hg6⟩
  obtain ⟨s1, hs1⟩ : ∃ x, s.set i (some (topN t B R)) = x := ⟨_, rfl⟩
  have hil := gt_lt HI.out
  have hk1 : ∀ q, q ≠ i → gt s1 q = gt s q := fun q hq => by rw [← hs1]; exact gt_set_other hil _ hq
  have hl1 : s1.length = s.length := by rw [← hs1, List.length_set]
  rw [hs1] at hT6 hH6
  have M6 := Lib.hid (M5.out.step hg6.step (fun hF => by have := HF.out _ hF; have := HLj.out; omega))
  have G6 := (Grow.of_below K5.out).trans hg6
  have hc6 := M6.out.cR
  have fz6 := M6.out.fz
  obtain ⟨m7, hm7⟩ : ∃ x, mkN u A.rt (i : Int) (1 + max A.h B.h) (A.z + B.z + sizeT u) (A.m + B.m + marksT u) = x := ⟨_, rfl⟩
  obtain ⟨w7, hw7⟩ : ∃ v, w6.setCell ⟨bj, 3, none⟩ (.int .i64 (i : Int)) = v := ⟨_, rfl⟩
  have M7 := Lib.hid (show NdAt w7 bj m7 by
    rw [← hw7]
    exact M6.out.set 1 (.int .i64 (i : Int)) m7 (by rw [← hm7, ← HN.out.2]; rfl) (by rw [← hm7, ← HN.out.2]; rfl))
  have G7 := Lib.hid (show Grow F w w7 F by rw [← hw7]; exact ⟨G6.step.setCell (p := ⟨bj, _, none⟩) (.inr HLj.out.1) _, G6.new⟩)
  have HT7 := Lib.hid (show TreeW w7 F gT gA root s1 fr from hT6.step (G := fun k => k = bj) (by rw [← hw7]; exact (Step.refl (fun k => k = bj) w6).setCell (p := ⟨bj, _, none⟩) (.inl rfl) _) (fun k hF e => by have := HF.out k hF; have := HLj.out; have e : k = bj := e; omega) (fun e => by have := HGT.out; have := HLj.out; have e : gT = bj := e; omega))
  have HW7 := Lib.hid hw7
  have HS1 := Lib.hid (And.intro hk1 (And.intro hl1 hH6))
  clear hw7 hT6 hH6 hg6 G6 hk1 hl1 hs1 hil
  go_wp2_with (rw [HW7.out]; (refine wpList_load_row rfl 80 (.tmp 9) rfl bj rfl 80 m7.C.toArray (0, 0) _ M7.out.blk Try.underlying80 rfl (nd_info m7) ?_))
  clear hc6 fz6
  subst hm7
  have hset := fun hh sz mk => set_tree HT7.out ((HS1.out.1 j (fun e => hij e.symm)).trans HJ.out) u A (.nd i t B R) hh sz mk (HT.out.2.1.2.1.keep fun q hq => HS1.out.1 q (fun e => hiA.out (e ▸ hq))) HS1.out.2.2 HO.out.2.1
  simp only [Nd.V] at hset
  refine (hset _ _ _).mono ?_
  clear hset
  rintro e w8 ⟨⟨v8, rfl⟩, hT8, hH8, hg8⟩
  have H8 := Lib.hid (And.intro hT8 (And.intro hH8 (G7.out.trans hg8)))
  have hjl := gt_lt ((HS1.out.1 j (fun e => hij e.symm)).trans HJ.out)
  have HJL := Lib.hid hjl
  clear hT8 hH8 hg8 hjl
  go_wp2_with fail
  go_ret
  refine ⟨_, rfl, H8.out.1, H8.out.2.1, fun q hq => ?_, by rw [List.length_set]; exact HS1.out.2.1, H8.out.2.2⟩
  rw [gt_set_other HJL.out _ (fun e => hq (by rw [e]; simp [Tr.nodes, ids])), HS1.out.1 q (fun e => hq (by rw [e]; simp [Tr.nodes, ids]))]

set_option maxHeartbeats 4000000 in
theorem lift_right {w : World} {F : Nat → Prop} {gT gA : Nat} {root : Int} {s : List (Option Nd)} {fr : List Nat} (h : TreeW w F gT gA root s fr) {i j : Nat} {t u : Th} {L A B : Tr} (hT : Holds s (.nd i t L (.nd j u A B))) (ho : OkL (Tr.nd i t L (.nd j u A B)).nodes) :
    Calls Try.prog 63 #[.pointer (some ⟨gT, 0, none⟩), .int .i64 i, .bool false] w fun e w' => ∃ s', e = .returned (.int .i64 j) ∧ TreeW w' F gT gA root s' fr ∧ Holds s' (.nd j u (.nd i t L A) B) ∧ (∀ q, q ∉ ids (Tr.nd i t L (.nd j u A B)).nodes → gt s' q = gt s q) ∧ s'.length = s.length ∧ Grow F w w' F := by
  have hnod : (Tr.nd i t L (.nd j u A B)).nodes = (Tr.nd j u (.nd i t L A) B).nodes := by simp [Tr.nodes]
  have ho1 : OkL (Tr.nd j u (.nd i t L A) B).nodes := hnod ▸ ho
  have hoI : OkL (L.nodes ++ (i, t) :: A.nodes) := OkL.left (B := (j, u) :: B.nodes) (by simpa [Tr.nodes] using ho1)
  have hij : i ≠ j := fun e => by have hn := (OkL.right (A := L.nodes) (B := (i, t) :: (Tr.nd j u A B).nodes) ho).nodup; rw [ids, List.map_cons, List.nodup_cons] at hn; exact hn.1 (by rw [e]; simp [Tr.nodes])
  have HI := Lib.hid hT.1
  have HJ := Lib.hid hT.2.2.1
  have HA := Lib.hid (at_any h hT.1)
  have HB := Lib.hid (fun (w1 : World) (hb : Below w.heap.size w w1) => at_any (h.below hb) hT.2.2.1)
  obtain ⟨n, hn⟩ : ∃ x, topN t L (.nd j u A B) = x := ⟨_, rfl⟩
  obtain ⟨m, hm⟩ : ∃ x, topN u A B = x := ⟨_, rfl⟩
  have hnl : n.r = (j : Int) := by rw [← hn]; rfl
  have hmr : m.l = A.rt := by rw [← hm]; rfl
  rw [hn] at HA
  rw [hm] at HB
  unfold Nd.V at HA HB
  have HW := Lib.hid (fun (w1 : World) (hb : Below w.heap.size w w1) => h.below hb)
  have HF := Lib.hid h.ar.lt
  have HGT := Lib.hid h.lt
  have hiA := Lib.hid (show i ∉ ids B.nodes from fun hq => OkL.apart (A := L.nodes ++ (i, t) :: A.nodes) (B := (j, u) :: B.nodes) (by simpa [Tr.nodes] using ho1) i (by simp [ids]) (by simp [ids] at hq ⊢; exact .inr hq))
  have HT := Lib.hid hT
  have HO := Lib.hid (And.intro ho (And.intro ho1 hoI))
  have HN := Lib.hid (And.intro hn hm)
  clear h hT ho ho1 hoI hn hm hnod
  go_enter Try.func63, Try.ntmps63
  go_wp2_with fail
  refine HA.out.mono ?_
  rintro e w1 ⟨rfl, hb1⟩
  obtain ⟨bi, hbi⟩ : ∃ b, w1.heap.size = b := ⟨_, rfl⟩
  obtain ⟨w2, hw2⟩ : ∃ v, w1.alloc (.cells n.C.toArray 80) = v := ⟨_, rfl⟩
  have N2 := Lib.hid (show NdAt w2 bi n by rw [← hw2, ← hbi]; exact NdAt.new w1 n)
  have K2 := Lib.hid (show Below w.heap.size w w2 by rw [← hw2]; exact hb1.alloc hb1.size _)
  have HE := Lib.hid (And.intro hw2 hbi)
  have HLi := Lib.hid (show w.heap.size ≤ bi by have := hb1.size; omega)
  have hl2 := N2.out.cR
  rw [hnl] at hl2
  clear hb1 hw2 hbi
  go_wp2_with (refine wpList_store_row rfl 80 (.tmp 7) (.tmp 13) rfl w1.heap.size n.C.toArray rfl rfl 80 _ (heap_alloc_new w1 _) (nd_info n) (by simp [Nd.C_len]) (all_oneCell_toArray n.C_one) ?_; rw [alloc_setRow, HE.out.1, HE.out.2])
  clear hl2
  refine (HB.out w2 K2.out).mono ?_
  rintro e w3 ⟨rfl, hb3⟩
  have K3 := Lib.hid (K2.out.trans (hb3.mono K2.out.size))
  have N3 := Lib.hid (N2.out.below hb3)
  clear hb3
  obtain ⟨bj, hbj⟩ : ∃ b, w3.heap.size = b := ⟨_, rfl⟩
  obtain ⟨w4, hw4⟩ : ∃ v, w3.alloc (.cells m.C.toArray 80) = v := ⟨_, rfl⟩
  have M4 := Lib.hid (show NdAt w4 bj m by rw [← hw4, ← hbj]; exact NdAt.new w3 m)
  have N4 := Lib.hid (show NdAt w4 bi n by rw [← hw4]; exact N3.out.below ((Below.refl _ _).alloc (Nat.le_refl _) _))
  have K4 := Lib.hid (show Below w.heap.size w w4 by rw [← hw4]; exact K3.out.alloc K3.out.size _)
  have HE4 := Lib.hid (And.intro hw4 hbj)
  have HLj := Lib.hid (show w.heap.size ≤ bj ∧ bi < bj by have := K3.out.size; have := N3.out.lt; omega)
  clear hw4 hbj
  obtain ⟨n5, hn5⟩ : ∃ x, mkN t L.rt A.rt (1 + max L.h (Tr.nd j u A B).h) (L.z + (Tr.nd j u A B).z + sizeT t) (L.m + (Tr.nd j u A B).m + marksT t) = x := ⟨_, rfl⟩
  obtain ⟨w5, hw5⟩ : ∃ v, w4.setCell ⟨bi, 3, none⟩ (.int .i64 A.rt) = v := ⟨_, rfl⟩
  have N5 := Lib.hid (show NdAt w5 bi n5 by
    rw [← hw5]
    exact N4.out.set 1 (.int .i64 A.rt) n5 (by rw [← hn5, ← HN.out.1]; rfl) (by rw [← hn5, ← HN.out.1]; rfl))
  have M5 := Lib.hid (show NdAt w5 bj m from ⟨by rw [← hw5]; exact (heap_setCell_other _ _ _ _ (by have := HLj.out; show bj ≠ bi; omega)).trans M4.out.blk⟩)
  have K5 := Lib.hid (show Below w.heap.size w w5 by rw [← hw5]; exact K4.out.setCell (p := ⟨bi, _, none⟩) HLi.out _)
  have hr4 := M4.out.cL
  rw [hmr] at hr4
  have hc4 := N4.out.cR
  have fz4 := N4.out.fz
  have HW5 := Lib.hid hw5
  clear hw5
  go_wp2_with (first | (refine wpList_store_row rfl 80 (.tmp 10) (.tmp 37) rfl w3.heap.size m.C.toArray rfl rfl 80 _ (heap_alloc_new w3 _) (nd_info m) (by simp [Nd.C_len]) (all_oneCell_toArray m.C_one) ?_; rw [alloc_setRow, HE4.out.1, HE4.out.2]) | (rw [HW5.out]; (refine wpList_load_row rfl 80 (.tmp 7) rfl bi rfl 80 n5.C.toArray (0, 0) _ N5.out.blk Try.underlying80 rfl (nd_info n5) ?_)))
  clear hr4 hc4 fz4
  subst hn5
  have hset := fun hh sz mk => set_tree (HW.out w5 K5.out) HI.out t L A hh sz mk HT.out.2.1 HT.out.2.2.2.1 HO.out.2.2
  simp only [Nd.V] at hset
  refine (hset _ _ _).mono ?_
  clear hset
  rintro e w6 ⟨⟨v6, rfl⟩, hT6, hH6, hg6⟩
  obtain ⟨s1, hs1⟩ : ∃ x, s.set i (some (topN t L A)) = x := ⟨_, rfl⟩
  have hil := gt_lt HI.out
  have hk1 : ∀ q, q ≠ i → gt s1 q = gt s q := fun q hq => by rw [← hs1]; exact gt_set_other hil _ hq
  have hl1 : s1.length = s.length := by rw [← hs1, List.length_set]
  rw [hs1] at hT6 hH6
  have M6 := Lib.hid (M5.out.step hg6.step (fun hF => by have := HF.out _ hF; have := HLj.out; omega))
  have G6 := (Grow.of_below K5.out).trans hg6
  have hc6 := M6.out.cL
  have fz6 := M6.out.fz
  obtain ⟨m7, hm7⟩ : ∃ x, mkN u (i : Int) B.rt (1 + max A.h B.h) (A.z + B.z + sizeT u) (A.m + B.m + marksT u) = x := ⟨_, rfl⟩
  obtain ⟨w7, hw7⟩ : ∃ v, w6.setCell ⟨bj, 2, none⟩ (.int .i64 (i : Int)) = v := ⟨_, rfl⟩
  have M7 := Lib.hid (show NdAt w7 bj m7 by
    rw [← hw7]
    exact M6.out.set 0 (.int .i64 (i : Int)) m7 (by rw [← hm7, ← HN.out.2]; rfl) (by rw [← hm7, ← HN.out.2]; rfl))
  have G7 := Lib.hid (show Grow F w w7 F by rw [← hw7]; exact ⟨G6.step.setCell (p := ⟨bj, _, none⟩) (.inr HLj.out.1) _, G6.new⟩)
  have HT7 := Lib.hid (show TreeW w7 F gT gA root s1 fr from hT6.step (G := fun k => k = bj) (by rw [← hw7]; exact (Step.refl (fun k => k = bj) w6).setCell (p := ⟨bj, _, none⟩) (.inl rfl) _) (fun k hF e => by have := HF.out k hF; have := HLj.out; have e : k = bj := e; omega) (fun e => by have := HGT.out; have := HLj.out; have e : gT = bj := e; omega))
  have HW7 := Lib.hid hw7
  have HS1 := Lib.hid (And.intro hk1 (And.intro hl1 hH6))
  clear hw7 hT6 hH6 hg6 G6 hk1 hl1 hs1 hil
  go_wp2_with (rw [HW7.out]; (refine wpList_load_row rfl 80 (.tmp 10) rfl bj rfl 80 m7.C.toArray (0, 0) _ M7.out.blk Try.underlying80 rfl (nd_info m7) ?_))
  clear hc6 fz6
  subst hm7
  have hset := fun hh sz mk => set_tree HT7.out ((HS1.out.1 j (fun e => hij e.symm)).trans HJ.out) u (.nd i t L A) B hh sz mk HS1.out.2.2 (HT.out.2.2.2.2.keep fun q hq => HS1.out.1 q (fun e => hiA.out (e ▸ hq))) HO.out.2.1
  simp only [Nd.V] at hset
  refine (hset _ _ _).mono ?_
  clear hset
  rintro e w8 ⟨⟨v8, rfl⟩, hT8, hH8, hg8⟩
  have H8 := Lib.hid (And.intro hT8 (And.intro hH8 (G7.out.trans hg8)))
  have hjl := gt_lt ((HS1.out.1 j (fun e => hij e.symm)).trans HJ.out)
  have HJL := Lib.hid hjl
  clear hT8 hH8 hg8 hjl
  go_wp2_with fail
  go_ret
  refine ⟨_, rfl, H8.out.1, H8.out.2.1, fun q hq => ?_, by rw [List.length_set]; exact HS1.out.2.1, H8.out.2.2⟩
  rw [gt_set_other HJL.out _ (fun e => hq (by rw [e]; simp [Tr.nodes, ids])), HS1.out.1 q (fun e => hq (by rw [e]; simp [Tr.nodes, ids]))]

end Go.Proofs.Ytbioomilnjikpaa
