/-
  avl.Tree: join.
-/
import Derived.Test.YtbioomilnjikpaaSpK
namespace Go.Proofs.Ytbioomilnjikpaa
open Go.RowKit

set_option maxHeartbeats 4000000 in
theorem join_mid {w : World} {F : Nat → Prop} {gT gA : Nat} {root : Int} {s : List (Option Nd)} {fr : List Nat} (h : TreeW w F gT gA root s fr) {i : Nat} {t : Th} {L R : Tr} {l0 r0 h0 z0 m0 : Int} (hi : gt s i = some (mkN t l0 r0 h0 z0 m0)) (hl : Holds s (L)) (hr : Holds s (R)) (ho : OkL (Tr.nd i t (L) (R)).nodes) (h1 : L.h - R.h ≤ 1) (h2 : -1 ≤ L.h - R.h) :
    Calls Try.prog 46 #[.pointer (some ⟨gT, 0, none⟩), .int .i64 (L).rt, .int .i64 i, .int .i64 (R).rt] w fun e w' => ∃ v, e = .returned v ∧ Post w F gT gA root s fr (Tr.nd i t (L) (R)).nodes v w' := by
  have hLs := Tr.sm (T := L) ho.left
  have hRs := Tr.sm (T := R) (OkL.right (A := (L).nodes) (B := (i, t) :: (R).nodes) ho).tail
  have HTa := Lib.hid (fun (w1 : World) (hb : Below w.heap.size w w1) => totals_any (h.below hb) hl.okR)
  have HTb := Lib.hid (fun (w1 : World) (hb : Below w.heap.size w w1) => totals_any (h.below hb) hr.okR)
  obtain ⟨ha, hha⟩ : ∃ x, (L).h = x := ⟨_, rfl⟩
  obtain ⟨hb', hhb⟩ : ∃ x, (R).h = x := ⟨_, rfl⟩
  rw [hl.tot.1, hha] at HTa
  rw [hr.tot.1, hhb] at HTb
  have HW := Lib.hid (fun (w1 : World) (hb : Below w.heap.size w w1) => h.below hb)
  have HFL := Lib.hid h.ar.lt
  have HGT := Lib.hid h.lt
  have K0 := Lib.hid (Below.refl w.heap.size w)
  obtain ⟨LL, hLL⟩ : ∃ x, (Tr.nd i t (L) (R)).nodes = x := ⟨_, rfl⟩
  have HO := Lib.hid (And.intro ho hLL)
  obtain ⟨a1, a2⟩ := hLs.1
  obtain ⟨b1, b2⟩ := hRs.1
  rw [hha] at a1 a2
  rw [hhb] at b1 b2
  have g1 : IntKind.i64.wrap (hb' + 1) = hb' + 1 := IntWalk.i64_in _ (by omega)
  have g2 : IntKind.i64.wrap (ha + 1) = ha + 1 := IntWalk.i64_in _ (by omega)
  have c1 : ¬ hb' + 1 < ha := by omega
  have c2 : ¬ ha + 1 < hb' := by omega
  have HI := Lib.hid hi
  have HL := Lib.hid (And.intro hl hr)
  clear hha hhb h1 h2 hi hl hr
  rw [hLL]
  clear h ho hLL hLs hRs
  go_enter Try.func46, Try.ntmps46
  go_wp2_with fail
  refine (HTa.out w K0.out).mono ?_
  rintro e w1 ⟨rfl, hb1⟩
  have K1 := Lib.hid hb1
  clear hb1
  go_wp2_with fail
  refine (HTb.out w1 K1.out).mono ?_
  rintro e w2 ⟨rfl, hb2⟩
  have K2 := Lib.hid (K1.out.trans (hb2.mono K1.out.size))
  clear hb2 HTa HTb
  have HAt := Lib.hid (at_any (HW.out w2 K2.out) HI.out)
  obtain ⟨n, hn⟩ : ∃ x, mkN t l0 r0 h0 z0 m0 = x := ⟨_, rfl⟩
  have hnc : n.l = l0 := by rw [← hn]; rfl
  have HN := Lib.hid hn
  rw [hn] at HAt
  unfold Nd.V at HAt
  clear hn
  go_wp2_with fail
  refine HAt.out.mono ?_
  rintro e w3 ⟨rfl, hb3⟩
  obtain ⟨b, hb⟩ : ∃ b, w3.heap.size = b := ⟨_, rfl⟩
  obtain ⟨w4, hw4⟩ : ∃ v, w3.alloc (.cells n.C.toArray 80) = v := ⟨_, rfl⟩
  have hk3 : Below w.heap.size w w3 := K2.out.trans (hb3.mono K2.out.size)
  have N4 := Lib.hid (show NdAt w4 b n by rw [← hw4, ← hb]; exact NdAt.new w3 n)
  have K4 := Lib.hid (show Below w.heap.size w w4 by rw [← hw4]; exact hk3.alloc hk3.size _)
  have HE := Lib.hid (And.intro hw4 hb)
  have HBL := Lib.hid (show w.heap.size ≤ b by have := hk3.size; omega)
  clear hb3 hw4 hb hk3 HAt
  have hc1 := N4.out.cL
  have hc2 := N4.out.cR
  have fz := N4.out.fz
  obtain ⟨n6, hn6⟩ : ∃ x, mkN t L.rt R.rt h0 z0 m0 = x := ⟨_, rfl⟩
  obtain ⟨w6, hw6⟩ : ∃ x, (w4.setCell ⟨b, 2, none⟩ (.int .i64 L.rt)).setCell ⟨b, 3, none⟩ (.int .i64 R.rt) = x := ⟨_, rfl⟩
  have N6 := Lib.hid (show NdAt w6 b n6 by
    rw [← hw6]
    have m1 := N4.out.set 0 (.int .i64 L.rt) (mkN t L.rt r0 h0 z0 m0) (by rw [← HN.out]; rfl) (by rw [← HN.out]; rfl)
    exact m1.set 1 (.int .i64 R.rt) n6 (by rw [← hn6]; rfl) (by rw [← hn6]; rfl))
  have K6 := Lib.hid (show Below w.heap.size w w6 by rw [← hw6]; exact (K4.out.setCell (p := ⟨b, _, none⟩) HBL.out _).setCell (p := ⟨b, _, none⟩) HBL.out _)
  have hset := set_tree (HW.out w6 K6.out) HI.out t L R h0 z0 m0 HL.out.1 HL.out.2 HO.out.1
  rw [hn6] at hset
  unfold Nd.V at hset
  have HW6 := Lib.hid hw6
  clear hw6
  go_wp2_with (first | (refine wpList_store_row rfl 80 (.tmp 17) (.tmp 72) rfl w3.heap.size n.C.toArray rfl rfl 80 _ (heap_alloc_new w3 _) (nd_info n) (by simp [Nd.C_len]) (all_oneCell_toArray n.C_one) ?_; rw [alloc_setRow, HE.out.1, HE.out.2]) | (rw [HW6.out]; (refine wpList_load_row rfl 80 (.tmp 17) rfl b rfl 80 n6.C.toArray (0, 0) _ N6.out.blk Try.underlying80 rfl (nd_info n6) ?_)))
  clear hc1 hc2 fz
  refine hset.mono ?_
  clear hset
  rintro e w7 ⟨⟨v7, rfl⟩, hT7, hH7, hg7⟩
  have S7 := Lib.hid (And.intro hT7 (And.intro hH7 ((Grow.of_below K6.out).trans hg7)))
  clear hT7 hH7 hg7
  go_wp2_with fail
  go_ret
  refine ⟨_, rfl, .nd i t L R, _, rfl, S7.out.1, S7.out.2.1, HO.out.2, fun q hq => gt_set_other (gt_lt HI.out) _ (fun e => hq (by rw [e, ← HO.out.2]; simp [Tr.nodes, ids])), List.length_set, S7.out.2.2⟩

set_option maxHeartbeats 4000000 in
theorem join_left {w : World} {F : Nat → Prop} {gT gA : Nat} {root : Int} {s : List (Option Nd)} {fr : List Nat} (h : TreeW w F gT gA root s fr) {i k : Nat} {t u : Th} {A B R : Tr} {l0 r0 h0 z0 m0 : Int} (hi : gt s i = some (mkN t l0 r0 h0 z0 m0)) (hl : Holds s (.nd k u A B)) (hr : Holds s (R)) (ho : OkL (Tr.nd i t (.nd k u A B) (R)).nodes) (h1 : 1 < (Tr.nd k u A B).h - R.h)
    (ih : ∀ (w : World) (s : List (Option Nd)), TreeW w F gT gA root s fr → gt s i = some (mkN t l0 r0 h0 z0 m0) → Holds s B → Holds s R → OkL (Tr.nd i t B R).nodes → Calls Try.prog 46 #[.pointer (some ⟨gT, 0, none⟩), .int .i64 B.rt, .int .i64 i, .int .i64 R.rt] w fun e w' => ∃ v, e = .returned v ∧ Post w F gT gA root s fr (Tr.nd i t B R).nodes v w') :
    Calls Try.prog 46 #[.pointer (some ⟨gT, 0, none⟩), .int .i64 (Tr.nd k u A B).rt, .int .i64 i, .int .i64 (R).rt] w fun e w' => ∃ v, e = .returned v ∧ Post w F gT gA root s fr (Tr.nd i t (.nd k u A B) (R)).nodes v w' := by
  have hLs := Tr.sm (T := .nd k u A B) ho.left
  have hRs := Tr.sm (T := R) (OkL.right (A := (Tr.nd k u A B).nodes) (B := (i, t) :: (R).nodes) ho).tail
  have HTa := Lib.hid (fun (w1 : World) (hb : Below w.heap.size w w1) => totals_any (h.below hb) hl.okR)
  have HTb := Lib.hid (fun (w1 : World) (hb : Below w.heap.size w w1) => totals_any (h.below hb) hr.okR)
  obtain ⟨ha, hha⟩ : ∃ x, (Tr.nd k u A B).h = x := ⟨_, rfl⟩
  obtain ⟨hb', hhb⟩ : ∃ x, (R).h = x := ⟨_, rfl⟩
  rw [hl.tot.1, hha] at HTa
  rw [hr.tot.1, hhb] at HTb
  have HW := Lib.hid (fun (w1 : World) (hb : Below w.heap.size w w1) => h.below hb)
  have HFL := Lib.hid h.ar.lt
  have HGT := Lib.hid h.lt
  have K0 := Lib.hid (Below.refl w.heap.size w)
  obtain ⟨LL, hLL⟩ : ∃ x, (Tr.nd i t (.nd k u A B) (R)).nodes = x := ⟨_, rfl⟩
  have HO := Lib.hid (And.intro ho hLL)
  obtain ⟨a1, a2⟩ := hLs.1
  obtain ⟨b1, b2⟩ := hRs.1
  rw [hha] at a1 a2
  rw [hhb] at b1 b2
  have g1 : IntKind.i64.wrap (hb' + 1) = hb' + 1 := IntWalk.i64_in _ (by omega)
  have g2 : IntKind.i64.wrap (ha + 1) = ha + 1 := IntWalk.i64_in _ (by omega)
  have c1 : hb' + 1 < ha := by omega
  have HI0 := Lib.hid hi
  have HK0 := Lib.hid hl.1
  have HOT := Lib.hid hl.2.1
  have HSB := Lib.hid (And.intro hl.2.2 hr)
  have hsub : OkL (Tr.nd i t B R).nodes := (OkL.right (A := A.nodes) (B := (k, u) :: (B.nodes ++ (i, t) :: R.nodes)) (by simpa [Tr.nodes] using ho)).tail
  have HSUB := Lib.hid hsub
  have hks : k ∉ ids (Tr.nd i t B R).nodes := by
    have hn := (OkL.right (A := A.nodes) (B := (k, u) :: (B.nodes ++ (i, t) :: R.nodes)) (by simpa [Tr.nodes] using ho)).nodup
    rw [ids, List.map_cons, List.nodup_cons] at hn
    exact hn.1
  have HAP := Lib.hid (fun z hz e => OkL.apart (A := A.nodes) (B := (k, u) :: (B.nodes ++ (i, t) :: R.nodes)) (by simpa [Tr.nodes] using ho) z hz (by rw [ids, List.map_cons]; exact List.mem_cons.2 (.inr e)) : ∀ z, z ∈ ids A.nodes → z ∈ ids (Tr.nd i t B R).nodes → False)
  clear hha hhb h1 hi hl hr hsub
  rw [hLL]
  clear h ho hLL hLs hRs
  go_enter Try.func46, Try.ntmps46
  go_wp2_with fail
  refine (HTa.out w K0.out).mono ?_
  rintro e w1 ⟨rfl, hb1⟩
  have K1 := Lib.hid hb1
  clear hb1
  go_wp2_with fail
  refine (HTb.out w1 K1.out).mono ?_
  rintro e w2 ⟨rfl, hb2⟩
  have K2 := Lib.hid (K1.out.trans (hb2.mono K1.out.size))
  clear hb2 HTa HTb
  have HAt := Lib.hid (at_any (HW.out w2 K2.out) HK0.out)
  obtain ⟨n, hn⟩ : ∃ x, topN u A B = x := ⟨_, rfl⟩
  have hnc : n.r = B.rt := by rw [← hn]; rfl
  have HN := Lib.hid hn
  rw [hn] at HAt
  unfold Nd.V at HAt
  clear hn
  go_wp2_with fail
  refine HAt.out.mono ?_
  rintro e w3 ⟨rfl, hb3⟩
  obtain ⟨b, hb⟩ : ∃ b, w3.heap.size = b := ⟨_, rfl⟩
  obtain ⟨w4, hw4⟩ : ∃ v, w3.alloc (.cells n.C.toArray 80) = v := ⟨_, rfl⟩
  have hk3 : Below w.heap.size w w3 := K2.out.trans (hb3.mono K2.out.size)
  have N4 := Lib.hid (show NdAt w4 b n by rw [← hw4, ← hb]; exact NdAt.new w3 n)
  have K4 := Lib.hid (show Below w.heap.size w w4 by rw [← hw4]; exact hk3.alloc hk3.size _)
  have HE := Lib.hid (And.intro hw4 hb)
  have HBL := Lib.hid (show w.heap.size ≤ b by have := hk3.size; omega)
  clear hb3 hw4 hb hk3 HAt
  have HI := Lib.hid (ih w4 s (HW.out w4 K4.out) HI0.out HSB.out.1 HSB.out.2 HSUB.out)
  have hc := N4.out.cR
  rw [hnc] at hc
  go_wp2_with (refine wpList_store_row rfl 80 (.tmp 15) (.tmp 39) rfl w3.heap.size n.C.toArray rfl rfl 80 _ (heap_alloc_new w3 _) (nd_info n) (by simp [Nd.C_len]) (all_oneCell_toArray n.C_one) ?_; rw [alloc_setRow, HE.out.1, HE.out.2])
  clear hc
  refine HI.out.mono ?_
  rintro e w5 ⟨v5, rfl, T', s5, rfl, hT5, hH5, hnod, hk5, hl5, hg5⟩
  have N5 := Lib.hid (N4.out.step hg5.step (fun hF => by have := HFL.out _ hF; have := HBL.out; omega))
  have hk0 : gt s5 k = some (topN u A B) := (hk5 _ (hks)).trans HK0.out
  have HO5 := Lib.hid (HOT.out.keep (s' := s5) (fun z hz => hk5 z (fun e => HAP.out z hz e)))
  have okx : OkL (Tr.nd k u A T').nodes := by have h1 := HO.out.1; rw [Tr.nodes, hnod]; simpa [Tr.nodes] using h1
  have G5 := (Grow.of_below K4.out).trans hg5
  have hc := N5.out.cR
  have fz := N5.out.fz
  obtain ⟨n6, hn6⟩ : ∃ x, mkN u A.rt T'.rt n.h n.sz n.mk_ = x := ⟨_, rfl⟩
  obtain ⟨w6, hw6⟩ : ∃ x, w5.setCell ⟨b, 3, none⟩ (.int .i64 T'.rt) = x := ⟨_, rfl⟩
  have N6 := Lib.hid (show NdAt w6 b n6 by rw [← hw6]; exact N5.out.set 1 (.int .i64 T'.rt) n6 (by rw [← hn6, ← HN.out]; rfl) (by rw [← hn6, ← HN.out]; rfl))
  have G6 := Lib.hid (show Grow F w w6 F by rw [← hw6]; exact ⟨G5.step.setCell (p := ⟨b, _, none⟩) (.inr HBL.out) _, G5.new⟩)
  have T6 := Lib.hid (show TreeW w6 F gT gA root s5 fr from hT5.step (G := fun x => x = b) (by rw [← hw6]; exact (Step.refl (fun x => x = b) w5).setCell (p := ⟨b, _, none⟩) (.inl rfl) _) (fun x hF e => by have := HFL.out x hF; have := HBL.out; have e : x = b := e; omega) (fun e => by have := HGT.out; have := HBL.out; have e : gT = b := e; omega))
  have hbal := balance_any T6.out hk0 n.h n.sz n.mk_ HO5.out hH5 okx
  rw [hn6] at hbal
  unfold Nd.V at hbal
  have HBAL := Lib.hid hbal
  have HW6 := Lib.hid hw6
  have H5 := Lib.hid (And.intro hnod (And.intro (show ∀ z, z ∉ ids (Tr.nd i t B R).nodes → gt s5 z = gt s z from hk5) hl5))
  clear hw6 hT5 hH5 hk5 hl5 hg5 G5 hk0 hbal okx HI hnod
  go_wp2_with (rw [HW6.out]; (refine wpList_load_row rfl 80 (.tmp 15) rfl b rfl 80 n6.C.toArray (0, 0) _ N6.out.blk Try.underlying80 rfl (nd_info n6) ?_))
  clear hc fz
  refine HBAL.out.mono ?_
  rintro e w8 ⟨v8, rfl, T8, s8, rfl, hT8, hH8, hn8, hk8, hl8, hg8⟩
  have nod8 : T8.nodes = LL := by rw [hn8, ← HO.out.2]; rw [Tr.nodes, H5.out.1]; simp [Tr.nodes]
  have S8 := Lib.hid (And.intro hT8 (And.intro hH8 (And.intro nod8 (And.intro (show ∀ q, q ∉ ids LL → gt s8 q = gt s q from fun q hq => (hk8 q (fun e => hq (by rw [← nod8, hn8]; exact e))).trans (H5.out.2.1 q (fun e => hq (by rw [← HO.out.2]; simp only [Tr.nodes, ids, List.map_append, List.map_cons, List.mem_append, List.mem_cons] at e ⊢; rcases e with e | e | e; exact .inl (.inr (.inr e)); exact .inr (.inl e); exact .inr (.inr e))))) (And.intro (hl8.trans H5.out.2.2) (G6.out.trans hg8))))))
  clear hT8 hH8 hn8 hk8 hl8 hg8 nod8
  go_wp2_with fail
  go_ret
  exact ⟨_, rfl, T8, s8, rfl, S8.out.1, S8.out.2.1, S8.out.2.2.1, S8.out.2.2.2.1, S8.out.2.2.2.2.1, S8.out.2.2.2.2.2⟩

set_option maxHeartbeats 4000000 in
theorem join_right {w : World} {F : Nat → Prop} {gT gA : Nat} {root : Int} {s : List (Option Nd)} {fr : List Nat} (h : TreeW w F gT gA root s fr) {i k : Nat} {t u : Th} {L A B : Tr} {l0 r0 h0 z0 m0 : Int} (hi : gt s i = some (mkN t l0 r0 h0 z0 m0)) (hl : Holds s (L)) (hr : Holds s (.nd k u A B)) (ho : OkL (Tr.nd i t (L) (.nd k u A B)).nodes) (h1 : L.h - (Tr.nd k u A B).h < -1)
    (ih : ∀ (w : World) (s : List (Option Nd)), TreeW w F gT gA root s fr → gt s i = some (mkN t l0 r0 h0 z0 m0) → Holds s L → Holds s A → OkL (Tr.nd i t L A).nodes → Calls Try.prog 46 #[.pointer (some ⟨gT, 0, none⟩), .int .i64 L.rt, .int .i64 i, .int .i64 A.rt] w fun e w' => ∃ v, e = .returned v ∧ Post w F gT gA root s fr (Tr.nd i t L A).nodes v w') :
    Calls Try.prog 46 #[.pointer (some ⟨gT, 0, none⟩), .int .i64 (L).rt, .int .i64 i, .int .i64 (Tr.nd k u A B).rt] w fun e w' => ∃ v, e = .returned v ∧ Post w F gT gA root s fr (Tr.nd i t (L) (.nd k u A B)).nodes v w' := by
  have hLs := Tr.sm (T := L) ho.left
  have hRs := Tr.sm (T := .nd k u A B) (OkL.right (A := (L).nodes) (B := (i, t) :: (Tr.nd k u A B).nodes) ho).tail
  have HTa := Lib.hid (fun (w1 : World) (hb : Below w.heap.size w w1) => totals_any (h.below hb) hl.okR)
  have HTb := Lib.hid (fun (w1 : World) (hb : Below w.heap.size w w1) => totals_any (h.below hb) hr.okR)
  obtain ⟨ha, hha⟩ : ∃ x, (L).h = x := ⟨_, rfl⟩
  obtain ⟨hb', hhb⟩ : ∃ x, (Tr.nd k u A B).h = x := ⟨_, rfl⟩
  rw [hl.tot.1, hha] at HTa
  rw [hr.tot.1, hhb] at HTb
  have HW := Lib.hid (fun (w1 : World) (hb : Below w.heap.size w w1) => h.below hb)
  have HFL := Lib.hid h.ar.lt
  have HGT := Lib.hid h.lt
  have K0 := Lib.hid (Below.refl w.heap.size w)
  obtain ⟨LL, hLL⟩ : ∃ x, (Tr.nd i t (L) (.nd k u A B)).nodes = x := ⟨_, rfl⟩
  have HO := Lib.hid (And.intro ho hLL)
  obtain ⟨a1, a2⟩ := hLs.1
  obtain ⟨b1, b2⟩ := hRs.1
  rw [hha] at a1 a2
  rw [hhb] at b1 b2
  have g1 : IntKind.i64.wrap (hb' + 1) = hb' + 1 := IntWalk.i64_in _ (by omega)
  have g2 : IntKind.i64.wrap (ha + 1) = ha + 1 := IntWalk.i64_in _ (by omega)
  have c1 : ¬ hb' + 1 < ha := by omega
  have c2 : ha + 1 < hb' := by omega
  have HI0 := Lib.hid hi
  have HK0 := Lib.hid hr.1
  have HOT := Lib.hid hr.2.2
  have HSB := Lib.hid (And.intro hl hr.2.1)
  have ho2 : OkL ((L.nodes ++ (i, t) :: A.nodes) ++ (k, u) :: B.nodes) := by simpa [Tr.nodes] using ho
  have hsub : OkL (Tr.nd i t L A).nodes := ho2.left
  have HSUB := Lib.hid hsub
  have hks : k ∉ ids (Tr.nd i t L A).nodes := fun e => ho2.apart k e (by simp [ids])
  have HAP := Lib.hid (fun z hz e => ho2.apart z e (by rw [ids, List.map_cons]; exact List.mem_cons.2 (.inr hz)) : ∀ z, z ∈ ids B.nodes → z ∈ ids (Tr.nd i t L A).nodes → False)
  clear hha hhb h1 hi hl hr hsub ho2
  rw [hLL]
  clear h ho hLL hLs hRs
  go_enter Try.func46, Try.ntmps46
  go_wp2_with fail
  refine (HTa.out w K0.out).mono ?_
  rintro e w1 ⟨rfl, hb1⟩
  have K1 := Lib.hid hb1
  clear hb1
  go_wp2_with fail
  refine (HTb.out w1 K1.out).mono ?_
  rintro e w2 ⟨rfl, hb2⟩
  have K2 := Lib.hid (K1.out.trans (hb2.mono K1.out.size))
  clear hb2 HTa HTb
  have HAt := Lib.hid (at_any (HW.out w2 K2.out) HK0.out)
  obtain ⟨n, hn⟩ : ∃ x, topN u A B = x := ⟨_, rfl⟩
  have hnc : n.l = A.rt := by rw [← hn]; rfl
  have HN := Lib.hid hn
  rw [hn] at HAt
  unfold Nd.V at HAt
  clear hn
  go_wp2_with fail
  refine HAt.out.mono ?_
  rintro e w3 ⟨rfl, hb3⟩
  obtain ⟨b, hb⟩ : ∃ b, w3.heap.size = b := ⟨_, rfl⟩
  obtain ⟨w4, hw4⟩ : ∃ v, w3.alloc (.cells n.C.toArray 80) = v := ⟨_, rfl⟩
  have hk3 : Below w.heap.size w w3 := K2.out.trans (hb3.mono K2.out.size)
  have N4 := Lib.hid (show NdAt w4 b n by rw [← hw4, ← hb]; exact NdAt.new w3 n)
  have K4 := Lib.hid (show Below w.heap.size w w4 by rw [← hw4]; exact hk3.alloc hk3.size _)
  have HE := Lib.hid (And.intro hw4 hb)
  have HBL := Lib.hid (show w.heap.size ≤ b by have := hk3.size; omega)
  clear hb3 hw4 hb hk3 HAt
  have HI := Lib.hid (ih w4 s (HW.out w4 K4.out) HI0.out HSB.out.1 HSB.out.2 HSUB.out)
  have hc := N4.out.cL
  rw [hnc] at hc
  go_wp2_with (refine wpList_store_row rfl 80 (.tmp 16) (.tmp 58) rfl w3.heap.size n.C.toArray rfl rfl 80 _ (heap_alloc_new w3 _) (nd_info n) (by simp [Nd.C_len]) (all_oneCell_toArray n.C_one) ?_; rw [alloc_setRow, HE.out.1, HE.out.2])
  clear hc
  refine HI.out.mono ?_
  rintro e w5 ⟨v5, rfl, T', s5, rfl, hT5, hH5, hnod, hk5, hl5, hg5⟩
  have N5 := Lib.hid (N4.out.step hg5.step (fun hF => by have := HFL.out _ hF; have := HBL.out; omega))
  have hk0 : gt s5 k = some (topN u A B) := (hk5 _ (hks)).trans HK0.out
  have HO5 := Lib.hid (HOT.out.keep (s' := s5) (fun z hz => hk5 z (fun e => HAP.out z hz e)))
  have okx : OkL (Tr.nd k u T' B).nodes := by have h1 := HO.out.1; rw [Tr.nodes, hnod]; simpa [Tr.nodes] using h1
  have G5 := (Grow.of_below K4.out).trans hg5
  have hc := N5.out.cL
  have fz := N5.out.fz
  obtain ⟨n6, hn6⟩ : ∃ x, mkN u T'.rt B.rt n.h n.sz n.mk_ = x := ⟨_, rfl⟩
  obtain ⟨w6, hw6⟩ : ∃ x, w5.setCell ⟨b, 2, none⟩ (.int .i64 T'.rt) = x := ⟨_, rfl⟩
  have N6 := Lib.hid (show NdAt w6 b n6 by rw [← hw6]; exact N5.out.set 0 (.int .i64 T'.rt) n6 (by rw [← hn6, ← HN.out]; rfl) (by rw [← hn6, ← HN.out]; rfl))
  have G6 := Lib.hid (show Grow F w w6 F by rw [← hw6]; exact ⟨G5.step.setCell (p := ⟨b, _, none⟩) (.inr HBL.out) _, G5.new⟩)
  have T6 := Lib.hid (show TreeW w6 F gT gA root s5 fr from hT5.step (G := fun x => x = b) (by rw [← hw6]; exact (Step.refl (fun x => x = b) w5).setCell (p := ⟨b, _, none⟩) (.inl rfl) _) (fun x hF e => by have := HFL.out x hF; have := HBL.out; have e : x = b := e; omega) (fun e => by have := HGT.out; have := HBL.out; have e : gT = b := e; omega))
  have hbal := balance_any T6.out hk0 n.h n.sz n.mk_ hH5 HO5.out okx
  rw [hn6] at hbal
  unfold Nd.V at hbal
  have HBAL := Lib.hid hbal
  have HW6 := Lib.hid hw6
  have H5 := Lib.hid (And.intro hnod (And.intro (show ∀ z, z ∉ ids (Tr.nd i t L A).nodes → gt s5 z = gt s z from hk5) hl5))
  clear hw6 hT5 hH5 hk5 hl5 hg5 G5 hk0 hbal okx HI hnod
  go_wp2_with (rw [HW6.out]; (refine wpList_load_row rfl 80 (.tmp 16) rfl b rfl 80 n6.C.toArray (0, 0) _ N6.out.blk Try.underlying80 rfl (nd_info n6) ?_))
  clear hc fz
  refine HBAL.out.mono ?_
  rintro e w8 ⟨v8, rfl, T8, s8, rfl, hT8, hH8, hn8, hk8, hl8, hg8⟩
  have nod8 : T8.nodes = LL := by rw [hn8, ← HO.out.2]; rw [Tr.nodes, H5.out.1]; simp [Tr.nodes]
  have S8 := Lib.hid (And.intro hT8 (And.intro hH8 (And.intro nod8 (And.intro (show ∀ q, q ∉ ids LL → gt s8 q = gt s q from fun q hq => (hk8 q (fun e => hq (by rw [← nod8, hn8]; exact e))).trans (H5.out.2.1 q (fun e => hq (by rw [← HO.out.2]; simp only [Tr.nodes, ids, List.map_append, List.map_cons, List.mem_append, List.mem_cons] at e ⊢; rcases e with e | e | e; exact .inl e; exact .inr (.inl e); exact .inr (.inr (.inl e)))))) (And.intro (hl8.trans H5.out.2.2) (G6.out.trans hg8))))))
  clear hT8 hH8 hn8 hk8 hl8 hg8 nod8
  go_wp2_with fail
  go_ret
  exact ⟨_, rfl, T8, s8, rfl, S8.out.1, S8.out.2.1, S8.out.2.2.1, S8.out.2.2.2.1, S8.out.2.2.2.2.1, S8.out.2.2.2.2.2⟩

/-- join. -/
theorem join_any {F : Nat → Prop} {gT gA : Nat} {root : Int} {fr : List Nat} {i : Nat} {t : Th} {l0 r0 h0 z0 m0 : Int} : ∀ (m : Nat) (L R : Tr), L.nodes.length + R.nodes.length ≤ m → ∀ (w : World) (s : List (Option Nd)), TreeW w F gT gA root s fr → gt s i = some (mkN t l0 r0 h0 z0 m0) → Holds s L → Holds s R → OkL (Tr.nd i t L R).nodes →
    Calls Try.prog 46 #[.pointer (some ⟨gT, 0, none⟩), .int .i64 L.rt, .int .i64 i, .int .i64 R.rt] w fun e w' => ∃ v, e = .returned v ∧ Post w F gT gA root s fr (Tr.nd i t L R).nodes v w' := by
  intro m
  induction m with
  | zero =>
    intro L R hm w s h hi hl hr ho
    have h1 := L.h_le
    have h2 := R.h_le
    exact join_mid h hi hl hr ho (by omega) (by omega)
  | succ m ih =>
    intro L R hm w s h hi hl hr ho
    by_cases h1 : 1 < L.h - R.h
    · cases L with
      | nil => have := R.h_le; simp only [Tr.h] at h1; omega
      | nd k u A B => exact join_left h hi hl hr ho h1 (fun w s => ih B R (by simp [Tr.nodes] at hm; omega) w s)
    · by_cases h2 : L.h - R.h < -1
      · cases R with
        | nil => have := L.h_le; simp only [Tr.h] at h2; omega
        | nd k u A B => exact join_right h hi hl hr ho h2 (fun w s => ih L A (by simp [Tr.nodes] at hm; omega) w s)
      · exact join_mid h hi hl hr ho (by omega) (by omega)

end Go.Proofs.Ytbioomilnjikpaa
