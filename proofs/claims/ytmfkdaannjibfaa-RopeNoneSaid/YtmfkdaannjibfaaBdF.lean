/-
  Several texts in one: RoL, RoM, RoN, RoO, RoP, RoQ.
-/
import Derived.Deep.DeepCutAuto
import Derived.Deep.CutRange
import Derived.Test.YtmfkdaannjibfaaBdE

namespace Go.Proofs.Ytmfkdaannjibfaa
open Go.RowKit

set_option maxHeartbeats 4000000 in
theorem join_mid {w : World} {F : Nat → Prop} {gT gA : Nat} {root : Int} {s : List (Option Nd)} {fr : List Nat} (h : TreeW w F gT gA root s fr) {i : Nat} {t : Th} {L R : Tr} {l0 r0 h0 z0 m0 : Int} (hi : gt s i = some (mkN t l0 r0 h0 z0 m0)) (hl : Holds s (L)) (hr : Holds s (R)) (ho : OkL (Tr.nd i t (L) (R)).nodes) (h1 : L.h - R.h ≤ 1) (h2 : -1 ≤ L.h - R.h) :
    Calls Try.prog 60 #[.pointer (some ⟨gT, 0, none⟩), .int .i64 (L).rt, .int .i64 i, .int .i64 (R).rt] w fun e w' => ∃ v, e = .returned v ∧ Post w F gT gA root s fr (Tr.nd i t (L) (R)).nodes v w' := by
  have hLs := Tr.sm (T := L) ho.left
  have hRs := Tr.sm (T := R) (OkL.right (A := (L).nodes) (B := (i, t) :: (R).nodes) ho).tail
  have HTa := Lib.hid (fun (w1 : World) (hb : Below w.heap.size w w1) => totals_any (h.below hb) hl.okR)
  have HTb := Lib.hid (fun (w1 : World) (hb : Below w.heap.size w w1) => totals_any (h.below hb) hr.okR)
  obtain ⟨ha, hha⟩ : ∃ x, (L).h = x := ⟨_, rfl⟩
  obtain ⟨hb', hhb⟩ : ∃ x, (R).h = x := ⟨_, rfl⟩
  rw [hl.tot.1, hha] at HTa
  rw [hr.tot.1, hhb] at HTb
  have HW := Lib.hid (fun (w1 : World) (hb : Below w.heap.size w w1) => h.below hb)
  have HFL := Lib.hid h.ar.lt
  have HGT := Lib.hid h.lt
  have K0 := Lib.hid (Below.refl w.heap.size w)
  obtain ⟨LL, hLL⟩ : ∃ x, (Tr.nd i t (L) (R)).nodes = x := ⟨_, rfl⟩
  have HO := Lib.hid (And.intro ho hLL)
  obtain ⟨a1, a2⟩ := hLs.1
  obtain ⟨b1, b2⟩ := hRs.1
  rw [hha] at a1 a2
  rw [hhb] at b1 b2
  have g1 : IntKind.i64.wrap (hb' + 1) = hb' + 1 := IntWalk.i64_in _ (by omega)
  have g2 : IntKind.i64.wrap (ha + 1) = ha + 1 := IntWalk.i64_in _ (by omega)
  have c1 : ¬ hb' + 1 < ha := by omega
  have c2 : ¬ ha + 1 < hb' := by omega
  have HI := Lib.hid hi
  have HL := Lib.hid (And.intro hl hr)
  clear hha hhb h1 h2 hi hl hr
  rw [hLL]
  clear h ho hLL hLs hRs
  go_enter Try.func60, Try.ntmps60
  go_wp2_with fail
  refine (HTa.out w K0.out).mono ?_
  rintro e w1 ⟨rfl, hb1⟩
  have K1 := Lib.hid hb1
  clear hb1
  go_wp2_with fail
  refine (HTb.out w1 K1.out).mono ?_
  rintro e w2 ⟨rfl, hb2⟩
  have K2 := Lib.hid (K1.out.trans (hb2.mono K1.out.size))
  clear hb2 HTa HTb
  have HAt := Lib.hid (at_any (HW.out w2 K2.out) HI.out)
  obtain ⟨n, hn⟩ : ∃ x, mkN t l0 r0 h0 z0 m0 = x := ⟨_, rfl⟩
  have hnc : n.l = l0 := by rw [← hn]; rfl
  have HN := Lib.hid hn
  rw [hn] at HAt
  unfold Nd.V at HAt
  clear hn
  go_wp2_with fail
  refine HAt.out.mono ?_
  rintro e w3 ⟨rfl, hb3⟩
  obtain ⟨b, hb⟩ : ∃ b, w3.heap.size = b := ⟨_, rfl⟩
  obtain ⟨w4, hw4⟩ : ∃ v, w3.alloc (.cells n.C.toArray 103) = v := ⟨_, rfl⟩
  have hk3 : Below w.heap.size w w3 := K2.out.trans (hb3.mono K2.out.size)
  have N4 := Lib.hid (show NdAt w4 b n by rw [← hw4, ← hb]; exact NdAt.new w3 n)
  have K4 := Lib.hid (show Below w.heap.size w w4 by rw [← hw4]; exact hk3.alloc hk3.size _)
  have HE := Lib.hid (And.intro hw4 hb)
  have HBL := Lib.hid (show w.heap.size ≤ b by have := hk3.size; omega)
  clear hb3 hw4 hb hk3 HAt
  have hc1 := N4.out.cL
  have hc2 := N4.out.cR
  have fz := N4.out.fz
  obtain ⟨n6, hn6⟩ : ∃ x, mkN t L.rt R.rt h0 z0 m0 = x := ⟨_, rfl⟩
  obtain ⟨w6, hw6⟩ : ∃ x, (w4.setCell ⟨b, 33, none⟩ (.int .i64 L.rt)).setCell ⟨b, 34, none⟩ (.int .i64 R.rt) = x := ⟨_, rfl⟩
  have N6 := Lib.hid (show NdAt w6 b n6 by
    rw [← hw6]
    have m1 := N4.out.set 0 (.int .i64 L.rt) (mkN t L.rt r0 h0 z0 m0) (by rw [← HN.out]; rfl) (by rw [← HN.out]; rfl)
    exact m1.set 1 (.int .i64 R.rt) n6 (by rw [← hn6]; rfl) (by rw [← hn6]; rfl))
  have K6 := Lib.hid (show Below w.heap.size w w6 by rw [← hw6]; exact (K4.out.setCell (p := ⟨b, _, none⟩) HBL.out _).setCell (p := ⟨b, _, none⟩) HBL.out _)
  have hset := set_tree (HW.out w6 K6.out) HI.out t L R h0 z0 m0 HL.out.1 HL.out.2 HO.out.1
  rw [hn6] at hset
  unfold Nd.V at hset
  have HW6 := Lib.hid hw6
  clear hw6
  go_wp2_with (first | (refine wpList_store_row rfl 103 (.tmp 17) (.tmp 72) rfl w3.heap.size n.C.toArray rfl rfl 103 _ (heap_alloc_new w3 _) (nd_info n) (by simp [Nd.C_len]) (all_oneCell_toArray n.C_one) ?_; rw [alloc_setRow, HE.out.1, HE.out.2]) | (rw [HW6.out]; (refine wpList_load_row rfl 103 (.tmp 17) rfl b rfl 103 n6.C.toArray (0, 0) _ N6.out.blk Try.underlying103 rfl (nd_info n6) ?_)))
  clear hc1 hc2 fz
  refine hset.mono ?_
  clear hset
  rintro e w7 ⟨⟨v7, rfl⟩, hT7, hH7, hg7⟩
  have S7 := Lib.hid (And.intro hT7 (And.intro hH7 ((Grow.of_below K6.out).trans hg7)))
  clear hT7 hH7 hg7
  go_wp2_with fail
  go_ret
  refine ⟨_, rfl, .nd i t L R, _, rfl, S7.out.1, S7.out.2.1, HO.out.2, fun q hq => gt_set_other (gt_lt HI.out) _ (fun e => hq (by rw [e, ← HO.out.2]; simp [Tr.nodes, ids])), List.length_set, S7.out.2.2⟩

set_option maxHeartbeats 4000000 in
theorem join_left {w : World} {F : Nat → Prop} {gT gA : Nat} {root : Int} {s : List (Option Nd)} {fr : List Nat} (h : TreeW w F gT gA root s fr) {i k : Nat} {t u : Th} {A B R : Tr} {l0 r0 h0 z0 m0 : Int} (hi : gt s i = some (mkN t l0 r0 h0 z0 m0)) (hl : Holds s (.nd k u A B)) (hr : Holds s (R)) (ho : OkL (Tr.nd i t (.nd k u A B) (R)).nodes) (h1 : 1 < (Tr.nd k u A B).h - R.h)
    (ih : ∀ (w : World) (s : List (Option Nd)), TreeW w F gT gA root s fr → gt s i = some (mkN t l0 r0 h0 z0 m0) → Holds s B → Holds s R → OkL (Tr.nd i t B R).nodes → Calls Try.prog 60 #[.pointer (some ⟨gT, 0, none⟩), .int .i64 B.rt, .int .i64 i, .int .i64 R.rt] w fun e w' => ∃ v, e = .returned v ∧ Post w F gT gA root s fr (Tr.nd i t B R).nodes v w') :
    Calls Try.prog 60 #[.pointer (some ⟨gT, 0, none⟩), .int .i64 (Tr.nd k u A B).rt, .int .i64 i, .int .i64 (R).rt] w fun e w' => ∃ v, e = .returned v ∧ Post w F gT gA root s fr (Tr.nd i t (.nd k u A B) (R)).nodes v w' := by
  have hLs := Tr.sm (T := .nd k u A B) ho.left
  have hRs := Tr.sm (T := R) (OkL.right (A := (Tr.nd k u A B).nodes) (B := (i, t) :: (R).nodes) ho).tail
  have HTa := Lib.hid (fun (w1 : World) (hb : Below w.heap.size w w1) => totals_any (h.below hb) hl.okR)
  have HTb := Lib.hid (fun (w1 : World) (hb : Below w.heap.size w w1) => totals_any (h.below hb) hr.okR)
  obtain ⟨ha, hha⟩ : ∃ x, (Tr.nd k u A B).h = x := ⟨_, rfl⟩
  obtain ⟨hb', hhb⟩ : ∃ x, (R).h = x := ⟨_, rfl⟩
  rw [hl.tot.1, hha] at HTa
  rw [hr.tot.1, hhb] at HTb
  have HW := Lib.hid (fun (w1 : World) (hb : Below w.heap.size w w1) => h.below hb)
  have HFL := Lib.hid h.ar.lt
  have HGT := Lib.hid h.lt
  have K0 := Lib.hid (Below.refl w.heap.size w)
  obtain ⟨LL, hLL⟩ : ∃ x, (Tr.nd i t (.nd k u A B) (R)).nodes = x := ⟨_, rfl⟩
  have HO := Lib.hid (And.intro ho hLL)
  obtain ⟨a1, a2⟩ := hLs.1
  obtain ⟨b1, b2⟩ := hRs.1
  rw [hha] at a1 a2
  rw [hhb] at b1 b2
  have g1 : IntKind.i64.wrap (hb' + 1) = hb' + 1 := IntWalk.i64_in _ (by omega)
  have g2 : IntKind.i64.wrap (ha + 1) = ha + 1 := IntWalk.i64_in _ (by omega)
  have c1 : hb' + 1 < ha := by omega
  have HI0 := Lib.hid hi
  have HK0 := Lib.hid hl.1
  have HOT := Lib.hid hl.2.1
  have HSB := Lib.hid (And.intro hl.2.2 hr)
  have hsub : OkL (Tr.nd i t B R).nodes := (OkL.right (A := A.nodes) (B := (k, u) :: (B.nodes ++ (i, t) :: R.nodes)) (by simpa [Tr.nodes] using ho)).tail
  have HSUB := Lib.hid hsub
  have hks : k ∉ ids (Tr.nd i t B R).nodes := by
    have hn := (OkL.right (A := A.nodes) (B := (k, u) :: (B.nodes ++ (i, t) :: R.nodes)) (by simpa [Tr.nodes] using ho)).nodup
    rw [ids, List.map_cons, List.nodup_cons] at hn
    exact hn.1
  have HAP := Lib.hid (fun z hz e => OkL.apart (A := A.nodes) (B := (k, u) :: (B.nodes ++ (i, t) :: R.nodes)) (by simpa [Tr.nodes] using ho) z hz (by rw [ids, List.map_cons]; exact List.mem_cons.2 (.inr e)) : ∀ z, z ∈ ids A.nodes → z ∈ ids (Tr.nd i t B R).nodes → False)
  clear hha hhb h1 hi hl hr hsub
  rw [hLL]
  clear h ho hLL hLs hRs
  go_enter Try.func60, Try.ntmps60
  go_wp2_with fail
  refine (HTa.out w K0.out).mono ?_
  rintro e w1 ⟨rfl, hb1⟩
  have K1 := Lib.hid hb1
  clear hb1
  go_wp2_with fail
  refine (HTb.out w1 K1.out).mono ?_
  rintro e w2 ⟨rfl, hb2⟩
  have K2 := Lib.hid (K1.out.trans (hb2.mono K1.out.size))
  clear hb2 HTa HTb
  have HAt := Lib.hid (at_any (HW.out w2 K2.out) HK0.out)
  obtain ⟨n, hn⟩ : ∃ x, topN u A B = x := ⟨_, rfl⟩
  have hnc : n.r = B.rt := by rw [← hn]; rfl
  have HN := Lib.hid hn
  rw [hn] at HAt
  unfold Nd.V at HAt
  clear hn
  go_wp2_with fail
  refine HAt.out.mono ?_
  rintro e w3 ⟨rfl, hb3⟩
  obtain ⟨b, hb⟩ : ∃ b, w3.heap.size = b := ⟨_, rfl⟩
  obtain ⟨w4, hw4⟩ : ∃ v, w3.alloc (.cells n.C.toArray 103) = v := ⟨_, rfl⟩
  have hk3 : Below w.heap.size w w3 := K2.out.trans (hb3.mono K2.out.size)
  have N4 := Lib.hid (show NdAt w4 b n by rw [← hw4, ← hb]; exact NdAt.new w3 n)
  have K4 := Lib.hid (show Below w.heap.size w w4 by rw [← hw4]; exact hk3.alloc hk3.size _)
  have HE := Lib.hid (And.intro hw4 hb)
  have HBL := Lib.hid (show w.heap.size ≤ b by have := hk3.size; omega)
  clear hb3 hw4 hb hk3 HAt
  have HI := Lib.hid (ih w4 s (HW.out w4 K4.out) HI0.out HSB.out.1 HSB.out.2 HSUB.out)
  have hc := N4.out.cR
  rw [hnc] at hc
  go_wp2_with (refine wpList_store_row rfl 103 (.tmp 15) (.tmp 39) rfl w3.heap.size n.C.toArray rfl rfl 103 _ (heap_alloc_new w3 _) (nd_info n) (by simp [Nd.C_len]) (all_oneCell_toArray n.C_one) ?_; rw [alloc_setRow, HE.out.1, HE.out.2])
  clear hc
  refine HI.out.mono ?_
  rintro e w5 ⟨v5, rfl, T', s5, rfl, hT5, hH5, hnod, hk5, hl5, hg5⟩
  have N5 := Lib.hid (N4.out.step hg5.step (fun hF => by have := HFL.out _ hF; have := HBL.out; omega))
  have hk0 : gt s5 k = some (topN u A B) := (hk5 _ (hks)).trans HK0.out
  have HO5 := Lib.hid (HOT.out.keep (s' := s5) (fun z hz => hk5 z (fun e => HAP.out z hz e)))
  have okx : OkL (Tr.nd k u A T').nodes := by have h1 := HO.out.1; rw [Tr.nodes, hnod]; simpa [Tr.nodes] using h1
  have G5 := (Grow.of_below K4.out).trans hg5
  have hc := N5.out.cR
  have fz := N5.out.fz
  obtain ⟨n6, hn6⟩ : ∃ x, mkN u A.rt T'.rt n.h n.sz n.mk_ = x := ⟨_, rfl⟩
  obtain ⟨w6, hw6⟩ : ∃ x, w5.setCell ⟨b, 34, none⟩ (.int .i64 T'.rt) = x := ⟨_, rfl⟩
  have N6 := Lib.hid (show NdAt w6 b n6 by rw [← hw6]; exact N5.out.set 1 (.int .i64 T'.rt) n6 (by rw [← hn6, ← HN.out]; rfl) (by rw [← hn6, ← HN.out]; rfl))
  have G6 := Lib.hid (show Grow F w w6 F by rw [← hw6]; exact ⟨G5.step.setCell (p := ⟨b, _, none⟩) (.inr HBL.out) _, G5.new⟩)
  have T6 := Lib.hid (show TreeW w6 F gT gA root s5 fr from hT5.step (G := fun x => x = b) (by rw [← hw6]; exact (Step.refl (fun x => x = b) w5).setCell (p := ⟨b, _, none⟩) (.inl rfl) _) (fun x hF e => by have := HFL.out x hF; have := HBL.out; have e : x = b := e; omega) (fun e => by have := HGT.out; have := HBL.out; have e : gT = b := e; omega))
  have hbal := balance_any T6.out hk0 n.h n.sz n.mk_ HO5.out hH5 okx
  rw [hn6] at hbal
  unfold Nd.V at hbal
  have HBAL := Lib.hid hbal
  have HW6 := Lib.hid hw6
  have H5 := Lib.hid (And.intro hnod (And.intro (show ∀ z, z ∉ ids (Tr.nd i t B R).nodes → gt s5 z = gt s z from hk5) hl5))
  clear hw6 hT5 hH5 hk5 hl5 hg5 G5 hk0 hbal okx HI hnod
  go_wp2_with (rw [HW6.out]; (refine wpList_load_row rfl 103 (.tmp 15) rfl b rfl 103 n6.C.toArray (0, 0) _ N6.out.blk Try.underlying103 rfl (nd_info n6) ?_))
  clear hc fz
  refine HBAL.out.mono ?_
  rintro e w8 ⟨v8, rfl, T8, s8, rfl, hT8, hH8, hn8, hk8, hl8, hg8⟩
  have nod8 : T8.nodes = LL := by rw [hn8, ← HO.out.2]; rw [Tr.nodes, H5.out.1]; simp [Tr.nodes]
  have S8 := Lib.hid (And.intro hT8 (And.intro hH8 (And.intro nod8 (And.intro (show ∀ q, q ∉ ids LL → gt s8 q = gt s q from fun q hq => (hk8 q (fun e => hq (by rw [← nod8, hn8]; exact e))).trans (H5.out.2.1 q (fun e => hq (by rw [← HO.out.2]; simp only [Tr.nodes, ids, List.map_append, List.map_cons, List.mem_append, List.mem_cons] at e ⊢; rcases e with e | e | e; exact .inl (.inr (.inr e)); exact .inr (.inl e); exact .inr (.inr e))))) (And.intro (hl8.trans H5.out.2.2) (G6.out.trans hg8))))))
  clear hT8 hH8 hn8 hk8 hl8 hg8 nod8
  go_wp2_with fail
  go_ret
  exact ⟨_, rfl, T8, s8, rfl, S8.out.1, S8.out.2.1, S8.out.2.2.1, S8.out.2.2.2.1, S8.out.2.2.2.2.1, S8.out.2.2.2.2.2⟩

set_option maxHeartbeats 4000000 in
theorem join_right {w : World} {F : Nat → Prop} {gT gA : Nat} {root : Int} {s : List (Option Nd)} {fr : List Nat} (h : TreeW w F gT gA root s fr) {i k : Nat} {t u : Th} {L A B : Tr} {l0 r0 h0 z0 m0 : Int} (hi : gt s i = some (mkN t l0 r0 h0 z0 m0)) (hl : Holds s (L)) (hr : Holds s (.nd k u A B)) (ho : OkL (Tr.nd i t (L) (.nd k u A B)).nodes) (h1 : L.h - (Tr.nd k u A B).h < -1)
    (ih : ∀ (w : World) (s : List (Option Nd)), TreeW w F gT gA root s fr → gt s i = some (mkN t l0 r0 h0 z0 m0) → Holds s L → Holds s A → OkL (Tr.nd i t L A).nodes → Calls Try.prog 60 #[.pointer (some ⟨gT, 0, none⟩), .int .i64 L.rt, .int .i64 i, .int .i64 A.rt] w fun e w' => ∃ v, e = .returned v ∧ Post w F gT gA root s fr (Tr.nd i t L A).nodes v w') :
    Calls Try.prog 60 #[.pointer (some ⟨gT, 0, none⟩), .int .i64 (L).rt, .int .i64 i, .int .i64 (Tr.nd k u A B).rt] w fun e w' => ∃ v, e = .returned v ∧ Post w F gT gA root s fr (Tr.nd i t (L) (.nd k u A B)).nodes v w' := by
  have hLs := Tr.sm (T := L) ho.left
  have hRs := Tr.sm (T := .nd k u A B) (OkL.right (A := (L).nodes) (B := (i, t) :: (Tr.nd k u A B).nodes) ho).tail
  have HTa := Lib.hid (fun (w1 : World) (hb : Below w.heap.size w w1) => totals_any (h.below hb) hl.okR)
  have HTb := Lib.hid (fun (w1 : World) (hb : Below w.heap.size w w1) => totals_any (h.below hb) hr.okR)
  obtain ⟨ha, hha⟩ : ∃ x, (L).h = x := ⟨_, rfl⟩
  obtain ⟨hb', hhb⟩ : ∃ x, (Tr.nd k u A B).h = x := ⟨_, rfl⟩
  rw [hl.tot.1, hha] at HTa
  rw [hr.tot.1, hhb] at HTb
  have HW := Lib.hid (fun (w1 : World) (hb : Below w.heap.size w w1) => h.below hb)
  have HFL := Lib.hid h.ar.lt
  have HGT := Lib.hid h.lt
  have K0 := Lib.hid (Below.refl w.heap.size w)
  obtain ⟨LL, hLL⟩ : ∃ x, (Tr.nd i t (L) (.nd k u A B)).nodes = x := ⟨_, rfl⟩
  have HO := Lib.hid (And.intro ho hLL)
  obtain ⟨a1, a2⟩ := hLs.1
  obtain ⟨b1, b2⟩ := hRs.1
  rw [hha] at a1 a2
  rw [hhb] at b1 b2
  have g1 : IntKind.i64.wrap (hb' + 1) = hb' + 1 := IntWalk.i64_in _ (by omega)
  have g2 : IntKind.i64.wrap (ha + 1) = ha + 1 := IntWalk.i64_in _ (by omega)
  have c1 : ¬ hb' + 1 < ha := by omega
  have c2 : ha + 1 < hb' := by omega
  have HI0 := Lib.hid hi
  have HK0 := Lib.hid hr.1
  have HOT := Lib.hid hr.2.2
  have HSB := Lib.hid (And.intro hl hr.2.1)
  have ho2 : OkL ((L.nodes ++ (i, t) :: A.nodes) ++ (k, u) :: B.nodes) := by simpa [Tr.nodes] using ho
  have hsub : OkL (Tr.nd i t L A).nodes := ho2.left
  have HSUB := Lib.hid hsub
  have hks : k ∉ ids (Tr.nd i t L A).nodes := fun e => ho2.apart k e (by simp [ids])
  have HAP := Lib.hid (fun z hz e => ho2.apart z e (by rw [ids, List.map_cons]; exact List.mem_cons.2 (.inr hz)) : ∀ z, z ∈ ids B.nodes → z ∈ ids (Tr.nd i t L A).nodes → False)
  clear hha hhb h1 hi hl hr hsub ho2
  rw [hLL]
  clear h ho hLL hLs hRs
  go_enter Try.func60, Try.ntmps60
  go_wp2_with fail
  refine (HTa.out w K0.out).mono ?_
  rintro e w1 ⟨rfl, hb1⟩
  have K1 := Lib.hid hb1
  clear hb1
  go_wp2_with fail
  refine (HTb.out w1 K1.out).mono ?_
  rintro e w2 ⟨rfl, hb2⟩
  have K2 := Lib.hid (K1.out.trans (hb2.mono K1.out.size))
  clear hb2 HTa HTb
  have HAt := Lib.hid (at_any (HW.out w2 K2.out) HK0.out)
  obtain ⟨n, hn⟩ : ∃ x, topN u A B = x := ⟨_, rfl⟩
  have hnc : n.l = A.rt := by rw [← hn]; rfl
  have HN := Lib.hid hn
  rw [hn] at HAt
  unfold Nd.V at HAt
  clear hn
  go_wp2_with fail
  refine HAt.out.mono ?_
  rintro e w3 ⟨rfl, hb3⟩
  obtain ⟨b, hb⟩ : ∃ b, w3.heap.size = b := ⟨_, rfl⟩
  obtain ⟨w4, hw4⟩ : ∃ v, w3.alloc (.cells n.C.toArray 103) = v := ⟨_, rfl⟩
  have hk3 : Below w.heap.size w w3 := K2.out.trans (hb3.mono K2.out.size)
  have N4 := Lib.hid (show NdAt w4 b n by rw [← hw4, ← hb]; exact NdAt.new w3 n)
  have K4 := Lib.hid (show Below w.heap.size w w4 by rw [← hw4]; exact hk3.alloc hk3.size _)
  have HE := Lib.hid (And.intro hw4 hb)
  have HBL := Lib.hid (show w.heap.size ≤ b by have := hk3.size; omega)
  clear hb3 hw4 hb hk3 HAt
  have HI := Lib.hid (ih w4 s (HW.out w4 K4.out) HI0.out HSB.out.1 HSB.out.2 HSUB.out)
  have hc := N4.out.cL
  rw [hnc] at hc
  go_wp2_with (refine wpList_store_row rfl 103 (.tmp 16) (.tmp 58) rfl w3.heap.size n.C.toArray rfl rfl 103 _ (heap_alloc_new w3 _) (nd_info n) (by simp [Nd.C_len]) (all_oneCell_toArray n.C_one) ?_; rw [alloc_setRow, HE.out.1, HE.out.2])
  clear hc
  refine HI.out.mono ?_
  rintro e w5 ⟨v5, rfl, T', s5, rfl, hT5, hH5, hnod, hk5, hl5, hg5⟩
  have N5 := Lib.hid (N4.out.step hg5.step (fun hF => by have := HFL.out _ hF; have := HBL.out; omega))
  have hk0 : gt s5 k = some (topN u A B) := (hk5 _ (hks)).trans HK0.out
  have HO5 := Lib.hid (HOT.out.keep (s' := s5) (fun z hz => hk5 z (fun e => HAP.out z hz e)))
  have okx : OkL (Tr.nd k u T' B).nodes := by have h1 := HO.out.1; rw [Tr.nodes, hnod]; simpa [Tr.nodes] using h1
  have G5 := (Grow.of_below K4.out).trans hg5
  have hc := N5.out.cL
  have fz := N5.out.fz
  obtain ⟨n6, hn6⟩ : ∃ x, mkN u T'.rt B.rt n.h n.sz n.mk_ = x := ⟨_, rfl⟩
  obtain ⟨w6, hw6⟩ : ∃ x, w5.setCell ⟨b, 33, none⟩ (.int .i64 T'.rt) = x := ⟨_, rfl⟩
  have N6 := Lib.hid (show NdAt w6 b n6 by rw [← hw6]; exact N5.out.set 0 (.int .i64 T'.rt) n6 (by rw [← hn6, ← HN.out]; rfl) (by rw [← hn6, ← HN.out]; rfl))
  have G6 := Lib.hid (show Grow F w w6 F by rw [← hw6]; exact ⟨G5.step.setCell (p := ⟨b, _, none⟩) (.inr HBL.out) _, G5.new⟩)
  have T6 := Lib.hid (show TreeW w6 F gT gA root s5 fr from hT5.step (G := fun x => x = b) (by rw [← hw6]; exact (Step.refl (fun x => x = b) w5).setCell (p := ⟨b, _, none⟩) (.inl rfl) _) (fun x hF e => by have := HFL.out x hF; have := HBL.out; have e : x = b := e; omega) (fun e => by have := HGT.out; have := HBL.out; have e : gT = b := e; omega))
  have hbal := balance_any T6.out hk0 n.h n.sz n.mk_ hH5 HO5.out okx
  rw [hn6] at hbal
  unfold Nd.V at hbal
  have HBAL := Lib.hid hbal
  have HW6 := Lib.hid hw6
  have H5 := Lib.hid (And.intro hnod (And.intro (show ∀ z, z ∉ ids (Tr.nd i t L A).nodes → gt s5 z = gt s z from hk5) hl5))
  clear hw6 hT5 hH5 hk5 hl5 hg5 G5 hk0 hbal okx HI hnod
  go_wp2_with (rw [HW6.out]; (refine wpList_load_row rfl 103 (.tmp 16) rfl b rfl 103 n6.C.toArray (0, 0) _ N6.out.blk Try.underlying103 rfl (nd_info n6) ?_))
  clear hc fz
  refine HBAL.out.mono ?_
  rintro e w8 ⟨v8, rfl, T8, s8, rfl, hT8, hH8, hn8, hk8, hl8, hg8⟩
  have nod8 : T8.nodes = LL := by rw [hn8, ← HO.out.2]; rw [Tr.nodes, H5.out.1]; simp [Tr.nodes]
  have S8 := Lib.hid (And.intro hT8 (And.intro hH8 (And.intro nod8 (And.intro (show ∀ q, q ∉ ids LL → gt s8 q = gt s q from fun q hq => (hk8 q (fun e => hq (by rw [← nod8, hn8]; exact e))).trans (H5.out.2.1 q (fun e => hq (by rw [← HO.out.2]; simp only [Tr.nodes, ids, List.map_append, List.map_cons, List.mem_append, List.mem_cons] at e ⊢; rcases e with e | e | e; exact .inl e; exact .inr (.inl e); exact .inr (.inr (.inl e)))))) (And.intro (hl8.trans H5.out.2.2) (G6.out.trans hg8))))))
  clear hT8 hH8 hn8 hk8 hl8 hg8 nod8
  go_wp2_with fail
  go_ret
  exact ⟨_, rfl, T8, s8, rfl, S8.out.1, S8.out.2.1, S8.out.2.2.1, S8.out.2.2.2.1, S8.out.2.2.2.2.1, S8.out.2.2.2.2.2⟩

/-- join. -/
theorem join_any {F : Nat → Prop} {gT gA : Nat} {root : Int} {fr : List Nat} {i : Nat} {t : Th} {l0 r0 h0 z0 m0 : Int} : ∀ (m : Nat) (L R : Tr), L.nodes.length + R.nodes.length ≤ m → ∀ (w : World) (s : List (Option Nd)), TreeW w F gT gA root s fr → gt s i = some (mkN t l0 r0 h0 z0 m0) → Holds s L → Holds s R → OkL (Tr.nd i t L R).nodes →
    Calls Try.prog 60 #[.pointer (some ⟨gT, 0, none⟩), .int .i64 L.rt, .int .i64 i, .int .i64 R.rt] w fun e w' => ∃ v, e = .returned v ∧ Post w F gT gA root s fr (Tr.nd i t L R).nodes v w' := by
  intro m
  induction m with
  | zero =>
    intro L R hm w s h hi hl hr ho
    have h1 := L.h_le
    have h2 := R.h_le
    exact join_mid h hi hl hr ho (by omega) (by omega)
  | succ m ih =>
    intro L R hm w s h hi hl hr ho
    by_cases h1 : 1 < L.h - R.h
    · cases L with
      | nil => have := R.h_le; simp only [Tr.h] at h1; omega
      | nd k u A B => exact join_left h hi hl hr ho h1 (fun w s => ih B R (by simp [Tr.nodes] at hm; omega) w s)
    · by_cases h2 : L.h - R.h < -1
      · cases R with
        | nil => have := L.h_le; simp only [Tr.h] at h2; omega
        | nd k u A B => exact join_right h hi hl hr ho h2 (fun w s => ih L A (by simp [Tr.nodes] at hm; omega) w s)
      · exact join_mid h hi hl hr ho (by omega) (by omega)

end Go.Proofs.Ytmfkdaannjibfaa

namespace Go.Proofs.Ytmfkdaannjibfaa
open Go.RowKit

/-- What 'first', 'last' hand back: the rest, and the node that is taken off (at the head, or at the end). -/
def PostE (w : World) (F : Nat → Prop) (gT gA : Nat) (root : Int) (s : List (Option Nd)) (fr : List Nat) (L : List (Nat × Th)) (fst : Bool) (v : Value) (w' : World) : Prop :=
  ∃ (T : Tr) (s' : List (Option Nd)) (p : Nat) (x : Th) (l0 r0 h0 z0 m0 : Int), v = .tuple #[.int .i64 T.rt, .int .i64 p] ∧ TreeW w' F gT gA root s' fr ∧ Holds s' T ∧ L = (if fst then (p, x) :: T.nodes else T.nodes ++ [(p, x)]) ∧ gt s' p = some (mkN x l0 r0 h0 z0 m0) ∧
    (∀ j, j ∉ ids L → gt s' j = gt s j) ∧ s'.length = s.length ∧ Grow F w w' F

set_option maxHeartbeats 4000000 in
theorem first_base {w : World} {F : Nat → Prop} {gT gA : Nat} {root : Int} {s : List (Option Nd)} {fr : List Nat} (h : TreeW w F gT gA root s fr) {k : Nat} {u : Th} {B : Tr} (hT : Holds s (.nd k u .nil B)) :
    Calls Try.prog 58 #[.pointer (some ⟨gT, 0, none⟩), .int .i64 k] w fun e w' => ∃ v, e = .returned v ∧ PostE w F gT gA root s fr (Tr.nd k u .nil B).nodes true v w' := by
  have HW := Lib.hid (fun (w1 : World) (hb : Below w.heap.size w w1) => h.below hb)
  have HFL := Lib.hid h.ar.lt
  have HGT := Lib.hid h.lt
  have K0 := Lib.hid (Below.refl w.heap.size w)
  have HK0 := Lib.hid hT.1
  have HS := Lib.hid hT
  clear h hT
  go_enter Try.func58, Try.ntmps58
  go_wp2_with fail
  have HAt := Lib.hid (at_any (HW.out w K0.out) HK0.out)
  obtain ⟨n, hn⟩ : ∃ x, topN u .nil B = x := ⟨_, rfl⟩
  have hnc : n.l = -1 := by rw [← hn]; rfl
  have HN := Lib.hid hn
  rw [hn] at HAt
  unfold Nd.V at HAt
  clear hn
  refine HAt.out.mono ?_
  rintro e w1 ⟨rfl, hb1⟩
  obtain ⟨b, hb⟩ : ∃ b, w1.heap.size = b := ⟨_, rfl⟩
  obtain ⟨w2, hw2⟩ : ∃ v, w1.alloc (.cells n.C.toArray 103) = v := ⟨_, rfl⟩
  have hk1 : Below w.heap.size w w1 := K0.out.trans (hb1.mono K0.out.size)
  have N2 := Lib.hid (show NdAt w2 b n by rw [← hw2, ← hb]; exact NdAt.new w1 n)
  have K2 := Lib.hid (show Below w.heap.size w w2 by rw [← hw2]; exact hk1.alloc hk1.size _)
  have HE := Lib.hid (And.intro hw2 hb)
  have HBL := Lib.hid (show w.heap.size ≤ b by have := hk1.size; omega)
  clear hb1 hw2 hb hk1 HAt
  have hc := N2.out.cL
  have hc2 := N2.out.cR
  rw [hnc] at hc
  have hno : n.r = B.rt := by rw [← HN.out]; rfl
  rw [hno] at hc2
  go_wp2_with (refine wpList_store_row rfl 103 (.tmp 6) (.tmp 9) rfl w1.heap.size n.C.toArray rfl rfl 103 _ (heap_alloc_new w1 _) (nd_info n) (by simp [Nd.C_len]) (all_oneCell_toArray n.C_one) ?_; rw [alloc_setRow, HE.out.1, HE.out.2])
  exact bodyPost_ret (results_tmp2 rfl _ _ _) rfl ⟨_, rfl, B, s, k, u, _, _, _, _, _, rfl, HW.out w2 K2.out, HS.out.2.2, by simp [Tr.nodes], HK0.out, fun _ _ => rfl, rfl, Grow.of_below K2.out⟩

set_option maxHeartbeats 4000000 in
theorem first_rec {w : World} {F : Nat → Prop} {gT gA : Nat} {root : Int} {s : List (Option Nd)} {fr : List Nat} (h : TreeW w F gT gA root s fr) {k q : Nat} {u y : Th} {C D B : Tr} (hT : Holds s (.nd k u (.nd q y C D) B)) (ho : OkL (Tr.nd k u (.nd q y C D) B).nodes)
    (ih : ∀ (w : World) (s : List (Option Nd)), TreeW w F gT gA root s fr → Holds s (.nd q y C D) → OkL (Tr.nd q y C D).nodes → Calls Try.prog 58 #[.pointer (some ⟨gT, 0, none⟩), .int .i64 (Tr.nd q y C D).rt] w fun e w' => ∃ v, e = .returned v ∧ PostE w F gT gA root s fr (Tr.nd q y C D).nodes true v w') :
    Calls Try.prog 58 #[.pointer (some ⟨gT, 0, none⟩), .int .i64 k] w fun e w' => ∃ v, e = .returned v ∧ PostE w F gT gA root s fr (Tr.nd k u (.nd q y C D) B).nodes true v w' := by
  have HW := Lib.hid (fun (w1 : World) (hb : Below w.heap.size w w1) => h.below hb)
  have HFL := Lib.hid h.ar.lt
  have HGT := Lib.hid h.lt
  have K0 := Lib.hid (Below.refl w.heap.size w)
  have HK0 := Lib.hid hT.1
  obtain ⟨LL, hLL⟩ : ∃ x, (Tr.nd k u (.nd q y C D) B).nodes = x := ⟨_, rfl⟩
  have HSB := Lib.hid hT.2.1
  have HOT := Lib.hid hT.2.2
  have HSUB := Lib.hid (OkL.left (B := (k, u) :: B.nodes) ho)
  have hks : k ∉ ids (Tr.nd q y C D).nodes := fun e => OkL.apart (A := (Tr.nd q y C D).nodes) (B := (k, u) :: B.nodes) ho k e (by simp [ids])
  have HAP := Lib.hid (fun z hz e => OkL.apart (A := (Tr.nd q y C D).nodes) (B := (k, u) :: B.nodes) ho z e (by rw [ids, List.map_cons]; exact List.mem_cons.2 (.inr hz)) : ∀ z, z ∈ ids B.nodes → z ∈ ids (Tr.nd q y C D).nodes → False)
  have HO := Lib.hid (And.intro ho hLL)
  rw [hLL]
  clear h hT ho hLL
  go_enter Try.func58, Try.ntmps58
  go_wp2_with fail
  have HAt := Lib.hid (at_any (HW.out w K0.out) HK0.out)
  obtain ⟨n, hn⟩ : ∃ x, topN u (.nd q y C D) B = x := ⟨_, rfl⟩
  have hnc : n.l = (q : Int) := by rw [← hn]; rfl
  have HN := Lib.hid hn
  rw [hn] at HAt
  unfold Nd.V at HAt
  clear hn
  refine HAt.out.mono ?_
  rintro e w1 ⟨rfl, hb1⟩
  obtain ⟨b, hb⟩ : ∃ b, w1.heap.size = b := ⟨_, rfl⟩
  obtain ⟨w2, hw2⟩ : ∃ v, w1.alloc (.cells n.C.toArray 103) = v := ⟨_, rfl⟩
  have hk1 : Below w.heap.size w w1 := K0.out.trans (hb1.mono K0.out.size)
  have N2 := Lib.hid (show NdAt w2 b n by rw [← hw2, ← hb]; exact NdAt.new w1 n)
  have K2 := Lib.hid (show Below w.heap.size w w2 by rw [← hw2]; exact hk1.alloc hk1.size _)
  have HE := Lib.hid (And.intro hw2 hb)
  have HBL := Lib.hid (show w.heap.size ≤ b by have := hk1.size; omega)
  clear hb1 hw2 hb hk1 HAt
  have HI := Lib.hid (ih w2 s (HW.out w2 K2.out) HSB.out HSUB.out)
  have hc := N2.out.cL
  rw [hnc] at hc
  have hq1 : ((q : Int) == -1) = false := by simp
  go_wp2_with (refine wpList_store_row rfl 103 (.tmp 6) (.tmp 9) rfl w1.heap.size n.C.toArray rfl rfl 103 _ (heap_alloc_new w1 _) (nd_info n) (by simp [Nd.C_len]) (all_oneCell_toArray n.C_one) ?_; rw [alloc_setRow, HE.out.1, HE.out.2])
  clear hc
  refine HI.out.mono ?_
  rintro e w3 ⟨v3, rfl, T', s3, p, x, l0, r0, h0, z0, m0, rfl, hT3, hH3, hnod, hp3, hk3, hl3, hg3⟩
  have hnod : (Tr.nd q y C D).nodes = (p, x) :: T'.nodes := hnod
  have N3 := Lib.hid (N2.out.step hg3.step (fun hF => by have := HFL.out _ hF; have := HBL.out; omega))
  have hk0 : gt s3 k = some (topN u (.nd q y C D) B) := (hk3 _ hks).trans HK0.out
  have HT3 := Lib.hid hH3
  have HO3 := Lib.hid (HOT.out.keep (s' := s3) (fun z hz => hk3 z (fun e => HAP.out z hz e)))
  have hwhole : LL = (p, x) :: (Tr.nd k u T' B).nodes := by rw [← HO.out.2]; show (Tr.nd q y C D).nodes ++ (k, u) :: B.nodes = _; rw [hnod]; simp [Tr.nodes]
  have okw : OkL ((p, x) :: (Tr.nd k u T' B).nodes) := by rw [← hwhole, ← HO.out.2]; exact HO.out.1
  have okx : OkL (Tr.nd k u T' B).nodes := OkL.tail (p := (p, x)) okw
  have hpx : p ∉ ids (Tr.nd k u T' B).nodes := by have hn := okw.nodup; rw [ids, List.map_cons, List.nodup_cons] at hn; exact hn.1
  have G3 := (Grow.of_below K2.out).trans hg3
  have hc := N3.out.cL
  have fz := N3.out.fz
  obtain ⟨n6, hn6⟩ : ∃ x, mkN u T'.rt B.rt n.h n.sz n.mk_ = x := ⟨_, rfl⟩
  obtain ⟨w4, hw4⟩ : ∃ x, w3.setCell ⟨b, 33, none⟩ (.int .i64 T'.rt) = x := ⟨_, rfl⟩
  have N4 := Lib.hid (show NdAt w4 b n6 by rw [← hw4]; exact N3.out.set 0 (.int .i64 T'.rt) n6 (by rw [← hn6, ← HN.out]; rfl) (by rw [← hn6, ← HN.out]; rfl))
  have G4 := Lib.hid (show Grow F w w4 F by rw [← hw4]; exact ⟨G3.step.setCell (p := ⟨b, _, none⟩) (.inr HBL.out) _, G3.new⟩)
  have T4 := Lib.hid (show TreeW w4 F gT gA root s3 fr from hT3.step (G := fun x => x = b) (by rw [← hw4]; exact (Step.refl (fun x => x = b) w3).setCell (p := ⟨b, _, none⟩) (.inl rfl) _) (fun x hF e => by have := HFL.out x hF; have := HBL.out; have e : x = b := e; omega) (fun e => by have := HGT.out; have := HBL.out; have e : gT = b := e; omega))
  have hbal := balance_any T4.out hk0 n.h n.sz n.mk_ HT3.out HO3.out okx
  rw [hn6] at hbal
  unfold Nd.V at hbal
  have HBAL := Lib.hid hbal
  have HW4 := Lib.hid hw4
  have H3 := Lib.hid (And.intro hwhole (And.intro hp3 (And.intro hk3 (And.intro hl3 hpx))))
  clear hw4 hT3 hH3 hk3 hl3 hg3 G3 hk0 hbal okx okw HI hnod hp3 hwhole hpx
  go_wp2_with (rw [HW4.out]; (refine wpList_load_row rfl 103 (.tmp 6) rfl b rfl 103 n6.C.toArray (0, 0) _ N4.out.blk Try.underlying103 rfl (nd_info n6) ?_))
  clear hc fz
  refine HBAL.out.mono ?_
  rintro e w8 ⟨v8, rfl, T8, s8, rfl, hT8, hH8, hn8, hk8, hl8, hg8⟩
  have S8 := Lib.hid (And.intro hT8 (And.intro hH8 (And.intro (show LL = (p, x) :: T8.nodes by rw [hn8]; exact H3.out.1) (And.intro ((hk8 p H3.out.2.2.2.2).trans H3.out.2.1) (And.intro (show ∀ z, z ∉ ids LL → gt s8 z = gt s z from fun z hz => (hk8 z (fun e => hz (by rw [H3.out.1, ids]; rw [List.map_cons]; exact List.mem_cons.2 (.inr e)))).trans (H3.out.2.2.1 z (fun e => hz (by rw [← HO.out.2]; simp only [Tr.nodes, ids, List.map_append, List.map_cons, List.mem_append, List.mem_cons] at e ⊢; exact .inl e)))) (And.intro (hl8.trans H3.out.2.2.2.1) (G4.out.trans hg8)))))))
  clear hT8 hH8 hn8 hk8 hl8 hg8
  go_wp2_with fail
  exact bodyPost_ret (results_tmp2 rfl _ _ _) rfl ⟨_, rfl, T8, s8, p, x, _, _, _, _, _, rfl, S8.out.1, S8.out.2.1, S8.out.2.2.1, S8.out.2.2.2.1, S8.out.2.2.2.2.1, S8.out.2.2.2.2.2.1, S8.out.2.2.2.2.2.2⟩

theorem first_any {F : Nat → Prop} {gT gA : Nat} {root : Int} {fr : List Nat} : ∀ (T : Tr), T.rt ≠ -1 → ∀ (w : World) (s : List (Option Nd)), TreeW w F gT gA root s fr → Holds s T → OkL T.nodes →
    Calls Try.prog 58 #[.pointer (some ⟨gT, 0, none⟩), .int .i64 T.rt] w fun e w' => ∃ v, e = .returned v ∧ PostE w F gT gA root s fr T.nodes true v w'
  | .nil, h, _, _, _, _, _ => absurd rfl h
  | .nd k u .nil B, _, _, _, h, hT, _ => first_base h hT
  | .nd k u (.nd q y C D) B, _, _, _, h, hT, ho => first_rec h hT ho (fun w s h1 h2 h3 => first_any (.nd q y C D) (by show (q : Int) ≠ -1; omega) w s h1 h2 h3)

set_option maxHeartbeats 4000000 in
theorem last_base {w : World} {F : Nat → Prop} {gT gA : Nat} {root : Int} {s : List (Option Nd)} {fr : List Nat} (h : TreeW w F gT gA root s fr) {k : Nat} {u : Th} {A : Tr} (hT : Holds s (.nd k u A .nil)) :
    Calls Try.prog 56 #[.pointer (some ⟨gT, 0, none⟩), .int .i64 k] w fun e w' => ∃ v, e = .returned v ∧ PostE w F gT gA root s fr (Tr.nd k u A .nil).nodes false v w' := by
  have HW := Lib.hid (fun (w1 : World) (hb : Below w.heap.size w w1) => h.below hb)
  have HFL := Lib.hid h.ar.lt
  have HGT := Lib.hid h.lt
  have K0 := Lib.hid (Below.refl w.heap.size w)
  have HK0 := Lib.hid hT.1
  have HS := Lib.hid hT
  clear h hT
  go_enter Try.func56, Try.ntmps56
  go_wp2_with fail
  have HAt := Lib.hid (at_any (HW.out w K0.out) HK0.out)
  obtain ⟨n, hn⟩ : ∃ x, topN u A .nil = x := ⟨_, rfl⟩
  have hnc : n.r = -1 := by rw [← hn]; rfl
  have HN := Lib.hid hn
  rw [hn] at HAt
  unfold Nd.V at HAt
  clear hn
  refine HAt.out.mono ?_
  rintro e w1 ⟨rfl, hb1⟩
  obtain ⟨b, hb⟩ : ∃ b, w1.heap.size = b := ⟨_, rfl⟩
  obtain ⟨w2, hw2⟩ : ∃ v, w1.alloc (.cells n.C.toArray 103) = v := ⟨_, rfl⟩
  have hk1 : Below w.heap.size w w1 := K0.out.trans (hb1.mono K0.out.size)
  have N2 := Lib.hid (show NdAt w2 b n by rw [← hw2, ← hb]; exact NdAt.new w1 n)
  have K2 := Lib.hid (show Below w.heap.size w w2 by rw [← hw2]; exact hk1.alloc hk1.size _)
  have HE := Lib.hid (And.intro hw2 hb)
  have HBL := Lib.hid (show w.heap.size ≤ b by have := hk1.size; omega)
  clear hb1 hw2 hb hk1 HAt
  have hc := N2.out.cR
  have hc2 := N2.out.cL
  rw [hnc] at hc
  have hno : n.l = A.rt := by rw [← HN.out]; rfl
  rw [hno] at hc2
  go_wp2_with (refine wpList_store_row rfl 103 (.tmp 6) (.tmp 9) rfl w1.heap.size n.C.toArray rfl rfl 103 _ (heap_alloc_new w1 _) (nd_info n) (by simp [Nd.C_len]) (all_oneCell_toArray n.C_one) ?_; rw [alloc_setRow, HE.out.1, HE.out.2])
  exact bodyPost_ret (results_tmp2 rfl _ _ _) rfl ⟨_, rfl, A, s, k, u, _, _, _, _, _, rfl, HW.out w2 K2.out, HS.out.2.1, by simp [Tr.nodes], HK0.out, fun _ _ => rfl, rfl, Grow.of_below K2.out⟩

set_option maxHeartbeats 4000000 in
theorem last_rec {w : World} {F : Nat → Prop} {gT gA : Nat} {root : Int} {s : List (Option Nd)} {fr : List Nat} (h : TreeW w F gT gA root s fr) {k q : Nat} {u y : Th} {C D A : Tr} (hT : Holds s (.nd k u A (.nd q y C D))) (ho : OkL (Tr.nd k u A (.nd q y C D)).nodes)
    (ih : ∀ (w : World) (s : List (Option Nd)), TreeW w F gT gA root s fr → Holds s (.nd q y C D) → OkL (Tr.nd q y C D).nodes → Calls Try.prog 56 #[.pointer (some ⟨gT, 0, none⟩), .int .i64 (Tr.nd q y C D).rt] w fun e w' => ∃ v, e = .returned v ∧ PostE w F gT gA root s fr (Tr.nd q y C D).nodes false v w') :
    Calls Try.prog 56 #[.pointer (some ⟨gT, 0, none⟩), .int .i64 k] w fun e w' => ∃ v, e = .returned v ∧ PostE w F gT gA root s fr (Tr.nd k u A (.nd q y C D)).nodes false v w' := by
  have HW := Lib.hid (fun (w1 : World) (hb : Below w.heap.size w w1) => h.below hb)
  have HFL := Lib.hid h.ar.lt
  have HGT := Lib.hid h.lt
  have K0 := Lib.hid (Below.refl w.heap.size w)
  have HK0 := Lib.hid hT.1
  obtain ⟨LL, hLL⟩ : ∃ x, (Tr.nd k u A (.nd q y C D)).nodes = x := ⟨_, rfl⟩
  have HSB := Lib.hid hT.2.2
  have HOT := Lib.hid hT.2.1
  have HSUB := Lib.hid ((OkL.right (A := A.nodes) (B := (k, u) :: (Tr.nd q y C D).nodes) ho).tail)
  have hks : k ∉ ids (Tr.nd q y C D).nodes := fun e => by have hn := (OkL.right (A := A.nodes) (B := (k, u) :: (Tr.nd q y C D).nodes) ho).nodup; rw [ids, List.map_cons, List.nodup_cons] at hn; exact hn.1 e
  have HAP := Lib.hid (fun z hz e => OkL.apart (A := A.nodes) (B := (k, u) :: (Tr.nd q y C D).nodes) ho z hz (by rw [ids, List.map_cons]; exact List.mem_cons.2 (.inr e)) : ∀ z, z ∈ ids A.nodes → z ∈ ids (Tr.nd q y C D).nodes → False)
  have HO := Lib.hid (And.intro ho hLL)
  rw [hLL]
  clear h hT ho hLL
  go_enter Try.func56, Try.ntmps56
  go_wp2_with fail
  have HAt := Lib.hid (at_any (HW.out w K0.out) HK0.out)
  obtain ⟨n, hn⟩ : ∃ x, topN u A (.nd q y C D) = x := ⟨_, rfl⟩
  have hnc : n.r = (q : Int) := by rw [← hn]; rfl
  have HN := Lib.hid hn
  rw [hn] at HAt
  unfold Nd.V at HAt
  clear hn
  refine HAt.out.mono ?_
  rintro e w1 ⟨rfl, hb1⟩
  obtain ⟨b, hb⟩ : ∃ b, w1.heap.size = b := ⟨_, rfl⟩
  obtain ⟨w2, hw2⟩ : ∃ v, w1.alloc (.cells n.C.toArray 103) = v := ⟨_, rfl⟩
  have hk1 : Below w.heap.size w w1 := K0.out.trans (hb1.mono K0.out.size)
  have N2 := Lib.hid (show NdAt w2 b n by rw [← hw2, ← hb]; exact NdAt.new w1 n)
  have K2 := Lib.hid (show Below w.heap.size w w2 by rw [← hw2]; exact hk1.alloc hk1.size _)
  have HE := Lib.hid (And.intro hw2 hb)
  have HBL := Lib.hid (show w.heap.size ≤ b by have := hk1.size; omega)
  clear hb1 hw2 hb hk1 HAt
  have HI := Lib.hid (ih w2 s (HW.out w2 K2.out) HSB.out HSUB.out)
  have hc := N2.out.cR
  rw [hnc] at hc
  have hq1 : ((q : Int) == -1) = false := by simp
  go_wp2_with (refine wpList_store_row rfl 103 (.tmp 6) (.tmp 9) rfl w1.heap.size n.C.toArray rfl rfl 103 _ (heap_alloc_new w1 _) (nd_info n) (by simp [Nd.C_len]) (all_oneCell_toArray n.C_one) ?_; rw [alloc_setRow, HE.out.1, HE.out.2])
  clear hc
  refine HI.out.mono ?_
  rintro e w3 ⟨v3, rfl, T', s3, p, x, l0, r0, h0, z0, m0, rfl, hT3, hH3, hnod, hp3, hk3, hl3, hg3⟩
  have hnod : (Tr.nd q y C D).nodes = T'.nodes ++ [(p, x)] := hnod
  have N3 := Lib.hid (N2.out.step hg3.step (fun hF => by have := HFL.out _ hF; have := HBL.out; omega))
  have hk0 : gt s3 k = some (topN u A (.nd q y C D)) := (hk3 _ hks).trans HK0.out
  have HT3 := Lib.hid hH3
  have HO3 := Lib.hid (HOT.out.keep (s' := s3) (fun z hz => hk3 z (fun e => HAP.out z hz e)))
  have hwhole : LL = (Tr.nd k u A T').nodes ++ [(p, x)] := by rw [← HO.out.2]; show A.nodes ++ (k, u) :: (Tr.nd q y C D).nodes = _; rw [hnod]; simp [Tr.nodes]
  have okw : OkL ((Tr.nd k u A T').nodes ++ [(p, x)]) := by rw [← hwhole, ← HO.out.2]; exact HO.out.1
  have okx : OkL (Tr.nd k u A T').nodes := OkL.left (B := [(p, x)]) okw
  have hpx : p ∉ ids (Tr.nd k u A T').nodes := fun e => okw.apart p e (by simp [ids])
  have G3 := (Grow.of_below K2.out).trans hg3
  have hc := N3.out.cR
  have fz := N3.out.fz
  obtain ⟨n6, hn6⟩ : ∃ x, mkN u A.rt T'.rt n.h n.sz n.mk_ = x := ⟨_, rfl⟩
  obtain ⟨w4, hw4⟩ : ∃ x, w3.setCell ⟨b, 34, none⟩ (.int .i64 T'.rt) = x := ⟨_, rfl⟩
  have N4 := Lib.hid (show NdAt w4 b n6 by rw [← hw4]; exact N3.out.set 1 (.int .i64 T'.rt) n6 (by rw [← hn6, ← HN.out]; rfl) (by rw [← hn6, ← HN.out]; rfl))
  have G4 := Lib.hid (show Grow F w w4 F by rw [← hw4]; exact ⟨G3.step.setCell (p := ⟨b, _, none⟩) (.inr HBL.out) _, G3.new⟩)
  have T4 := Lib.hid (show TreeW w4 F gT gA root s3 fr from hT3.step (G := fun x => x = b) (by rw [← hw4]; exact (Step.refl (fun x => x = b) w3).setCell (p := ⟨b, _, none⟩) (.inl rfl) _) (fun x hF e => by have := HFL.out x hF; have := HBL.out; have e : x = b := e; omega) (fun e => by have := HGT.out; have := HBL.out; have e : gT = b := e; omega))
  have hbal := balance_any T4.out hk0 n.h n.sz n.mk_ HO3.out HT3.out okx
  rw [hn6] at hbal
  unfold Nd.V at hbal
  have HBAL := Lib.hid hbal
  have HW4 := Lib.hid hw4
  have H3 := Lib.hid (And.intro hwhole (And.intro hp3 (And.intro hk3 (And.intro hl3 hpx))))
  clear hw4 hT3 hH3 hk3 hl3 hg3 G3 hk0 hbal okx okw HI hnod hp3 hwhole hpx
  go_wp2_with (rw [HW4.out]; (refine wpList_load_row rfl 103 (.tmp 6) rfl b rfl 103 n6.C.toArray (0, 0) _ N4.out.blk Try.underlying103 rfl (nd_info n6) ?_))
  clear hc fz
  refine HBAL.out.mono ?_
  rintro e w8 ⟨v8, rfl, T8, s8, rfl, hT8, hH8, hn8, hk8, hl8, hg8⟩
  have S8 := Lib.hid (And.intro hT8 (And.intro hH8 (And.intro (show LL = T8.nodes ++ [(p, x)] by rw [hn8]; exact H3.out.1) (And.intro ((hk8 p H3.out.2.2.2.2).trans H3.out.2.1) (And.intro (show ∀ z, z ∉ ids LL → gt s8 z = gt s z from fun z hz => (hk8 z (fun e => hz (by rw [H3.out.1, ids]; rw [List.map_append]; exact List.mem_append.2 (.inl e)))).trans (H3.out.2.2.1 z (fun e => hz (by rw [← HO.out.2]; simp only [Tr.nodes, ids, List.map_append, List.map_cons, List.mem_append, List.mem_cons] at e ⊢; exact .inr (.inr e))))) (And.intro (hl8.trans H3.out.2.2.2.1) (G4.out.trans hg8)))))))
  clear hT8 hH8 hn8 hk8 hl8 hg8
  go_wp2_with fail
  exact bodyPost_ret (results_tmp2 rfl _ _ _) rfl ⟨_, rfl, T8, s8, p, x, _, _, _, _, _, rfl, S8.out.1, S8.out.2.1, S8.out.2.2.1, S8.out.2.2.2.1, S8.out.2.2.2.2.1, S8.out.2.2.2.2.2.1, S8.out.2.2.2.2.2.2⟩

theorem last_any {F : Nat → Prop} {gT gA : Nat} {root : Int} {fr : List Nat} : ∀ (T : Tr), T.rt ≠ -1 → ∀ (w : World) (s : List (Option Nd)), TreeW w F gT gA root s fr → Holds s T → OkL T.nodes →
    Calls Try.prog 56 #[.pointer (some ⟨gT, 0, none⟩), .int .i64 T.rt] w fun e w' => ∃ v, e = .returned v ∧ PostE w F gT gA root s fr T.nodes false v w'
  | .nil, h, _, _, _, _, _ => absurd rfl h
  | .nd k u A .nil, _, _, _, h, hT, _ => last_base h hT
  | .nd k u A (.nd q y C D), _, _, _, h, hT, ho => last_rec h hT ho (fun w s h1 h2 h3 => last_any (.nd q y C D) (by show (q : Int) ≠ -1; omega) w s h1 h2 h3)

end Go.Proofs.Ytmfkdaannjibfaa

namespace Go.Proofs.Ytmfkdaannjibfaa
open Go.RowKit

set_option maxHeartbeats 2000000 in
theorem concat_any {w : World} {F : Nat → Prop} {gT gA : Nat} {root : Int} {s : List (Option Nd)} {fr : List Nat} (h : TreeW w F gT gA root s fr) {L R : Tr} (hl : Holds s L) (hr : Holds s R) (ho : OkL (L.nodes ++ R.nodes)) :
    Calls Try.prog 62 #[.pointer (some ⟨gT, 0, none⟩), .int .i64 L.rt, .int .i64 R.rt] w fun e w' => ∃ v, e = .returned v ∧ Post w F gT gA root s fr (L.nodes ++ R.nodes) v w' := by
  cases L with
  | nil =>
    show Calls _ _ #[.pointer (some ⟨gT, 0, none⟩), .int .i64 (-1), .int .i64 R.rt] w _
    have HP : Post w F gT gA root s fr ([] ++ R.nodes) (.int .i64 R.rt) w := ⟨R, s, rfl, h, hr, rfl, fun _ _ => rfl, rfl, Grow.refl _ _⟩
    have HP := Lib.hid HP
    clear h hl hr ho
    go_enter Try.func62, Try.ntmps62
    go_wp2_with fail
    go_ret
    exact ⟨_, rfl, HP.out⟩
  | nd k u A B =>
    have HL := Lib.hid (last_any (.nd k u A B) (by show (k : Int) ≠ -1; omega) w s h hl ho.left)
    have HR := Lib.hid hr
    obtain ⟨LN, hLN⟩ : ∃ x, (Tr.nd k u A B).nodes = x := ⟨_, rfl⟩
    rw [hLN] at HL ho ⊢
    have HO := Lib.hid ho
    show Calls _ _ #[.pointer (some ⟨gT, 0, none⟩), .int .i64 (k : Int), .int .i64 R.rt] w _
    have HL : RowKit.Hid (Calls Try.prog 56 #[.pointer (some ⟨gT, 0, none⟩), .int .i64 (k : Int)] w fun e w' => ∃ v, e = .returned v ∧ PostE w F gT gA root s fr LN false v w') := HL
    have hk1 : ((k : Int) == -1) = false := by simp
    clear h hl hr ho hLN
    go_enter Try.func62, Try.ntmps62
    go_wp2_with fail
    refine HL.out.mono ?_
    rintro e w1 ⟨v1, rfl, T', s1, p, x, l0, r0, h0, z0, m0, rfl, hT1, hH1, hn, hp, hk, hl1, hg⟩
    have hn : LN = T'.nodes ++ [(p, x)] := hn
    have hnod : (Tr.nd p x T' R).nodes = LN ++ R.nodes := by rw [hn]; simp [Tr.nodes]
    have HJ := Lib.hid (join_any _ T' R (Nat.le_refl _) w1 s1 hT1 hp hH1 (HR.out.keep fun z hz => hk z (fun e => HO.out.apart z e hz)) (by rw [hnod]; exact HO.out))
    rw [hnod] at HJ
    have HK := Lib.hid (And.intro hk (And.intro hl1 hg))
    clear hT1 hH1 hn hp hk hl1 hg hnod HL
    go_wp2_with fail
    refine HJ.out.mono ?_
    rintro e w2 ⟨v2, rfl, T2, s2, rfl, hT2, hH2, hn2, hk2, hl2, hg2⟩
    have HP := Lib.hid (show Post w F gT gA root s fr (LN ++ R.nodes) (.int .i64 T2.rt) w2 from ⟨T2, s2, rfl, hT2, hH2, hn2, fun j hj => (hk2 j hj).trans (HK.out.1 j (fun e => hj (by rw [ids_append]; exact List.mem_append.2 (.inl e)))), hl2.trans HK.out.2.1, HK.out.2.2.trans hg2⟩)
    clear hT2 hH2 hn2 hk2 hl2 hg2
    go_wp2_with fail
    go_ret
    exact ⟨_, rfl, HP.out⟩

end Go.Proofs.Ytmfkdaannjibfaa

namespace Go.Proofs.Ytmfkdaannjibfaa
open Go.RowKit

/-- What 'drop' leaves: the nodes are free; all else stays. -/
def PostD (w : World) (F : Nat → Prop) (gT gA : Nat) (root : Int) (s : List (Option Nd)) (L : List (Nat × Th)) (w' : World) : Prop :=
  ∃ (F' : Nat → Prop) (s' : List (Option Nd)) (fr' : List Nat), TreeW w' F' gT gA root s' fr' ∧ (∀ j, j ∈ ids L → gt s' j = none) ∧ (∀ j, j ∉ ids L → gt s' j = gt s j) ∧ s'.length = s.length ∧ Grow F w w' F'

set_option maxHeartbeats 2000000 in
theorem drop_step {w : World} {F : Nat → Prop} {gT gA : Nat} {root : Int} {s : List (Option Nd)} {fr : List Nat} (h : TreeW w F gT gA root s fr) {k : Nat} {u : Th} {A B : Tr} (hT : Holds s (.nd k u A B)) (ho : OkL (Tr.nd k u A B).nodes)
    (ih1 : ∀ (w : World) (F : Nat → Prop) (s : List (Option Nd)) (fr : List Nat), TreeW w F gT gA root s fr → Holds s A → OkL A.nodes → Calls Try.prog 55 #[.pointer (some ⟨gT, 0, none⟩), .int .i64 A.rt] w fun e w' => (∃ v, e = .returned v) ∧ PostD w F gT gA root s A.nodes w')
    (ih2 : ∀ (w : World) (F : Nat → Prop) (s : List (Option Nd)) (fr : List Nat), TreeW w F gT gA root s fr → Holds s B → OkL B.nodes → Calls Try.prog 55 #[.pointer (some ⟨gT, 0, none⟩), .int .i64 B.rt] w fun e w' => (∃ v, e = .returned v) ∧ PostD w F gT gA root s B.nodes w') :
    Calls Try.prog 55 #[.pointer (some ⟨gT, 0, none⟩), .int .i64 k] w fun e w' => (∃ v, e = .returned v) ∧ PostD w F gT gA root s (Tr.nd k u A B).nodes w' := by
  have HAt := Lib.hid (at_any h hT.1)
  obtain ⟨n, hn⟩ : ∃ x, topN u A B = x := ⟨_, rfl⟩
  have hnl : n.l = A.rt := by rw [← hn]; rfl
  have hnr : n.r = B.rt := by rw [← hn]; rfl
  rw [hn] at HAt
  unfold Nd.V at HAt
  have HW := Lib.hid (fun (w1 : World) (hb : Below w.heap.size w w1) => h.below hb)
  have HT := Lib.hid hT
  have HO := Lib.hid ho
  have HFL := Lib.hid h.ar.lt
  have hk1 : ((k : Int) == -1) = false := by simp
  clear h hT ho hn
  go_enter Try.func55, Try.ntmps55
  go_wp2_with fail
  refine HAt.out.mono ?_
  rintro e w1 ⟨rfl, hb1⟩
  obtain ⟨b, hb⟩ : ∃ b, w1.heap.size = b := ⟨_, rfl⟩
  obtain ⟨w2, hw2⟩ : ∃ v, w1.alloc (.cells n.C.toArray 103) = v := ⟨_, rfl⟩
  have N2 := Lib.hid (show NdAt w2 b n by rw [← hw2, ← hb]; exact NdAt.new w1 n)
  have K2 := Lib.hid (show Below w.heap.size w w2 by rw [← hw2]; exact hb1.alloc hb1.size _)
  have HE := Lib.hid (And.intro hw2 hb)
  have HBL := Lib.hid (show w.heap.size ≤ b by have := hb1.size; omega)
  have hc := N2.out.cL
  rw [hnl] at hc
  have HI1 := Lib.hid (ih1 w2 F s fr (HW.out w2 K2.out) HT.out.2.1 HO.out.left)
  clear hb1 hw2 hb HAt ih1
  go_wp2_with (refine wpList_store_row rfl 103 (.tmp 4) (.tmp 9) rfl w1.heap.size n.C.toArray rfl rfl 103 _ (heap_alloc_new w1 _) (nd_info n) (by simp [Nd.C_len]) (all_oneCell_toArray n.C_one) ?_; rw [alloc_setRow, HE.out.1, HE.out.2])
  clear hc
  refine HI1.out.mono ?_
  rintro e w3 ⟨⟨v3, rfl⟩, F3, s3, fr3, hT3, hn3, hk3, hl3, hg3⟩
  have hbF : ¬ F b := fun hF => by have := HFL.out _ hF; have := HBL.out; omega
  have hbF3 : ¬ F3 b := fun hF => by
    rcases hg3.new b hF with e | e
    · exact hbF e
    · have := N2.out.lt; omega
  have N3 := N2.out.step hg3.step hbF
  have hc := N3.cR
  rw [hnr] at hc
  have ha := HO.out.apart
  have HI2 := Lib.hid (ih2 w3 F3 s3 fr3 hT3 (HT.out.2.2.keep fun z hz => hk3 z (fun e => ha z e (by rw [ids, List.map_cons]; exact List.mem_cons.2 (.inr hz)))) HO.out.right.tail)
  have HG3 := Lib.hid ((Grow.of_below K2.out).trans hg3)
  have H3 := Lib.hid (And.intro hn3 (And.intro hk3 hl3))
  clear ih2 hT3 hn3 hk3 hl3 hg3 N3 hbF hbF3 HI1
  go_wp2_with fail
  clear hc
  refine HI2.out.mono ?_
  rintro e w4 ⟨⟨v4, rfl⟩, F4, s4, fr4, hT4, hn4, hk4, hl4, hg4⟩
  have hkB : k ∉ ids B.nodes := by have hn := HO.out.right.nodup; rw [ids, List.map_cons, List.nodup_cons] at hn; exact hn.1
  have hkA : k ∉ ids A.nodes := fun e => ha k e (by simp [ids])
  have hk4' : gt s4 k = some (topN u A B) := (hk4 k hkB).trans ((H3.out.2.1 k hkA).trans HT.out.1)
  have hcN := hT4.cN
  have HT4 := Lib.hid hT4
  have HFr := Lib.hid (freeN_yes hT4.ar (by have := hT4.len; omega) (by have h1 := hT4.ok.len; have := hT4.len; omega) (gt_some.1 hk4'))
  have HOK := Lib.hid (hT4.ok.free (gt_some.1 hk4'))
  have H4 := Lib.hid (And.intro hn4 (And.intro hk4 (And.intro hl4 (And.intro (HG3.out.trans hg4) (gt_lt hk4')))))
  have HKK := Lib.hid (And.intro hkA hkB)
  clear hT4 hn4 hk4 hl4 hg4 hk4' hkA hkB ha HI2
  go_wp2_with fail
  refine HFr.out.mono ?_
  rintro e w5 ⟨F5, rfl, ha5, hg5⟩
  have HD := Lib.hid (show PostD w F gT gA root s (Tr.nd k u A B).nodes w5 from by
    have hkl := H4.out.2.2.2.2
    refine ⟨F5, s4.set k none, fr4 ++ [k], HT4.out.arena ha5 HOK.out hg5 (by rw [List.length_set]; exact HT4.out.len), fun j hj => ?_, fun j hj => ?_, by rw [List.length_set]; exact H4.out.2.2.1.trans H3.out.2.2, H4.out.2.2.2.1.trans hg5⟩
    · by_cases hjk : j = k
      · subst hjk; exact gt_set_self hkl _
      · rw [gt_set_other hkl _ hjk]
        by_cases hjB : j ∈ ids B.nodes
        · exact H4.out.1 j hjB
        · rw [H4.out.2.1 j hjB]
          refine H3.out.1 j ?_
          rw [Tr.nodes, ids_append] at hj
          rcases List.mem_append.1 hj with e | e
          · exact e
          · rw [ids, List.map_cons] at e
            rcases List.mem_cons.1 e with e | e
            · exact absurd e hjk
            · exact absurd e hjB
    · have h1 : j ∉ ids A.nodes := fun e => hj (by rw [Tr.nodes, ids_append]; exact List.mem_append.2 (.inl e))
      have h2 : j ∉ ids B.nodes := fun e => hj (by rw [Tr.nodes, ids_append]; exact List.mem_append.2 (.inr (List.mem_cons.2 (.inr e))))
      rw [gt_set_other hkl _ (fun e => hj (by rw [e]; simp [Tr.nodes, ids])), H4.out.2.1 j h2, H3.out.2.1 j h1])
  clear ha5 hg5
  go_wp2_with fail
  go_end0
  exact ⟨⟨_, rfl⟩, HD.out⟩

set_option maxHeartbeats 400000 in
theorem drop_nil {w : World} {F : Nat → Prop} {gT gA : Nat} {root : Int} {s : List (Option Nd)} {fr : List Nat} (h : TreeW w F gT gA root s fr) :
    Calls Try.prog 55 #[.pointer (some ⟨gT, 0, none⟩), .int .i64 (-1)] w fun e w' => (∃ v, e = .returned v) ∧ PostD w F gT gA root s [] w' := by
  have HP := Lib.hid (show PostD w F gT gA root s [] w from ⟨F, s, fr, h, fun j hj => by simp [ids] at hj, fun _ _ => rfl, rfl, Grow.refl _ _⟩)
  clear h
  go_enter Try.func55, Try.ntmps55
  go_wp2_with fail
  exact bodyPost_ret (results_none rfl _ _ _) rfl ⟨⟨_, rfl⟩, HP.out⟩

theorem drop_any {gT gA : Nat} {root : Int} : ∀ (T : Tr) (w : World) (F : Nat → Prop) (s : List (Option Nd)) (fr : List Nat), TreeW w F gT gA root s fr → Holds s T → OkL T.nodes →
    Calls Try.prog 55 #[.pointer (some ⟨gT, 0, none⟩), .int .i64 T.rt] w fun e w' => (∃ v, e = .returned v) ∧ PostD w F gT gA root s T.nodes w'
  | .nil, _, _, _, _, h, _, _ => drop_nil h
  | .nd _ _ A B, _, _, _, _, h, hT, ho => drop_step h hT ho (fun w F s fr => drop_any A w F s fr) (fun w F s fr => drop_any B w F s fr)

end Go.Proofs.Ytmfkdaannjibfaa

namespace Go.Proofs.Ytmfkdaannjibfaa
open Go.RowKit

theorem thing_info2 (x : Th) : (Try.prog.info? 58).map (·.size) = some (encT x).toArray.size := by rw [thing_info x, List.size_toArray]

set_option maxHeartbeats 2000000 in
theorem run_thing (x : Th) (l0 r0 h0 z0 m0 : Int) (w : World) : (Instr.field 103 (.agg (mkN x l0 r0 h0 z0 m0).C.toArray) 0).run Try.prog w = .ok (.agg (encT x).toArray) w := by
  unfold Nd.C mkN
  dsimp only
  obtain ⟨a0, a1, a2, a3, a4, a5, a6, a7, a8, a9, a10, a11, a12, a13, a14, a15, a16, a17, a18, a19, a20, a21, a22, a23, a24, a25, a26, a27, a28, a29, a30, a31, a32, e⟩ := list_K (encT x) (encT_len x)
  rw [e]
  kernel_rfl

set_option maxRecDepth 100000 in
theorem pick_any {w : World} {F : Nat → Prop} {gT gA : Nat} {root : Int} {s : List (Option Nd)} {fr : List Nat} (h : TreeW w F gT gA root s fr) {k : Nat} {x : Th} {l0 r0 h0 z0 m0 : Int} (hk : gt s k = some (mkN x l0 r0 h0 z0 m0)) :
    Calls Try.prog 57 #[.pointer (some ⟨gT, 0, none⟩), .int .i64 k] w fun e w' => e = .returned (thV x) ∧ ∃ F', TreeW w' F' gT gA root (s.set k none) (fr ++ [k]) ∧ Grow F w w' F' := by
  have HAt := Lib.hid (fun o => at_any (h.below ((Below.refl w.heap.size w).alloc (Nat.le_refl _) o)) hk)
  unfold Nd.V at HAt
  have HW := Lib.hid (fun (w1 : World) (hb : Below w.heap.size w w1) => h.below hb)
  have HL := Lib.hid (And.intro h.len (And.intro h.ok h.ar.lt))
  have HGT := Lib.hid h.lt
  have HK := Lib.hid (gt_some.1 hk)
  clear h hk
  go_enter Try.func57, Try.ntmps57
  go_wp2_with fail
  refine (HAt.out _).mono ?_
  rintro e w1 ⟨rfl, hb1⟩
  obtain ⟨b0, hb0⟩ : ∃ b, w.heap.size = b := ⟨_, rfl⟩
  have H0 := heap_later (heap_alloc_new w _) hb1
  have K1 : Below w.heap.size w w1 := ((Below.refl _ _).alloc (Nat.le_refl _) _).trans (hb1.mono (by simp))
  obtain ⟨b1, hb1'⟩ : ∃ b, w1.heap.size = b := ⟨_, rfl⟩
  obtain ⟨wn, hwn⟩ : ∃ v, w1.alloc (.cells (chC []).toArray 58) = v := ⟨_, rfl⟩
  have Bn : Below w1.heap.size w1 wn := by rw [← hwn]; exact (Below.refl _ _).alloc (Nat.le_refl _) _
  have Hn := Lib.hid (show wn.heap[b1]? = some (.cells (chC []).toArray 58) by rw [← hwn, ← hb1']; exact heap_alloc_new w1 _)
  obtain ⟨w2, hw2⟩ : ∃ v, wn.setRow b1 (encT x).toArray = v := ⟨_, rfl⟩
  have B2 : Below w1.heap.size w1 w2 := by rw [← hw2]; exact _root_.Go.below_setRow Bn (by omega) _
  have H1 := Lib.hid (show w2.heap[b1]? = some (.cells (encT x).toArray 58) by rw [← hw2]; exact setRow_heap _ _ _ _ _ _ Hn.out)
  have HZ := Lib.hid (show (chC []).toArray.size = (encT x).toArray.size by rw [List.size_toArray, List.size_toArray, encT_len]; rfl)
  have H02 := Lib.hid (heap_later H0 B2)
  have K2 := Lib.hid (K1.trans (B2.mono K1.size))
  have T2 := Lib.hid (HW.out w2 K2.out)
  have hcN := T2.out.cN
  have HFr := Lib.hid (freeN_yes T2.out.ar (by have := HL.out.1; omega) (by have h1 := HL.out.2.1.len; have := HL.out.1; omega) HK.out)
  have HK5 := Lib.hid K1.size
  have HE := Lib.hid (And.intro hw2 (And.intro hb1' hb0))
  rw [hb0] at H02 ⊢
  clear hb1 H0 K1 B2 hb0 HAt Bn
  have hfd := run_thing x l0 r0 h0 z0 m0
  have hz := ch_nil.symm
  go_upto_region 2 with (refine wpList_store_row rfl 58 (.tmp 5) (.tmp 9) rfl b1 (encT x).toArray rfl rfl 58 (chC []).toArray Hn.out (thing_info2 x) HZ.out (all_oneCell_toArray (encT_one x)) ?_)
  rw [HE.out.1]
  clear hfd hz hwn hb1' hw2
  go_wp2_with fail
  clear hcN
  refine HFr.out.mono ?_
  rintro e w3 ⟨F3, rfl, ha3, hg3⟩
  have hb0F : ¬ F b0 := fun hF => by have := HL.out.2.2 _ hF; have := HE.out.2.2; omega
  have hb1F : ¬ F b1 := fun hF => by have h1 := HL.out.2.2 _ hF; have h2 := (Array.getElem?_eq_some_iff.1 H02.out).1; have h3 := HE.out.2.2; have h4 := HE.out.2.1; have h5 := HK5.out; omega
  have H03 := Lib.hid ((hg3.step.block b0 (Array.getElem?_eq_some_iff.1 H02.out).1 hb0F).trans H02.out)
  have H13 := Lib.hid ((hg3.step.block b1 (Array.getElem?_eq_some_iff.1 H1.out).1 hb1F).trans H1.out)
  have HG3 := Lib.hid hg3
  have HT3 := Lib.hid (And.intro (T2.out.arena ha3 (HL.out.2.1.free HK.out) hg3 (by rw [List.length_set]; exact HL.out.1)) ((Grow.of_below K2.out).trans hg3))
  clear ha3 hg3 hb0F hb1F
  go_wp2_with (first
    | (refine wpList_load_row rfl 58 (.tmp 5) rfl b1 rfl 58 (encT x).toArray (0, 0) _ H13.out Try.underlying58 rfl (thing_info2 x) ?_)
    | (refine wpList_store_row rfl 58 (.tmp 4) (.tmp 16) rfl b0 (encT x).toArray rfl rfl 58 _ H03.out (thing_info2 x) HZ.out (all_oneCell_toArray (encT_one x)) ?_))

  refine bodyPost_ret (v := thV x) (results_c rfl _ _ b0 _ (encT x).toArray (0, 0) _ rfl (setRow_heap _ _ _ _ _ _ H03.out) Try.underlying58 rfl (thing_info2 x)) rfl ⟨rfl, F3, HT3.out.1.step (G := fun z => z = b0) ?_ (fun z hF e => ?_) (fun e => ?_), ?_, HT3.out.2.new⟩
  · exact ⟨rfl, rfl, rfl, by simp [World.setRow], fun z _ hz => setRow_other _ _ _ _ (fun e => hz e)⟩
  · have e : z = b0 := e
    have h1 := HE.out.2.2
    rcases HG3.out.new z hF with h | h
    · have := HL.out.2.2 _ h; omega
    · have := (Array.getElem?_eq_some_iff.1 H02.out).1; omega
  · have e : gT = b0 := e
    have := HGT.out
    have := HE.out.2.2
    omega
  · have hs := HT3.out.2.step
    have h1 := HE.out.2.2
    exact ⟨hs.os, hs.tape, hs.output, by simpa [World.setRow] using hs.size, fun z hz hF => (setRow_other _ _ _ _ (by omega)).trans (hs.block z hz hF)⟩

end Go.Proofs.Ytmfkdaannjibfaa

namespace Go.Proofs.Ytmfkdaannjibfaa
open Go.RowKit

/-- Cut at a place; the second half of a thing that is cut in two is node p. -/
def splitL : List (Nat × Th) → Int → Nat → List (Nat × Th) × List (Nat × Th)
  | [], _, _ => ([], [])
  | (i, t) :: L, a, p => if a ≤ 0 then ([], (i, t) :: L) else if sizeT t ≤ a then ((i, t) :: (splitL L (a - sizeT t) p).1, (splitL L (a - sizeT t) p).2) else ([(i, cutA t a)], (p, cutB t a) :: L)

theorem splitL_zero (L : List (Nat × Th)) {a : Int} (p : Nat) (h : a ≤ 0) : splitL L a p = ([], L) := by
  cases L with
  | nil => rfl
  | cons q L => rw [splitL, if_pos h]

theorem splitL_left (p i : Nat) (t : Th) (Y : List (Nat × Th)) : ∀ (X : List (Nat × Th)) (a : Int), (∀ q ∈ X, okT q.2) → a ≤ sumZ X → splitL (X ++ (i, t) :: Y) a p = ((splitL X a p).1, (splitL X a p).2 ++ (i, t) :: Y)
  | [], a, _, h => by rw [List.nil_append, splitL_zero _ _ (by simpa [sumZ] using h)]; rfl
  | (j, u) :: X, a, hok, h => by
    rw [List.cons_append, splitL, splitL]
    by_cases h1 : a ≤ 0
    · rw [if_pos h1, if_pos h1]; rfl
    · rw [if_neg h1, if_neg h1]
      by_cases h2 : sizeT u ≤ a
      · rw [if_pos h2, if_pos h2, splitL_left p i t Y X (a - sizeT u) (fun q hq => hok q (by simp [hq])) (by rw [sumZ] at h; dsimp only at h; omega)]
      · rw [if_neg h2, if_neg h2]; rfl

theorem splitL_right (p i : Nat) (t : Th) (Y : List (Nat × Th)) : ∀ (X : List (Nat × Th)) (a : Int), (∀ q ∈ X, okT q.2) → sumZ X < a → sumZ X + sizeT t ≤ a →
    splitL (X ++ (i, t) :: Y) a p = (X ++ (i, t) :: (splitL Y (a - sumZ X - sizeT t) p).1, (splitL Y (a - sumZ X - sizeT t) p).2)
  | [], a, _, h, h2 => by
    rw [sumZ] at h h2
    rw [List.nil_append, splitL, if_neg (by omega), if_pos (by omega), sumZ, Int.sub_zero]; rfl
  | (j, u) :: X, a, hok, h, h2 => by
    have h0 := sumZ_nonneg (L := X) (fun q hq => hok q (by simp [hq]))
    have h3 := sizeT_ok (hok (j, u) (by simp))
    rw [sumZ] at h h2
    dsimp only at h h2 h3
    rw [List.cons_append, splitL, if_neg (by omega), if_pos (by omega), splitL_right p i t Y X (a - sizeT u) (fun q hq => hok q (by simp [hq])) (by omega) (by omega), sumZ]
    dsimp only
    rw [show a - sizeT u - sumZ X - sizeT t = a - (sizeT u + sumZ X) - sizeT t by omega]
    rfl

theorem splitL_mid (p i : Nat) (t : Th) (Y : List (Nat × Th)) : ∀ (X : List (Nat × Th)) (a : Int), (∀ q ∈ X, okT q.2) → sumZ X < a → a < sumZ X + sizeT t →
    splitL (X ++ (i, t) :: Y) a p = (X ++ [(i, cutA t (a - sumZ X))], (p, cutB t (a - sumZ X)) :: Y)
  | [], a, _, h, h2 => by
    rw [sumZ] at h h2
    rw [List.nil_append, splitL, if_neg (by omega), if_neg (by omega), sumZ, Int.sub_zero]; rfl
  | (j, u) :: X, a, hok, h, h2 => by
    have h0 := sumZ_nonneg (L := X) (fun q hq => hok q (by simp [hq]))
    have h3 := sizeT_ok (hok (j, u) (by simp))
    rw [sumZ] at h h2
    dsimp only at h h2 h3
    rw [List.cons_append, splitL, if_neg (by omega), if_pos (by omega), splitL_mid p i t Y X (a - sizeT u) (fun q hq => hok q (by simp [hq])) (by omega) (by omega), sumZ]
    dsimp only
    rw [show a - sizeT u - sumZ X = a - (sizeT u + sumZ X) by omega]
    rfl

/-- What the parts' nodes are. -/
theorem splitL_ok (p : Nat) : ∀ (L : List (Nat × Th)) (a : Int), OkL L → p ∉ ids L → L.length + 1 ≤ 100000 →
    OkL ((splitL L a p).1 ++ (splitL L a p).2) ∧ (∀ j, j ∈ ids ((splitL L a p).1 ++ (splitL L a p).2) → j ∈ ids L ∨ j = p) ∧ sumZ ((splitL L a p).1 ++ (splitL L a p).2) = sumZ L ∧ ((splitL L a p).1 ++ (splitL L a p).2).length ≤ L.length + 1
  | [], _, h, _, _ => ⟨h, fun j hj => .inl hj, rfl, by simp [splitL]⟩
  | (i, t) :: L, a, h, hp, hl => by
    have hip : i ≠ p := fun e => hp (by rw [ids, List.map_cons, e]; exact List.mem_cons_self)
    have hpL : p ∉ ids L := fun e => hp (by rw [ids, List.map_cons]; exact List.mem_cons.2 (.inr e))
    have hn := h.nodup
    rw [ids, List.map_cons, List.nodup_cons] at hn
    have hs := h.sum
    rw [sumZ] at hs
    dsimp only at hs hn
    rw [List.length_cons] at hl
    rw [splitL]
    by_cases h1 : a ≤ 0
    · rw [if_pos h1]
      exact ⟨h, fun j hj => .inl hj, rfl, Nat.le_succ _⟩
    · rw [if_neg h1]
      by_cases h2 : sizeT t ≤ a
      · rw [if_pos h2]
        obtain ⟨q1, q2, q3, q4⟩ := splitL_ok p L (a - sizeT t) h.tail hpL (by omega)
        dsimp only
        rw [List.cons_append]
        refine ⟨⟨?_, fun q hq => ?_, ?_, ?_⟩, fun j hj => ?_, ?_, ?_⟩
        · rw [ids, List.map_cons, List.nodup_cons]
          refine ⟨fun e => ?_, q1.nodup⟩
          rcases q2 i e with e | e
          · exact hn.1 e
          · exact hip e
        · rcases List.mem_cons.1 hq with rfl | hq
          · exact h.ok _ (by simp)
          · exact q1.ok q hq
        · rw [sumZ, q3]; exact hs
        · rw [List.length_cons]; omega
        · rw [ids, List.map_cons] at hj
          rcases List.mem_cons.1 hj with e | e
          · exact .inl (by rw [ids, List.map_cons, e]; exact List.mem_cons_self)
          · rcases q2 j e with e | e
            · exact .inl (by rw [ids, List.map_cons]; exact List.mem_cons.2 (.inr e))
            · exact .inr e
        · rw [sumZ, sumZ, q3]
        · rw [List.length_cons, List.length_cons]; omega
      · rw [if_neg h2]
        have hc := cut_ok (h.ok (i, t) (by simp)) (by omega : 0 < a) (by show a < sizeT t; omega)
        dsimp only
        rw [List.cons_append, List.nil_append]
        refine ⟨⟨?_, fun q hq => ?_, ?_, ?_⟩, fun j hj => ?_, ?_, ?_⟩
        · rw [ids, List.map_cons, List.map_cons, List.nodup_cons, List.nodup_cons]
          exact ⟨fun e => by rcases List.mem_cons.1 e with e | e; exact hip e; exact hn.1 e, hpL, hn.2⟩
        · rcases List.mem_cons.1 hq with rfl | hq
          · exact hc.1
          · rcases List.mem_cons.1 hq with rfl | hq
            · exact hc.2.1
            · exact h.ok q (by simp [hq])
        · rw [sumZ, sumZ]; have := hc.2.2; dsimp only at this ⊢; omega
        · rw [List.length_cons, List.length_cons]; omega
        · rw [ids, List.map_cons, List.map_cons] at hj
          rcases List.mem_cons.1 hj with e | e
          · exact .inl (by rw [ids, List.map_cons]; exact List.mem_cons.2 (.inl e))
          · rcases List.mem_cons.1 e with e | e
            · exact .inr e
            · exact .inl (by rw [ids, List.map_cons]; exact List.mem_cons.2 (.inr e))
        · rw [sumZ, sumZ, sumZ]; have := hc.2.2; dsimp only at this ⊢; omega
        · rw [List.length_cons, List.length_cons, List.length_cons]; omega

theorem splitL_ids {p j : Nat} : ∀ {L : List (Nat × Th)} {a : Int}, j ∈ ids ((splitL L a p).1 ++ (splitL L a p).2) → j ∈ ids L ∨ j = p
  | [], _, h => .inl h
  | (i, t) :: L, a, h => by
    rw [splitL] at h
    by_cases h1 : a ≤ 0
    · rw [if_pos h1] at h; exact .inl h
    · rw [if_neg h1] at h
      by_cases h2 : sizeT t ≤ a
      · rw [if_pos h2] at h
        dsimp only at h
        rw [List.cons_append, ids, List.map_cons] at h
        rcases List.mem_cons.1 h with e | e
        · exact .inl (by rw [ids, List.map_cons, e]; exact List.mem_cons_self)
        · rcases splitL_ids (L := L) e with e | e
          · exact .inl (by rw [ids, List.map_cons]; exact List.mem_cons.2 (.inr e))
          · exact .inr e
      · rw [if_neg h2] at h
        dsimp only at h
        rw [List.cons_append, List.nil_append, ids, List.map_cons, List.map_cons] at h
        rcases List.mem_cons.1 h with e | e
        · exact .inl (by rw [ids, List.map_cons, e]; exact List.mem_cons_self)
        · rcases List.mem_cons.1 e with e | e
          · exact .inr e
          · exact .inl (by rw [ids, List.map_cons]; exact List.mem_cons.2 (.inr e))

/-- A tree's nodes are taken. -/
theorem Holds.taken {s : List (Option Nd)} : ∀ {T : Tr}, Holds s T → ∀ j ∈ ids T.nodes, ∃ n, gt s j = some n
  | .nil, _, j, hj => by simp [Tr.nodes, ids] at hj
  | .nd i t l r, h, j, hj => by
    rw [Tr.nodes, ids_append] at hj
    rcases List.mem_append.1 hj with e | e
    · exact h.2.1.taken j e
    · rw [ids, List.map_cons] at e
      rcases List.mem_cons.1 e with e | e
      · rw [e]; exact ⟨_, h.1⟩
      · exact h.2.2.taken j e

/-- What 'split' hands back. -/
def PostS (w : World) (F : Nat → Prop) (gT gA : Nat) (root : Int) (s : List (Option Nd)) (p : Nat) (L : List (Nat × Th)) (a : Int) (v : Value) (w' : World) : Prop :=
  ∃ (F' : Nat → Prop) (fr' : List Nat) (s' : List (Option Nd)) (A B : Tr), v = .tuple #[.int .i64 A.rt, .int .i64 B.rt] ∧ TreeW w' F' gT gA root s' fr' ∧ Holds s' A ∧ Holds s' B ∧ A.nodes = (splitL L a p).1 ∧ B.nodes = (splitL L a p).2 ∧
    (∀ j, j ∉ ids L → j ∉ ids ((splitL L a p).1 ++ (splitL L a p).2) → gt s' j = gt s j) ∧ s'.length ≤ s.length + 1 ∧ Grow F w w' F'

end Go.Proofs.Ytmfkdaannjibfaa
