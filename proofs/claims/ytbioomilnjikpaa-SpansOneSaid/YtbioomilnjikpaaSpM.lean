/-
  avl.Tree: first, last.
-/
import Derived.Test.YtbioomilnjikpaaSpL
namespace Go.Proofs.Ytbioomilnjikpaa
open Go.RowKit

/-- What 'first', 'last' hand back: the rest, and the node that is taken off (at the head, or at the end). -/
def PostE (w : World) (F : Nat → Prop) (gT gA : Nat) (root : Int) (s : List (Option Nd)) (fr : List Nat) (L : List (Nat × Th)) (fst : Bool) (v : Value) (w' : World) : Prop :=
  ∃ (T : Tr) (s' : List (Option Nd)) (p : Nat) (x : Th) (l0 r0 h0 z0 m0 : Int), v = .tuple #[.int .i64 T.rt, .int .i64 p] ∧ TreeW w' F gT gA root s' fr ∧ Holds s' T ∧ L = (if fst then (p, x) :: T.nodes else T.nodes ++ [(p, x)]) ∧ gt s' p = some (mkN x l0 r0 h0 z0 m0) ∧
    (∀ j, j ∉ ids L → gt s' j = gt s j) ∧ s'.length = s.length ∧ Grow F w w' F

set_option maxHeartbeats 4000000 in
theorem first_base {w : World} {F : Nat → Prop} {gT gA : Nat} {root : Int} {s : List (Option Nd)} {fr : List Nat} (h : TreeW w F gT gA root s fr) {k : Nat} {u : Th} {B : Tr} (hT : Holds s (.nd k u .nil B)) :
    Calls Try.prog 44 #[.pointer (some ⟨gT, 0, none⟩), .int .i64 k] w fun e w' => ∃ v, e = .returned v ∧ PostE w F gT gA root s fr (Tr.nd k u .nil B).nodes true v w' := by
  have HW := Lib.hid (fun (w1 : World) (hb : Below w.heap.size w w1) => h.below hb)
  have HFL := Lib.hid h.ar.lt
  have HGT := Lib.hid h.lt
  have K0 := Lib.hid (Below.refl w.heap.size w)
  have HK0 := Lib.hid hT.1
  have HS := Lib.hid hT
  clear h hT
  go_enter Try.func44, Try.ntmps44
  go_wp2_with fail
  have HAt := Lib.hid (at_any (HW.out w K0.out) HK0.out)
  obtain ⟨n, hn⟩ : ∃ x, topN u .nil B = x := ⟨_, rfl⟩
  have hnc : n.l = -1 := by rw [← hn]; rfl
  have HN := Lib.hid hn
  rw [hn] at HAt
  unfold Nd.V at HAt
  clear hn
  refine HAt.out.mono ?_
  rintro e w1 ⟨rfl, hb1⟩
  obtain ⟨b, hb⟩ : ∃ b, w1.heap.size = b := ⟨_, rfl⟩
  obtain ⟨w2, hw2⟩ : ∃ v, w1.alloc (.cells n.C.toArray 80) = v := ⟨_, rfl⟩
  have hk1 : Below w.heap.size w w1 := K0.out.trans (hb1.mono K0.out.size)
  have N2 := Lib.hid (show NdAt w2 b n by rw [← hw2, ← hb]; exact NdAt.new w1 n)
  have K2 := Lib.hid (show Below w.heap.size w w2 by rw [← hw2]; exact hk1.alloc hk1.size _)
  have HE := Lib.hid (And.intro hw2 hb)
  have HBL := Lib.hid (show w.heap.size ≤ b by have := hk1.size; omega)
  clear hb1 hw2 hb hk1 HAt
  have hc := N2.out.cL
  have hc2 := N2.out.cR
  rw [hnc] at hc
  have hno : n.r = B.rt := by rw [← HN.out]; rfl
  rw [hno] at hc2
  go_wp2_with (refine wpList_store_row rfl 80 (.tmp 6) (.tmp 9) rfl w1.heap.size n.C.toArray rfl rfl 80 _ (heap_alloc_new w1 _) (nd_info n) (by simp [Nd.C_len]) (all_oneCell_toArray n.C_one) ?_; rw [alloc_setRow, HE.out.1, HE.out.2])
  exact bodyPost_ret (results_tmp2 rfl _ _ _) rfl ⟨_, rfl, B, s, k, u, _, _, _, _, _, rfl, HW.out w2 K2.out, HS.out.2.2, by simp [Tr.nodes], HK0.out, fun _ _ => rfl, rfl, Grow.of_below K2.out⟩

set_option maxHeartbeats 4000000 in
theorem first_rec {w : World} {F : Nat → Prop} {gT gA : Nat} {root : Int} {s : List (Option Nd)} {fr : List Nat} (h : TreeW w F gT gA root s fr) {k q : Nat} {u y : Th} {C D B : Tr} (hT : Holds s (.nd k u (.nd q y C D) B)) (ho : OkL (Tr.nd k u (.nd q y C D) B).nodes)
    (ih : ∀ (w : World) (s : List (Option Nd)), TreeW w F gT gA root s fr → Holds s (.nd q y C D) → OkL (Tr.nd q y C D).nodes → Calls Try.prog 44 #[.pointer (some ⟨gT, 0, none⟩), .int .i64 (Tr.nd q y C D).rt] w fun e w' => ∃ v, e = .returned v ∧ PostE w F gT gA root s fr (Tr.nd q y C D).nodes true v w') :
    Calls Try.prog 44 #[.pointer (some ⟨gT, 0, none⟩), .int .i64 k] w fun e w' => ∃ v, e = .returned v ∧ PostE w F gT gA root s fr (Tr.nd k u (.nd q y C D) B).nodes true v w' := by
  have HW := Lib.hid (fun (w1 : World) (hb : Below w.heap.size w w1) => h.below hb)
  have HFL := Lib.hid h.ar.lt
  have HGT := Lib.hid h.lt
  have K0 := Lib.hid (Below.refl w.heap.size w)
  have HK0 := Lib.hid hT.1
  obtain ⟨LL, hLL⟩ : ∃ x, (Tr.nd k u (.nd q y C D) B).nodes = x := ⟨_, rfl⟩
  have HSB := Lib.hid hT.2.1
  have HOT := Lib.hid hT.2.2
  have HSUB := Lib.hid (OkL.left (B := (k, u) :: B.nodes) ho)
  have hks : k ∉ ids (Tr.nd q y C D).nodes := fun e => OkL.apart (A := (Tr.nd q y C D).nodes) (B := (k, u) :: B.nodes) ho k e (by simp [ids])
  have HAP := Lib.hid (fun z hz e => OkL.apart (A := (Tr.nd q y C D).nodes) (B := (k, u) :: B.nodes) ho z e (by rw [ids, List.map_cons]; exact List.mem_cons.2 (.inr hz)) : ∀ z, z ∈ ids B.nodes → z ∈ ids (Tr.nd q y C D).nodes → False)
  have HO := Lib.hid (And.intro ho hLL)
  rw [hLL]
  clear h hT ho hLL
  go_enter Try.func44, Try.ntmps44
  go_wp2_with fail
  have HAt := Lib.hid (at_any (HW.out w K0.out) HK0.out)
  obtain ⟨n, hn⟩ : ∃ x, topN u (.nd q y C D) B = x := ⟨_, rfl⟩
  have hnc : n.l = (q : Int) := by rw [← hn]; rfl
  have HN := Lib.hid hn
  rw [hn] at HAt
  unfold Nd.V at HAt
  clear hn
  refine HAt.out.mono ?_
  rintro e w1 ⟨rfl, hb1⟩
  obtain ⟨b, hb⟩ : ∃ b, w1.heap.size = b := ⟨_, rfl⟩
  obtain ⟨w2, hw2⟩ : ∃ v, w1.alloc (.cells n.C.toArray 80) = v := ⟨_, rfl⟩
  have hk1 : Below w.heap.size w w1 := K0.out.trans (hb1.mono K0.out.size)
  have N2 := Lib.hid (show NdAt w2 b n by rw [← hw2, ← hb]; exact NdAt.new w1 n)
  have K2 := Lib.hid (show Below w.heap.size w w2 by rw [← hw2]; exact hk1.alloc hk1.size _)
  have HE := Lib.hid (And.intro hw2 hb)
  have HBL := Lib.hid (show w.heap.size ≤ b by have := hk1.size; omega)
  clear hb1 hw2 hb hk1 HAt
  have HI := Lib.hid (ih w2 s (HW.out w2 K2.out) HSB.out HSUB.out)
  have hc := N2.out.cL
  rw [hnc] at hc
  have hq1 : ((q : Int) == -1) = false := by simp
  go_wp2_with (refine wpList_store_row rfl 80 (.tmp 6) (.tmp 9) rfl w1.heap.size n.C.toArray rfl rfl 80 _ (heap_alloc_new w1 _) (nd_info n) (by simp [Nd.C_len]) (all_oneCell_toArray n.C_one) ?_; rw [alloc_setRow, HE.out.1, HE.out.2])
  clear hc
  refine HI.out.mono ?_
  rintro e w3 ⟨v3, rfl, T', s3, p, x, l0, r0, h0, z0, m0, rfl, hT3, hH3, hnod, hp3, hk3, hl3, hg3⟩
  have hnod : (Tr.nd q y C D).nodes = (p, x) :: T'.nodes := hnod
  have N3 := Lib.hid (N2.out.step hg3.step (fun hF => by have := HFL.out _ hF; have := HBL.out; omega))
  have hk0 : gt s3 k = some (topN u (.nd q y C D) B) := (hk3 _ hks).trans HK0.out
  have HT3 := Lib.hid hH3
  have HO3 := Lib.hid (HOT.out.keep (s' := s3) (fun z hz => hk3 z (fun e => HAP.out z hz e)))
  have hwhole : LL = (p, x) :: (Tr.nd k u T' B).nodes := by rw [← HO.out.2]; show (Tr.nd q y C D).nodes ++ (k, u) :: B.nodes = _; rw [hnod]; simp [Tr.nodes]
  have okw : OkL ((p, x) :: (Tr.nd k u T' B).nodes) := by rw [← hwhole, ← HO.out.2]; exact HO.out.1
  have okx : OkL (Tr.nd k u T' B).nodes := OkL.tail (p := (p, x)) okw
  have hpx : p ∉ ids (Tr.nd k u T' B).nodes := by have hn := okw.nodup; rw [ids, List.map_cons, List.nodup_cons] at hn; exact hn.1
  have G3 := (Grow.of_below K2.out).trans hg3
  have hc := N3.out.cL
  have fz := N3.out.fz
  obtain ⟨n6, hn6⟩ : ∃ x, mkN u T'.rt B.rt n.h n.sz n.mk_ = x := ⟨_, rfl⟩
  obtain ⟨w4, hw4⟩ : ∃ x, w3.setCell ⟨b, 2, none⟩ (.int .i64 T'.rt) = x := ⟨_, rfl⟩
  have N4 := Lib.hid (show NdAt w4 b n6 by rw [← hw4]; exact N3.out.set 0 (.int .i64 T'.rt) n6 (by rw [← hn6, ← HN.out]; rfl) (by rw [← hn6, ← HN.out]; rfl))
  have G4 := Lib.hid (show Grow F w w4 F by rw [← hw4]; exact ⟨G3.step.setCell (p := ⟨b, _, none⟩) (.inr HBL.out) _, G3.new⟩)
  have T4 := Lib.hid (show TreeW w4 F gT gA root s3 fr from hT3.step (G := fun x => x = b) (by rw [← hw4]; exact (Step.refl (fun x => x = b) w3).setCell (p := ⟨b, _, none⟩) (.inl rfl) _) (fun x hF e => by have := HFL.out x hF; have := HBL.out; have e : x = b := e; omega) (fun e => by have := HGT.out; have := HBL.out; have e : gT = b := e; omega))
  have hbal := balance_any T4.out hk0 n.h n.sz n.mk_ HT3.out HO3.out okx
  rw [hn6] at hbal
  unfold Nd.V at hbal
  have HBAL := Lib.hid hbal
  have HW4 := Lib.hid hw4
  have H3 := Lib.hid (And.intro hwhole (And.intro hp3 (And.intro hk3 (And.intro hl3 hpx))))
  clear hw4 hT3 hH3 hk3 hl3 hg3 G3 hk0 hbal okx okw HI hnod hp3 hwhole hpx
  go_wp2_with (rw [HW4.out]; (refine wpList_load_row rfl 80 (.tmp 6) rfl b rfl 80 n6.C.toArray (0, 0) _ N4.out.blk Try.underlying80 rfl (nd_info n6) ?_))
  clear hc fz
  refine HBAL.out.mono ?_
  rintro e w8 ⟨v8, rfl, T8, s8, rfl, hT8, hH8, hn8, hk8, hl8, hg8⟩
  have S8 := Lib.hid (And.intro hT8 (And.intro hH8 (And.intro (show LL = (p, x) :: T8.nodes by rw [hn8]; exact H3.out.1) (And.intro ((hk8 p H3.out.2.2.2.2).trans H3.out.2.1) (And.intro (show ∀ z, z ∉ ids LL → gt s8 z = gt s z from fun z hz => (hk8 z (fun e => hz (by rw [H3.out.1, ids]; rw [List.map_cons]; exact List.mem_cons.2 (.inr e)))).trans (H3.out.2.2.1 z (fun e => hz (by rw [← HO.out.2]; simp only [Tr.nodes, ids, List.map_append, List.map_cons, List.mem_append, List.mem_cons] at e ⊢; exact .inl e)))) (And.intro (hl8.trans H3.out.2.2.2.1) (G4.out.trans hg8)))))))
  clear hT8 hH8 hn8 hk8 hl8 hg8
  go_wp2_with fail
  exact bodyPost_ret (results_tmp2 rfl _ _ _) rfl ⟨_, rfl, T8, s8, p, x, _, _, _, _, _, rfl, S8.out.1, S8.out.2.1, S8.out.2.2.1, S8.out.2.2.2.1, S8.out.2.2.2.2.1, S8.out.2.2.2.2.2.1, S8.out.2.2.2.2.2.2⟩

theorem first_any {F : Nat → Prop} {gT gA : Nat} {root : Int} {fr : List Nat} : ∀ (T : Tr), T.rt ≠ -1 → ∀ (w : World) (s : List (Option Nd)), TreeW w F gT gA root s fr → Holds s T → OkL T.nodes →
    Calls Try.prog 44 #[.pointer (some ⟨gT, 0, none⟩), .int .i64 T.rt] w fun e w' => ∃ v, e = .returned v ∧ PostE w F gT gA root s fr T.nodes true v w'
  | .nil, h, _, _, _, _, _ => absurd rfl h
  | .nd k u .nil B, _, _, _, h, hT, _ => first_base h hT
  | .nd k u (.nd q y C D) B, _, _, _, h, hT, ho => first_rec h hT ho (fun w s h1 h2 h3 => first_any (.nd q y C D) (by show (q : Int) ≠ -1; omega) w s h1 h2 h3)

set_option maxHeartbeats 4000000 in
theorem last_base {w : World} {F : Nat → Prop} {gT gA : Nat} {root : Int} {s : List (Option Nd)} {fr : List Nat} (h : TreeW w F gT gA root s fr) {k : Nat} {u : Th} {A : Tr} (hT : Holds s (.nd k u A .nil)) :
    Calls Try.prog 42 #[.pointer (some ⟨gT, 0, none⟩), .int .i64 k] w fun e w' => ∃ v, e = .returned v ∧ PostE w F gT gA root s fr (Tr.nd k u A .nil).nodes false v w' := by
  have HW := Lib.hid (fun (w1 : World) (hb : Below w.heap.size w w1) => h.below hb)
  have HFL := Lib.hid h.ar.lt
  have HGT := Lib.hid h.lt
  have K0 := Lib.hid (Below.refl w.heap.size w)
  have HK0 := Lib.hid hT.1
  have HS := Lib.hid hT
  clear h hT
  go_enter Try.func42, Try.ntmps42
  go_wp2_with fail
  have HAt := Lib.hid (at_any (HW.out w K0.out) HK0.out)
  obtain ⟨n, hn⟩ : ∃ x, topN u A .nil = x := ⟨_, rfl⟩
  have hnc : n.r = -1 := by rw [← hn]; rfl
  have HN := Lib.hid hn
  rw [hn] at HAt
  unfold Nd.V at HAt
  clear hn
  refine HAt.out.mono ?_
  rintro e w1 ⟨rfl, hb1⟩
  obtain ⟨b, hb⟩ : ∃ b, w1.heap.size = b := ⟨_, rfl⟩
  obtain ⟨w2, hw2⟩ : ∃ v, w1.alloc (.cells n.C.toArray 80) = v := ⟨_, rfl⟩
  have hk1 : Below w.heap.size w w1 := K0.out.trans (hb1.mono K0.out.size)
  have N2 := Lib.hid (show NdAt w2 b n by rw [← hw2, ← hb]; exact NdAt.new w1 n)
  have K2 := Lib.hid (show Below w.heap.size w w2 by rw [← hw2]; exact hk1.alloc hk1.size _)
  have HE := Lib.hid (And.intro hw2 hb)
  have HBL := Lib.hid (show w.heap.size ≤ b by have := hk1.size; omega)
  clear hb1 hw2 hb hk1 HAt
  have hc := N2.out.cR
  have hc2 := N2.out.cL
  rw [hnc] at hc
  have hno : n.l = A.rt := by rw [← HN.out]; rfl
  rw [hno] at hc2
  go_wp2_with (refine wpList_store_row rfl 80 (.tmp 6) (.tmp 9) rfl w1.heap.size n.C.toArray rfl rfl 80 _ (heap_alloc_new w1 _) (nd_info n) (by simp [Nd.C_len]) (all_oneCell_toArray n.C_one) ?_; rw [alloc_setRow, HE.out.1, HE.out.2])
  exact bodyPost_ret (results_tmp2 rfl _ _ _) rfl ⟨_, rfl, A, s, k, u, _, _, _, _, _, rfl, HW.out w2 K2.out, HS.out.2.1, by simp [Tr.nodes], HK0.out, fun _ _ => rfl, rfl, Grow.of_below K2.out⟩

set_option maxHeartbeats 4000000 in
theorem last_rec {w : World} {F : Nat → Prop} {gT gA : Nat} {root : Int} {s : List (Option Nd)} {fr : List Nat} (h : TreeW w F gT gA root s fr) {k q : Nat} {u y : Th} {C D A : Tr} (hT : Holds s (.nd k u A (.nd q y C D))) (ho : OkL (Tr.nd k u A (.nd q y C D)).nodes)
    (ih : ∀ (w : World) (s : List (Option Nd)), TreeW w F gT gA root s fr → Holds s (.nd q y C D) → OkL (Tr.nd q y C D).nodes → Calls Try.prog 42 #[.pointer (some ⟨gT, 0, none⟩), .int .i64 (Tr.nd q y C D).rt] w fun e w' => ∃ v, e = .returned v ∧ PostE w F gT gA root s fr (Tr.nd q y C D).nodes false v w') :
    Calls Try.prog 42 #[.pointer (some ⟨gT, 0, none⟩), .int .i64 k] w fun e w' => ∃ v, e = .returned v ∧ PostE w F gT gA root s fr (Tr.nd k u A (.nd q y C D)).nodes false v w' := by
  have HW := Lib.hid (fun (w1 : World) (hb : Below w.heap.size w w1) => h.below hb)
  have HFL := Lib.hid h.ar.lt
  have HGT := Lib.hid h.lt
  have K0 := Lib.hid (Below.refl w.heap.size w)
  have HK0 := Lib.hid hT.1
  obtain ⟨LL, hLL⟩ : ∃ x, (Tr.nd k u A (.nd q y C D)).nodes = x := ⟨_, rfl⟩
  have HSB := Lib.hid hT.2.2
  have HOT := Lib.hid hT.2.1
  have HSUB := Lib.hid ((OkL.right (A := A.nodes) (B := (k, u) :: (Tr.nd q y C D).nodes) ho).tail)
  have hks : k ∉ ids (Tr.nd q y C D).nodes := fun e => by have hn := (OkL.right (A := A.nodes) (B := (k, u) :: (Tr.nd q y C D).nodes) ho).nodup; rw [ids, List.map_cons, List.nodup_cons] at hn; exact hn.1 e
  have HAP := Lib.hid (fun z hz e => OkL.apart (A := A.nodes) (B := (k, u) :: (Tr.nd q y C D).nodes) ho z hz (by rw [ids, List.map_cons]; exact List.mem_cons.2 (.inr e)) : ∀ z, z ∈ ids A.nodes → z ∈ ids (Tr.nd q y C D).nodes → False)
  have HO := Lib.hid (And.intro ho hLL)
  rw [hLL]
  clear h hT ho hLL
  go_enter Try.func42, Try.ntmps42
  go_wp2_with fail
  have HAt := Lib.hid (at_any (HW.out w K0.out) HK0.out)
  obtain ⟨n, hn⟩ : ∃ x, topN u A (.nd q y C D) = x := ⟨_, rfl⟩
  have hnc : n.r = (q : Int) := by rw [← hn]; rfl
  have HN := Lib.hid hn
  rw [hn] at HAt
  unfold Nd.V at HAt
  clear hn
  refine HAt.out.mono ?_
  rintro e w1 ⟨rfl, hb1⟩
  obtain ⟨b, hb⟩ : ∃ b, w1.heap.size = b := ⟨_, rfl⟩
  obtain ⟨w2, hw2⟩ : ∃ v, w1.alloc (.cells n.C.toArray 80) = v := ⟨_, rfl⟩
  have hk1 : Below w.heap.size w w1 := K0.out.trans (hb1.mono K0.out.size)
  have N2 := Lib.hid (show NdAt w2 b n by rw [← hw2, ← hb]; exact NdAt.new w1 n)
  have K2 := Lib.hid (show Below w.heap.size w w2 by rw [← hw2]; exact hk1.alloc hk1.size _)
  have HE := Lib.hid (And.intro hw2 hb)
  have HBL := Lib.hid (show w.heap.size ≤ b by have := hk1.size; omega)
  clear hb1 hw2 hb hk1 HAt
  have HI := Lib.hid (ih w2 s (HW.out w2 K2.out) HSB.out HSUB.out)
  have hc := N2.out.cR
  rw [hnc] at hc
  have hq1 : ((q : Int) == -1) = false := by simp
  go_wp2_with (refine wpList_store_row rfl 80 (.tmp 6) (.tmp 9) rfl w1.heap.size n.C.toArray rfl rfl 80 _ (heap_alloc_new w1 _) (nd_info n) (by simp [Nd.C_len]) (all_oneCell_toArray n.C_one) ?_; rw [alloc_setRow, HE.out.1, HE.out.2])
  clear hc
  refine HI.out.mono ?_
  rintro e w3 ⟨v3, rfl, T', s3, p, x, l0, r0, h0, z0, m0, rfl, hT3, hH3, hnod, hp3, hk3, hl3, hg3⟩
  have hnod : (Tr.nd q y C D).nodes = T'.nodes ++ [(p, x)] := hnod
  have N3 := Lib.hid (N2.out.step hg3.step (fun hF => by have := HFL.out _ hF; have := HBL.out; omega))
  have hk0 : gt s3 k = some (topN u A (.nd q y C D)) := (hk3 _ hks).trans HK0.out
  have HT3 := Lib.hid hH3
  have HO3 := Lib.hid (HOT.out.keep (s' := s3) (fun z hz => hk3 z (fun e => HAP.out z hz e)))
  have hwhole : LL = (Tr.nd k u A T').nodes ++ [(p, x)] := by rw [← HO.out.2]; show A.nodes ++ (k, u) :: (Tr.nd q y C D).nodes = _; rw [hnod]; simp [Tr.nodes]
  have okw : OkL ((Tr.nd k u A T').nodes ++ [(p, x)]) := by rw [← hwhole, ← HO.out.2]; exact HO.out.1
  have okx : OkL (Tr.nd k u A T').nodes := OkL.left (B := [(p, x)]) okw
  have hpx : p ∉ ids (Tr.nd k u A T').nodes := fun e => okw.apart p e (by simp [ids])
  have G3 := (Grow.of_below K2.out).trans hg3
  have hc := N3.out.cR
  have fz := N3.out.fz
  obtain ⟨n6, hn6⟩ : ∃ x, mkN u A.rt T'.rt n.h n.sz n.mk_ = x := ⟨_, rfl⟩
  obtain ⟨w4, hw4⟩ : ∃ x, w3.setCell ⟨b, 3, none⟩ (.int .i64 T'.rt) = x := ⟨_, rfl⟩
  have N4 := Lib.hid (show NdAt w4 b n6 by rw [← hw4]; exact N3.out.set 1 (.int .i64 T'.rt) n6 (by rw [← hn6, ← HN.out]; rfl) (by rw [← hn6, ← HN.out]; rfl))
  have G4 := Lib.hid (show Grow F w w4 F by rw [← hw4]; exact ⟨G3.step.setCell (p := ⟨b, _, none⟩) (.inr HBL.out) _, G3.new⟩)
  have T4 := Lib.hid (show TreeW w4 F gT gA root s3 fr from hT3.step (G := fun x => x = b) (by rw [← hw4]; exact (Step.refl (fun x => x = b) w3).setCell (p := ⟨b, _, none⟩) (.inl rfl) _) (fun x hF e => by have := HFL.out x hF; have := HBL.out; have e : x = b := e; omega) (fun e => by have := HGT.out; have := HBL.out; have e : gT = b := e; omega))
  have hbal := balance_any T4.out hk0 n.h n.sz n.mk_ HO3.out HT3.out okx
  rw [hn6] at hbal
  unfold Nd.V at hbal
  have HBAL := Lib.hid hbal
  have HW4 := Lib.hid hw4
  have H3 := Lib.hid (And.intro hwhole (And.intro hp3 (And.intro hk3 (And.intro hl3 hpx))))
  clear hw4 hT3 hH3 hk3 hl3 hg3 G3 hk0 hbal okx okw HI hnod hp3 hwhole hpx
  go_wp2_with (rw [HW4.out]; (refine wpList_load_row rfl 80 (.tmp 6) rfl b rfl 80 n6.C.toArray (0, 0) _ N4.out.blk Try.underlying80 rfl (nd_info n6) ?_))
  clear hc fz
  refine HBAL.out.mono ?_
  rintro e w8 ⟨v8, rfl, T8, s8, rfl, hT8, hH8, hn8, hk8, hl8, hg8⟩
  have S8 := Lib.hid (And.intro hT8 (And.intro hH8 (And.intro (show LL = T8.nodes ++ [(p, x)] by rw [hn8]; exact H3.out.1) (And.intro ((hk8 p H3.out.2.2.2.2).trans H3.out.2.1) (And.intro (show ∀ z, z ∉ ids LL → gt s8 z = gt s z from fun z hz => (hk8 z (fun e => hz (by rw [H3.out.1, ids]; rw [List.map_append]; exact List.mem_append.2 (.inl e)))).trans (H3.out.2.2.1 z (fun e => hz (by rw [← HO.out.2]; simp only [Tr.nodes, ids, List.map_append, List.map_cons, List.mem_append, List.mem_cons] at e ⊢; exact .inr (.inr e))))) (And.intro (hl8.trans H3.out.2.2.2.1) (G4.out.trans hg8)))))))
  clear hT8 hH8 hn8 hk8 hl8 hg8
  go_wp2_with fail
  exact bodyPost_ret (results_tmp2 rfl _ _ _) rfl ⟨_, rfl, T8, s8, p, x, _, _, _, _, _, rfl, S8.out.1, S8.out.2.1, S8.out.2.2.1, S8.out.2.2.2.1, S8.out.2.2.2.2.1, S8.out.2.2.2.2.2.1, S8.out.2.2.2.2.2.2⟩

theorem last_any {F : Nat → Prop} {gT gA : Nat} {root : Int} {fr : List Nat} : ∀ (T : Tr), T.rt ≠ -1 → ∀ (w : World) (s : List (Option Nd)), TreeW w F gT gA root s fr → Holds s T → OkL T.nodes →
    Calls Try.prog 42 #[.pointer (some ⟨gT, 0, none⟩), .int .i64 T.rt] w fun e w' => ∃ v, e = .returned v ∧ PostE w F gT gA root s fr T.nodes false v w'
  | .nil, h, _, _, _, _, _ => absurd rfl h
  | .nd k u A .nil, _, _, _, h, hT, _ => last_base h hT
  | .nd k u A (.nd q y C D), _, _, _, h, hT, ho => last_rec h hT ho (fun w s h1 h2 h3 => last_any (.nd q y C D) (by show (q : Int) ≠ -1; omega) w s h1 h2 h3)

end Go.Proofs.Ytbioomilnjikpaa
