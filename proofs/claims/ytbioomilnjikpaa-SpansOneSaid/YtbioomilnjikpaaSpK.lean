/-
  avl.Tree: balance.
-/
import Derived.Test.YtbioomilnjikpaaSpJ
namespace Go.Proofs.Ytbioomilnjikpaa
open Go.RowKit

set_option maxHeartbeats 4000000 in
theorem bal_none {w : World} {F : Nat → Prop} {gT gA : Nat} {root : Int} {s : List (Option Nd)} {fr : List Nat} (h : TreeW w F gT gA root s fr) {i : Nat} {n0 : Nd} (hk : gt s i = some n0) {t : Th} {L R : Tr} (hh sz mk : Int)
    (hl : Holds s (L)) (hr : Holds s (R)) (ho : OkL (Tr.nd i t (L) (R)).nodes) (h1 : L.h - R.h ≤ 1) (h2 : -1 ≤ L.h - R.h) :
    Calls Try.prog 58 #[.pointer (some ⟨gT, 0, none⟩), .int .i64 i, (mkN t (L).rt (R).rt hh sz mk).V] w fun e w' => ∃ v, e = .returned v ∧ Post w F gT gA root s fr (Tr.nd i t (L) (R)).nodes v w' := by
  have hset := set_tree (h.below ((Below.refl w.heap.size w).alloc (Nat.le_refl _) (.cells (mkN t (L).rt (R).rt hh sz mk).C.toArray 80))) hk t (L) (R) hh sz mk hl hr ho
  obtain ⟨LL, hLL⟩ : ∃ x, (Tr.nd i t (L) (R)).nodes = x := ⟨_, rfl⟩
  have HO := Lib.hid (And.intro ho hLL)
  have HFb := Lib.hid (show ¬ F w.heap.size from fun hF => by have := h.ar.lt _ hF; omega)
  have HFL := Lib.hid h.ar.lt
  have HGT := Lib.hid h.lt
  have HIL := Lib.hid (And.intro (gt_lt hk) (show i ∈ ids LL by rw [← hLL]; simp [Tr.nodes, ids]))
  obtain ⟨d, hd⟩ : ∃ x, (L).h - (R).h = x := ⟨_, rfl⟩
  have HD := Lib.hid hd
  obtain ⟨n, hn⟩ : ∃ x, mkN t (L).rt (R).rt hh sz mk = x := ⟨_, rfl⟩
  have hnl : n.l = (L).rt := by rw [← hn]; rfl
  have hnr : n.r = (R).rt := by rw [← hn]; rfl
  have HN := Lib.hid hn
  rw [hn] at hset ⊢
  rw [hLL]
  unfold Nd.V at hset ⊢
  have HSET := Lib.hid hset
  have HL := Lib.hid (And.intro hl hr)
  clear hset h hl hr ho hLL hd hn hk
  obtain ⟨w1, hw1⟩ : ∃ v, w.alloc (.cells n.C.toArray 80) = v := ⟨_, rfl⟩
  obtain ⟨b, hb⟩ : ∃ v, w.heap.size = v := ⟨_, rfl⟩
  have N1 := Lib.hid (show NdAt w1 b n by rw [← hw1, ← hb]; exact NdAt.new w n)
  have K1 := Lib.hid (show Below w.heap.size w w1 by rw [← hw1]; exact (Below.refl _ _).alloc (Nat.le_refl _) _)
  rw [hw1] at HSET
  rw [hb] at HFb
  have HB := Lib.hid (Nat.le_of_eq hb)
  go_enter Try.func58, Try.ntmps58
  go_wp2_with (refine wpList_load_row rfl 80 (.tmp 5) rfl b rfl 80 n.C.toArray (0, 0) _ N1.out.blk Try.underlying80 rfl (nd_info n) ?_)
  clear hw1 hb
  refine HSET.out.mono ?_
  rintro e w2 ⟨⟨v2, rfl⟩, hT2, hH2, hg2⟩
  have N2 := Lib.hid (N1.out.step hg2.step HFb.out)
  have S2 := Lib.hid (And.intro hT2 (And.intro hH2 (And.intro (show ∀ q, q ∉ ids LL → gt (s.set i (some (topN t (L) (R)))) q = gt s q from fun q hq => gt_set_other HIL.out.1 _ (fun e => hq (by rw [e]; exact HIL.out.2))) (And.intro (show (s.set i (some (topN t (L) (R)))).length = s.length from List.length_set) ((Grow.of_below K1.out).trans hg2)))))
  clear hT2 hH2 hg2 HSET
  have HLn := Lib.hid (lean_tree S2.out.1 S2.out.2.1 HO.out.1)
  rw [HD.out] at HLn
  go_wp2_with fail
  refine HLn.out.mono ?_
  rintro e w3 ⟨rfl, hb3⟩
  have N3 := Lib.hid (N2.out.below hb3)
  have S3 := Lib.hid (And.intro (S2.out.1.below hb3) (And.intro S2.out.2.1 (And.intro S2.out.2.2.1 (And.intro S2.out.2.2.2.1 (S2.out.2.2.2.2.trans (Grow.of_below hb3))))))
  clear hb3 HLn S2 N2
  obtain ⟨s3, hs3⟩ : ∃ x, s.set i (some (topN t (L) (R))) = x := ⟨_, rfl⟩
  rw [hs3] at S3
  clear hs3
  have hd1 : ¬ (1 : Int) < d := by rw [← HD.out]; omega
  have hd2 : ¬ d < -1 := by rw [← HD.out]; omega
  go_wp2_with fail
  go_ret
  exact ⟨_, rfl, .nd i t L R, _, rfl, S3.out.1, S3.out.2.1, (show (Tr.nd i t L R).nodes = (Tr.nd i t L R).nodes by simp [Tr.nodes]).trans HO.out.2, S3.out.2.2.1, S3.out.2.2.2.1, S3.out.2.2.2.2⟩

set_option maxHeartbeats 4000000 in
theorem bal_left {w : World} {F : Nat → Prop} {gT gA : Nat} {root : Int} {s : List (Option Nd)} {fr : List Nat} (h : TreeW w F gT gA root s fr) {i j : Nat} {n0 : Nd} (hk : gt s i = some n0) {t u : Th} {A B R : Tr} (hh sz mk : Int)
    (hl : Holds s (.nd j u A B)) (hr : Holds s (R)) (ho : OkL (Tr.nd i t (.nd j u A B) (R)).nodes) (hbig : 1 < (Tr.nd j u A B).h - R.h) (hsub : ¬ A.h - B.h < 0) :
    Calls Try.prog 58 #[.pointer (some ⟨gT, 0, none⟩), .int .i64 i, (mkN t (Tr.nd j u A B).rt (R).rt hh sz mk).V] w fun e w' => ∃ v, e = .returned v ∧ Post w F gT gA root s fr (Tr.nd i t (.nd j u A B) (R)).nodes v w' := by
  have hset := set_tree (h.below ((Below.refl w.heap.size w).alloc (Nat.le_refl _) (.cells (mkN t (Tr.nd j u A B).rt (R).rt hh sz mk).C.toArray 80))) hk t (.nd j u A B) (R) hh sz mk hl hr ho
  obtain ⟨LL, hLL⟩ : ∃ x, (Tr.nd i t (.nd j u A B) (R)).nodes = x := ⟨_, rfl⟩
  have HO := Lib.hid (And.intro ho hLL)
  have HFb := Lib.hid (show ¬ F w.heap.size from fun hF => by have := h.ar.lt _ hF; omega)
  have HFL := Lib.hid h.ar.lt
  have HGT := Lib.hid h.lt
  have HIL := Lib.hid (And.intro (gt_lt hk) (show i ∈ ids LL by rw [← hLL]; simp [Tr.nodes, ids]))
  obtain ⟨d, hd⟩ : ∃ x, (Tr.nd j u A B).h - (R).h = x := ⟨_, rfl⟩
  have HD := Lib.hid hd
  obtain ⟨n, hn⟩ : ∃ x, mkN t (Tr.nd j u A B).rt (R).rt hh sz mk = x := ⟨_, rfl⟩
  have hnl : n.l = (Tr.nd j u A B).rt := by rw [← hn]; rfl
  have hnr : n.r = (R).rt := by rw [← hn]; rfl
  have HN := Lib.hid hn
  rw [hn] at hset ⊢
  rw [hLL]
  unfold Nd.V at hset ⊢
  have HSET := Lib.hid hset
  have HL := Lib.hid (And.intro hl hr)
  clear hset h hl hr ho hLL hd hn hk
  obtain ⟨w1, hw1⟩ : ∃ v, w.alloc (.cells n.C.toArray 80) = v := ⟨_, rfl⟩
  obtain ⟨b, hb⟩ : ∃ v, w.heap.size = v := ⟨_, rfl⟩
  have N1 := Lib.hid (show NdAt w1 b n by rw [← hw1, ← hb]; exact NdAt.new w n)
  have K1 := Lib.hid (show Below w.heap.size w w1 by rw [← hw1]; exact (Below.refl _ _).alloc (Nat.le_refl _) _)
  rw [hw1] at HSET
  rw [hb] at HFb
  have HB := Lib.hid (Nat.le_of_eq hb)
  go_enter Try.func58, Try.ntmps58
  go_wp2_with (refine wpList_load_row rfl 80 (.tmp 5) rfl b rfl 80 n.C.toArray (0, 0) _ N1.out.blk Try.underlying80 rfl (nd_info n) ?_)
  clear hw1 hb
  refine HSET.out.mono ?_
  rintro e w2 ⟨⟨v2, rfl⟩, hT2, hH2, hg2⟩
  have N2 := Lib.hid (N1.out.step hg2.step HFb.out)
  have S2 := Lib.hid (And.intro hT2 (And.intro hH2 (And.intro (show ∀ q, q ∉ ids LL → gt (s.set i (some (topN t (.nd j u A B) (R)))) q = gt s q from fun q hq => gt_set_other HIL.out.1 _ (fun e => hq (by rw [e]; exact HIL.out.2))) (And.intro (show (s.set i (some (topN t (.nd j u A B) (R)))).length = s.length from List.length_set) ((Grow.of_below K1.out).trans hg2)))))
  clear hT2 hH2 hg2 HSET
  have HLn := Lib.hid (lean_tree S2.out.1 S2.out.2.1 HO.out.1)
  rw [HD.out] at HLn
  go_wp2_with fail
  refine HLn.out.mono ?_
  rintro e w3 ⟨rfl, hb3⟩
  have N3 := Lib.hid (N2.out.below hb3)
  have S3 := Lib.hid (And.intro (S2.out.1.below hb3) (And.intro S2.out.2.1 (And.intro S2.out.2.2.1 (And.intro S2.out.2.2.2.1 (S2.out.2.2.2.2.trans (Grow.of_below hb3))))))
  clear hb3 HLn S2 N2
  obtain ⟨s3, hs3⟩ : ∃ x, s.set i (some (topN t (.nd j u A B) (R))) = x := ⟨_, rfl⟩
  rw [hs3] at S3
  clear hs3
  have HLs := Lib.hid (lean_tree S3.out.1 S3.out.2.1.2.1 (OkL.left (A := (Tr.nd j u A B).nodes) HO.out.1))
  obtain ⟨d2, hd2⟩ : ∃ x, A.h - B.h = x := ⟨_, rfl⟩
  rw [hd2] at HLs
  have hdd : ¬ d2 < 0 := by rw [← hd2]; omega
  have hc := N3.out.cL
  rw [hnl] at hc
  have hc : w3.cell? ⟨b, 2, none⟩ = some (.int .i64 (j : Int)) := hc
  have hd1 : (1 : Int) < d := by rw [← HD.out]; omega
  go_wp2_with fail
  clear hc
  refine HLs.out.mono ?_
  rintro e w4 ⟨rfl, hb4⟩
  have N4 := Lib.hid (N3.out.below hb4)
  have S4 := Lib.hid (And.intro (S3.out.1.below hb4) (And.intro S3.out.2.1 (And.intro S3.out.2.2.1 (And.intro S3.out.2.2.2.1 (S3.out.2.2.2.2.trans (Grow.of_below hb4))))))
  clear hb4 HLs
  have HLf := Lib.hid (lift_left S4.out.1 S4.out.2.1 HO.out.1)
  go_wp2_with fail
  refine HLf.out.mono ?_
  rintro e w5 ⟨s5, rfl, hT5, hH5, hk5, hl5, hg5⟩
  have S5 := Lib.hid (And.intro hT5 (And.intro hH5 (And.intro (show ∀ q, q ∉ ids LL → gt s5 q = gt s q from fun q hq => (hk5 q (fun e => hq (by rw [← HO.out.2]; exact e))).trans (S4.out.2.2.1 q hq)) (And.intro (hl5.trans S4.out.2.2.2.1) (S4.out.2.2.2.2.trans hg5)))))
  clear hT5 hH5 hk5 hl5 hg5 HLf
  go_wp2_with fail
  go_ret
  exact ⟨_, rfl, .nd j u A (.nd i t B R), _, rfl, S5.out.1, S5.out.2.1, (show (Tr.nd j u A (.nd i t B R)).nodes = (Tr.nd i t (.nd j u A B) R).nodes by simp [Tr.nodes]).trans HO.out.2, S5.out.2.2.1, S5.out.2.2.2.1, S5.out.2.2.2.2⟩

set_option maxHeartbeats 4000000 in
theorem bal_right {w : World} {F : Nat → Prop} {gT gA : Nat} {root : Int} {s : List (Option Nd)} {fr : List Nat} (h : TreeW w F gT gA root s fr) {i j : Nat} {n0 : Nd} (hk : gt s i = some n0) {t u : Th} {L A B : Tr} (hh sz mk : Int)
    (hl : Holds s (L)) (hr : Holds s (.nd j u A B)) (ho : OkL (Tr.nd i t (L) (.nd j u A B)).nodes) (hbig : L.h - (Tr.nd j u A B).h < -1) (hsub : ¬ 0 < A.h - B.h) :
    Calls Try.prog 58 #[.pointer (some ⟨gT, 0, none⟩), .int .i64 i, (mkN t (L).rt (Tr.nd j u A B).rt hh sz mk).V] w fun e w' => ∃ v, e = .returned v ∧ Post w F gT gA root s fr (Tr.nd i t (L) (.nd j u A B)).nodes v w' := by
  have hset := set_tree (h.below ((Below.refl w.heap.size w).alloc (Nat.le_refl _) (.cells (mkN t (L).rt (Tr.nd j u A B).rt hh sz mk).C.toArray 80))) hk t (L) (.nd j u A B) hh sz mk hl hr ho
  obtain ⟨LL, hLL⟩ : ∃ x, (Tr.nd i t (L) (.nd j u A B)).nodes = x := ⟨_, rfl⟩
  have HO := Lib.hid (And.intro ho hLL)
  have HFb := Lib.hid (show ¬ F w.heap.size from fun hF => by have := h.ar.lt _ hF; omega)
  have HFL := Lib.hid h.ar.lt
  have HGT := Lib.hid h.lt
  have HIL := Lib.hid (And.intro (gt_lt hk) (show i ∈ ids LL by rw [← hLL]; simp [Tr.nodes, ids]))
  obtain ⟨d, hd⟩ : ∃ x, (L).h - (Tr.nd j u A B).h = x := ⟨_, rfl⟩
  have HD := Lib.hid hd
  obtain ⟨n, hn⟩ : ∃ x, mkN t (L).rt (Tr.nd j u A B).rt hh sz mk = x := ⟨_, rfl⟩
  have hnl : n.l = (L).rt := by rw [← hn]; rfl
  have hnr : n.r = (Tr.nd j u A B).rt := by rw [← hn]; rfl
  have HN := Lib.hid hn
  rw [hn] at hset ⊢
  rw [hLL]
  unfold Nd.V at hset ⊢
  have HSET := Lib.hid hset
  have HL := Lib.hid (And.intro hl hr)
  clear hset h hl hr ho hLL hd hn hk
  obtain ⟨w1, hw1⟩ : ∃ v, w.alloc (.cells n.C.toArray 80) = v := ⟨_, rfl⟩
  obtain ⟨b, hb⟩ : ∃ v, w.heap.size = v := ⟨_, rfl⟩
  have N1 := Lib.hid (show NdAt w1 b n by rw [← hw1, ← hb]; exact NdAt.new w n)
  have K1 := Lib.hid (show Below w.heap.size w w1 by rw [← hw1]; exact (Below.refl _ _).alloc (Nat.le_refl _) _)
  rw [hw1] at HSET
  rw [hb] at HFb
  have HB := Lib.hid (Nat.le_of_eq hb)
  go_enter Try.func58, Try.ntmps58
  go_wp2_with (refine wpList_load_row rfl 80 (.tmp 5) rfl b rfl 80 n.C.toArray (0, 0) _ N1.out.blk Try.underlying80 rfl (nd_info n) ?_)
  clear hw1 hb
  refine HSET.out.mono ?_
  rintro e w2 ⟨⟨v2, rfl⟩, hT2, hH2, hg2⟩
  have N2 := Lib.hid (N1.out.step hg2.step HFb.out)
  have S2 := Lib.hid (And.intro hT2 (And.intro hH2 (And.intro (show ∀ q, q ∉ ids LL → gt (s.set i (some (topN t (L) (.nd j u A B)))) q = gt s q from fun q hq => gt_set_other HIL.out.1 _ (fun e => hq (by rw [e]; exact HIL.out.2))) (And.intro (show (s.set i (some (topN t (L) (.nd j u A B)))).length = s.length from List.length_set) ((Grow.of_below K1.out).trans hg2)))))
  clear hT2 hH2 hg2 HSET
  have HLn := Lib.hid (lean_tree S2.out.1 S2.out.2.1 HO.out.1)
  rw [HD.out] at HLn
  go_wp2_with fail
  refine HLn.out.mono ?_
  rintro e w3 ⟨rfl, hb3⟩
  have N3 := Lib.hid (N2.out.below hb3)
  have S3 := Lib.hid (And.intro (S2.out.1.below hb3) (And.intro S2.out.2.1 (And.intro S2.out.2.2.1 (And.intro S2.out.2.2.2.1 (S2.out.2.2.2.2.trans (Grow.of_below hb3))))))
  clear hb3 HLn S2 N2
  obtain ⟨s3, hs3⟩ : ∃ x, s.set i (some (topN t (L) (.nd j u A B))) = x := ⟨_, rfl⟩
  rw [hs3] at S3
  clear hs3
  have HLs := Lib.hid (lean_tree S3.out.1 S3.out.2.1.2.2 (OkL.right (A := L.nodes) HO.out.1).tail)
  obtain ⟨d2, hd2⟩ : ∃ x, A.h - B.h = x := ⟨_, rfl⟩
  rw [hd2] at HLs
  have hdd : ¬ 0 < d2 := by rw [← hd2]; omega
  have hc := N3.out.cR
  rw [hnr] at hc
  have hc : w3.cell? ⟨b, 3, none⟩ = some (.int .i64 (j : Int)) := hc
  have hd1 : d < -1 := by rw [← HD.out]; omega
  go_wp2_with fail
  clear hc
  refine HLs.out.mono ?_
  rintro e w4 ⟨rfl, hb4⟩
  have N4 := Lib.hid (N3.out.below hb4)
  have S4 := Lib.hid (And.intro (S3.out.1.below hb4) (And.intro S3.out.2.1 (And.intro S3.out.2.2.1 (And.intro S3.out.2.2.2.1 (S3.out.2.2.2.2.trans (Grow.of_below hb4))))))
  clear hb4 HLs
  have HLf := Lib.hid (lift_right S4.out.1 S4.out.2.1 HO.out.1)
  go_wp2_with fail
  refine HLf.out.mono ?_
  rintro e w5 ⟨s5, rfl, hT5, hH5, hk5, hl5, hg5⟩
  have S5 := Lib.hid (And.intro hT5 (And.intro hH5 (And.intro (show ∀ q, q ∉ ids LL → gt s5 q = gt s q from fun q hq => (hk5 q (fun e => hq (by rw [← HO.out.2]; exact e))).trans (S4.out.2.2.1 q hq)) (And.intro (hl5.trans S4.out.2.2.2.1) (S4.out.2.2.2.2.trans hg5)))))
  clear hT5 hH5 hk5 hl5 hg5 HLf
  go_wp2_with fail
  go_ret
  exact ⟨_, rfl, .nd j u (.nd i t L A) B, _, rfl, S5.out.1, S5.out.2.1, (show (Tr.nd j u (.nd i t L A) B).nodes = (Tr.nd i t L (.nd j u A B)).nodes by simp [Tr.nodes]).trans HO.out.2, S5.out.2.2.1, S5.out.2.2.2.1, S5.out.2.2.2.2⟩

set_option maxHeartbeats 4000000 in
theorem bal_left2 {w : World} {F : Nat → Prop} {gT gA : Nat} {root : Int} {s : List (Option Nd)} {fr : List Nat} (h : TreeW w F gT gA root s fr) {i j p : Nat} {n0 : Nd} (hk : gt s i = some n0) {t u y : Th} {A C D R : Tr} (hh sz mk : Int)
    (hl : Holds s (.nd j u A (.nd p y C D))) (hr : Holds s (R)) (ho : OkL (Tr.nd i t (.nd j u A (.nd p y C D)) (R)).nodes) (hbig : 1 < (Tr.nd j u A (.nd p y C D)).h - R.h) (hsub : A.h - (Tr.nd p y C D).h < 0) :
    Calls Try.prog 58 #[.pointer (some ⟨gT, 0, none⟩), .int .i64 i, (mkN t (Tr.nd j u A (.nd p y C D)).rt (R).rt hh sz mk).V] w fun e w' => ∃ v, e = .returned v ∧ Post w F gT gA root s fr (Tr.nd i t (.nd j u A (.nd p y C D)) (R)).nodes v w' := by
  have hset := set_tree (h.below ((Below.refl w.heap.size w).alloc (Nat.le_refl _) (.cells (mkN t (Tr.nd j u A (.nd p y C D)).rt (R).rt hh sz mk).C.toArray 80))) hk t (.nd j u A (.nd p y C D)) (R) hh sz mk hl hr ho
  obtain ⟨LL, hLL⟩ : ∃ x, (Tr.nd i t (.nd j u A (.nd p y C D)) (R)).nodes = x := ⟨_, rfl⟩
  have HO := Lib.hid (And.intro ho hLL)
  have HFb := Lib.hid (show ¬ F w.heap.size from fun hF => by have := h.ar.lt _ hF; omega)
  have HFL := Lib.hid h.ar.lt
  have HGT := Lib.hid h.lt
  have HIL := Lib.hid (And.intro (gt_lt hk) (show i ∈ ids LL by rw [← hLL]; simp [Tr.nodes, ids]))
  obtain ⟨d, hd⟩ : ∃ x, (Tr.nd j u A (.nd p y C D)).h - (R).h = x := ⟨_, rfl⟩
  have HD := Lib.hid hd
  obtain ⟨n, hn⟩ : ∃ x, mkN t (Tr.nd j u A (.nd p y C D)).rt (R).rt hh sz mk = x := ⟨_, rfl⟩
  have hnl : n.l = (Tr.nd j u A (.nd p y C D)).rt := by rw [← hn]; rfl
  have hnr : n.r = (R).rt := by rw [← hn]; rfl
  have HN := Lib.hid hn
  rw [hn] at hset ⊢
  rw [hLL]
  unfold Nd.V at hset ⊢
  have HSET := Lib.hid hset
  have HL := Lib.hid (And.intro hl hr)
  clear hset h hl hr ho hLL hd hn hk
  obtain ⟨w1, hw1⟩ : ∃ v, w.alloc (.cells n.C.toArray 80) = v := ⟨_, rfl⟩
  obtain ⟨b, hb⟩ : ∃ v, w.heap.size = v := ⟨_, rfl⟩
  have N1 := Lib.hid (show NdAt w1 b n by rw [← hw1, ← hb]; exact NdAt.new w n)
  have K1 := Lib.hid (show Below w.heap.size w w1 by rw [← hw1]; exact (Below.refl _ _).alloc (Nat.le_refl _) _)
  rw [hw1] at HSET
  rw [hb] at HFb
  have HB := Lib.hid (Nat.le_of_eq hb)
  go_enter Try.func58, Try.ntmps58
  go_wp2_with (refine wpList_load_row rfl 80 (.tmp 5) rfl b rfl 80 n.C.toArray (0, 0) _ N1.out.blk Try.underlying80 rfl (nd_info n) ?_)
  clear hw1 hb
  refine HSET.out.mono ?_
  rintro e w2 ⟨⟨v2, rfl⟩, hT2, hH2, hg2⟩
  have N2 := Lib.hid (N1.out.step hg2.step HFb.out)
  have S2 := Lib.hid (And.intro hT2 (And.intro hH2 (And.intro (show ∀ q, q ∉ ids LL → gt (s.set i (some (topN t (.nd j u A (.nd p y C D)) (R)))) q = gt s q from fun q hq => gt_set_other HIL.out.1 _ (fun e => hq (by rw [e]; exact HIL.out.2))) (And.intro (show (s.set i (some (topN t (.nd j u A (.nd p y C D)) (R)))).length = s.length from List.length_set) ((Grow.of_below K1.out).trans hg2)))))
  clear hT2 hH2 hg2 HSET
  have HLn := Lib.hid (lean_tree S2.out.1 S2.out.2.1 HO.out.1)
  rw [HD.out] at HLn
  go_wp2_with fail
  refine HLn.out.mono ?_
  rintro e w3 ⟨rfl, hb3⟩
  have N3 := Lib.hid (N2.out.below hb3)
  have S3 := Lib.hid (And.intro (S2.out.1.below hb3) (And.intro S2.out.2.1 (And.intro S2.out.2.2.1 (And.intro S2.out.2.2.2.1 (S2.out.2.2.2.2.trans (Grow.of_below hb3))))))
  clear hb3 HLn S2 N2
  obtain ⟨s3, hs3⟩ : ∃ x, s.set i (some (topN t (.nd j u A (.nd p y C D)) (R))) = x := ⟨_, rfl⟩
  rw [hs3] at S3
  clear hs3
  have HLs := Lib.hid (lean_tree S3.out.1 S3.out.2.1.2.1 (OkL.left (A := (Tr.nd j u A (.nd p y C D)).nodes) HO.out.1))
  obtain ⟨d2, hd2⟩ : ∃ x, A.h - (Tr.nd p y C D).h = x := ⟨_, rfl⟩
  rw [hd2] at HLs
  have hdd : d2 < 0 := by rw [← hd2]; omega
  have hc := N3.out.cL
  rw [hnl] at hc
  have hc : w3.cell? ⟨b, 2, none⟩ = some (.int .i64 (j : Int)) := hc
  have hd1 : (1 : Int) < d := by rw [← HD.out]; omega
  go_wp2_with fail
  clear hc
  refine HLs.out.mono ?_
  rintro e w4 ⟨rfl, hb4⟩
  have N4 := Lib.hid (N3.out.below hb4)
  have S4 := Lib.hid (And.intro (S3.out.1.below hb4) (And.intro S3.out.2.1 (And.intro S3.out.2.2.1 (And.intro S3.out.2.2.2.1 (S3.out.2.2.2.2.trans (Grow.of_below hb4))))))
  clear hb4 HLs
  have HLg := Lib.hid (lift_right S4.out.1 S4.out.2.1.2.1 (OkL.left (A := (Tr.nd j u A (.nd p y C D)).nodes) HO.out.1))
  have hc := N4.out.cL
  rw [hnl] at hc
  have hc : w4.cell? ⟨b, 2, none⟩ = some (.int .i64 (j : Int)) := hc
  go_wp2_with fail
  clear hc
  refine HLg.out.mono ?_
  rintro e w5 ⟨s5, rfl, hT5, hH5, hk5, hl5, hg5⟩
  have N5 := Lib.hid (N4.out.step hg5.step HFb.out)
  have hi5 : gt s5 i = some (topN t (.nd j u A (.nd p y C D)) R) := (hk5 i (fun e => OkL.apart (A := (Tr.nd j u A (.nd p y C D)).nodes) (B := (i, t) :: R.nodes) HO.out.1 i e (by simp [ids]))).trans S4.out.2.1.1
  have HR5 := Lib.hid (S4.out.2.1.2.2.keep (s' := s5) (fun z hz => hk5 z (fun e => OkL.apart (A := (Tr.nd j u A (.nd p y C D)).nodes) (B := (i, t) :: R.nodes) HO.out.1 z e (by rw [ids, List.map_cons]; exact List.mem_cons.2 (.inr hz)))))
  have HLT := Lib.hid (show ∀ x, F x → x < b from fun x hx => by have h1 := HFL.out x hx; have := HB.out; omega)
  have okx : OkL (Tr.nd i t (.nd p y (.nd j u A C) D) R).nodes := by have h1 := HO.out.1; simpa [Tr.nodes] using h1
  have G5 := S4.out.2.2.2.2.trans hg5
  have F5 := Lib.hid (show ∀ z, z ∉ ids LL → gt s5 z = gt s z from fun z hz => (hk5 z (fun e => hz (by rw [← HO.out.2]; simp only [Tr.nodes, ids_append, List.mem_append] at e ⊢; exact .inl e))).trans (S4.out.2.2.1 z hz))
  have L5 := Lib.hid (hl5.trans S4.out.2.2.2.1)
  have hc := N5.out.cL
  have fz := N5.out.fz
  obtain ⟨n6, hn6⟩ : ∃ x, mkN t (p : Int) R.rt hh sz mk = x := ⟨_, rfl⟩
  obtain ⟨w6, hw6⟩ : ∃ x, w5.setCell ⟨b, 2, none⟩ (.int .i64 (p : Int)) = x := ⟨_, rfl⟩
  have N6 := Lib.hid (show NdAt w6 b n6 by rw [← hw6]; exact N5.out.set 0 (.int .i64 (p : Int)) n6 (by rw [← hn6, ← HN.out]; rfl) (by rw [← hn6, ← HN.out]; rfl))
  have G6 := Lib.hid (show Grow F w w6 F by rw [← hw6]; exact ⟨G5.step.setCell (p := ⟨b, _, none⟩) (.inr HB.out) _, G5.new⟩)
  have T6 := Lib.hid (show TreeW w6 F gT gA root s5 fr from hT5.step (G := fun x => x = b) (by rw [← hw6]; exact (Step.refl (fun x => x = b) w5).setCell (p := ⟨b, _, none⟩) (.inl rfl) _) (fun x hF e => by have := HLT.out x hF; have e : x = b := e; omega) (fun e => by have := HGT.out; have := HB.out; have e : gT = b := e; omega))
  have hset := fun hh sz mk => set_tree T6.out hi5 t (.nd p y (.nd j u A C) D) R hh sz mk hH5 (HR5.out) okx
  simp only [Nd.V] at hset
  have HW6 := Lib.hid hw6
  have I5 := Lib.hid (gt_lt hi5)
  clear hw6 hT5 hH5 hk5 hl5 hg5 G5 hi5 HLg
  go_wp2_with (rw [HW6.out]; (refine wpList_load_row rfl 80 (.tmp 5) rfl b rfl 80 n6.C.toArray (0, 0) _ N6.out.blk Try.underlying80 rfl (nd_info n6) ?_))
  clear hc fz
  subst hn6
  refine (hset _ _ _).mono ?_
  clear hset
  rintro e w7 ⟨⟨v7, rfl⟩, hT7, hH7, hg7⟩
  have S7 := Lib.hid (And.intro hT7 (And.intro hH7 (And.intro (show ∀ z, z ∉ ids LL → gt (s5.set i (some (topN t (.nd p y (.nd j u A C) D) R))) z = gt s z from fun z hz => (gt_set_other I5.out _ (fun e => hz (by rw [e]; exact HIL.out.2))).trans (F5.out z hz)) (And.intro (show (s5.set i (some (topN t (.nd p y (.nd j u A C) D) R))).length = s.length from (List.length_set).trans L5.out) (G6.out.trans hg7)))))
  clear hT7 hH7 hg7
  have HLf := Lib.hid (lift_left S7.out.1 S7.out.2.1 okx)
  go_wp2_with fail
  refine HLf.out.mono ?_
  rintro e w8 ⟨s8, rfl, hT8, hH8, hk8, hl8, hg8⟩
  have S8 := Lib.hid (And.intro hT8 (And.intro hH8 (And.intro (show ∀ q, q ∉ ids LL → gt s8 q = gt s q from fun q hq => (hk8 q (fun e => hq (by rw [← HO.out.2, show (Tr.nd i t (.nd j u A (.nd p y C D)) R).nodes = (Tr.nd i t (.nd p y (.nd j u A C) D) R).nodes by simp [Tr.nodes]]; exact e))).trans (S7.out.2.2.1 q hq)) (And.intro (hl8.trans S7.out.2.2.2.1) (S7.out.2.2.2.2.trans hg8)))))
  clear hT8 hH8 hk8 hl8 hg8 HLf
  go_wp2_with fail
  go_ret
  exact ⟨_, rfl, .nd p y (.nd j u A C) (.nd i t D R), _, rfl, S8.out.1, S8.out.2.1, (show (Tr.nd p y (.nd j u A C) (.nd i t D R)).nodes = (Tr.nd i t (.nd j u A (.nd p y C D)) R).nodes by simp [Tr.nodes]).trans HO.out.2, S8.out.2.2.1, S8.out.2.2.2.1, S8.out.2.2.2.2⟩

set_option maxHeartbeats 4000000 in
theorem bal_right2 {w : World} {F : Nat → Prop} {gT gA : Nat} {root : Int} {s : List (Option Nd)} {fr : List Nat} (h : TreeW w F gT gA root s fr) {i j p : Nat} {n0 : Nd} (hk : gt s i = some n0) {t u y : Th} {L C D B : Tr} (hh sz mk : Int)
    (hl : Holds s (L)) (hr : Holds s (.nd j u (.nd p y C D) B)) (ho : OkL (Tr.nd i t (L) (.nd j u (.nd p y C D) B)).nodes) (hbig : L.h - (Tr.nd j u (.nd p y C D) B).h < -1) (hsub : 0 < (Tr.nd p y C D).h - B.h) :
    Calls Try.prog 58 #[.pointer (some ⟨gT, 0, none⟩), .int .i64 i, (mkN t (L).rt (Tr.nd j u (.nd p y C D) B).rt hh sz mk).V] w fun e w' => ∃ v, e = .returned v ∧ Post w F gT gA root s fr (Tr.nd i t (L) (.nd j u (.nd p y C D) B)).nodes v w' := by
  have hset := set_tree (h.below ((Below.refl w.heap.size w).alloc (Nat.le_refl _) (.cells (mkN t (L).rt (Tr.nd j u (.nd p y C D) B).rt hh sz mk).C.toArray 80))) hk t (L) (.nd j u (.nd p y C D) B) hh sz mk hl hr ho
  obtain ⟨LL, hLL⟩ : ∃ x, (Tr.nd i t (L) (.nd j u (.nd p y C D) B)).nodes = x := ⟨_, rfl⟩
  have HO := Lib.hid (And.intro ho hLL)
  have HFb := Lib.hid (show ¬ F w.heap.size from fun hF => by have := h.ar.lt _ hF; omega)
  have HFL := Lib.hid h.ar.lt
  have HGT := Lib.hid h.lt
  have HIL := Lib.hid (And.intro (gt_lt hk) (show i ∈ ids LL by rw [← hLL]; simp [Tr.nodes, ids]))
  obtain ⟨d, hd⟩ : ∃ x, (L).h - (Tr.nd j u (.nd p y C D) B).h = x := ⟨_, rfl⟩
  have HD := Lib.hid hd
  obtain ⟨n, hn⟩ : ∃ x, mkN t (L).rt (Tr.nd j u (.nd p y C D) B).rt hh sz mk = x := ⟨_, rfl⟩
  have hnl : n.l = (L).rt := by rw [← hn]; rfl
  have hnr : n.r = (Tr.nd j u (.nd p y C D) B).rt := by rw [← hn]; rfl
  have HN := Lib.hid hn
  rw [hn] at hset ⊢
  rw [hLL]
  unfold Nd.V at hset ⊢
  have HSET := Lib.hid hset
  have HL := Lib.hid (And.intro hl hr)
  clear hset h hl hr ho hLL hd hn hk
  obtain ⟨w1, hw1⟩ : ∃ v, w.alloc (.cells n.C.toArray 80) = v := ⟨_, rfl⟩
  obtain ⟨b, hb⟩ : ∃ v, w.heap.size = v := ⟨_, rfl⟩
  have N1 := Lib.hid (show NdAt w1 b n by rw [← hw1, ← hb]; exact NdAt.new w n)
  have K1 := Lib.hid (show Below w.heap.size w w1 by rw [← hw1]; exact (Below.refl _ _).alloc (Nat.le_refl _) _)
  rw [hw1] at HSET
  rw [hb] at HFb
  have HB := Lib.hid (Nat.le_of_eq hb)
  go_enter Try.func58, Try.ntmps58
  go_wp2_with (refine wpList_load_row rfl 80 (.tmp 5) rfl b rfl 80 n.C.toArray (0, 0) _ N1.out.blk Try.underlying80 rfl (nd_info n) ?_)
  clear hw1 hb
  refine HSET.out.mono ?_
  rintro e w2 ⟨⟨v2, rfl⟩, hT2, hH2, hg2⟩
  have N2 := Lib.hid (N1.out.step hg2.step HFb.out)
  have S2 := Lib.hid (And.intro hT2 (And.intro hH2 (And.intro (show ∀ q, q ∉ ids LL → gt (s.set i (some (topN t (L) (.nd j u (.nd p y C D) B)))) q = gt s q from fun q hq => gt_set_other HIL.out.1 _ (fun e => hq (by rw [e]; exact HIL.out.2))) (And.intro (show (s.set i (some (topN t (L) (.nd j u (.nd p y C D) B)))).length = s.length from List.length_set) ((Grow.of_below K1.out).trans hg2)))))
  clear hT2 hH2 hg2 HSET
  have HLn := Lib.hid (lean_tree S2.out.1 S2.out.2.1 HO.out.1)
  rw [HD.out] at HLn
  go_wp2_with fail
  refine HLn.out.mono ?_
  rintro e w3 ⟨rfl, hb3⟩
  have N3 := Lib.hid (N2.out.below hb3)
  have S3 := Lib.hid (And.intro (S2.out.1.below hb3) (And.intro S2.out.2.1 (And.intro S2.out.2.2.1 (And.intro S2.out.2.2.2.1 (S2.out.2.2.2.2.trans (Grow.of_below hb3))))))
  clear hb3 HLn S2 N2
  obtain ⟨s3, hs3⟩ : ∃ x, s.set i (some (topN t (L) (.nd j u (.nd p y C D) B))) = x := ⟨_, rfl⟩
  rw [hs3] at S3
  clear hs3
  have HLs := Lib.hid (lean_tree S3.out.1 S3.out.2.1.2.2 (OkL.right (A := L.nodes) HO.out.1).tail)
  obtain ⟨d2, hd2⟩ : ∃ x, (Tr.nd p y C D).h - B.h = x := ⟨_, rfl⟩
  rw [hd2] at HLs
  have hdd : 0 < d2 := by rw [← hd2]; omega
  have hc := N3.out.cR
  rw [hnr] at hc
  have hc : w3.cell? ⟨b, 3, none⟩ = some (.int .i64 (j : Int)) := hc
  have hd1 : d < -1 := by rw [← HD.out]; omega
  go_wp2_with fail
  clear hc
  refine HLs.out.mono ?_
  rintro e w4 ⟨rfl, hb4⟩
  have N4 := Lib.hid (N3.out.below hb4)
  have S4 := Lib.hid (And.intro (S3.out.1.below hb4) (And.intro S3.out.2.1 (And.intro S3.out.2.2.1 (And.intro S3.out.2.2.2.1 (S3.out.2.2.2.2.trans (Grow.of_below hb4))))))
  clear hb4 HLs
  have HLg := Lib.hid (lift_left S4.out.1 S4.out.2.1.2.2 (OkL.right (A := L.nodes) HO.out.1).tail)
  have hc := N4.out.cR
  rw [hnr] at hc
  have hc : w4.cell? ⟨b, 3, none⟩ = some (.int .i64 (j : Int)) := hc
  go_wp2_with fail
  clear hc
  refine HLg.out.mono ?_
  rintro e w5 ⟨s5, rfl, hT5, hH5, hk5, hl5, hg5⟩
  have N5 := Lib.hid (N4.out.step hg5.step HFb.out)
  have hi5 : gt s5 i = some (topN t L (.nd j u (.nd p y C D) B)) := (hk5 i (fun e => by have hn := (OkL.right (A := L.nodes) (B := (i, t) :: (Tr.nd j u (.nd p y C D) B).nodes) HO.out.1).nodup; rw [ids, List.map_cons, List.nodup_cons] at hn; exact hn.1 e)).trans S4.out.2.1.1
  have HR5 := Lib.hid (S4.out.2.1.2.1.keep (s' := s5) (fun z hz => hk5 z (fun e => OkL.apart (A := L.nodes) (B := (i, t) :: (Tr.nd j u (.nd p y C D) B).nodes) HO.out.1 z hz (by rw [ids, List.map_cons]; exact List.mem_cons.2 (.inr e)))))
  have HLT := Lib.hid (show ∀ x, F x → x < b from fun x hx => by have h1 := HFL.out x hx; have := HB.out; omega)
  have okx : OkL (Tr.nd i t L (.nd p y C (.nd j u D B))).nodes := by have h1 := HO.out.1; simpa [Tr.nodes] using h1
  have G5 := S4.out.2.2.2.2.trans hg5
  have F5 := Lib.hid (show ∀ z, z ∉ ids LL → gt s5 z = gt s z from fun z hz => (hk5 z (fun e => hz (by rw [← HO.out.2]; simp only [Tr.nodes, ids, List.map_append, List.map_cons, List.mem_append, List.mem_cons] at e ⊢; exact .inr (.inr e)))).trans (S4.out.2.2.1 z hz))
  have L5 := Lib.hid (hl5.trans S4.out.2.2.2.1)
  have hc := N5.out.cR
  have fz := N5.out.fz
  obtain ⟨n6, hn6⟩ : ∃ x, mkN t L.rt (p : Int) hh sz mk = x := ⟨_, rfl⟩
  obtain ⟨w6, hw6⟩ : ∃ x, w5.setCell ⟨b, 3, none⟩ (.int .i64 (p : Int)) = x := ⟨_, rfl⟩
  have N6 := Lib.hid (show NdAt w6 b n6 by rw [← hw6]; exact N5.out.set 1 (.int .i64 (p : Int)) n6 (by rw [← hn6, ← HN.out]; rfl) (by rw [← hn6, ← HN.out]; rfl))
  have G6 := Lib.hid (show Grow F w w6 F by rw [← hw6]; exact ⟨G5.step.setCell (p := ⟨b, _, none⟩) (.inr HB.out) _, G5.new⟩)
  have T6 := Lib.hid (show TreeW w6 F gT gA root s5 fr from hT5.step (G := fun x => x = b) (by rw [← hw6]; exact (Step.refl (fun x => x = b) w5).setCell (p := ⟨b, _, none⟩) (.inl rfl) _) (fun x hF e => by have := HLT.out x hF; have e : x = b := e; omega) (fun e => by have := HGT.out; have := HB.out; have e : gT = b := e; omega))
  have hset := fun hh sz mk => set_tree T6.out hi5 t L (.nd p y C (.nd j u D B)) hh sz mk (HR5.out) hH5 okx
  simp only [Nd.V] at hset
  have HW6 := Lib.hid hw6
  have I5 := Lib.hid (gt_lt hi5)
  clear hw6 hT5 hH5 hk5 hl5 hg5 G5 hi5 HLg
  go_wp2_with (rw [HW6.out]; (refine wpList_load_row rfl 80 (.tmp 5) rfl b rfl 80 n6.C.toArray (0, 0) _ N6.out.blk Try.underlying80 rfl (nd_info n6) ?_))
  clear hc fz
  subst hn6
  refine (hset _ _ _).mono ?_
  clear hset
  rintro e w7 ⟨⟨v7, rfl⟩, hT7, hH7, hg7⟩
  have S7 := Lib.hid (And.intro hT7 (And.intro hH7 (And.intro (show ∀ z, z ∉ ids LL → gt (s5.set i (some (topN t L (.nd p y C (.nd j u D B))))) z = gt s z from fun z hz => (gt_set_other I5.out _ (fun e => hz (by rw [e]; exact HIL.out.2))).trans (F5.out z hz)) (And.intro (show (s5.set i (some (topN t L (.nd p y C (.nd j u D B))))).length = s.length from (List.length_set).trans L5.out) (G6.out.trans hg7)))))
  clear hT7 hH7 hg7
  have HLf := Lib.hid (lift_right S7.out.1 S7.out.2.1 okx)
  go_wp2_with fail
  refine HLf.out.mono ?_
  rintro e w8 ⟨s8, rfl, hT8, hH8, hk8, hl8, hg8⟩
  have S8 := Lib.hid (And.intro hT8 (And.intro hH8 (And.intro (show ∀ q, q ∉ ids LL → gt s8 q = gt s q from fun q hq => (hk8 q (fun e => hq (by rw [← HO.out.2, show (Tr.nd i t L (.nd j u (.nd p y C D) B)).nodes = (Tr.nd i t L (.nd p y C (.nd j u D B))).nodes by simp [Tr.nodes]]; exact e))).trans (S7.out.2.2.1 q hq)) (And.intro (hl8.trans S7.out.2.2.2.1) (S7.out.2.2.2.2.trans hg8)))))
  clear hT8 hH8 hk8 hl8 hg8 HLf
  go_wp2_with fail
  go_ret
  exact ⟨_, rfl, .nd p y (.nd i t L C) (.nd j u D B), _, rfl, S8.out.1, S8.out.2.1, (show (Tr.nd p y (.nd i t L C) (.nd j u D B)).nodes = (Tr.nd i t L (.nd j u (.nd p y C D) B)).nodes by simp [Tr.nodes]).trans HO.out.2, S8.out.2.2.1, S8.out.2.2.2.1, S8.out.2.2.2.2⟩

/-- balance. -/
theorem balance_any {w : World} {F : Nat → Prop} {gT gA : Nat} {root : Int} {s : List (Option Nd)} {fr : List Nat} (h : TreeW w F gT gA root s fr) {i : Nat} {n0 : Nd} (hk : gt s i = some n0) {t : Th} {L R : Tr} (hh sz mk : Int) (hl : Holds s L) (hr : Holds s R) (ho : OkL (Tr.nd i t L R).nodes) :
    Calls Try.prog 58 #[.pointer (some ⟨gT, 0, none⟩), .int .i64 i, (mkN t L.rt R.rt hh sz mk).V] w fun e w' => ∃ v, e = .returned v ∧ Post w F gT gA root s fr (Tr.nd i t L R).nodes v w' := by
  by_cases h1 : 1 < L.h - R.h
  · cases L with
    | nil => have := R.h_le; simp only [Tr.h] at h1; omega
    | nd j u A B =>
      by_cases h2 : A.h - B.h < 0
      · cases B with
        | nil => have := A.h_le; simp only [Tr.h] at h2; omega
        | nd p y C D => exact bal_left2 h hk hh sz mk hl hr ho h1 h2
      · exact bal_left h hk hh sz mk hl hr ho h1 h2
  · by_cases h3 : L.h - R.h < -1
    · cases R with
      | nil => have := L.h_le; simp only [Tr.h] at h3; omega
      | nd j u A B =>
        by_cases h2 : 0 < A.h - B.h
        · cases A with
          | nil => have := B.h_le; simp only [Tr.h] at h2; omega
          | nd p y C D => exact bal_right2 h hk hh sz mk hl hr ho h3 h2
        · exact bal_right h hk hh sz mk hl hr ho h3 h2
    · exact bal_none h hk hh sz mk hl hr ho (by omega) (by omega)

end Go.Proofs.Ytbioomilnjikpaa
