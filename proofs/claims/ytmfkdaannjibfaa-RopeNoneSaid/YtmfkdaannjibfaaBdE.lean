/-
  Several texts in one: RoI, RoJ, RoK.
-/
import Derived.Test.YtmfkdaannjibfaaBdD

namespace Go.Proofs.Ytmfkdaannjibfaa
open Go.RowKit

inductive Tr where
  | nil : Tr
  | nd (i : Nat) (t : Th) (l r : Tr) : Tr

def Tr.rt : Tr → Int
  | .nil => -1
  | .nd i _ _ _ => (i : Int)
def Tr.h : Tr → Int
  | .nil => 0
  | .nd _ _ l r => 1 + max l.h r.h
def Tr.z : Tr → Int
  | .nil => 0
  | .nd _ t l r => l.z + r.z + sizeT t
def Tr.m : Tr → Int
  | .nil => 0
  | .nd _ t l r => l.m + r.m + marksT t
/-- The nodes, one behind the other. -/
def Tr.nodes : Tr → List (Nat × Th)
  | .nil => []
  | .nd i t l r => l.nodes ++ (i, t) :: r.nodes
/-- The node at a tree's top. -/
def topN (t : Th) (l r : Tr) : Nd := mkN t l.rt r.rt (1 + max l.h r.h) (l.z + r.z + sizeT t) (l.m + r.m + marksT t)
/-- The places hold the tree. -/
def Holds (s : List (Option Nd)) : Tr → Prop
  | .nil => True
  | .nd i t l r => gt s i = some (topN t l r) ∧ Holds s l ∧ Holds s r

def ids (L : List (Nat × Th)) : List Nat := L.map (·.1)
def sumZ : List (Nat × Th) → Int
  | [] => 0
  | p :: L => sizeT p.2 + sumZ L

/-- Nodes each once; things as they may be; not too many. -/
structure OkL (L : List (Nat × Th)) : Prop where
  nodup : (ids L).Nodup
  ok : ∀ p ∈ L, okT p.2
  sum : sumZ L ≤ 100000000000
  len : L.length ≤ 100000

theorem ids_append (A B : List (Nat × Th)) : ids (A ++ B) = ids A ++ ids B := List.map_append
theorem sumZ_append (A B : List (Nat × Th)) : sumZ (A ++ B) = sumZ A + sumZ B := by
  induction A with
  | nil => simp [sumZ]
  | cons p A ih => rw [List.cons_append, sumZ, sumZ, ih]; omega
theorem sumZ_nonneg {L : List (Nat × Th)} (h : ∀ p ∈ L, okT p.2) : 0 ≤ sumZ L := by
  induction L with
  | nil => exact Int.le_refl 0
  | cons p L ih =>
    have h1 := ih (fun q hq => h q (by simp [hq]))
    have h2 := sizeT_ok (h p (by simp))
    rw [sumZ]
    omega

theorem OkL.left {A B : List (Nat × Th)} (h : OkL (A ++ B)) : OkL A := by
  have hs := h.sum
  have hb := sumZ_nonneg (L := B) (fun p hp => h.ok p (by simp [hp]))
  rw [sumZ_append] at hs
  have hn := h.nodup
  rw [ids_append] at hn
  exact ⟨(List.nodup_append.1 hn).1, fun p hp => h.ok p (by simp [hp]), by omega, by have := h.len; simp at this; omega⟩
theorem OkL.right {A B : List (Nat × Th)} (h : OkL (A ++ B)) : OkL B := by
  have hs := h.sum
  have hb := sumZ_nonneg (L := A) (fun p hp => h.ok p (by simp [hp]))
  rw [sumZ_append] at hs
  have hn := h.nodup
  rw [ids_append] at hn
  exact ⟨(List.nodup_append.1 hn).2.1, fun p hp => h.ok p (by simp [hp]), by omega, by have := h.len; simp at this; omega⟩
theorem OkL.tail {p : Nat × Th} {B : List (Nat × Th)} (h : OkL (p :: B)) : OkL B := OkL.right (A := [p]) (by simpa using h)
theorem OkL.apart {A B : List (Nat × Th)} (h : OkL (A ++ B)) : ∀ i ∈ ids A, i ∉ ids B := by
  have hn := h.nodup
  rw [ids_append] at hn
  exact fun i ha hb => (List.nodup_append.1 hn).2.2 i ha i hb rfl

theorem Tr.z_eq : ∀ T : Tr, T.z = sumZ T.nodes
  | .nil => rfl
  | .nd i t l r => by rw [Tr.z, Tr.nodes, sumZ_append, sumZ, Tr.z_eq l, Tr.z_eq r]; dsimp only; omega
theorem Tr.h_le : ∀ T : Tr, 0 ≤ T.h ∧ T.h ≤ T.nodes.length
  | .nil => ⟨Int.le_refl 0, Int.le_refl 0⟩
  | .nd i t l r => by
    have h1 := Tr.h_le l
    have h2 := Tr.h_le r
    rw [Tr.h, Tr.nodes, List.length_append, List.length_cons]
    omega
theorem Tr.m_le : ∀ T : Tr, (∀ p ∈ T.nodes, okT p.2) → 0 ≤ T.m ∧ T.m ≤ T.z
  | .nil, _ => ⟨Int.le_refl 0, Int.le_refl 0⟩
  | .nd i t l r, h => by
    have h1 := Tr.m_le l (fun p hp => h p (by simp [Tr.nodes, hp]))
    have h2 := Tr.m_le r (fun p hp => h p (by simp [Tr.nodes, hp]))
    have h3 := marksT_ok (h (i, t) (by simp [Tr.nodes]))
    dsimp only at h3
    rw [Tr.m, Tr.z]
    omega
theorem Tr.sm {T : Tr} (h : OkL T.nodes) : Sm T.h ∧ Sm T.z ∧ Sm T.m := by
  have h1 := T.h_le
  have h2 := T.z_eq
  have h3 := T.m_le h.ok
  have h4 := sumZ_nonneg h.ok
  have h5 := h.sum
  have h6 := h.len
  refine ⟨⟨h1.1, ?_⟩, ⟨?_, ?_⟩, ⟨h3.1, ?_⟩⟩ <;> omega

/-- Where no place of the tree has changed it holds. -/
theorem Holds.keep {s s' : List (Option Nd)} : ∀ {T : Tr}, Holds s T → (∀ i ∈ ids T.nodes, gt s' i = gt s i) → Holds s' T
  | .nil, _, _ => trivial
  | .nd i t l r, h, hk => ⟨(hk i (by simp [Tr.nodes, ids])).trans h.1, h.2.1.keep (fun j hj => hk j (by rw [Tr.nodes, ids_append]; exact List.mem_append.2 (.inl hj))), h.2.2.keep (fun j hj => hk j (by rw [Tr.nodes, ids_append]; exact List.mem_append.2 (.inr (List.mem_cons.2 (.inr hj)))))⟩

theorem Holds.okR {s : List (Option Nd)} {T : Tr} (h : Holds s T) : okR s T.rt := by
  cases T with
  | nil => exact .inl rfl
  | nd i t l r => exact .inr ⟨i, _, rfl, h.1⟩
theorem Holds.tot {s : List (Option Nd)} {T : Tr} (h : Holds s T) : hS s T.rt = T.h ∧ zS s T.rt = T.z ∧ mS s T.rt = T.m := by
  cases T with
  | nil => exact hS_none s
  | nd i t l r => exact hS_nd h.1
theorem Holds.totN {s : List (Option Nd)} {L R : Tr} (t : Th) (hl : Holds s L) (hr : Holds s R) : totN s t L.rt R.rt = topN t L R := by
  unfold Go.Proofs.Ytmfkdaannjibfaa.totN topN
  rw [hl.tot.1, hr.tot.1, hl.tot.2.1, hr.tot.2.1, hl.tot.2.2, hr.tot.2.2]

theorem gt_set_other {s : List (Option Nd)} {k : Nat} (hk : k < s.length) (o : Option Nd) {i : Nat} (h : i ≠ k) : gt (s.set k o) i = gt s i := by rw [gt_set hk, if_neg h]
theorem gt_set_self {s : List (Option Nd)} {k : Nat} (hk : k < s.length) (o : Option Nd) : gt (s.set k o) k = o := by rw [gt_set hk, if_pos rfl]

/-- 'set' of a node over two trees. -/
theorem set_tree {w : World} {F : Nat → Prop} {gT gA : Nat} {root : Int} {s : List (Option Nd)} {fr : List Nat} (h : TreeW w F gT gA root s fr) {k : Nat} {n0 : Nd} (hk : gt s k = some n0) (t : Th) (L R : Tr) (hh sz mk : Int)
    (hl : Holds s L) (hr : Holds s R) (ho : OkL (L.nodes ++ (k, t) :: R.nodes)) :
    Calls Try.prog 76 #[.pointer (some ⟨gT, 0, none⟩), .int .i64 k, (mkN t L.rt R.rt hh sz mk).V] w fun e w' => (∃ v, e = .returned v) ∧ TreeW w' F gT gA root (s.set k (some (topN t L R))) fr ∧ Holds (s.set k (some (topN t L R))) (.nd k t L R) ∧ Grow F w w' F := by
  have h1 := Tr.sm ho.left
  have h2 := Tr.sm ho.right.tail
  have h3 := sizeT_ok (ho.ok (k, t) (by simp))
  have h4 := marksT_ok (ho.ok (k, t) (by simp))
  have h5 := ho.sum
  rw [sumZ_append, sumZ] at h5
  have h6 := sumZ_nonneg ho.left.ok
  have h7 := sumZ_nonneg ho.right.tail.ok
  have hkl := gt_lt hk
  refine (set_any h hk t L.rt R.rt hh sz mk hl.okR hr.okR (hl.tot.1 ▸ h1.1) (hr.tot.1 ▸ h2.1) (hl.tot.2.1 ▸ h1.2.1) (hr.tot.2.1 ▸ h2.2.1) (hl.tot.2.2 ▸ h1.2.2) (hr.tot.2.2 ▸ h2.2.2) ⟨h3, by dsimp only at h5; omega⟩ ⟨h4.1, by dsimp only at h4 h5; omega⟩).mono ?_
  rintro e w' ⟨hv, hT, hg⟩
  rw [hl.totN t hr] at hT
  have ha := ho.apart
  refine ⟨hv, hT, ⟨gt_set_self hkl _, hl.keep fun i hi => gt_set_other hkl _ (fun e => ha i hi (by simp [ids, e])), hr.keep fun i hi => gt_set_other hkl _ (fun e => ?_)⟩, hg⟩
  subst e
  have hn := ho.right.nodup
  rw [ids, List.map_cons, List.nodup_cons] at hn
  exact hn.1 hi

end Go.Proofs.Ytmfkdaannjibfaa

namespace Go.Proofs.Ytmfkdaannjibfaa
open Go.RowKit

/-- What a call on a tree hands back: a tree of these nodes; all else stays. -/
def Post (w : World) (F : Nat → Prop) (gT gA : Nat) (root : Int) (s : List (Option Nd)) (fr : List Nat) (L : List (Nat × Th)) (v : Value) (w' : World) : Prop :=
  ∃ (T : Tr) (s' : List (Option Nd)), v = .int .i64 T.rt ∧ TreeW w' F gT gA root s' fr ∧ Holds s' T ∧ T.nodes = L ∧ (∀ j, j ∉ ids L → gt s' j = gt s j) ∧ s'.length = s.length ∧ Grow F w w' F

theorem topN_l (t : Th) (L R : Tr) : (topN t L R).l = L.rt := rfl
theorem topN_r (t : Th) (L R : Tr) : (topN t L R).r = R.rt := rfl

set_option maxHeartbeats 2000000 in
theorem lean_tree {w : World} {F : Nat → Prop} {gT gA : Nat} {root : Int} {s : List (Option Nd)} {fr : List Nat} (h : TreeW w F gT gA root s fr) {i : Nat} {t : Th} {L R : Tr} (hT : Holds s (.nd i t L R)) (ho : OkL (Tr.nd i t L R).nodes) :
    Calls Try.prog 80 #[.pointer (some ⟨gT, 0, none⟩), .int .i64 i] w fun e w' => e = .returned (.int .i64 (L.h - R.h)) ∧ Below w.heap.size w w' := by
  have hL := Tr.sm ho.left
  have hR := Tr.sm ho.right.tail
  obtain ⟨a1, a2⟩ := hL.1
  obtain ⟨b1, b2⟩ := hR.1
  have HA := Lib.hid (at_any h hT.1)
  have HTa := Lib.hid (fun (w1 : World) (hb : Below w.heap.size w w1) => totals_any (h.below hb) hT.2.1.okR)
  have HTb := Lib.hid (fun (w1 : World) (hb : Below w.heap.size w w1) => totals_any (h.below hb) hT.2.2.okR)
  rw [hT.2.1.tot.1] at HTa
  rw [hT.2.2.tot.1] at HTb
  obtain ⟨n, hn⟩ : ∃ x, topN t L R = x := ⟨_, rfl⟩
  have hl : n.l = L.rt := by rw [← hn]; rfl
  have hr : n.r = R.rt := by rw [← hn]; rfl
  rw [hn] at HA
  unfold Nd.V at HA
  have g1 : IntKind.i64.wrap (L.h - R.h) = L.h - R.h := IntWalk.i64_in _ (by omega)
  clear h hT ho hL hR hn
  go_enter Try.func80, Try.ntmps80
  go_wp2_with fail
  refine HA.out.mono ?_
  rintro e w1 ⟨rfl, hb1⟩
  obtain ⟨b, hb⟩ : ∃ b, w1.heap.size = b := ⟨_, rfl⟩
  obtain ⟨w2, hw2⟩ : ∃ v, w1.alloc (.cells n.C.toArray 103) = v := ⟨_, rfl⟩
  have N2 := Lib.hid (show NdAt w2 b n by rw [← hw2, ← hb]; exact NdAt.new w1 n)
  have K2 := Lib.hid (show Below w.heap.size w w2 by rw [← hw2]; exact hb1.alloc hb1.size _)
  have HE := Lib.hid (And.intro hw2 hb)
  have hl2 := N2.out.cL
  rw [hl] at hl2
  clear hb1 hw2 hb
  go_wp2_with (refine wpList_store_row rfl 103 (.tmp 5) (.tmp 14) rfl w1.heap.size n.C.toArray rfl rfl 103 _ (heap_alloc_new w1 _) (nd_info n) (by simp [Nd.C_len]) (all_oneCell_toArray n.C_one) ?_; rw [alloc_setRow, HE.out.1, HE.out.2])
  clear hl2
  refine (HTa.out w2 K2.out).mono ?_
  rintro e w3 ⟨rfl, hb3⟩
  have K3 := Lib.hid (K2.out.trans (hb3.mono K2.out.size))
  have hr3 := (N2.out.below hb3).cR
  rw [hr] at hr3
  clear hb3
  go_wp2_with fail
  clear hr3
  refine (HTb.out w3 K3.out).mono ?_
  rintro e w4 ⟨rfl, hb4⟩
  have K4 := Lib.hid (K3.out.trans (hb4.mono K3.out.size))
  clear hb4
  go_wp2_with fail
  go_ret
  exact ⟨rfl, K4.out⟩

set_option maxHeartbeats 4000000 in
theorem lift_left {w : World} {F : Nat → Prop} {gT gA : Nat} {root : Int} {s : List (Option Nd)} {fr : List Nat} (h : TreeW w F gT gA root s fr) {i j : Nat} {t u : Th} {A B R : Tr} (hT : Holds s (.nd i t (.nd j u A B) R)) (ho : OkL (Tr.nd i t (.nd j u A B) R).nodes) :
    Calls Try.prog 81 #[.pointer (some ⟨gT, 0, none⟩), .int .i64 i, .bool true] w fun e w' => ∃ s', e = .returned (.int .i64 j) ∧ TreeW w' F gT gA root s' fr ∧ Holds s' (.nd j u A (.nd i t B R)) ∧ (∀ q, q ∉ ids (Tr.nd i t (.nd j u A B) R).nodes → gt s' q = gt s q) ∧ s'.length = s.length ∧ Grow F w w' F := by
  have hnod : (Tr.nd i t (.nd j u A B) R).nodes = (Tr.nd j u A (.nd i t B R)).nodes := by simp [Tr.nodes]
  have ho1 : OkL (Tr.nd j u A (.nd i t B R)).nodes := hnod ▸ ho
  have hoI : OkL (B.nodes ++ (i, t) :: R.nodes) := (OkL.right (A := A.nodes) (B := _) (by simpa [Tr.nodes] using ho1)).tail
  have hij : i ≠ j := fun e => OkL.apart (A := (Tr.nd j u A B).nodes) (B := (i, t) :: R.nodes) ho j (by simp [Tr.nodes, ids]) (by rw [← e]; simp [ids])
  have HI := Lib.hid hT.1
  have HJ := Lib.hid hT.2.1.1
  have HA := Lib.hid (at_any h hT.1)
  have HB := Lib.hid (fun (w1 : World) (hb : Below w.heap.size w w1) => at_any (h.below hb) hT.2.1.1)
  obtain ⟨n, hn⟩ : ∃ x, topN t (.nd j u A B) R = x := ⟨_, rfl⟩
  obtain ⟨m, hm⟩ : ∃ x, topN u A B = x := ⟨_, rfl⟩
  have hnl : n.l = (j : Int) := by rw [← hn]; rfl
  have hmr : m.r = B.rt := by rw [← hm]; rfl
  rw [hn] at HA
  rw [hm] at HB
  unfold Nd.V at HA HB
  have HW := Lib.hid (fun (w1 : World) (hb : Below w.heap.size w w1) => h.below hb)
  have HF := Lib.hid h.ar.lt
  have HGT := Lib.hid h.lt
  have hiA := Lib.hid (show i ∉ ids A.nodes from fun hq => OkL.apart (A := A.nodes) (B := (j, u) :: (B.nodes ++ (i, t) :: R.nodes)) (by simpa [Tr.nodes] using ho1) i hq (by simp [ids]))
  have HT := Lib.hid hT
  have HO := Lib.hid (And.intro ho (And.intro ho1 hoI))
  have HN := Lib.hid (And.intro hn hm)
  clear h hT ho ho1 hoI hn hm hnod
  go_enter Try.func81, Try.ntmps81
  go_wp2_with fail
  refine HA.out.mono ?_
  rintro e w1 ⟨rfl, hb1⟩
  obtain ⟨bi, hbi⟩ : ∃ b, w1.heap.size = b := ⟨_, rfl⟩
  obtain ⟨w2, hw2⟩ : ∃ v, w1.alloc (.cells n.C.toArray 103) = v := ⟨_, rfl⟩
  have N2 := Lib.hid (show NdAt w2 bi n by rw [← hw2, ← hbi]; exact NdAt.new w1 n)
  have K2 := Lib.hid (show Below w.heap.size w w2 by rw [← hw2]; exact hb1.alloc hb1.size _)
  have HE := Lib.hid (And.intro hw2 hbi)
  have HLi := Lib.hid (show w.heap.size ≤ bi by have := hb1.size; omega)
  have hl2 := N2.out.cL
  rw [hnl] at hl2
  clear hb1 hw2 hbi
  go_wp2_with (refine wpList_store_row rfl 103 (.tmp 7) (.tmp 13) rfl w1.heap.size n.C.toArray rfl rfl 103 _ (heap_alloc_new w1 _) (nd_info n) (by simp [Nd.C_len]) (all_oneCell_toArray n.C_one) ?_; rw [alloc_setRow, HE.out.1, HE.out.2])
  clear hl2
  refine (HB.out w2 K2.out).mono ?_
  rintro e w3 ⟨rfl, hb3⟩
  have K3 := Lib.hid (K2.out.trans (hb3.mono K2.out.size))
  have N3 := Lib.hid (N2.out.below hb3)
  clear hb3
  obtain ⟨bj, hbj⟩ : ∃ b, w3.heap.size = b := ⟨_, rfl⟩
  obtain ⟨w4, hw4⟩ : ∃ v, w3.alloc (.cells m.C.toArray 103) = v := ⟨_, rfl⟩
  have M4 := Lib.hid (show NdAt w4 bj m by rw [← hw4, ← hbj]; exact NdAt.new w3 m)
  have N4 := Lib.hid (show NdAt w4 bi n by rw [← hw4]; exact N3.out.below ((Below.refl _ _).alloc (Nat.le_refl _) _))
  have K4 := Lib.hid (show Below w.heap.size w w4 by rw [← hw4]; exact K3.out.alloc K3.out.size _)
  have HE4 := Lib.hid (And.intro hw4 hbj)
  have HLj := Lib.hid (show w.heap.size ≤ bj ∧ bi < bj by have := K3.out.size; have := N3.out.lt; omega)
  clear hw4 hbj
  obtain ⟨n5, hn5⟩ : ∃ x, mkN t B.rt R.rt (1 + max (Tr.nd j u A B).h R.h) ((Tr.nd j u A B).z + R.z + sizeT t) ((Tr.nd j u A B).m + R.m + marksT t) = x := ⟨_, rfl⟩
  obtain ⟨w5, hw5⟩ : ∃ v, w4.setCell ⟨bi, 33, none⟩ (.int .i64 B.rt) = v := ⟨_, rfl⟩
  have N5 := Lib.hid (show NdAt w5 bi n5 by
    rw [← hw5]
    exact N4.out.set 0 (.int .i64 B.rt) n5 (by rw [← hn5, ← HN.out.1]; rfl) (by rw [← hn5, ← HN.out.1]; rfl))
  have M5 := Lib.hid (show NdAt w5 bj m from ⟨by rw [← hw5]; exact (heap_setCell_other _ _ _ _ (by have := HLj.out; show bj ≠ bi; omega)).trans M4.out.blk⟩)
  have K5 := Lib.hid (show Below w.heap.size w w5 by rw [← hw5]; exact K4.out.setCell (p := ⟨bi, _, none⟩) HLi.out _)
  have hr4 := M4.out.cR
  rw [hmr] at hr4
  have hc4 := N4.out.cL
  have fz4 := N4.out.fz
  have HW5 := Lib.hid hw5
  clear hw5
  go_wp2_with (first | (refine wpList_store_row rfl 103 (.tmp 9) (.tmp 19) rfl w3.heap.size m.C.toArray rfl rfl 103 _ (heap_alloc_new w3 _) (nd_info m) (by simp [Nd.C_len]) (all_oneCell_toArray m.C_one) ?_; rw [alloc_setRow, HE4.out.1, HE4.out.2]) | (rw [HW5.out]; (refine wpList_load_row rfl 103 (.tmp 7) rfl bi rfl 103 n5.C.toArray (0, 0) _ N5.out.blk Try.underlying103 rfl (nd_info n5) ?_)))
  clear hr4 hc4 fz4
  subst hn5
  have hset := fun hh sz mk => set_tree (HW.out w5 K5.out) HI.out t B R hh sz mk HT.out.2.1.2.2 HT.out.2.2 HO.out.2.2
  simp only [Nd.V] at hset
  refine (hset _ _ _).mono ?_
  clear hset
  rintro e w6 ⟨⟨v6, rfl⟩, hT6, hH6, hg6⟩
  obtain ⟨s1, hs1⟩ : ∃ x, s.set i (some (topN t B R)) = x := ⟨_, rfl⟩
  have hil := gt_lt HI.out
  have hk1 : ∀ q, q ≠ i → gt s1 q = gt s q := fun q hq => by rw [← hs1]; exact gt_set_other hil _ hq
  have hl1 : s1.length = s.length := by rw [← hs1, List.length_set]
  rw [hs1] at hT6 hH6
  have M6 := Lib.hid (M5.out.step hg6.step (fun hF => by have := HF.out _ hF; have := HLj.out; omega))
  have G6 := (Grow.of_below K5.out).trans hg6
  have hc6 := M6.out.cR
  have fz6 := M6.out.fz
  obtain ⟨m7, hm7⟩ : ∃ x, mkN u A.rt (i : Int) (1 + max A.h B.h) (A.z + B.z + sizeT u) (A.m + B.m + marksT u) = x := ⟨_, rfl⟩
  obtain ⟨w7, hw7⟩ : ∃ v, w6.setCell ⟨bj, 34, none⟩ (.int .i64 (i : Int)) = v := ⟨_, rfl⟩
  have M7 := Lib.hid (show NdAt w7 bj m7 by
    rw [← hw7]
    exact M6.out.set 1 (.int .i64 (i : Int)) m7 (by rw [← hm7, ← HN.out.2]; rfl) (by rw [← hm7, ← HN.out.2]; rfl))
  have G7 := Lib.hid (show Grow F w w7 F by rw [← hw7]; exact ⟨G6.step.setCell (p := ⟨bj, _, none⟩) (.inr HLj.out.1) _, G6.new⟩)
  have HT7 := Lib.hid (show TreeW w7 F gT gA root s1 fr from hT6.step (G := fun k => k = bj) (by rw [← hw7]; exact (Step.refl (fun k => k = bj) w6).setCell (p := ⟨bj, _, none⟩) (.inl rfl) _) (fun k hF e => by have := HF.out k hF; have := HLj.out; have e : k = bj := e; omega) (fun e => by have := HGT.out; have := HLj.out; have e : gT = bj := e; omega))
  have HW7 := Lib.hid hw7
  have HS1 := Lib.hid (And.intro hk1 (And.intro hl1 hH6))
  clear hw7 hT6 hH6 hg6 G6 hk1 hl1 hs1 hil
  go_wp2_with (rw [HW7.out]; (refine wpList_load_row rfl 103 (.tmp 9) rfl bj rfl 103 m7.C.toArray (0, 0) _ M7.out.blk Try.underlying103 rfl (nd_info m7) ?_))
  clear hc6 fz6
  subst hm7
  have hset := fun hh sz mk => set_tree HT7.out ((HS1.out.1 j (fun e => hij e.symm)).trans HJ.out) u A (.nd i t B R) hh sz mk (HT.out.2.1.2.1.keep fun q hq => HS1.out.1 q (fun e => hiA.out (e ▸ hq))) HS1.out.2.2 HO.out.2.1
  simp only [Nd.V] at hset
  refine (hset _ _ _).mono ?_
  clear hset
  rintro e w8 ⟨⟨v8, rfl⟩, hT8, hH8, hg8⟩
  have H8 := Lib.hid (And.intro hT8 (And.intro hH8 (G7.out.trans hg8)))
  have hjl := gt_lt ((HS1.out.1 j (fun e => hij e.symm)).trans HJ.out)
  have HJL := Lib.hid hjl
  clear hT8 hH8 hg8 hjl
  go_wp2_with fail
  go_ret
  refine ⟨_, rfl, H8.out.1, H8.out.2.1, fun q hq => ?_, by rw [List.length_set]; exact HS1.out.2.1, H8.out.2.2⟩
  rw [gt_set_other HJL.out _ (fun e => hq (by rw [e]; simp [Tr.nodes, ids])), HS1.out.1 q (fun e => hq (by rw [e]; simp [Tr.nodes, ids]))]

set_option maxHeartbeats 4000000 in
theorem lift_right {w : World} {F : Nat → Prop} {gT gA : Nat} {root : Int} {s : List (Option Nd)} {fr : List Nat} (h : TreeW w F gT gA root s fr) {i j : Nat} {t u : Th} {L A B : Tr} (hT : Holds s (.nd i t L (.nd j u A B))) (ho : OkL (Tr.nd i t L (.nd j u A B)).nodes) :
    Calls Try.prog 81 #[.pointer (some ⟨gT, 0, none⟩), .int .i64 i, .bool false] w fun e w' => ∃ s', e = .returned (.int .i64 j) ∧ TreeW w' F gT gA root s' fr ∧ Holds s' (.nd j u (.nd i t L A) B) ∧ (∀ q, q ∉ ids (Tr.nd i t L (.nd j u A B)).nodes → gt s' q = gt s q) ∧ s'.length = s.length ∧ Grow F w w' F := by
  have hnod : (Tr.nd i t L (.nd j u A B)).nodes = (Tr.nd j u (.nd i t L A) B).nodes := by simp [Tr.nodes]
  have ho1 : OkL (Tr.nd j u (.nd i t L A) B).nodes := hnod ▸ ho
  have hoI : OkL (L.nodes ++ (i, t) :: A.nodes) := OkL.left (B := (j, u) :: B.nodes) (by simpa [Tr.nodes] using ho1)
  have hij : i ≠ j := fun e => by have hn := (OkL.right (A := L.nodes) (B := (i, t) :: (Tr.nd j u A B).nodes) ho).nodup; rw [ids, List.map_cons, List.nodup_cons] at hn; exact hn.1 (by rw [e]; simp [Tr.nodes])
  have HI := Lib.hid hT.1
  have HJ := Lib.hid hT.2.2.1
  have HA := Lib.hid (at_any h hT.1)
  have HB := Lib.hid (fun (w1 : World) (hb : Below w.heap.size w w1) => at_any (h.below hb) hT.2.2.1)
  obtain ⟨n, hn⟩ : ∃ x, topN t L (.nd j u A B) = x := ⟨_, rfl⟩
  obtain ⟨m, hm⟩ : ∃ x, topN u A B = x := ⟨_, rfl⟩
  have hnl : n.r = (j : Int) := by rw [← hn]; rfl
  have hmr : m.l = A.rt := by rw [← hm]; rfl
  rw [hn] at HA
  rw [hm] at HB
  unfold Nd.V at HA HB
  have HW := Lib.hid (fun (w1 : World) (hb : Below w.heap.size w w1) => h.below hb)
  have HF := Lib.hid h.ar.lt
  have HGT := Lib.hid h.lt
  have hiA := Lib.hid (show i ∉ ids B.nodes from fun hq => OkL.apart (A := L.nodes ++ (i, t) :: A.nodes) (B := (j, u) :: B.nodes) (by simpa [Tr.nodes] using ho1) i (by simp [ids]) (by simp [ids] at hq ⊢; exact .inr hq))
  have HT := Lib.hid hT
  have HO := Lib.hid (And.intro ho (And.intro ho1 hoI))
  have HN := Lib.hid (And.intro hn hm)
  clear h hT ho ho1 hoI hn hm hnod
  go_enter Try.func81, Try.ntmps81
  go_wp2_with fail
  refine HA.out.mono ?_
  rintro e w1 ⟨rfl, hb1⟩
  obtain ⟨bi, hbi⟩ : ∃ b, w1.heap.size = b := ⟨_, rfl⟩
  obtain ⟨w2, hw2⟩ : ∃ v, w1.alloc (.cells n.C.toArray 103) = v := ⟨_, rfl⟩
  have N2 := Lib.hid (show NdAt w2 bi n by rw [← hw2, ← hbi]; exact NdAt.new w1 n)
  have K2 := Lib.hid (show Below w.heap.size w w2 by rw [← hw2]; exact hb1.alloc hb1.size _)
  have HE := Lib.hid (And.intro hw2 hbi)
  have HLi := Lib.hid (show w.heap.size ≤ bi by have := hb1.size; omega)
  have hl2 := N2.out.cR
  rw [hnl] at hl2
  clear hb1 hw2 hbi
  go_wp2_with (refine wpList_store_row rfl 103 (.tmp 7) (.tmp 13) rfl w1.heap.size n.C.toArray rfl rfl 103 _ (heap_alloc_new w1 _) (nd_info n) (by simp [Nd.C_len]) (all_oneCell_toArray n.C_one) ?_; rw [alloc_setRow, HE.out.1, HE.out.2])
  clear hl2
  refine (HB.out w2 K2.out).mono ?_
  rintro e w3 ⟨rfl, hb3⟩
  have K3 := Lib.hid (K2.out.trans (hb3.mono K2.out.size))
  have N3 := Lib.hid (N2.out.below hb3)
  clear hb3
  obtain ⟨bj, hbj⟩ : ∃ b, w3.heap.size = b := ⟨_, rfl⟩
  obtain ⟨w4, hw4⟩ : ∃ v, w3.alloc (.cells m.C.toArray 103) = v := ⟨_, rfl⟩
  have M4 := Lib.hid (show NdAt w4 bj m by rw [← hw4, ← hbj]; exact NdAt.new w3 m)
  have N4 := Lib.hid (show NdAt w4 bi n by rw [← hw4]; exact N3.out.below ((Below.refl _ _).alloc (Nat.le_refl _) _))
  have K4 := Lib.hid (show Below w.heap.size w w4 by rw [← hw4]; exact K3.out.alloc K3.out.size _)
  have HE4 := Lib.hid (And.intro hw4 hbj)
  have HLj := Lib.hid (show w.heap.size ≤ bj ∧ bi < bj by have := K3.out.size; have := N3.out.lt; omega)
  clear hw4 hbj
  obtain ⟨n5, hn5⟩ : ∃ x, mkN t L.rt A.rt (1 + max L.h (Tr.nd j u A B).h) (L.z + (Tr.nd j u A B).z + sizeT t) (L.m + (Tr.nd j u A B).m + marksT t) = x := ⟨_, rfl⟩
  obtain ⟨w5, hw5⟩ : ∃ v, w4.setCell ⟨bi, 34, none⟩ (.int .i64 A.rt) = v := ⟨_, rfl⟩
  have N5 := Lib.hid (show NdAt w5 bi n5 by
    rw [← hw5]
    exact N4.out.set 1 (.int .i64 A.rt) n5 (by rw [← hn5, ← HN.out.1]; rfl) (by rw [← hn5, ← HN.out.1]; rfl))
  have M5 := Lib.hid (show NdAt w5 bj m from ⟨by rw [← hw5]; exact (heap_setCell_other _ _ _ _ (by have := HLj.out; show bj ≠ bi; omega)).trans M4.out.blk⟩)
  have K5 := Lib.hid (show Below w.heap.size w w5 by rw [← hw5]; exact K4.out.setCell (p := ⟨bi, _, none⟩) HLi.out _)
  have hr4 := M4.out.cL
  rw [hmr] at hr4
  have hc4 := N4.out.cR
  have fz4 := N4.out.fz
  have HW5 := Lib.hid hw5
  clear hw5
  go_wp2_with (first | (refine wpList_store_row rfl 103 (.tmp 10) (.tmp 37) rfl w3.heap.size m.C.toArray rfl rfl 103 _ (heap_alloc_new w3 _) (nd_info m) (by simp [Nd.C_len]) (all_oneCell_toArray m.C_one) ?_; rw [alloc_setRow, HE4.out.1, HE4.out.2]) | (rw [HW5.out]; (refine wpList_load_row rfl 103 (.tmp 7) rfl bi rfl 103 n5.C.toArray (0, 0) _ N5.out.blk Try.underlying103 rfl (nd_info n5) ?_)))
  clear hr4 hc4 fz4
  subst hn5
  have hset := fun hh sz mk => set_tree (HW.out w5 K5.out) HI.out t L A hh sz mk HT.out.2.1 HT.out.2.2.2.1 HO.out.2.2
  simp only [Nd.V] at hset
  refine (hset _ _ _).mono ?_
  clear hset
  rintro e w6 ⟨⟨v6, rfl⟩, hT6, hH6, hg6⟩
  obtain ⟨s1, hs1⟩ : ∃ x, s.set i (some (topN t L A)) = x := ⟨_, rfl⟩
  have hil := gt_lt HI.out
  have hk1 : ∀ q, q ≠ i → gt s1 q = gt s q := fun q hq => by rw [← hs1]; exact gt_set_other hil _ hq
  have hl1 : s1.length = s.length := by rw [← hs1, List.length_set]
  rw [hs1] at hT6 hH6
  have M6 := Lib.hid (M5.out.step hg6.step (fun hF => by have := HF.out _ hF; have := HLj.out; omega))
  have G6 := (Grow.of_below K5.out).trans hg6
  have hc6 := M6.out.cL
  have fz6 := M6.out.fz
  obtain ⟨m7, hm7⟩ : ∃ x, mkN u (i : Int) B.rt (1 + max A.h B.h) (A.z + B.z + sizeT u) (A.m + B.m + marksT u) = x := ⟨_, rfl⟩
  obtain ⟨w7, hw7⟩ : ∃ v, w6.setCell ⟨bj, 33, none⟩ (.int .i64 (i : Int)) = v := ⟨_, rfl⟩
  have M7 := Lib.hid (show NdAt w7 bj m7 by
    rw [← hw7]
    exact M6.out.set 0 (.int .i64 (i : Int)) m7 (by rw [← hm7, ← HN.out.2]; rfl) (by rw [← hm7, ← HN.out.2]; rfl))
  have G7 := Lib.hid (show Grow F w w7 F by rw [← hw7]; exact ⟨G6.step.setCell (p := ⟨bj, _, none⟩) (.inr HLj.out.1) _, G6.new⟩)
  have HT7 := Lib.hid (show TreeW w7 F gT gA root s1 fr from hT6.step (G := fun k => k = bj) (by rw [← hw7]; exact (Step.refl (fun k => k = bj) w6).setCell (p := ⟨bj, _, none⟩) (.inl rfl) _) (fun k hF e => by have := HF.out k hF; have := HLj.out; have e : k = bj := e; omega) (fun e => by have := HGT.out; have := HLj.out; have e : gT = bj := e; omega))
  have HW7 := Lib.hid hw7
  have HS1 := Lib.hid (And.intro hk1 (And.intro hl1 hH6))
  clear hw7 hT6 hH6 hg6 G6 hk1 hl1 hs1 hil
  go_wp2_with (rw [HW7.out]; (refine wpList_load_row rfl 103 (.tmp 10) rfl bj rfl 103 m7.C.toArray (0, 0) _ M7.out.blk Try.underlying103 rfl (nd_info m7) ?_))
  clear hc6 fz6
  subst hm7
  have hset := fun hh sz mk => set_tree HT7.out ((HS1.out.1 j (fun e => hij e.symm)).trans HJ.out) u (.nd i t L A) B hh sz mk HS1.out.2.2 (HT.out.2.2.2.2.keep fun q hq => HS1.out.1 q (fun e => hiA.out (e ▸ hq))) HO.out.2.1
  simp only [Nd.V] at hset
  refine (hset _ _ _).mono ?_
  clear hset
  rintro e w8 ⟨⟨v8, rfl⟩, hT8, hH8, hg8⟩
  have H8 := Lib.hid (And.intro hT8 (And.intro hH8 (G7.out.trans hg8)))
  have hjl := gt_lt ((HS1.out.1 j (fun e => hij e.symm)).trans HJ.out)
  have HJL := Lib.hid hjl
  clear hT8 hH8 hg8 hjl
  go_wp2_with fail
  go_ret
  refine ⟨_, rfl, H8.out.1, H8.out.2.1, fun q hq => ?_, by rw [List.length_set]; exact HS1.out.2.1, H8.out.2.2⟩
  rw [gt_set_other HJL.out _ (fun e => hq (by rw [e]; simp [Tr.nodes, ids])), HS1.out.1 q (fun e => hq (by rw [e]; simp [Tr.nodes, ids]))]

end Go.Proofs.Ytmfkdaannjibfaa

namespace Go.Proofs.Ytmfkdaannjibfaa
open Go.RowKit

set_option maxHeartbeats 4000000 in
theorem bal_none {w : World} {F : Nat → Prop} {gT gA : Nat} {root : Int} {s : List (Option Nd)} {fr : List Nat} (h : TreeW w F gT gA root s fr) {i : Nat} {n0 : Nd} (hk : gt s i = some n0) {t : Th} {L R : Tr} (hh sz mk : Int)
    (hl : Holds s (L)) (hr : Holds s (R)) (ho : OkL (Tr.nd i t (L) (R)).nodes) (h1 : L.h - R.h ≤ 1) (h2 : -1 ≤ L.h - R.h) :
    Calls Try.prog 75 #[.pointer (some ⟨gT, 0, none⟩), .int .i64 i, (mkN t (L).rt (R).rt hh sz mk).V] w fun e w' => ∃ v, e = .returned v ∧ Post w F gT gA root s fr (Tr.nd i t (L) (R)).nodes v w' := by
  have hset := set_tree (h.below ((Below.refl w.heap.size w).alloc (Nat.le_refl _) (.cells (mkN t (L).rt (R).rt hh sz mk).C.toArray 103))) hk t (L) (R) hh sz mk hl hr ho
  obtain ⟨LL, hLL⟩ : ∃ x, (Tr.nd i t (L) (R)).nodes = x := ⟨_, rfl⟩
  have HO := Lib.hid (And.intro ho hLL)
  have HFb := Lib.hid (show ¬ F w.heap.size from fun hF => by have := h.ar.lt _ hF; omega)
  have HFL := Lib.hid h.ar.lt
  have HGT := Lib.hid h.lt
  have HIL := Lib.hid (And.intro (gt_lt hk) (show i ∈ ids LL by rw [← hLL]; simp [Tr.nodes, ids]))
  obtain ⟨d, hd⟩ : ∃ x, (L).h - (R).h = x := ⟨_, rfl⟩
  have HD := Lib.hid hd
  obtain ⟨n, hn⟩ : ∃ x, mkN t (L).rt (R).rt hh sz mk = x := ⟨_, rfl⟩
  have hnl : n.l = (L).rt := by rw [← hn]; rfl
  have hnr : n.r = (R).rt := by rw [← hn]; rfl
  have HN := Lib.hid hn
  rw [hn] at hset ⊢
  rw [hLL]
  unfold Nd.V at hset ⊢
  have HSET := Lib.hid hset
  have HL := Lib.hid (And.intro hl hr)
  clear hset h hl hr ho hLL hd hn hk
  obtain ⟨w1, hw1⟩ : ∃ v, w.alloc (.cells n.C.toArray 103) = v := ⟨_, rfl⟩
  obtain ⟨b, hb⟩ : ∃ v, w.heap.size = v := ⟨_, rfl⟩
  have N1 := Lib.hid (show NdAt w1 b n by rw [← hw1, ← hb]; exact NdAt.new w n)
  have K1 := Lib.hid (show Below w.heap.size w w1 by rw [← hw1]; exact (Below.refl _ _).alloc (Nat.le_refl _) _)
  rw [hw1] at HSET
  rw [hb] at HFb
  have HB := Lib.hid (Nat.le_of_eq hb)
  go_enter Try.func75, Try.ntmps75
  go_wp2_with (refine wpList_load_row rfl 103 (.tmp 5) rfl b rfl 103 n.C.toArray (0, 0) _ N1.out.blk Try.underlying103 rfl (nd_info n) ?_)
  clear hw1 hb
  refine HSET.out.mono ?_
  rintro e w2 ⟨⟨v2, rfl⟩, hT2, hH2, hg2⟩
  have N2 := Lib.hid (N1.out.step hg2.step HFb.out)
  have S2 := Lib.hid (And.intro hT2 (And.intro hH2 (And.intro (show ∀ q, q ∉ ids LL → gt (s.set i (some (topN t (L) (R)))) q = gt s q from fun q hq => gt_set_other HIL.out.1 _ (fun e => hq (by rw [e]; exact HIL.out.2))) (And.intro (show (s.set i (some (topN t (L) (R)))).length = s.length from List.length_set) ((Grow.of_below K1.out).trans hg2)))))
  clear hT2 hH2 hg2 HSET
  have HLn := Lib.hid (lean_tree S2.out.1 S2.out.2.1 HO.out.1)
  rw [HD.out] at HLn
  go_wp2_with fail
  refine HLn.out.mono ?_
  rintro e w3 ⟨rfl, hb3⟩
  have N3 := Lib.hid (N2.out.below hb3)
  have S3 := Lib.hid (And.intro (S2.out.1.below hb3) (And.intro S2.out.2.1 (And.intro S2.out.2.2.1 (And.intro S2.out.2.2.2.1 (S2.out.2.2.2.2.trans (Grow.of_below hb3))))))
  clear hb3 HLn S2 N2
  obtain ⟨s3, hs3⟩ : ∃ x, s.set i (some (topN t (L) (R))) = x := ⟨_, rfl⟩
  rw [hs3] at S3
  clear hs3
  have hd1 : ¬ (1 : Int) < d := by rw [← HD.out]; omega
  have hd2 : ¬ d < -1 := by rw [← HD.out]; omega
  go_wp2_with fail
  go_ret
  exact ⟨_, rfl, .nd i t L R, _, rfl, S3.out.1, S3.out.2.1, (show (Tr.nd i t L R).nodes = (Tr.nd i t L R).nodes by simp [Tr.nodes]).trans HO.out.2, S3.out.2.2.1, S3.out.2.2.2.1, S3.out.2.2.2.2⟩

set_option maxHeartbeats 4000000 in
theorem bal_left {w : World} {F : Nat → Prop} {gT gA : Nat} {root : Int} {s : List (Option Nd)} {fr : List Nat} (h : TreeW w F gT gA root s fr) {i j : Nat} {n0 : Nd} (hk : gt s i = some n0) {t u : Th} {A B R : Tr} (hh sz mk : Int)
    (hl : Holds s (.nd j u A B)) (hr : Holds s (R)) (ho : OkL (Tr.nd i t (.nd j u A B) (R)).nodes) (hbig : 1 < (Tr.nd j u A B).h - R.h) (hsub : ¬ A.h - B.h < 0) :
    Calls Try.prog 75 #[.pointer (some ⟨gT, 0, none⟩), .int .i64 i, (mkN t (Tr.nd j u A B).rt (R).rt hh sz mk).V] w fun e w' => ∃ v, e = .returned v ∧ Post w F gT gA root s fr (Tr.nd i t (.nd j u A B) (R)).nodes v w' := by
  have hset := set_tree (h.below ((Below.refl w.heap.size w).alloc (Nat.le_refl _) (.cells (mkN t (Tr.nd j u A B).rt (R).rt hh sz mk).C.toArray 103))) hk t (.nd j u A B) (R) hh sz mk hl hr ho
  obtain ⟨LL, hLL⟩ : ∃ x, (Tr.nd i t (.nd j u A B) (R)).nodes = x := ⟨_, rfl⟩
  have HO := Lib.hid (And.intro ho hLL)
  have HFb := Lib.hid (show ¬ F w.heap.size from fun hF => by have := h.ar.lt _ hF; omega)
  have HFL := Lib.hid h.ar.lt
  have HGT := Lib.hid h.lt
  have HIL := Lib.hid (And.intro (gt_lt hk) (show i ∈ ids LL by rw [← hLL]; simp [Tr.nodes, ids]))
  obtain ⟨d, hd⟩ : ∃ x, (Tr.nd j u A B).h - (R).h = x := ⟨_, rfl⟩
  have HD := Lib.hid hd
  obtain ⟨n, hn⟩ : ∃ x, mkN t (Tr.nd j u A B).rt (R).rt hh sz mk = x := ⟨_, rfl⟩
  have hnl : n.l = (Tr.nd j u A B).rt := by rw [← hn]; rfl
  have hnr : n.r = (R).rt := by rw [← hn]; rfl
  have HN := Lib.hid hn
  rw [hn] at hset ⊢
  rw [hLL]
  unfold Nd.V at hset ⊢
  have HSET := Lib.hid hset
  have HL := Lib.hid (And.intro hl hr)
  clear hset h hl hr ho hLL hd hn hk
  obtain ⟨w1, hw1⟩ : ∃ v, w.alloc (.cells n.C.toArray 103) = v := ⟨_, rfl⟩
  obtain ⟨b, hb⟩ : ∃ v, w.heap.size = v := ⟨_, rfl⟩
  have N1 := Lib.hid (show NdAt w1 b n by rw [← hw1, ← hb]; exact NdAt.new w n)
  have K1 := Lib.hid (show Below w.heap.size w w1 by rw [← hw1]; exact (Below.refl _ _).alloc (Nat.le_refl _) _)
  rw [hw1] at HSET
  rw [hb] at HFb
  have HB := Lib.hid (Nat.le_of_eq hb)
  go_enter Try.func75, Try.ntmps75
  go_wp2_with (refine wpList_load_row rfl 103 (.tmp 5) rfl b rfl 103 n.C.toArray (0, 0) _ N1.out.blk Try.underlying103 rfl (nd_info n) ?_)
  clear hw1 hb
  refine HSET.out.mono ?_
  rintro e w2 ⟨⟨v2, rfl⟩, hT2, hH2, hg2⟩
  have N2 := Lib.hid (N1.out.step hg2.step HFb.out)
  have S2 := Lib.hid (And.intro hT2 (And.intro hH2 (And.intro (show ∀ q, q ∉ ids LL → gt (s.set i (some (topN t (.nd j u A B) (R)))) q = gt s q from fun q hq => gt_set_other HIL.out.1 _ (fun e => hq (by rw [e]; exact HIL.out.2))) (And.intro (show (s.set i (some (topN t (.nd j u A B) (R)))).length = s.length from List.length_set) ((Grow.of_below K1.out).trans hg2)))))
  clear hT2 hH2 hg2 HSET
  have HLn := Lib.hid (lean_tree S2.out.1 S2.out.2.1 HO.out.1)
  rw [HD.out] at HLn
  go_wp2_with fail
  refine HLn.out.mono ?_
  rintro e w3 ⟨rfl, hb3⟩
  have N3 := Lib.hid (N2.out.below hb3)
  have S3 := Lib.hid (And.intro (S2.out.1.below hb3) (And.intro S2.out.2.1 (And.intro S2.out.2.2.1 (And.intro S2.out.2.2.2.1 (S2.out.2.2.2.2.trans (Grow.of_below hb3))))))
  clear hb3 HLn S2 N2
  obtain ⟨s3, hs3⟩ : ∃ x, s.set i (some (topN t (.nd j u A B) (R))) = x := ⟨_, rfl⟩
  rw [hs3] at S3
  clear hs3
  have HLs := Lib.hid (lean_tree S3.out.1 S3.out.2.1.2.1 (OkL.left (A := (Tr.nd j u A B).nodes) HO.out.1))
  obtain ⟨d2, hd2⟩ : ∃ x, A.h - B.h = x := ⟨_, rfl⟩
  rw [hd2] at HLs
  have hdd : ¬ d2 < 0 := by rw [← hd2]; omega
  have hc := N3.out.cL
  rw [hnl] at hc
  have hc : w3.cell? ⟨b, 33, none⟩ = some (.int .i64 (j : Int)) := hc
  have hd1 : (1 : Int) < d := by rw [← HD.out]; omega
  go_wp2_with fail
  clear hc
  refine HLs.out.mono ?_
  rintro e w4 ⟨rfl, hb4⟩
  have N4 := Lib.hid (N3.out.below hb4)
  have S4 := Lib.hid (And.intro (S3.out.1.below hb4) (And.intro S3.out.2.1 (And.intro S3.out.2.2.1 (And.intro S3.out.2.2.2.1 (S3.out.2.2.2.2.trans (Grow.of_below hb4))))))
  clear hb4 HLs
  have HLf := Lib.hid (lift_left S4.out.1 S4.out.2.1 HO.out.1)
  go_wp2_with fail
  refine HLf.out.mono ?_
  rintro e w5 ⟨s5, rfl, hT5, hH5, hk5, hl5, hg5⟩
  have S5 := Lib.hid (And.intro hT5 (And.intro hH5 (And.intro (show ∀ q, q ∉ ids LL → gt s5 q = gt s q from fun q hq => (hk5 q (fun e => hq (by rw [← HO.out.2]; exact e))).trans (S4.out.2.2.1 q hq)) (And.intro (hl5.trans S4.out.2.2.2.1) (S4.out.2.2.2.2.trans hg5)))))
  clear hT5 hH5 hk5 hl5 hg5 HLf
  go_wp2_with fail
  go_ret
  exact ⟨_, rfl, .nd j u A (.nd i t B R), _, rfl, S5.out.1, S5.out.2.1, (show (Tr.nd j u A (.nd i t B R)).nodes = (Tr.nd i t (.nd j u A B) R).nodes by simp [Tr.nodes]).trans HO.out.2, S5.out.2.2.1, S5.out.2.2.2.1, S5.out.2.2.2.2⟩

set_option maxHeartbeats 4000000 in
theorem bal_right {w : World} {F : Nat → Prop} {gT gA : Nat} {root : Int} {s : List (Option Nd)} {fr : List Nat} (h : TreeW w F gT gA root s fr) {i j : Nat} {n0 : Nd} (hk : gt s i = some n0) {t u : Th} {L A B : Tr} (hh sz mk : Int)
    (hl : Holds s (L)) (hr : Holds s (.nd j u A B)) (ho : OkL (Tr.nd i t (L) (.nd j u A B)).nodes) (hbig : L.h - (Tr.nd j u A B).h < -1) (hsub : ¬ 0 < A.h - B.h) :
    Calls Try.prog 75 #[.pointer (some ⟨gT, 0, none⟩), .int .i64 i, (mkN t (L).rt (Tr.nd j u A B).rt hh sz mk).V] w fun e w' => ∃ v, e = .returned v ∧ Post w F gT gA root s fr (Tr.nd i t (L) (.nd j u A B)).nodes v w' := by
  have hset := set_tree (h.below ((Below.refl w.heap.size w).alloc (Nat.le_refl _) (.cells (mkN t (L).rt (Tr.nd j u A B).rt hh sz mk).C.toArray 103))) hk t (L) (.nd j u A B) hh sz mk hl hr ho
  obtain ⟨LL, hLL⟩ : ∃ x, (Tr.nd i t (L) (.nd j u A B)).nodes = x := ⟨_, rfl⟩
  have HO := Lib.hid (And.intro ho hLL)
  have HFb := Lib.hid (show ¬ F w.heap.size from fun hF => by have := h.ar.lt _ hF; omega)
  have HFL := Lib.hid h.ar.lt
  have HGT := Lib.hid h.lt
  have HIL := Lib.hid (And.intro (gt_lt hk) (show i ∈ ids LL by rw [← hLL]; simp [Tr.nodes, ids]))
  obtain ⟨d, hd⟩ : ∃ x, (L).h - (Tr.nd j u A B).h = x := ⟨_, rfl⟩
  have HD := Lib.hid hd
  obtain ⟨n, hn⟩ : ∃ x, mkN t (L).rt (Tr.nd j u A B).rt hh sz mk = x := ⟨_, rfl⟩
  have hnl : n.l = (L).rt := by rw [← hn]; rfl
  have hnr : n.r = (Tr.nd j u A B).rt := by rw [← hn]; rfl
  have HN := Lib.hid hn
  rw [hn] at hset ⊢
  rw [hLL]
  unfold Nd.V at hset ⊢
  have HSET := Lib.hid hset
  have HL := Lib.hid (And.intro hl hr)
  clear hset h hl hr ho hLL hd hn hk
  obtain ⟨w1, hw1⟩ : ∃ v, w.alloc (.cells n.C.toArray 103) = v := ⟨_, rfl⟩
  obtain ⟨b, hb⟩ : ∃ v, w.heap.size = v := ⟨_, rfl⟩
  have N1 := Lib.hid (show NdAt w1 b n by rw [← hw1, ← hb]; exact NdAt.new w n)
  have K1 := Lib.hid (show Below w.heap.size w w1 by rw [← hw1]; exact (Below.refl _ _).alloc (Nat.le_refl _) _)
  rw [hw1] at HSET
  rw [hb] at HFb
  have HB := Lib.hid (Nat.le_of_eq hb)
  go_enter Try.func75, Try.ntmps75
  go_wp2_with (refine wpList_load_row rfl 103 (.tmp 5) rfl b rfl 103 n.C.toArray (0, 0) _ N1.out.blk Try.underlying103 rfl (nd_info n) ?_)
  clear hw1 hb
  refine HSET.out.mono ?_
  rintro e w2 ⟨⟨v2, rfl⟩, hT2, hH2, hg2⟩
  have N2 := Lib.hid (N1.out.step hg2.step HFb.out)
  have S2 := Lib.hid (And.intro hT2 (And.intro hH2 (And.intro (show ∀ q, q ∉ ids LL → gt (s.set i (some (topN t (L) (.nd j u A B)))) q = gt s q from fun q hq => gt_set_other HIL.out.1 _ (fun e => hq (by rw [e]; exact HIL.out.2))) (And.intro (show (s.set i (some (topN t (L) (.nd j u A B)))).length = s.length from List.length_set) ((Grow.of_below K1.out).trans hg2)))))
  clear hT2 hH2 hg2 HSET
  have HLn := Lib.hid (lean_tree S2.out.1 S2.out.2.1 HO.out.1)
  rw [HD.out] at HLn
  go_wp2_with fail
  refine HLn.out.mono ?_
  rintro e w3 ⟨rfl, hb3⟩
  have N3 := Lib.hid (N2.out.below hb3)
  have S3 := Lib.hid (And.intro (S2.out.1.below hb3) (And.intro S2.out.2.1 (And.intro S2.out.2.2.1 (And.intro S2.out.2.2.2.1 (S2.out.2.2.2.2.trans (Grow.of_below hb3))))))
  clear hb3 HLn S2 N2
  obtain ⟨s3, hs3⟩ : ∃ x, s.set i (some (topN t (L) (.nd j u A B))) = x := ⟨_, rfl⟩
  rw [hs3] at S3
  clear hs3
  have HLs := Lib.hid (lean_tree S3.out.1 S3.out.2.1.2.2 (OkL.right (A := L.nodes) HO.out.1).tail)
  obtain ⟨d2, hd2⟩ : ∃ x, A.h - B.h = x := ⟨_, rfl⟩
  rw [hd2] at HLs
  have hdd : ¬ 0 < d2 := by rw [← hd2]; omega
  have hc := N3.out.cR
  rw [hnr] at hc
  have hc : w3.cell? ⟨b, 34, none⟩ = some (.int .i64 (j : Int)) := hc
  have hd1 : d < -1 := by rw [← HD.out]; omega
  go_wp2_with fail
  clear hc
  refine HLs.out.mono ?_
  rintro e w4 ⟨rfl, hb4⟩
  have N4 := Lib.hid (N3.out.below hb4)
  have S4 := Lib.hid (And.intro (S3.out.1.below hb4) (And.intro S3.out.2.1 (And.intro S3.out.2.2.1 (And.intro S3.out.2.2.2.1 (S3.out.2.2.2.2.trans (Grow.of_below hb4))))))
  clear hb4 HLs
  have HLf := Lib.hid (lift_right S4.out.1 S4.out.2.1 HO.out.1)
  go_wp2_with fail
  refine HLf.out.mono ?_
  rintro e w5 ⟨s5, rfl, hT5, hH5, hk5, hl5, hg5⟩
  have S5 := Lib.hid (And.intro hT5 (And.intro hH5 (And.intro (show ∀ q, q ∉ ids LL → gt s5 q = gt s q from fun q hq => (hk5 q (fun e => hq (by rw [← HO.out.2]; exact e))).trans (S4.out.2.2.1 q hq)) (And.intro (hl5.trans S4.out.2.2.2.1) (S4.out.2.2.2.2.trans hg5)))))
  clear hT5 hH5 hk5 hl5 hg5 HLf
  go_wp2_with fail
  go_ret
  exact ⟨_, rfl, .nd j u (.nd i t L A) B, _, rfl, S5.out.1, S5.out.2.1, (show (Tr.nd j u (.nd i t L A) B).nodes = (Tr.nd i t L (.nd j u A B)).nodes by simp [Tr.nodes]).trans HO.out.2, S5.out.2.2.1, S5.out.2.2.2.1, S5.out.2.2.2.2⟩

set_option maxHeartbeats 4000000 in
theorem bal_left2 {w : World} {F : Nat → Prop} {gT gA : Nat} {root : Int} {s : List (Option Nd)} {fr : List Nat} (h : TreeW w F gT gA root s fr) {i j p : Nat} {n0 : Nd} (hk : gt s i = some n0) {t u y : Th} {A C D R : Tr} (hh sz mk : Int)
    (hl : Holds s (.nd j u A (.nd p y C D))) (hr : Holds s (R)) (ho : OkL (Tr.nd i t (.nd j u A (.nd p y C D)) (R)).nodes) (hbig : 1 < (Tr.nd j u A (.nd p y C D)).h - R.h) (hsub : A.h - (Tr.nd p y C D).h < 0) :
    Calls Try.prog 75 #[.pointer (some ⟨gT, 0, none⟩), .int .i64 i, (mkN t (Tr.nd j u A (.nd p y C D)).rt (R).rt hh sz mk).V] w fun e w' => ∃ v, e = .returned v ∧ Post w F gT gA root s fr (Tr.nd i t (.nd j u A (.nd p y C D)) (R)).nodes v w' := by
  have hset := set_tree (h.below ((Below.refl w.heap.size w).alloc (Nat.le_refl _) (.cells (mkN t (Tr.nd j u A (.nd p y C D)).rt (R).rt hh sz mk).C.toArray 103))) hk t (.nd j u A (.nd p y C D)) (R) hh sz mk hl hr ho
  obtain ⟨LL, hLL⟩ : ∃ x, (Tr.nd i t (.nd j u A (.nd p y C D)) (R)).nodes = x := ⟨_, rfl⟩
  have HO := Lib.hid (And.intro ho hLL)
  have HFb := Lib.hid (show ¬ F w.heap.size from fun hF => by have := h.ar.lt _ hF; omega)
  have HFL := Lib.hid h.ar.lt
  have HGT := Lib.hid h.lt
  have HIL := Lib.hid (And.intro (gt_lt hk) (show i ∈ ids LL by rw [← hLL]; simp [Tr.nodes, ids]))
  obtain ⟨d, hd⟩ : ∃ x, (Tr.nd j u A (.nd p y C D)).h - (R).h = x := ⟨_, rfl⟩
  have HD := Lib.hid hd
  obtain ⟨n, hn⟩ : ∃ x, mkN t (Tr.nd j u A (.nd p y C D)).rt (R).rt hh sz mk = x := ⟨_, rfl⟩
  have hnl : n.l = (Tr.nd j u A (.nd p y C D)).rt := by rw [← hn]; rfl
  have hnr : n.r = (R).rt := by rw [← hn]; rfl
  have HN := Lib.hid hn
  rw [hn] at hset ⊢
  rw [hLL]
  unfold Nd.V at hset ⊢
  have HSET := Lib.hid hset
  have HL := Lib.hid (And.intro hl hr)
  clear hset h hl hr ho hLL hd hn hk
  obtain ⟨w1, hw1⟩ : ∃ v, w.alloc (.cells n.C.toArray 103) = v := ⟨_, rfl⟩
  obtain ⟨b, hb⟩ : ∃ v, w.heap.size = v := ⟨_, rfl⟩
  have N1 := Lib.hid (show NdAt w1 b n by rw [← hw1, ← hb]; exact NdAt.new w n)
  have K1 := Lib.hid (show Below w.heap.size w w1 by rw [← hw1]; exact (Below.refl _ _).alloc (Nat.le_refl _) _)
  rw [hw1] at HSET
  rw [hb] at HFb
  have HB := Lib.hid (Nat.le_of_eq hb)
  go_enter Try.func75, Try.ntmps75
  go_wp2_with (refine wpList_load_row rfl 103 (.tmp 5) rfl b rfl 103 n.C.toArray (0, 0) _ N1.out.blk Try.underlying103 rfl (nd_info n) ?_)
  clear hw1 hb
  refine HSET.out.mono ?_
  rintro e w2 ⟨⟨v2, rfl⟩, hT2, hH2, hg2⟩
  have N2 := Lib.hid (N1.out.step hg2.step HFb.out)
  have S2 := Lib.hid (And.intro hT2 (And.intro hH2 (And.intro (show ∀ q, q ∉ ids LL → gt (s.set i (some (topN t (.nd j u A (.nd p y C D)) (R)))) q = gt s q from fun q hq => gt_set_other HIL.out.1 _ (fun e => hq (by rw [e]; exact HIL.out.2))) (And.intro (show (s.set i (some (topN t (.nd j u A (.nd p y C D)) (R)))).length = s.length from List.length_set) ((Grow.of_below K1.out).trans hg2)))))
  clear hT2 hH2 hg2 HSET
  have HLn := Lib.hid (lean_tree S2.out.1 S2.out.2.1 HO.out.1)
  rw [HD.out] at HLn
  go_wp2_with fail
  refine HLn.out.mono ?_
  rintro e w3 ⟨rfl, hb3⟩
  have N3 := Lib.hid (N2.out.below hb3)
  have S3 := Lib.hid (And.intro (S2.out.1.below hb3) (And.intro S2.out.2.1 (And.intro S2.out.2.2.1 (And.intro S2.out.2.2.2.1 (S2.out.2.2.2.2.trans (Grow.of_below hb3))))))
  clear hb3 HLn S2 N2
  obtain ⟨s3, hs3⟩ : ∃ x, s.set i (some (topN t (.nd j u A (.nd p y C D)) (R))) = x := ⟨_, rfl⟩
  rw [hs3] at S3
  clear hs3
  have HLs := Lib.hid (lean_tree S3.out.1 S3.out.2.1.2.1 (OkL.left (A := (Tr.nd j u A (.nd p y C D)).nodes) HO.out.1))
  obtain ⟨d2, hd2⟩ : ∃ x, A.h - (Tr.nd p y C D).h = x := ⟨_, rfl⟩
  rw [hd2] at HLs
  have hdd : d2 < 0 := by rw [← hd2]; omega
  have hc := N3.out.cL
  rw [hnl] at hc
  have hc : w3.cell? ⟨b, 33, none⟩ = some (.int .i64 (j : Int)) := hc
  have hd1 : (1 : Int) < d := by rw [← HD.out]; omega
  go_wp2_with fail
  clear hc
  refine HLs.out.mono ?_
  rintro e w4 ⟨rfl, hb4⟩
  have N4 := Lib.hid (N3.out.below hb4)
  have S4 := Lib.hid (And.intro (S3.out.1.below hb4) (And.intro S3.out.2.1 (And.intro S3.out.2.2.1 (And.intro S3.out.2.2.2.1 (S3.out.2.2.2.2.trans (Grow.of_below hb4))))))
  clear hb4 HLs
  have HLg := Lib.hid (lift_right S4.out.1 S4.out.2.1.2.1 (OkL.left (A := (Tr.nd j u A (.nd p y C D)).nodes) HO.out.1))
  have hc := N4.out.cL
  rw [hnl] at hc
  have hc : w4.cell? ⟨b, 33, none⟩ = some (.int .i64 (j : Int)) := hc
  go_wp2_with fail
  clear hc
  refine HLg.out.mono ?_
  rintro e w5 ⟨s5, rfl, hT5, hH5, hk5, hl5, hg5⟩
  have N5 := Lib.hid (N4.out.step hg5.step HFb.out)
  have hi5 : gt s5 i = some (topN t (.nd j u A (.nd p y C D)) R) := (hk5 i (fun e => OkL.apart (A := (Tr.nd j u A (.nd p y C D)).nodes) (B := (i, t) :: R.nodes) HO.out.1 i e (by simp [ids]))).trans S4.out.2.1.1
  have HR5 := Lib.hid (S4.out.2.1.2.2.keep (s' := s5) (fun z hz => hk5 z (fun e => OkL.apart (A := (Tr.nd j u A (.nd p y C D)).nodes) (B := (i, t) :: R.nodes) HO.out.1 z e (by rw [ids, List.map_cons]; exact List.mem_cons.2 (.inr hz)))))
  have HLT := Lib.hid (show ∀ x, F x → x < b from fun x hx => by have h1 := HFL.out x hx; have := HB.out; omega)
  have okx : OkL (Tr.nd i t (.nd p y (.nd j u A C) D) R).nodes := by have h1 := HO.out.1; simpa [Tr.nodes] using h1
  have G5 := S4.out.2.2.2.2.trans hg5
  have F5 := Lib.hid (show ∀ z, z ∉ ids LL → gt s5 z = gt s z from fun z hz => (hk5 z (fun e => hz (by rw [← HO.out.2]; simp only [Tr.nodes, ids_append, List.mem_append] at e ⊢; exact .inl e))).trans (S4.out.2.2.1 z hz))
  have L5 := Lib.hid (hl5.trans S4.out.2.2.2.1)
  have hc := N5.out.cL
  have fz := N5.out.fz
  obtain ⟨n6, hn6⟩ : ∃ x, mkN t (p : Int) R.rt hh sz mk = x := ⟨_, rfl⟩
  obtain ⟨w6, hw6⟩ : ∃ x, w5.setCell ⟨b, 33, none⟩ (.int .i64 (p : Int)) = x := ⟨_, rfl⟩
  have N6 := Lib.hid (show NdAt w6 b n6 by rw [← hw6]; exact N5.out.set 0 (.int .i64 (p : Int)) n6 (by rw [← hn6, ← HN.out]; rfl) (by rw [← hn6, ← HN.out]; rfl))
  have G6 := Lib.hid (show Grow F w w6 F by rw [← hw6]; exact ⟨G5.step.setCell (p := ⟨b, _, none⟩) (.inr HB.out) _, G5.new⟩)
  have T6 := Lib.hid (show TreeW w6 F gT gA root s5 fr from hT5.step (G := fun x => x = b) (by rw [← hw6]; exact (Step.refl (fun x => x = b) w5).setCell (p := ⟨b, _, none⟩) (.inl rfl) _) (fun x hF e => by have := HLT.out x hF; have e : x = b := e; omega) (fun e => by have := HGT.out; have := HB.out; have e : gT = b := e; omega))
  have hset := fun hh sz mk => set_tree T6.out hi5 t (.nd p y (.nd j u A C) D) R hh sz mk hH5 (HR5.out) okx
  simp only [Nd.V] at hset
  have HW6 := Lib.hid hw6
  have I5 := Lib.hid (gt_lt hi5)
  clear hw6 hT5 hH5 hk5 hl5 hg5 G5 hi5 HLg
  go_wp2_with (rw [HW6.out]; (refine wpList_load_row rfl 103 (.tmp 5) rfl b rfl 103 n6.C.toArray (0, 0) _ N6.out.blk Try.underlying103 rfl (nd_info n6) ?_))
  clear hc fz
  subst hn6
  refine (hset _ _ _).mono ?_
  clear hset
  rintro e w7 ⟨⟨v7, rfl⟩, hT7, hH7, hg7⟩
  have S7 := Lib.hid (And.intro hT7 (And.intro hH7 (And.intro (show ∀ z, z ∉ ids LL → gt (s5.set i (some (topN t (.nd p y (.nd j u A C) D) R))) z = gt s z from fun z hz => (gt_set_other I5.out _ (fun e => hz (by rw [e]; exact HIL.out.2))).trans (F5.out z hz)) (And.intro (show (s5.set i (some (topN t (.nd p y (.nd j u A C) D) R))).length = s.length from (List.length_set).trans L5.out) (G6.out.trans hg7)))))
  clear hT7 hH7 hg7
  have HLf := Lib.hid (lift_left S7.out.1 S7.out.2.1 okx)
  go_wp2_with fail
  refine HLf.out.mono ?_
  rintro e w8 ⟨s8, rfl, hT8, hH8, hk8, hl8, hg8⟩
  have S8 := Lib.hid (And.intro hT8 (And.intro hH8 (And.intro (show ∀ q, q ∉ ids LL → gt s8 q = gt s q from fun q hq => (hk8 q (fun e => hq (by rw [← HO.out.2, show (Tr.nd i t (.nd j u A (.nd p y C D)) R).nodes = (Tr.nd i t (.nd p y (.nd j u A C) D) R).nodes by simp [Tr.nodes]]; exact e))).trans (S7.out.2.2.1 q hq)) (And.intro (hl8.trans S7.out.2.2.2.1) (S7.out.2.2.2.2.trans hg8)))))
  clear hT8 hH8 hk8 hl8 hg8 HLf
  go_wp2_with fail
  go_ret
  exact ⟨_, rfl, .nd p y (.nd j u A C) (.nd i t D R), _, rfl, S8.out.1, S8.out.2.1, (show (Tr.nd p y (.nd j u A C) (.nd i t D R)).nodes = (Tr.nd i t (.nd j u A (.nd p y C D)) R).nodes by simp [Tr.nodes]).trans HO.out.2, S8.out.2.2.1, S8.out.2.2.2.1, S8.out.2.2.2.2⟩

set_option maxHeartbeats 4000000 in
theorem bal_right2 {w : World} {F : Nat → Prop} {gT gA : Nat} {root : Int} {s : List (Option Nd)} {fr : List Nat} (h : TreeW w F gT gA root s fr) {i j p : Nat} {n0 : Nd} (hk : gt s i = some n0) {t u y : Th} {L C D B : Tr} (hh sz mk : Int)
    (hl : Holds s (L)) (hr : Holds s (.nd j u (.nd p y C D) B)) (ho : OkL (Tr.nd i t (L) (.nd j u (.nd p y C D) B)).nodes) (hbig : L.h - (Tr.nd j u (.nd p y C D) B).h < -1) (hsub : 0 < (Tr.nd p y C D).h - B.h) :
    Calls Try.prog 75 #[.pointer (some ⟨gT, 0, none⟩), .int .i64 i, (mkN t (L).rt (Tr.nd j u (.nd p y C D) B).rt hh sz mk).V] w fun e w' => ∃ v, e = .returned v ∧ Post w F gT gA root s fr (Tr.nd i t (L) (.nd j u (.nd p y C D) B)).nodes v w' := by
  have hset := set_tree (h.below ((Below.refl w.heap.size w).alloc (Nat.le_refl _) (.cells (mkN t (L).rt (Tr.nd j u (.nd p y C D) B).rt hh sz mk).C.toArray 103))) hk t (L) (.nd j u (.nd p y C D) B) hh sz mk hl hr ho
  obtain ⟨LL, hLL⟩ : ∃ x, (Tr.nd i t (L) (.nd j u (.nd p y C D) B)).nodes = x := ⟨_, rfl⟩
  have HO := Lib.hid (And.intro ho hLL)
  have HFb := Lib.hid (show ¬ F w.heap.size from fun hF => by have := h.ar.lt _ hF; omega)
  have HFL := Lib.hid h.ar.lt
  have HGT := Lib.hid h.lt
  have HIL := Lib.hid (And.intro (gt_lt hk) (show i ∈ ids LL by rw [← hLL]; simp [Tr.nodes, ids]))
  obtain ⟨d, hd⟩ : ∃ x, (L).h - (Tr.nd j u (.nd p y C D) B).h = x := ⟨_, rfl⟩
  have HD := Lib.hid hd
  obtain ⟨n, hn⟩ : ∃ x, mkN t (L).rt (Tr.nd j u (.nd p y C D) B).rt hh sz mk = x := ⟨_, rfl⟩
  have hnl : n.l = (L).rt := by rw [← hn]; rfl
  have hnr : n.r = (Tr.nd j u (.nd p y C D) B).rt := by rw [← hn]; rfl
  have HN := Lib.hid hn
  rw [hn] at hset ⊢
  rw [hLL]
  unfold Nd.V at hset ⊢
  have HSET := Lib.hid hset
  have HL := Lib.hid (And.intro hl hr)
  clear hset h hl hr ho hLL hd hn hk
  obtain ⟨w1, hw1⟩ : ∃ v, w.alloc (.cells n.C.toArray 103) = v := ⟨_, rfl⟩
  obtain ⟨b, hb⟩ : ∃ v, w.heap.size = v := ⟨_, rfl⟩
  have N1 := Lib.hid (show NdAt w1 b n by rw [← hw1, ← hb]; exact NdAt.new w n)
  have K1 := Lib.hid (show Below w.heap.size w w1 by rw [← hw1]; exact (Below.refl _ _).alloc (Nat.le_refl _) _)
  rw [hw1] at HSET
  rw [hb] at HFb
  have HB := Lib.hid (Nat.le_of_eq hb)
  go_enter Try.func75, Try.ntmps75
  go_wp2_with (refine wpList_load_row rfl 103 (.tmp 5) rfl b rfl 103 n.C.toArray (0, 0) _ N1.out.blk Try.underlying103 rfl (nd_info n) ?_)
  clear hw1 hb
  refine HSET.out.mono ?_
  rintro e w2 ⟨⟨v2, rfl⟩, hT2, hH2, hg2⟩
  have N2 := Lib.hid (N1.out.step hg2.step HFb.out)
  have S2 := Lib.hid (And.intro hT2 (And.intro hH2 (And.intro (show ∀ q, q ∉ ids LL → gt (s.set i (some (topN t (L) (.nd j u (.nd p y C D) B)))) q = gt s q from fun q hq => gt_set_other HIL.out.1 _ (fun e => hq (by rw [e]; exact HIL.out.2))) (And.intro (show (s.set i (some (topN t (L) (.nd j u (.nd p y C D) B)))).length = s.length from List.length_set) ((Grow.of_below K1.out).trans hg2)))))
  clear hT2 hH2 hg2 HSET
  have HLn := Lib.hid (lean_tree S2.out.1 S2.out.2.1 HO.out.1)
  rw [HD.out] at HLn
  go_wp2_with fail
  refine HLn.out.mono ?_
  rintro e w3 ⟨rfl, hb3⟩
  have N3 := Lib.hid (N2.out.below hb3)
  have S3 := Lib.hid (And.intro (S2.out.1.below hb3) (And.intro S2.out.2.1 (And.intro S2.out.2.2.1 (And.intro S2.out.2.2.2.1 (S2.out.2.2.2.2.trans (Grow.of_below hb3))))))
  clear hb3 HLn S2 N2
  obtain ⟨s3, hs3⟩ : ∃ x, s.set i (some (topN t (L) (.nd j u (.nd p y C D) B))) = x := ⟨_, rfl⟩
  rw [hs3] at S3
  clear hs3
  have HLs := Lib.hid (lean_tree S3.out.1 S3.out.2.1.2.2 (OkL.right (A := L.nodes) HO.out.1).tail)
  obtain ⟨d2, hd2⟩ : ∃ x, (Tr.nd p y C D).h - B.h = x := ⟨_, rfl⟩
  rw [hd2] at HLs
  have hdd : 0 < d2 := by rw [← hd2]; omega
  have hc := N3.out.cR
  rw [hnr] at hc
  have hc : w3.cell? ⟨b, 34, none⟩ = some (.int .i64 (j : Int)) := hc
  have hd1 : d < -1 := by rw [← HD.out]; omega
  go_wp2_with fail
  clear hc
  refine HLs.out.mono ?_
  rintro e w4 ⟨rfl, hb4⟩
  have N4 := Lib.hid (N3.out.below hb4)
  have S4 := Lib.hid (And.intro (S3.out.1.below hb4) (And.intro S3.out.2.1 (And.intro S3.out.2.2.1 (And.intro S3.out.2.2.2.1 (S3.out.2.2.2.2.trans (Grow.of_below hb4))))))
  clear hb4 HLs
  have HLg := Lib.hid (lift_left S4.out.1 S4.out.2.1.2.2 (OkL.right (A := L.nodes) HO.out.1).tail)
  have hc := N4.out.cR
  rw [hnr] at hc
  have hc : w4.cell? ⟨b, 34, none⟩ = some (.int .i64 (j : Int)) := hc
  go_wp2_with fail
  clear hc
  refine HLg.out.mono ?_
  rintro e w5 ⟨s5, rfl, hT5, hH5, hk5, hl5, hg5⟩
  have N5 := Lib.hid (N4.out.step hg5.step HFb.out)
  have hi5 : gt s5 i = some (topN t L (.nd j u (.nd p y C D) B)) := (hk5 i (fun e => by have hn := (OkL.right (A := L.nodes) (B := (i, t) :: (Tr.nd j u (.nd p y C D) B).nodes) HO.out.1).nodup; rw [ids, List.map_cons, List.nodup_cons] at hn; exact hn.1 e)).trans S4.out.2.1.1
  have HR5 := Lib.hid (S4.out.2.1.2.1.keep (s' := s5) (fun z hz => hk5 z (fun e => OkL.apart (A := L.nodes) (B := (i, t) :: (Tr.nd j u (.nd p y C D) B).nodes) HO.out.1 z hz (by rw [ids, List.map_cons]; exact List.mem_cons.2 (.inr e)))))
  have HLT := Lib.hid (show ∀ x, F x → x < b from fun x hx => by have h1 := HFL.out x hx; have := HB.out; omega)
  have okx : OkL (Tr.nd i t L (.nd p y C (.nd j u D B))).nodes := by have h1 := HO.out.1; simpa [Tr.nodes] using h1
  have G5 := S4.out.2.2.2.2.trans hg5
  have F5 := Lib.hid (show ∀ z, z ∉ ids LL → gt s5 z = gt s z from fun z hz => (hk5 z (fun e => hz (by rw [← HO.out.2]; simp only [Tr.nodes, ids, List.map_append, List.map_cons, List.mem_append, List.mem_cons] at e ⊢; exact .inr (.inr e)))).trans (S4.out.2.2.1 z hz))
  have L5 := Lib.hid (hl5.trans S4.out.2.2.2.1)
  have hc := N5.out.cR
  have fz := N5.out.fz
  obtain ⟨n6, hn6⟩ : ∃ x, mkN t L.rt (p : Int) hh sz mk = x := ⟨_, rfl⟩
  obtain ⟨w6, hw6⟩ : ∃ x, w5.setCell ⟨b, 34, none⟩ (.int .i64 (p : Int)) = x := ⟨_, rfl⟩
  have N6 := Lib.hid (show NdAt w6 b n6 by rw [← hw6]; exact N5.out.set 1 (.int .i64 (p : Int)) n6 (by rw [← hn6, ← HN.out]; rfl) (by rw [← hn6, ← HN.out]; rfl))
  have G6 := Lib.hid (show Grow F w w6 F by rw [← hw6]; exact ⟨G5.step.setCell (p := ⟨b, _, none⟩) (.inr HB.out) _, G5.new⟩)
  have T6 := Lib.hid (show TreeW w6 F gT gA root s5 fr from hT5.step (G := fun x => x = b) (by rw [← hw6]; exact (Step.refl (fun x => x = b) w5).setCell (p := ⟨b, _, none⟩) (.inl rfl) _) (fun x hF e => by have := HLT.out x hF; have e : x = b := e; omega) (fun e => by have := HGT.out; have := HB.out; have e : gT = b := e; omega))
  have hset := fun hh sz mk => set_tree T6.out hi5 t L (.nd p y C (.nd j u D B)) hh sz mk (HR5.out) hH5 okx
  simp only [Nd.V] at hset
  have HW6 := Lib.hid hw6
  have I5 := Lib.hid (gt_lt hi5)
  clear hw6 hT5 hH5 hk5 hl5 hg5 G5 hi5 HLg
  go_wp2_with (rw [HW6.out]; (refine wpList_load_row rfl 103 (.tmp 5) rfl b rfl 103 n6.C.toArray (0, 0) _ N6.out.blk Try.underlying103 rfl (nd_info n6) ?_))
  clear hc fz
  subst hn6
  refine (hset _ _ _).mono ?_
  clear hset
  rintro e w7 ⟨⟨v7, rfl⟩, hT7, hH7, hg7⟩
  have S7 := Lib.hid (And.intro hT7 (And.intro hH7 (And.intro (show ∀ z, z ∉ ids LL → gt (s5.set i (some (topN t L (.nd p y C (.nd j u D B))))) z = gt s z from fun z hz => (gt_set_other I5.out _ (fun e => hz (by rw [e]; exact HIL.out.2))).trans (F5.out z hz)) (And.intro (show (s5.set i (some (topN t L (.nd p y C (.nd j u D B))))).length = s.length from (List.length_set).trans L5.out) (G6.out.trans hg7)))))
  clear hT7 hH7 hg7
  have HLf := Lib.hid (lift_right S7.out.1 S7.out.2.1 okx)
  go_wp2_with fail
  refine HLf.out.mono ?_
  rintro e w8 ⟨s8, rfl, hT8, hH8, hk8, hl8, hg8⟩
  have S8 := Lib.hid (And.intro hT8 (And.intro hH8 (And.intro (show ∀ q, q ∉ ids LL → gt s8 q = gt s q from fun q hq => (hk8 q (fun e => hq (by rw [← HO.out.2, show (Tr.nd i t L (.nd j u (.nd p y C D) B)).nodes = (Tr.nd i t L (.nd p y C (.nd j u D B))).nodes by simp [Tr.nodes]]; exact e))).trans (S7.out.2.2.1 q hq)) (And.intro (hl8.trans S7.out.2.2.2.1) (S7.out.2.2.2.2.trans hg8)))))
  clear hT8 hH8 hk8 hl8 hg8 HLf
  go_wp2_with fail
  go_ret
  exact ⟨_, rfl, .nd p y (.nd i t L C) (.nd j u D B), _, rfl, S8.out.1, S8.out.2.1, (show (Tr.nd p y (.nd i t L C) (.nd j u D B)).nodes = (Tr.nd i t L (.nd j u (.nd p y C D) B)).nodes by simp [Tr.nodes]).trans HO.out.2, S8.out.2.2.1, S8.out.2.2.2.1, S8.out.2.2.2.2⟩

/-- balance. -/
theorem balance_any {w : World} {F : Nat → Prop} {gT gA : Nat} {root : Int} {s : List (Option Nd)} {fr : List Nat} (h : TreeW w F gT gA root s fr) {i : Nat} {n0 : Nd} (hk : gt s i = some n0) {t : Th} {L R : Tr} (hh sz mk : Int) (hl : Holds s L) (hr : Holds s R) (ho : OkL (Tr.nd i t L R).nodes) :
    Calls Try.prog 75 #[.pointer (some ⟨gT, 0, none⟩), .int .i64 i, (mkN t L.rt R.rt hh sz mk).V] w fun e w' => ∃ v, e = .returned v ∧ Post w F gT gA root s fr (Tr.nd i t L R).nodes v w' := by
  by_cases h1 : 1 < L.h - R.h
  · cases L with
    | nil => have := R.h_le; simp only [Tr.h] at h1; omega
    | nd j u A B =>
      by_cases h2 : A.h - B.h < 0
      · cases B with
        | nil => have := A.h_le; simp only [Tr.h] at h2; omega
        | nd p y C D => exact bal_left2 h hk hh sz mk hl hr ho h1 h2
      · exact bal_left h hk hh sz mk hl hr ho h1 h2
  · by_cases h3 : L.h - R.h < -1
    · cases R with
      | nil => have := L.h_le; simp only [Tr.h] at h3; omega
      | nd j u A B =>
        by_cases h2 : 0 < A.h - B.h
        · cases A with
          | nil => have := B.h_le; simp only [Tr.h] at h2; omega
          | nd p y C D => exact bal_right2 h hk hh sz mk hl hr ho h3 h2
        · exact bal_right h hk hh sz mk hl hr ho h3 h2
    · exact bal_none h hk hh sz mk hl hr ho (by omega) (by omega)

end Go.Proofs.Ytmfkdaannjibfaa
