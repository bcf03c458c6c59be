/-
  Trees, plainly: what a tree of nodes is; lean.
-/
import Derived.Test.YtbioomilnjikpaaSpH
namespace Go.Proofs.Ytbioomilnjikpaa
open Go.RowKit

inductive Tr where
  | nil : Tr
  | nd (i : Nat) (t : Th) (l r : Tr) : Tr

def Tr.rt : Tr → Int
  | .nil => -1
  | .nd i _ _ _ => (i : Int)
def Tr.h : Tr → Int
  | .nil => 0
  | .nd _ _ l r => 1 + max l.h r.h
def Tr.z : Tr → Int
  | .nil => 0
  | .nd _ t l r => l.z + r.z + sizeT t
def Tr.m : Tr → Int
  | .nil => 0
  | .nd _ t l r => l.m + r.m + marksT t
/-- The nodes, one behind the other. -/
def Tr.nodes : Tr → List (Nat × Th)
  | .nil => []
  | .nd i t l r => l.nodes ++ (i, t) :: r.nodes
/-- The node at a tree's top. -/
def topN (t : Th) (l r : Tr) : Nd := mkN t l.rt r.rt (1 + max l.h r.h) (l.z + r.z + sizeT t) (l.m + r.m + marksT t)
/-- The places hold the tree. -/
def Holds (s : List (Option Nd)) : Tr → Prop
  | .nil => True
  | .nd i t l r => gt s i = some (topN t l r) ∧ Holds s l ∧ Holds s r

def ids (L : List (Nat × Th)) : List Nat := L.map (·.1)
def sumZ : List (Nat × Th) → Int
  | [] => 0
  | p :: L => sizeT p.2 + sumZ L

/-- Nodes each once; things as they may be; not too many. -/
structure OkL (L : List (Nat × Th)) : Prop where
  nodup : (ids L).Nodup
  ok : ∀ p ∈ L, okT p.2
  sum : sumZ L ≤ 100000000000
  len : L.length ≤ 100000

theorem ids_append (A B : List (Nat × Th)) : ids (A ++ B) = ids A ++ ids B := List.map_append
theorem sumZ_append (A B : List (Nat × Th)) : sumZ (A ++ B) = sumZ A + sumZ B := by
  induction A with
  | nil => simp [sumZ]
  | cons p A ih => rw [List.cons_append, sumZ, sumZ, ih]; omega
theorem sumZ_nonneg {L : List (Nat × Th)} (h : ∀ p ∈ L, okT p.2) : 0 ≤ sumZ L := by
  induction L with
  | nil => exact Int.le_refl 0
  | cons p L ih =>
    have h1 := ih (fun q hq => h q (by simp [hq]))
    have h2 := sizeT_ok (h p (by simp))
    rw [sumZ]
    omega

theorem OkL.left {A B : List (Nat × Th)} (h : OkL (A ++ B)) : OkL A := by
  have hs := h.sum
  have hb := sumZ_nonneg (L := B) (fun p hp => h.ok p (by simp [hp]))
  rw [sumZ_append] at hs
  have hn := h.nodup
  rw [ids_append] at hn
  exact ⟨(List.nodup_append.1 hn).1, fun p hp => h.ok p (by simp [hp]), by omega, by have := h.len; simp at this; omega⟩
theorem OkL.right {A B : List (Nat × Th)} (h : OkL (A ++ B)) : OkL B := by
  have hs := h.sum
  have hb := sumZ_nonneg (L := A) (fun p hp => h.ok p (by simp [hp]))
  rw [sumZ_append] at hs
  have hn := h.nodup
  rw [ids_append] at hn
  exact ⟨(List.nodup_append.1 hn).2.1, fun p hp => h.ok p (by simp [hp]), by omega, by have := h.len; simp at this; omega⟩
theorem OkL.tail {p : Nat × Th} {B : List (Nat × Th)} (h : OkL (p :: B)) : OkL B := OkL.right (A := [p]) (by simpa using h)
theorem OkL.apart {A B : List (Nat × Th)} (h : OkL (A ++ B)) : ∀ i ∈ ids A, i ∉ ids B := by
  have hn := h.nodup
  rw [ids_append] at hn
  exact fun i ha hb => (List.nodup_append.1 hn).2.2 i ha i hb rfl

theorem Tr.z_eq : ∀ T : Tr, T.z = sumZ T.nodes
  | .nil => rfl
  | .nd i t l r => by rw [Tr.z, Tr.nodes, sumZ_append, sumZ, Tr.z_eq l, Tr.z_eq r]; dsimp only; omega
theorem Tr.h_le : ∀ T : Tr, 0 ≤ T.h ∧ T.h ≤ T.nodes.length
  | .nil => ⟨Int.le_refl 0, Int.le_refl 0⟩
  | .nd i t l r => by
    have h1 := Tr.h_le l
    have h2 := Tr.h_le r
    rw [Tr.h, Tr.nodes, List.length_append, List.length_cons]
    omega
theorem Tr.m_le : ∀ T : Tr, (∀ p ∈ T.nodes, okT p.2) → 0 ≤ T.m ∧ T.m ≤ T.z
  | .nil, _ => ⟨Int.le_refl 0, Int.le_refl 0⟩
  | .nd i t l r, h => by
    have h1 := Tr.m_le l (fun p hp => h p (by simp [Tr.nodes, hp]))
    have h2 := Tr.m_le r (fun p hp => h p (by simp [Tr.nodes, hp]))
    have h3 := marksT_ok (h (i, t) (by simp [Tr.nodes]))
    dsimp only at h3
    rw [Tr.m, Tr.z]
    omega
theorem Tr.sm {T : Tr} (h : OkL T.nodes) : Sm T.h ∧ Sm T.z ∧ Sm T.m := by
  have h1 := T.h_le
  have h2 := T.z_eq
  have h3 := T.m_le h.ok
  have h4 := sumZ_nonneg h.ok
  have h5 := h.sum
  have h6 := h.len
  refine ⟨⟨h1.1, ?_⟩, ⟨?_, ?_⟩, ⟨h3.1, ?_⟩⟩ <;> omega

/-- Where no place of the tree has changed it holds. -/
theorem Holds.keep {s s' : List (Option Nd)} : ∀ {T : Tr}, Holds s T → (∀ i ∈ ids T.nodes, gt s' i = gt s i) → Holds s' T
  | .nil, _, _ => trivial
  | .nd i t l r, h, hk => ⟨(hk i (by simp [Tr.nodes, ids])).trans h.1, h.2.1.keep (fun j hj => hk j (by rw [Tr.nodes, ids_append]; exact List.mem_append.2 (.inl hj))), h.2.2.keep (fun j hj => hk j (by rw [Tr.nodes, ids_append]; exact List.mem_append.2 (.inr (List.mem_cons.2 (.inr hj)))))⟩

theorem Holds.okR {s : List (Option Nd)} {T : Tr} (h : Holds s T) : okR s T.rt := by
  cases T with
  | nil => exact .inl rfl
  | nd i t l r => exact .inr ⟨i, _, rfl, h.1⟩
theorem Holds.tot {s : List (Option Nd)} {T : Tr} (h : Holds s T) : hS s T.rt = T.h ∧ zS s T.rt = T.z ∧ mS s T.rt = T.m := by
  cases T with
  | nil => exact hS_none s
  | nd i t l r => exact hS_nd h.1
theorem Holds.totN {s : List (Option Nd)} {L R : Tr} (t : Th) (hl : Holds s L) (hr : Holds s R) : totN s t L.rt R.rt = topN t L R := by
  unfold Go.Proofs.Ytbioomilnjikpaa.totN topN
  rw [hl.tot.1, hr.tot.1, hl.tot.2.1, hr.tot.2.1, hl.tot.2.2, hr.tot.2.2]

theorem gt_set_other {s : List (Option Nd)} {k : Nat} (hk : k < s.length) (o : Option Nd) {i : Nat} (h : i ≠ k) : gt (s.set k o) i = gt s i := by rw [gt_set hk, if_neg h]
theorem gt_set_self {s : List (Option Nd)} {k : Nat} (hk : k < s.length) (o : Option Nd) : gt (s.set k o) k = o := by rw [gt_set hk, if_pos rfl]

/-- 'set' of a node over two trees. -/
theorem set_tree {w : World} {F : Nat → Prop} {gT gA : Nat} {root : Int} {s : List (Option Nd)} {fr : List Nat} (h : TreeW w F gT gA root s fr) {k : Nat} {n0 : Nd} (hk : gt s k = some n0) (t : Th) (L R : Tr) (hh sz mk : Int)
    (hl : Holds s L) (hr : Holds s R) (ho : OkL (L.nodes ++ (k, t) :: R.nodes)) :
    Calls Try.prog 59 #[.pointer (some ⟨gT, 0, none⟩), .int .i64 k, (mkN t L.rt R.rt hh sz mk).V] w fun e w' => (∃ v, e = .returned v) ∧ TreeW w' F gT gA root (s.set k (some (topN t L R))) fr ∧ Holds (s.set k (some (topN t L R))) (.nd k t L R) ∧ Grow F w w' F := by
  have h1 := Tr.sm ho.left
  have h2 := Tr.sm ho.right.tail
  have h3 := sizeT_ok (ho.ok (k, t) (by simp))
  have h4 := marksT_ok (ho.ok (k, t) (by simp))
  have h5 := ho.sum
  rw [sumZ_append, sumZ] at h5
  have h6 := sumZ_nonneg ho.left.ok
  have h7 := sumZ_nonneg ho.right.tail.ok
  have hkl := gt_lt hk
  refine (set_any h hk t L.rt R.rt hh sz mk hl.okR hr.okR (hl.tot.1 ▸ h1.1) (hr.tot.1 ▸ h2.1) (hl.tot.2.1 ▸ h1.2.1) (hr.tot.2.1 ▸ h2.2.1) (hl.tot.2.2 ▸ h1.2.2) (hr.tot.2.2 ▸ h2.2.2) ⟨h3, by dsimp only at h5; omega⟩ ⟨h4.1, by dsimp only at h4 h5; omega⟩).mono ?_
  rintro e w' ⟨hv, hT, hg⟩
  rw [hl.totN t hr] at hT
  have ha := ho.apart
  refine ⟨hv, hT, ⟨gt_set_self hkl _, hl.keep fun i hi => gt_set_other hkl _ (fun e => ha i hi (by simp [ids, e])), hr.keep fun i hi => gt_set_other hkl _ (fun e => ?_)⟩, hg⟩
  subst e
  have hn := ho.right.nodup
  rw [ids, List.map_cons, List.nodup_cons] at hn
  exact hn.1 hi

end Go.Proofs.Ytbioomilnjikpaa
