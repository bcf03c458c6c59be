/-
  What 'Replace' needs, plainly; the stages of its walk.
-/
import Derived.Test.YtbioomilnjikpaaSpY2
namespace Go.Proofs.Ytbioomilnjikpaa
open Go.RowKit

theorem sumT_last (L : List Th) : sumT L.dropLast + sumT L.getLast?.toList = sumT L := by
  rcases List.eq_nil_or_concat L with rfl | ⟨P, y, rfl⟩
  · rfl
  · rw [List.concat_eq_append, List.dropLast_concat, List.getLast?_append, List.getLast?_singleton, sumT_append]
    rfl
theorem sumT_head (L : List Th) : sumT L.head?.toList + sumT L.tail = sumT L := by
  cases L with
  | nil => rfl
  | cons x L => show sumT [x] + sumT L = _; rw [sumT, sumT, sumT]; omega
theorem mem_lastOf {L : List Th} {x : Th} (h : x ∈ L.getLast?.toList) : x ∈ L := by
  rw [Option.mem_toList] at h
  exact List.mem_of_getLast? h
theorem mem_headOf {L : List Th} {x : Th} (h : x ∈ L.head?.toList) : x ∈ L := by
  rw [Option.mem_toList] at h
  exact List.mem_of_mem_head? h

/-- What stands between the parts: the last one ahead, what is put in, the first one behind. -/
def midT (X : List Th) (i j : Int) (l : List Th) : List Th := (splitT X i).1.getLast?.toList ++ l ++ (splitT (splitT X i).2 (j - i)).2.head?.toList
theorem replT_eq (X : List Th) (i j : Int) (l : List Th) : replT X i j l = (splitT X i).1.dropLast ++ meldL (midT X i j l) ++ (splitT (splitT X i).2 (j - i)).2.tail := rfl

theorem repl_facts {X l : List Th} {i j : Int} (hX : ∀ x ∈ X, okT x) (hl : ∀ x ∈ l, okT x) (h0 : 0 ≤ i) (h1 : i ≤ j) (h2 : j ≤ sumT X) (hs : sumT X - (j - i) + sumT l ≤ 1000000000) :
    (∀ x ∈ midT X i j l, okT x) ∧ sumT (midT X i j l) ≤ 1000000000 ∧ (midT X i j l).length ≤ l.length + 2 ∧ (∀ x ∈ meldL (midT X i j l), okT x) ∧
    sumT (splitT X i).1.dropLast + sumT (meldL (midT X i j l)) + sumT (splitT (splitT X i).2 (j - i)).2.tail = sumT X - (j - i) + sumT l ∧
    0 ≤ sumT (splitT X i).1.dropLast ∧ 0 ≤ sumT (splitT (splitT X i).2 (j - i)).2.tail := by
  have hz : 0 ≤ sumT X := sumT_nonneg hX
  obtain ⟨a1, a2, _⟩ := splitT_ok X i hX
  obtain ⟨s1, s2⟩ := splitT_sum X i hX h0 (by omega)
  unfold midT
  generalize splitT X i = q at *
  obtain ⟨_, b2, _⟩ := splitT_ok q.2 (j - i) a2
  obtain ⟨_, t2⟩ := splitT_sum q.2 (j - i) a2 (by omega) (by omega)
  generalize splitT q.2 (j - i) = r at *
  have e1 := sumT_last q.1
  have e2 := sumT_head r.2
  have n1 := sumT_nonneg (l := q.1.dropLast) (fun x hx => a1 x ((List.dropLast_sublist _).subset hx))
  have n2 := sumT_nonneg (l := r.2.tail) (fun x hx => b2 x (List.mem_of_mem_tail hx))
  have hm : ∀ x ∈ q.1.getLast?.toList ++ l ++ r.2.head?.toList, okT x := fun x hx => by
    rcases List.mem_append.1 hx with e | e
    · rcases List.mem_append.1 e with e | e
      · exact a1 x (mem_lastOf e)
      · exact hl x e
    · exact b2 x (mem_headOf e)
  have hsm : sumT (q.1.getLast?.toList ++ l ++ r.2.head?.toList) = sumT q.1.getLast?.toList + sumT l + sumT r.2.head?.toList := by rw [sumT_append, sumT_append]
  have hle : sumT (q.1.getLast?.toList ++ l ++ r.2.head?.toList) ≤ 1000000000 := by rw [hsm]; omega
  obtain ⟨m1, m2, _⟩ := meldL_ok hm hle
  have hlo : ∀ o : Option Th, o.toList.length ≤ 1 := fun o => by cases o <;> simp
  refine ⟨hm, hle, ?_, m1, by rw [m2, hsm]; omega, n1, n2⟩
  have := hlo q.1.getLast?
  have := hlo r.2.head?
  simp only [List.length_append]
  omega

theorem Two.step {w w' : World} {F G : Nat → Prop} {gT gA : Nat} {root : Int} {A B : Tr} {s : List (Option Nd)} {fr : List Nat} (h : Two w F gT gA root A B s fr) (hs : Step G w w') (hG : ∀ k, F k → ¬ G k) (hT : ¬ G gT) : Two w' F gT gA root A B s fr :=
  ⟨⟨h.base.tw.step hs hG hT, h.base.ok, h.base.live⟩, h.ha, h.hb⟩

theorem Grow.row {F F' : Nat → Prop} {w w1 w2 : World} {row : Option Nat} (h : Grow F w w1 F') (hg : w1.grownBy w2 row) (hr : ∀ k, row = some k → w.heap.size ≤ k) : Grow F w w2 F' :=
  ⟨h.step.grown hg (fun k e => .inr (hr k e)), h.new⟩
theorem Grow.to {F F' : Nat → Prop} {w w1 w2 : World} (h : Grow F w w1 F') (hb : Below w1.heap.size w1 w2) : Grow F w w2 F' := h.trans (Grow.of_below hb)

theorem TreeW.setRoot {w : World} {F : Nat → Prop} {gT gA : Nat} {root : Int} {s : List (Option Nd)} {fr : List Nat} (h : TreeW w F gT gA root s fr) (r : Int) : TreeW (w.setCell ⟨gT, 4, none⟩ (.int .i64 r)) F gT gA r s fr :=
  ⟨by rw [heap_setCell_same w gT 4 _ _ _ h.blk]; rfl, h.ar.step (G := fun k => k = gT) ((Step.refl (fun k => k = gT) w).setCell (p := ⟨gT, 4, none⟩) (.inl rfl) _) (fun k hk e => h.oF (by have e : k = gT := e; rw [← e]; exact hk)), h.ok, h.oF, h.len⟩

/-- Behind 'the last one of a': the left tree without it, and it. -/
def St1 (w : World) (F : Nat → Prop) (gT gA : Nat) (root : Int) (XA : List Th) (B : Tr) (n : Nat) (v8 v12 : Value) (wz : World) : Prop :=
  ∃ F' s' fr' A', v8 = .int .i64 A'.rt ∧ Two wz F' gT gA root A' B s' fr' ∧ A'.things = XA.dropLast ∧ OwnT wz w.heap.size v12 XA.getLast?.toList ∧ Off v12 F' ∧ s'.length ≤ n ∧ Grow F w wz F'

/-- Behind 'the first one of b': the right tree without it; it stands behind what there is. -/
def St2 (w : World) (F : Nat → Prop) (gT gA : Nat) (root : Int) (A : Tr) (XB Y : List Th) (n : Nat) (v11 v12 : Value) (wz : World) : Prop :=
  ∃ F' s' fr' B', v11 = .int .i64 B'.rt ∧ Two wz F' gT gA root A B' s' fr' ∧ B'.things = XB.tail ∧ OwnT wz w.heap.size v12 (Y ++ XB.head?.toList) ∧ s'.length ≤ n ∧ Grow F w wz F'

/-- While they are joined. -/
def St3 (w : World) (F : Nat → Prop) (gT gA : Nat) (root : Int) (X0 : List Th) (B : Tr) (M : List Th) (n : Nat) (vM : Value) (base k : Nat) (v8 : Value) (wz : World) : Prop :=
  ∃ F' s' fr' A', v8 = .int .i64 A'.rt ∧ Two wz F' gT gA root A' B s' fr' ∧ A'.things = X0 ++ M.take k ∧ OwnT wz base vM M ∧ Off vM F' ∧ s'.length ≤ max n (A'.nodes.length + B.nodes.length) ∧ Grow F w wz F'

theorem Tr.rt_nil {A : Tr} (h : A.rt = -1) : A = .nil := by
  cases A with
  | nil => rfl
  | nd i t l r => have h : (i : Int) = -1 := h; omega

theorem things_snoc {A A' : Tr} {p : Nat} {x : Th} (h : A.nodes = A'.nodes ++ [(p, x)]) : A.things = A'.things ++ [x] := by rw [Tr.things, h, List.map_append]; rfl
theorem things_cons {A A' : Tr} {p : Nat} {x : Th} (h : A.nodes = (p, x) :: A'.nodes) : A.things = x :: A'.things := by rw [Tr.things, h]; rfl
theorem last_snoc {A : List Th} {x : Th} : (A ++ [x]).getLast?.toList = [x] ∧ (A ++ [x]).dropLast = A := by
  rw [List.getLast?_append, List.getLast?_singleton, List.dropLast_concat]; exact ⟨rfl, rfl⟩

end Go.Proofs.Ytbioomilnjikpaa
