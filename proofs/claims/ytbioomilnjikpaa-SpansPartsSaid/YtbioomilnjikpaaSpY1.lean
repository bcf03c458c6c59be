/-
  A tree's things, plainly: the cut of a list of things; what 'Replace' makes of it. What places are taken.
-/
import Derived.Test.YtbioomilnjikpaaSpX
namespace Go.Proofs.Ytbioomilnjikpaa
open Go.RowKit

/-- Cut at a place. -/
def splitT : List Th → Int → List Th × List Th
  | [], _ => ([], [])
  | t :: L, a => if a ≤ 0 then ([], t :: L) else if sizeT t ≤ a then (t :: (splitT L (a - sizeT t)).1, (splitT L (a - sizeT t)).2) else ([cutA t a], cutB t a :: L)

theorem splitL_map (p : Nat) : ∀ (L : List (Nat × Th)) (a : Int), (splitL L a p).1.map (·.2) = (splitT (L.map (·.2)) a).1 ∧ (splitL L a p).2.map (·.2) = (splitT (L.map (·.2)) a).2
  | [], _ => ⟨rfl, rfl⟩
  | (i, t) :: L, a => by
    have ih := splitL_map p L (a - sizeT t)
    rw [splitL, List.map_cons, splitT]
    by_cases h1 : a ≤ 0
    · rw [if_pos h1, if_pos h1]; exact ⟨rfl, rfl⟩
    · rw [if_neg h1, if_neg h1]
      by_cases h2 : sizeT t ≤ a
      · rw [if_pos h2, if_pos h2]; exact ⟨by rw [List.map_cons, ih.1], ih.2⟩
      · rw [if_neg h2, if_neg h2]; exact ⟨rfl, rfl⟩

/-- Things in place of those from i to j. -/
def replT (X : List Th) (i j : Int) (l : List Th) : List Th :=
  (splitT X i).1.dropLast ++ meldL ((splitT X i).1.getLast?.toList ++ l ++ (splitT (splitT X i).2 (j - i)).2.head?.toList) ++ (splitT (splitT X i).2 (j - i)).2.tail

theorem splitT_ok : ∀ (L : List Th) (a : Int), (∀ x ∈ L, okT x) → (∀ x ∈ (splitT L a).1, okT x) ∧ (∀ x ∈ (splitT L a).2, okT x) ∧ (splitT L a).1.length + (splitT L a).2.length ≤ L.length + 1
  | [], _, h => ⟨h, h, by simp [splitT]⟩
  | t :: L, a, h => by
    have ih := splitT_ok L (a - sizeT t) (fun x hx => h x (by simp [hx]))
    rw [splitT]
    by_cases h1 : a ≤ 0
    · rw [if_pos h1]; exact ⟨fun x hx => (nomatch hx), h, by simp⟩
    · rw [if_neg h1]
      by_cases h2 : sizeT t ≤ a
      · rw [if_pos h2]
        refine ⟨fun x hx => ?_, ih.2.1, by have := ih.2.2; simp only [List.length_cons]; omega⟩
        rcases List.mem_cons.1 hx with e | e
        · rw [e]; exact h t (by simp)
        · exact ih.1 x e
      · rw [if_neg h2]
        have hc := cut_ok (h t (by simp)) (by omega : 0 < a) (by omega)
        refine ⟨fun x hx => by rw [List.mem_singleton] at hx; exact hx ▸ hc.1, fun x hx => ?_, by simp; omega⟩
        rcases List.mem_cons.1 hx with e | e
        · rw [e]; exact hc.2.1
        · exact h x (by simp [e])

theorem splitT_sum : ∀ (L : List Th) (a : Int), (∀ x ∈ L, okT x) → 0 ≤ a → a ≤ sumT L → sumT (splitT L a).1 = a ∧ sumT (splitT L a).2 = sumT L - a
  | [], a, _, h0, h1 => by
    rw [sumT] at h1
    have : a = 0 := by omega
    subst this
    exact ⟨rfl, rfl⟩
  | t :: L, a, h, h0, h1 => by
    rw [sumT] at h1
    rw [splitT]
    by_cases ha : a ≤ 0
    · rw [if_pos ha]; have : a = 0 := by omega
      subst this; exact ⟨rfl, by rw [sumT]; omega⟩
    · rw [if_neg ha]
      by_cases h2 : sizeT t ≤ a
      · rw [if_pos h2]
        have ih := splitT_sum L (a - sizeT t) (fun x hx => h x (by simp [hx])) (by omega) (by omega)
        dsimp only
        rw [sumT, ih.1, ih.2, sumT]
        exact ⟨by omega, by omega⟩
      · rw [if_neg h2]
        have hc := cut_ok (h t (by simp)) (by omega : 0 < a) (by omega)
        have hs := cutA_size (h t (by simp)) (by omega : 0 < a) (by omega)
        dsimp only
        rw [sumT, sumT, sumT, sumT]
        omega

/-! ### What is taken -/
/-- The places that are taken are these. -/
def Live (s : List (Option Nd)) (I : List Nat) : Prop := ∀ k, (∃ n, gt s k = some n) ↔ k ∈ I

theorem Live.count {s : List (Option Nd)} {fr I : List Nat} (h : Live s I) (hn : I.Nodup) (ho : ArOk s fr) : s.length = fr.length + I.length := by
  have h1 : ∀ i ∈ fr ++ I, i ∈ List.range s.length := fun i hi => by
    rw [List.mem_range]
    rcases List.mem_append.1 hi with e | e
    · exact (List.getElem?_eq_some_iff.1 ((ho.iff i).1 e)).1
    · obtain ⟨n, hn⟩ := (h i).2 e
      exact gt_lt hn
  have h2 : ∀ i ∈ List.range s.length, i ∈ fr ++ I := fun i hi => by
    rw [List.mem_range] at hi
    rw [List.mem_append]
    cases hq : s[i] with
    | none => exact .inl ((ho.iff i).2 (by rw [List.getElem?_eq_getElem hi, hq]))
    | some n => exact .inr ((h i).1 ⟨n, gt_some.2 (by rw [List.getElem?_eq_getElem hi, hq])⟩)
  have h3 : (fr ++ I).Nodup := by
    rw [List.nodup_append]
    refine ⟨ho.nodup, hn, fun a ha b hb e => ?_⟩
    subst e
    obtain ⟨n, hn⟩ := (h a).2 hb
    have := (ho.iff a).1 ha
    unfold gt at hn
    rw [this] at hn
    cases hn
  have a1 := h3.length_le_of_subset h1
  have a2 := (List.nodup_range (n := s.length)).length_le_of_subset h2
  rw [List.length_range, List.length_append] at *
  omega

theorem Live.congr {s : List (Option Nd)} {I J : List Nat} (h : Live s I) (e : ∀ k, k ∈ I ↔ k ∈ J) : Live s J := fun k => (h k).trans (e k)

theorem takeS_len {s : List (Option Nd)} {fr I : List Nat} (h : Live s I) (hn : I.Nodup) (ho : ArOk s fr) (x : Nd) : (takeS s fr x).length ≤ max s.length (I.length + 1) := by
  have hc := h.count hn ho
  unfold takeS
  split
  · next e => rw [e] at hc; rw [List.length_append, List.length_singleton]; simp at hc; omega
  · rw [List.length_set]; omega

/-- A tree whole: the places that are taken are its nodes. -/
structure TreeS (w : World) (F : Nat → Prop) (gT gA : Nat) (T : Tr) (s : List (Option Nd)) (fr : List Nat) : Prop where
  tw : TreeW w F gT gA T.rt s fr
  holds : Holds s T
  ok : OkL T.nodes
  live : Live s (ids T.nodes)

/-- The things of a tree. -/
def Tr.things (T : Tr) : List Th := T.nodes.map (·.2)
theorem Tr.things_len (T : Tr) : T.things.length = T.nodes.length := List.length_map _
theorem Tr.z_things (T : Tr) : T.z = sumT T.things := by rw [Tr.z_eq, sumT_of]; rfl

/-- A tree of these things, in the blocks G, of at most N places. -/
def TreeX (w : World) (G : Nat → Prop) (gT : Nat) (X : List Th) (N : Nat) : Prop :=
  ∃ F gA T s fr, (∀ k, G k ↔ F k ∨ k = gT) ∧ TreeS w F gT gA T s fr ∧ T.things = X ∧ s.length ≤ N

end Go.Proofs.Ytbioomilnjikpaa
