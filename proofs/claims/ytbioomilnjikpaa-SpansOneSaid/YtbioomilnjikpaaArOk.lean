/-
  An arena's places and free places, plainly. No function of the program stands here.
-/
import Derived.Test.YtbioomilnjikpaaStep
namespace Go.Proofs.Ytbioomilnjikpaa
open Go.RowKit
variable {α : Type}

/-- The free places are those that are free, each once. -/
structure ArOk (s : List (Option α)) (fr : List Nat) : Prop where
  nodup : fr.Nodup
  iff : ∀ i, i ∈ fr ↔ s[i]? = some none

theorem ArOk.nil_ : ArOk ([] : List (Option α)) [] := ⟨by simp, fun i => by simp⟩

theorem ArOk.len {s : List (Option α)} {fr : List Nat} (h : ArOk s fr) : fr.length ≤ s.length := by
  have h1 : ∀ i ∈ fr, i ∈ List.range s.length := fun i hi => List.mem_range.2 (List.getElem?_eq_some_iff.1 ((h.iff i).1 hi)).1
  have := h.nodup.length_le_of_subset h1
  simpa using this

/-- What stands at a place, if it is taken. -/
def look (s : List (Option α)) (i : Int) : Option α := if 0 ≤ i then (s[i.toNat]?).join else none

theorem look_nat (s : List (Option α)) (k : Nat) : look s (k : Int) = (s[k]?).join := by simp [look]

theorem look_some {s : List (Option α)} {i : Int} {x : α} (h : look s i = some x) : ∃ k : Nat, i = k ∧ ∃ hk : k < s.length, s[k] = some x := by
  unfold look at h
  split at h
  · refine ⟨i.toNat, by omega, ?_⟩
    cases hq : s[i.toNat]? with
    | none => rw [hq] at h; cases h
    | some o =>
      rw [hq] at h
      obtain ⟨hk, he⟩ := List.getElem?_eq_some_iff.1 hq
      exact ⟨hk, by rw [he]; exact h⟩
  · cases h

theorem look_none {s : List (Option α)} {i : Int} (h : look s i = none) : i < 0 ∨ (s.length : Int) ≤ i ∨ ∃ (hk : i.toNat < s.length), s[i.toNat] = none := by
  unfold look at h
  split at h
  · rcases Nat.lt_or_ge i.toNat s.length with hk | hk
    · rw [List.getElem?_eq_getElem hk] at h
      exact .inr (.inr ⟨hk, h⟩)
    · exact .inr (.inl (by omega))
  · exact .inl (by omega)

/-- The number that the next one gets, and the places behind it. -/
def nextOf (s : List (Option α)) (fr : List Nat) : Nat := fr.getLast?.getD s.length
def takeS (s : List (Option α)) (fr : List Nat) (x : α) : List (Option α) := if fr = [] then s ++ [some x] else s.set (nextOf s fr) (some x)

theorem ArOk.take {s : List (Option α)} {fr : List Nat} (h : ArOk s fr) (x : α) : ArOk (takeS s fr x) fr.dropLast := by
  rcases List.eq_nil_or_concat fr with rfl | ⟨fr, i, rfl⟩
  · refine ⟨by simp, fun i => ?_⟩
    have h0 : ¬ s[i]? = some none := fun e => by have := (h.iff i).2 e; simp at this
    simp only [takeS, if_pos, List.dropLast_nil]
    rw [List.getElem?_append]
    split
    · simpa using h0
    · rename_i hl
      cases hq : i - s.length with
      | zero => simp
      | succ j => simp
  · have h1 := h.nodup
    rw [List.concat_eq_append] at h1
    rw [List.nodup_append] at h1
    have hi : i ∉ fr := fun hm => h1.2.2 i hm i (by simp) rfl
    have hs : s[i]? = some none := (h.iff i).1 (by simp)
    have hl := (List.getElem?_eq_some_iff.1 hs).1
    simp only [List.concat_eq_append, List.dropLast_concat]
    refine ⟨h1.1, fun j => ?_⟩
    have hj := h.iff j
    simp only [takeS, nextOf, List.append_eq_nil_iff, List.cons_ne_nil, and_false, if_false, List.getLast?_append, List.getLast?_singleton, Option.some_or, Option.getD_some]
    rw [List.getElem?_set]
    by_cases hij : i = j
    · subst hij
      simp [hi, hl]
    · rw [if_neg hij, ← hj]
      simp [Ne.symm hij]

theorem ArOk.put {s : List (Option α)} {fr : List Nat} (h : ArOk s fr) {k : Nat} {y : α} (hk : s[k]? = some (some y)) (x : α) : ArOk (s.set k (some x)) fr := by
  refine ⟨h.nodup, fun i => ?_⟩
  rw [h.iff i, List.getElem?_set]
  by_cases hik : k = i
  · subst hik
    rw [if_pos rfl, if_pos (List.getElem?_eq_some_iff.1 hk).1, hk]
    simp
  · rw [if_neg hik]

theorem ArOk.free {s : List (Option α)} {fr : List Nat} (h : ArOk s fr) {k : Nat} {y : α} (hk : s[k]? = some (some y)) : ArOk (s.set k none) (fr ++ [k]) := by
  have hn : k ∉ fr := fun hm => by rw [(h.iff k).1 hm] at hk; cases hk
  refine ⟨by rw [List.nodup_append]; exact ⟨h.nodup, by simp, fun a ha b hb e => by simp at hb; subst hb; subst e; exact hn ha⟩, fun i => ?_⟩
  rw [List.mem_append, h.iff i, List.getElem?_set]
  by_cases hik : k = i
  · subst hik
    rw [if_pos rfl, if_pos (List.getElem?_eq_some_iff.1 hk).1]
    simp
  · rw [if_neg hik]
    simp [Ne.symm hik]

/-- The thing at a place. -/
def gt (s : List (Option α)) (i : Nat) : Option α := (s[i]?).join

theorem gt_some {s : List (Option α)} {i : Nat} {x : α} : gt s i = some x ↔ s[i]? = some (some x) := by
  unfold gt
  cases h : s[i]? with
  | none => simp
  | some o => simp

theorem gt_set {s : List (Option α)} {k : Nat} (hk : k < s.length) (o : Option α) (i : Nat) : gt (s.set k o) i = if i = k then o else gt s i := by
  unfold gt
  rw [List.getElem?_set]
  by_cases h : k = i
  · subst h; rw [if_pos rfl, if_pos hk, if_pos rfl]; rfl
  · rw [if_neg h, if_neg (fun e => h e.symm)]

theorem gt_lt {s : List (Option α)} {i : Nat} {x : α} (h : gt s i = some x) : i < s.length := (List.getElem?_eq_some_iff.1 (gt_some.1 h)).1

theorem gt_takeS {s : List (Option α)} {fr : List Nat} (h : ArOk s fr) (x : α) (i : Nat) : gt (takeS s fr x) i = if i = nextOf s fr then some x else gt s i := by
  rcases List.eq_nil_or_concat fr with rfl | ⟨fr, j, rfl⟩
  · have e1 : takeS s [] x = s ++ [some x] := by simp [takeS]
    have e2 : nextOf s [] = s.length := by simp [nextOf]
    rw [e1, e2]
    unfold gt
    by_cases hi : i = s.length
    · subst hi; rw [if_pos rfl, List.getElem?_append_right (Nat.le_refl _), Nat.sub_self]; rfl
    · rw [if_neg hi]
      by_cases hl : i < s.length
      · rw [List.getElem?_append_left hl]
      · rw [List.getElem?_eq_none (by simp; omega), List.getElem?_eq_none (by omega)]
  · rw [List.concat_eq_append] at h ⊢
    have hj : s[j]? = some none := (h.iff j).1 (by simp)
    have e1 : takeS s (fr ++ [j]) x = s.set j (some x) := by simp [takeS, nextOf]
    have e2 : nextOf s (fr ++ [j]) = j := by simp [nextOf]
    rw [e1, e2, gt_set (List.getElem?_eq_some_iff.1 hj).1]

theorem gt_next {s : List (Option α)} {fr : List Nat} (h : ArOk s fr) : gt s (nextOf s fr) = none := by
  rcases List.eq_nil_or_concat fr with rfl | ⟨fr, j, rfl⟩
  · have e2 : nextOf s [] = s.length := by simp [nextOf]
    rw [e2]
    unfold gt
    rw [List.getElem?_eq_none (Nat.le_refl _)]
    rfl
  · rw [List.concat_eq_append] at h ⊢
    have hj : s[j]? = some none := (h.iff j).1 (by simp)
    have e2 : nextOf s (fr ++ [j]) = j := by simp [nextOf]
    rw [e2]
    unfold gt
    rw [hj]
    rfl

theorem takeS_le {s : List (Option α)} {fr : List Nat} (x : α) : (takeS s fr x).length ≤ s.length + 1 := by
  unfold takeS
  split
  · rw [List.length_append, List.length_singleton]; exact Nat.le_refl _
  · rw [List.length_set]; omega

end Go.Proofs.Ytbioomilnjikpaa
