/-
  Spans, plainly: the numbers of a list of spans; one list for each row of numbers.
-/
import Derived.Test.YtbioomilnjikpaaSpY6
namespace Go.Proofs.Ytbioomilnjikpaa
open Go.RowKit

/-- The numbers, one by one. -/
def nums (L : List Th) : List Int := L.flatMap fun x => List.replicate x.n.toNat x.id
theorem nums_append (A B : List Th) : nums (A ++ B) = nums A ++ nums B := List.flatMap_append
theorem nums_cons (x : Th) (L : List Th) : nums (x :: L) = List.replicate x.n.toNat x.id ++ nums L := List.flatMap_cons
theorem nums_one (x : Th) : nums [x] = List.replicate x.n.toNat x.id := by simp [nums]
theorem nums_len : ∀ (L : List Th), (∀ x ∈ L, okT x) → ((nums L).length : Int) = sumT L
  | [], _ => rfl
  | t :: L, h => by
    have ih := nums_len L (fun x hx => h x (by simp [hx]))
    have hz := sizeT_ok (h t (by simp))
    unfold sizeT at hz
    rw [nums_cons, List.length_append, List.length_replicate, sumT]
    unfold sizeT
    omega

theorem nums_split : ∀ (L : List Th) (a : Int), (∀ x ∈ L, okT x) → nums (splitT L a).1 = (nums L).take a.toNat ∧ nums (splitT L a).2 = (nums L).drop a.toNat
  | [], a, _ => by simp [splitT, nums]
  | t :: L, a, h => by
    have ih := nums_split L (a - sizeT t) (fun x hx => h x (by simp [hx]))
    have hz := sizeT_ok (h t (by simp))
    unfold sizeT at hz ih
    rw [splitT]
    by_cases h1 : a ≤ 0
    · rw [if_pos h1, show a.toNat = 0 by omega]; exact ⟨rfl, rfl⟩
    · rw [if_neg h1]
      unfold sizeT
      by_cases h2 : t.n ≤ a
      · rw [if_pos h2]
        dsimp only
        have e1 : (List.replicate t.n.toNat t.id).take a.toNat = List.replicate t.n.toNat t.id := List.take_of_length_le (by rw [List.length_replicate]; omega)
        have e2 : (List.replicate t.n.toNat t.id).drop a.toNat = [] := List.drop_of_length_le (by rw [List.length_replicate]; omega)
        rw [nums_cons, nums_cons, ih.1, ih.2, List.take_append, List.drop_append, List.length_replicate, e1, e2, List.nil_append, show (a - t.n).toNat = a.toNat - t.n.toNat by omega]
        exact ⟨rfl, rfl⟩
      · rw [if_neg h2]
        dsimp only
        rw [nums_one, nums_cons, nums_cons, List.take_append, List.drop_append, List.length_replicate, List.take_replicate, List.drop_replicate]
        unfold cutA cutB
        dsimp only
        rw [show a.toNat - t.n.toNat = 0 by omega, List.take_zero, List.drop_zero, List.append_nil, show min a.toNat t.n.toNat = a.toNat by omega, show (t.n - a).toNat = t.n.toNat - a.toNat by omega]
        exact ⟨rfl, rfl⟩

theorem nums_over : ∀ (L : List Th) (i j : Int), (∀ x ∈ L, okT x) → nums (overT L i j) = ((nums L).take j.toNat).drop i.toNat
  | [], i, j, _ => by simp [overT, nums]
  | t :: L, i, j, h => by
    have ih := nums_over L (i - sizeT t) (j - sizeT t) (fun x hx => h x (by simp [hx]))
    have hz := sizeT_ok (h t (by simp))
    have hno := overT_none L (i - sizeT t) (j - sizeT t) (fun x hx => h x (by simp [hx]))
    have hl := nums_len L (fun x hx => h x (by simp [hx]))
    unfold sizeT at hz ih hno
    have hpart : nums (if max i 0 < min j (sizeT t) then [partT t i j] else []) = ((List.replicate t.n.toNat t.id).take j.toNat).drop i.toNat := by
      rw [List.take_replicate, List.drop_replicate]
      unfold sizeT
      split
      · next h1 =>
        have hp := (partT_ok (i := i) (j := j) (h t (by simp)) (by unfold sizeT; exact h1)).2
        have hid : (partT t i j).id = t.id := by unfold partT partA cutB cutA; split <;> split <;> rfl
        unfold sizeT at hp
        rw [nums_one, hid, hp]
        congr 1
        omega
      · next h1 => rw [show min j.toNat t.n.toNat - i.toNat = 0 by omega]; rfl
    rw [overT, nums_append, hpart, nums_cons, List.take_append, List.drop_append, List.length_replicate]
    unfold sizeT
    congr 1
    by_cases h3 : j ≤ t.n
    · rw [hno (.inl (by omega)), show j.toNat - t.n.toNat = 0 by omega, List.take_zero, List.drop_nil]; rfl
    · rw [ih, show (j - t.n).toNat = j.toNat - t.n.toNat by omega]
      congr 1
      rw [List.length_take, List.length_replicate]
      omega

theorem nums_find : ∀ (L : List Th) (a : Int), (∀ x ∈ L, okT x) → 0 ≤ a → (findT L a).map (fun p => p.1.id) = (nums L)[a.toNat]?
  | [], _, _, _ => rfl
  | t :: L, a, h, h0 => by
    have ih := nums_find L (a - sizeT t) (fun x hx => h x (by simp [hx]))
    have hz := sizeT_ok (h t (by simp))
    unfold sizeT at hz ih
    rw [findT, if_neg (by omega), nums_cons]
    unfold sizeT
    by_cases h1 : a < t.n
    · rw [if_pos h1, List.getElem?_append_left (by rw [List.length_replicate]; omega), List.getElem?_replicate, if_pos (by omega)]; rfl
    · rw [if_neg h1, ih (by omega), List.getElem?_append_right (by rw [List.length_replicate]; omega), List.length_replicate, show (a - t.n).toNat = a.toNat - t.n.toNat by omega]

/-! ### One list -/
/-- No two neighbours are alike. -/
def Alt : List Th → Prop
  | [] => True
  | [_] => True
  | a :: b :: L => a.id ≠ b.id ∧ Alt (b :: L)
/-- What spans are. -/
structure Can (L : List Th) : Prop where
  pos : ∀ x ∈ L, 1 ≤ x.n ∧ 0 ≤ x.id
  alt : Alt L

theorem Alt.tail {a : Th} {L : List Th} (h : Alt (a :: L)) : Alt L := by
  cases L with
  | nil => trivial
  | cons b L => exact h.2
theorem Can.tail {a : Th} {L : List Th} (h : Can (a :: L)) : Can L := ⟨fun x hx => h.pos x (by simp [hx]), h.alt.tail⟩
theorem Can.nil_ : Can [] := ⟨(fun _ h => nomatch h), trivial⟩

theorem alt_app : ∀ (A B : List Th), Alt (A ++ B) ↔ Alt A ∧ Alt B ∧ (∀ x y, A.getLast? = some x → B.head? = some y → x.id ≠ y.id)
  | [], B => by simp [Alt]
  | [a], B => by
    cases B with
    | nil => simp [Alt]
    | cons b B =>
      rw [List.singleton_append, Alt]
      simp only [Alt, List.getLast?_singleton, List.head?_cons, Option.some.injEq, true_and]
      constructor
      · rintro ⟨h1, h2⟩
        exact ⟨h2, fun x y e1 e2 => by subst e1 e2; exact h1⟩
      · rintro ⟨h1, h2⟩
        exact ⟨h2 a b rfl rfl, h1⟩
  | a :: b :: A, B => by
    rw [List.cons_append, List.cons_append, Alt, Alt, ← List.cons_append, alt_app (b :: A) B, List.getLast?_cons_cons, and_assoc]

/-- The list of a row of numbers. -/
def rle : List Int → List Th
  | [] => []
  | a :: l => match rle l with
    | [] => [⟨1, a⟩]
    | ⟨n, b⟩ :: r => if a = b then ⟨n + 1, b⟩ :: r else ⟨1, a⟩ :: ⟨n, b⟩ :: r

theorem rle_rep (a : Int) (L : List Th) (h : ∀ b, L.head? = some b → a ≠ b.id) (l : List Int) (hl : rle l = L) : ∀ m : Nat, rle (List.replicate (m + 1) a ++ l) = ⟨(m : Int) + 1, a⟩ :: L
  | 0 => by
    rw [List.replicate_succ, List.replicate_zero, List.singleton_append, rle, hl]
    cases L with
    | nil => simp
    | cons b L =>
      obtain ⟨n, c⟩ := b
      have := h _ rfl
      dsimp only at this ⊢
      rw [if_neg this]
      simp
  | m + 1 => by
    rw [List.replicate_succ, List.cons_append, rle, rle_rep a L h l hl m]
    dsimp only
    rw [if_pos rfl]
    congr 1

theorem rle_nums : ∀ (L : List Th), Can L → rle (nums L) = L
  | [], _ => rfl
  | t :: L, h => by
    have h1 := h.pos t (by simp)
    obtain ⟨m, hm⟩ : ∃ m : Nat, t.n.toNat = m + 1 := ⟨t.n.toNat - 1, by omega⟩
    rw [nums_cons, hm, rle_rep t.id L (fun b hb => ?_) (nums L) (rle_nums L h.tail) m]
    · congr 1
      show (⟨(m : Int) + 1, t.id⟩ : Th) = t
      rw [show (m : Int) + 1 = t.n by omega]
    · cases L with
      | nil => cases hb
      | cons c L => cases hb; exact h.alt.1

theorem Can.unique {L M : List Th} (h : Can L) (k : Can M) (e : nums L = nums M) : L = M := by
  rw [← rle_nums L h, ← rle_nums M k, e]

end Go.Proofs.Ytbioomilnjikpaa
