/-
  A list of nodes cut at a place, plainly.
-/
import Derived.Test.YtbioomilnjikpaaSpP
namespace Go.Proofs.Ytbioomilnjikpaa
open Go.RowKit

/-- Cut at a place; the second half of a thing that is cut in two is node p. -/
def splitL : List (Nat × Th) → Int → Nat → List (Nat × Th) × List (Nat × Th)
  | [], _, _ => ([], [])
  | (i, t) :: L, a, p => if a ≤ 0 then ([], (i, t) :: L) else if sizeT t ≤ a then ((i, t) :: (splitL L (a - sizeT t) p).1, (splitL L (a - sizeT t) p).2) else ([(i, cutA t a)], (p, cutB t a) :: L)

theorem splitL_zero (L : List (Nat × Th)) {a : Int} (p : Nat) (h : a ≤ 0) : splitL L a p = ([], L) := by
  cases L with
  | nil => rfl
  | cons q L => rw [splitL, if_pos h]

theorem splitL_left (p i : Nat) (t : Th) (Y : List (Nat × Th)) : ∀ (X : List (Nat × Th)) (a : Int), (∀ q ∈ X, okT q.2) → a ≤ sumZ X → splitL (X ++ (i, t) :: Y) a p = ((splitL X a p).1, (splitL X a p).2 ++ (i, t) :: Y)
  | [], a, _, h => by rw [List.nil_append, splitL_zero _ _ (by simpa [sumZ] using h)]; rfl
  | (j, u) :: X, a, hok, h => by
    rw [List.cons_append, splitL, splitL]
    by_cases h1 : a ≤ 0
    · rw [if_pos h1, if_pos h1]; rfl
    · rw [if_neg h1, if_neg h1]
      by_cases h2 : sizeT u ≤ a
      · rw [if_pos h2, if_pos h2, splitL_left p i t Y X (a - sizeT u) (fun q hq => hok q (by simp [hq])) (by rw [sumZ] at h; dsimp only at h; omega)]
      · rw [if_neg h2, if_neg h2]; rfl

theorem splitL_right (p i : Nat) (t : Th) (Y : List (Nat × Th)) : ∀ (X : List (Nat × Th)) (a : Int), (∀ q ∈ X, okT q.2) → sumZ X < a → sumZ X + sizeT t ≤ a →
    splitL (X ++ (i, t) :: Y) a p = (X ++ (i, t) :: (splitL Y (a - sumZ X - sizeT t) p).1, (splitL Y (a - sumZ X - sizeT t) p).2)
  | [], a, _, h, h2 => by
    rw [sumZ] at h h2
    rw [List.nil_append, splitL, if_neg (by omega), if_pos (by omega), sumZ, Int.sub_zero]; rfl
  | (j, u) :: X, a, hok, h, h2 => by
    have h0 := sumZ_nonneg (L := X) (fun q hq => hok q (by simp [hq]))
    have h3 := sizeT_ok (hok (j, u) (by simp))
    rw [sumZ] at h h2
    dsimp only at h h2 h3
    rw [List.cons_append, splitL, if_neg (by omega), if_pos (by omega), splitL_right p i t Y X (a - sizeT u) (fun q hq => hok q (by simp [hq])) (by omega) (by omega), sumZ]
    dsimp only
    rw [show a - sizeT u - sumZ X - sizeT t = a - (sizeT u + sumZ X) - sizeT t by omega]
    rfl

theorem splitL_mid (p i : Nat) (t : Th) (Y : List (Nat × Th)) : ∀ (X : List (Nat × Th)) (a : Int), (∀ q ∈ X, okT q.2) → sumZ X < a → a < sumZ X + sizeT t →
    splitL (X ++ (i, t) :: Y) a p = (X ++ [(i, cutA t (a - sumZ X))], (p, cutB t (a - sumZ X)) :: Y)
  | [], a, _, h, h2 => by
    rw [sumZ] at h h2
    rw [List.nil_append, splitL, if_neg (by omega), if_neg (by omega), sumZ, Int.sub_zero]; rfl
  | (j, u) :: X, a, hok, h, h2 => by
    have h0 := sumZ_nonneg (L := X) (fun q hq => hok q (by simp [hq]))
    have h3 := sizeT_ok (hok (j, u) (by simp))
    rw [sumZ] at h h2
    dsimp only at h h2 h3
    rw [List.cons_append, splitL, if_neg (by omega), if_pos (by omega), splitL_mid p i t Y X (a - sizeT u) (fun q hq => hok q (by simp [hq])) (by omega) (by omega), sumZ]
    dsimp only
    rw [show a - sizeT u - sumZ X = a - (sizeT u + sumZ X) by omega]
    rfl

/-- What the parts' nodes are. -/
theorem splitL_ok (p : Nat) : ∀ (L : List (Nat × Th)) (a : Int), OkL L → p ∉ ids L → L.length + 1 ≤ 100000 →
    OkL ((splitL L a p).1 ++ (splitL L a p).2) ∧ (∀ j, j ∈ ids ((splitL L a p).1 ++ (splitL L a p).2) → j ∈ ids L ∨ j = p) ∧ sumZ ((splitL L a p).1 ++ (splitL L a p).2) = sumZ L ∧ ((splitL L a p).1 ++ (splitL L a p).2).length ≤ L.length + 1
  | [], _, h, _, _ => ⟨h, fun j hj => .inl hj, rfl, by simp [splitL]⟩
  | (i, t) :: L, a, h, hp, hl => by
    have hip : i ≠ p := fun e => hp (by rw [ids, List.map_cons, e]; exact List.mem_cons_self)
    have hpL : p ∉ ids L := fun e => hp (by rw [ids, List.map_cons]; exact List.mem_cons.2 (.inr e))
    have hn := h.nodup
    rw [ids, List.map_cons, List.nodup_cons] at hn
    have hs := h.sum
    rw [sumZ] at hs
    dsimp only at hs hn
    rw [List.length_cons] at hl
    rw [splitL]
    by_cases h1 : a ≤ 0
    · rw [if_pos h1]
      exact ⟨h, fun j hj => .inl hj, rfl, Nat.le_succ _⟩
    · rw [if_neg h1]
      by_cases h2 : sizeT t ≤ a
      · rw [if_pos h2]
        obtain ⟨q1, q2, q3, q4⟩ := splitL_ok p L (a - sizeT t) h.tail hpL (by omega)
        dsimp only
        rw [List.cons_append]
        refine ⟨⟨?_, fun q hq => ?_, ?_, ?_⟩, fun j hj => ?_, ?_, ?_⟩
        · rw [ids, List.map_cons, List.nodup_cons]
          refine ⟨fun e => ?_, q1.nodup⟩
          rcases q2 i e with e | e
          · exact hn.1 e
          · exact hip e
        · rcases List.mem_cons.1 hq with rfl | hq
          · exact h.ok _ (by simp)
          · exact q1.ok q hq
        · rw [sumZ, q3]; exact hs
        · rw [List.length_cons]; omega
        · rw [ids, List.map_cons] at hj
          rcases List.mem_cons.1 hj with e | e
          · exact .inl (by rw [ids, List.map_cons, e]; exact List.mem_cons_self)
          · rcases q2 j e with e | e
            · exact .inl (by rw [ids, List.map_cons]; exact List.mem_cons.2 (.inr e))
            · exact .inr e
        · rw [sumZ, sumZ, q3]
        · rw [List.length_cons, List.length_cons]; omega
      · rw [if_neg h2]
        have hc := cut_ok (h.ok (i, t) (by simp)) (by omega : 0 < a) (by show a < sizeT t; omega)
        dsimp only
        rw [List.cons_append, List.nil_append]
        refine ⟨⟨?_, fun q hq => ?_, ?_, ?_⟩, fun j hj => ?_, ?_, ?_⟩
        · rw [ids, List.map_cons, List.map_cons, List.nodup_cons, List.nodup_cons]
          exact ⟨fun e => by rcases List.mem_cons.1 e with e | e; exact hip e; exact hn.1 e, hpL, hn.2⟩
        · rcases List.mem_cons.1 hq with rfl | hq
          · exact hc.1
          · rcases List.mem_cons.1 hq with rfl | hq
            · exact hc.2.1
            · exact h.ok q (by simp [hq])
        · rw [sumZ, sumZ]; have := hc.2.2; dsimp only at this ⊢; omega
        · rw [List.length_cons, List.length_cons]; omega
        · rw [ids, List.map_cons, List.map_cons] at hj
          rcases List.mem_cons.1 hj with e | e
          · exact .inl (by rw [ids, List.map_cons]; exact List.mem_cons.2 (.inl e))
          · rcases List.mem_cons.1 e with e | e
            · exact .inr e
            · exact .inl (by rw [ids, List.map_cons]; exact List.mem_cons.2 (.inr e))
        · rw [sumZ, sumZ, sumZ]; have := hc.2.2; dsimp only at this ⊢; omega
        · rw [List.length_cons, List.length_cons, List.length_cons]; omega

theorem splitL_ids {p j : Nat} : ∀ {L : List (Nat × Th)} {a : Int}, j ∈ ids ((splitL L a p).1 ++ (splitL L a p).2) → j ∈ ids L ∨ j = p
  | [], _, h => .inl h
  | (i, t) :: L, a, h => by
    rw [splitL] at h
    by_cases h1 : a ≤ 0
    · rw [if_pos h1] at h; exact .inl h
    · rw [if_neg h1] at h
      by_cases h2 : sizeT t ≤ a
      · rw [if_pos h2] at h
        dsimp only at h
        rw [List.cons_append, ids, List.map_cons] at h
        rcases List.mem_cons.1 h with e | e
        · exact .inl (by rw [ids, List.map_cons, e]; exact List.mem_cons_self)
        · rcases splitL_ids (L := L) e with e | e
          · exact .inl (by rw [ids, List.map_cons]; exact List.mem_cons.2 (.inr e))
          · exact .inr e
      · rw [if_neg h2] at h
        dsimp only at h
        rw [List.cons_append, List.nil_append, ids, List.map_cons, List.map_cons] at h
        rcases List.mem_cons.1 h with e | e
        · exact .inl (by rw [ids, List.map_cons, e]; exact List.mem_cons_self)
        · rcases List.mem_cons.1 e with e | e
          · exact .inr e
          · exact .inl (by rw [ids, List.map_cons]; exact List.mem_cons.2 (.inr e))

/-- A tree's nodes are taken. -/
theorem Holds.taken {s : List (Option Nd)} : ∀ {T : Tr}, Holds s T → ∀ j ∈ ids T.nodes, ∃ n, gt s j = some n
  | .nil, _, j, hj => by simp [Tr.nodes, ids] at hj
  | .nd i t l r, h, j, hj => by
    rw [Tr.nodes, ids_append] at hj
    rcases List.mem_append.1 hj with e | e
    · exact h.2.1.taken j e
    · rw [ids, List.map_cons] at e
      rcases List.mem_cons.1 e with e | e
      · rw [e]; exact ⟨_, h.1⟩
      · exact h.2.2.taken j e

/-- What 'split' hands back. -/
def PostS (w : World) (F : Nat → Prop) (gT gA : Nat) (root : Int) (s : List (Option Nd)) (p : Nat) (L : List (Nat × Th)) (a : Int) (v : Value) (w' : World) : Prop :=
  ∃ (F' : Nat → Prop) (fr' : List Nat) (s' : List (Option Nd)) (A B : Tr), v = .tuple #[.int .i64 A.rt, .int .i64 B.rt] ∧ TreeW w' F' gT gA root s' fr' ∧ Holds s' A ∧ Holds s' B ∧ A.nodes = (splitL L a p).1 ∧ B.nodes = (splitL L a p).2 ∧
    (∀ j, j ∉ ids L → j ∉ ids ((splitL L a p).1 ++ (splitL L a p).2) → gt s' j = gt s j) ∧ s'.length ≤ s.length + 1 ∧ Grow F w w' F'

end Go.Proofs.Ytbioomilnjikpaa
