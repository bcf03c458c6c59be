/-
  SpansOne: what the bodies of its loops reckon; the row put together once more, from its end on.
-/
import Derived.Test.YtbioomilnjikpaaSpWa
import Derived.Test.YtbioomilnjikpaaMark
namespace Go.Proofs.Ytbioomilnjikpaa
open Go.RowKit

/-! ### What is reckoned -/
def sumW (xs : List Th) : Int := xs.foldl (fun a x => IntKind.i64.wrap (a + x.n)) 0
def lastW (xs : List Th) : Int := (xs.getLast?.map (·.id)).getD (-1)
theorem sumW_snoc (p : List Th) (x : Th) : sumW (p ++ [x]) = IntKind.i64.wrap (sumW p + x.n) := by simp [sumW]
theorem lastW_snoc (p : List Th) (x : Th) : lastW (p ++ [x]) = x.id := by simp [lastW]
theorem sumW_from : ∀ (xs : List Th) (a : Int), 0 ≤ a → a + sumT xs ≤ 536870912 → (∀ x ∈ xs, okT x) → xs.foldl (fun a x => IntKind.i64.wrap (a + x.n)) a = a + sumT xs
  | [], a, _, _, _ => by simp [sumT]
  | x :: xs, a, h0, h1, ho => by
    have e : sumT (x :: xs) = x.n + sumT xs := by rw [show x :: xs = [x] ++ xs from rfl, sumT_append]; simp [sumT, sizeT]
    have hx := ho x (by simp)
    have hz := sumT_nonneg (l := xs) (fun y hy => ho y (by simp [hy]))
    unfold okT at hx
    rw [e] at h1 ⊢
    rw [List.foldl_cons, IntWalk.i64_in _ (by omega), sumW_from xs (a + x.n) (by omega) (by omega) (fun y hy => ho y (by simp [hy]))]
    omega
theorem sumW_eq {xs : List Th} (ho : ∀ x ∈ xs, okT x) (h : sumT xs ≤ 536870912) : sumW xs = sumT xs := by
  unfold sumW
  rw [sumW_from xs 0 (Int.le_refl 0) (by omega) ho]
  omega

/-- A span that may not stand there. -/
def BadS (pre : List Th) : Prop := ∃ p x, pre = p ++ [x] ∧ (x.n < 1 ∨ x.id = lastW p ∨ x.id < 0)
theorem not_badS {X pre : List Th} (hX : Can X) (h : pre <+: X) : ¬ BadS pre := by
  rintro ⟨p, x, rfl, hb⟩
  obtain ⟨t, rfl⟩ := h
  have h1 : Can (p ++ [x]) := hX.left
  have hp := h1.pos x (by simp)
  rcases hb with e | e | e
  · omega
  · unfold lastW at e
    cases hl : p.getLast? with
    | none => rw [hl] at e; simp at e; omega
    | some y =>
      rw [hl] at e
      exact ((alt_app p [x]).1 h1.alt).2.2 y x hl rfl (by simpa using e.symm)
  · omega
/-- A span that does not stand there in X. -/
def BadAt (X pre : List Th) : Prop := ∃ p x, pre = p ++ [x] ∧ X[p.length]? ≠ some x
theorem not_badAt {X pre : List Th} (h : pre <+: X) : ¬ BadAt X pre := by
  rintro ⟨p, x, rfl, hb⟩
  obtain ⟨t, rfl⟩ := h
  exact hb (by simp)

section
variable {w1 W W2 : World} {bn bl : Nat} {pre : List Th} {x : Th}
/-- The sum and the last one's number, in two boxes. -/
def SumI (w1 : World) (bn bl : Nat) (xs : List Th) (W : World) : Prop :=
  W.heap[bn]? = some (.cells #[.int .i64 (sumW xs)] 3) ∧ W.heap[bl]? = some (.cells #[.int .i64 (lastW xs)] 3) ∧ Step (fun k => k = bn ∨ k = bl) w1 W
theorem SumI.own (hn : bn < w1.heap.size) (hl : bl < w1.heap.size) : OwnFrom w1.heap.size (SumI w1 bn bl) := by
  rintro xs W W' row ⟨h1, h2, h3⟩ hg hr
  exact ⟨(hg.block bn (Array.getElem?_eq_some_iff.1 h1).1 (fun e => by have := (hr bn e.symm).1; omega)).trans h1,
    (hg.block bl (Array.getElem?_eq_some_iff.1 h2).1 (fun e => by have := (hr bl e.symm).1; omega)).trans h2, h3.grown hg (fun k e => .inr (hr k e).1)⟩
theorem SumI.later (h : SumI w1 bn bl pre W) (hb : Below W.heap.size W W2) : SumI w1 bn bl pre W2 := ⟨heap_later h.1 hb, heap_later h.2.1 hb, h.2.2.trans (Step.of_below hb _)⟩
theorem SumI.start (h1 : w1.heap[bn]? = some (.cells #[.int .i64 0] 3)) (h2 : w1.heap[bl]? = some (.cells #[.int .i64 (-1)] 3)) : SumI w1 bn bl [] w1 := ⟨h1, h2, Step.refl _ _⟩
theorem SumI.next (h : SumI w1 bn bl pre W) (hs : Step (fun k => k = bn ∨ k = bl) W W2) (h1 : W2.heap[bn]? = some (.cells #[.int .i64 (IntKind.i64.wrap (sumW pre + x.n))] 3)) (h2 : W2.heap[bl]? = some (.cells #[.int .i64 x.id] 3)) :
    KeepsFrom w1.heap.size W W2 ∧ KeepsO (fun k _ => k = bn ∨ k = bl) W W2 ∧ SumI w1 bn bl (pre ++ [x]) W2 := by
  refine ⟨KeepsFrom.of_step hs (fun k o ho hk => ?_), KeepsO.of_step hs (fun _ _ _ hk => hk), by rw [sumW_snoc]; exact h1, by rw [lastW_snoc]; exact h2, h.2.2.trans hs⟩
  rcases hk with e | e
  · rw [e, h.1] at ho; cases ho; rfl
  · rw [e, h.2.1] at ho; cases ho; rfl
/-- How many there were, in a box. -/
def LenI (w1 : World) (bn : Nat) (xs : List Th) (W : World) : Prop := W.heap[bn]? = some (.cells #[.int .i64 (xs.length : Int)] 3) ∧ Step (fun k => k = bn) w1 W
theorem LenI.own (hn : bn < w1.heap.size) : OwnFrom w1.heap.size (LenI w1 bn) := by
  rintro xs W W' row ⟨h1, h3⟩ hg hr
  exact ⟨(hg.block bn (Array.getElem?_eq_some_iff.1 h1).1 (fun e => by have := (hr bn e.symm).1; omega)).trans h1, h3.grown hg (fun k e => .inr (hr k e).1)⟩
theorem LenI.later (h : LenI w1 bn pre W) (hb : Below W.heap.size W W2) : LenI w1 bn pre W2 := ⟨heap_later h.1 hb, h.2.trans (Step.of_below hb _)⟩
theorem LenI.start (h1 : w1.heap[bn]? = some (.cells #[.int .i64 0] 3)) : LenI w1 bn [] w1 := ⟨h1, Step.refl _ _⟩
theorem LenI.next (h : LenI w1 bn pre W) (hs : Step (fun k => k = bn) W W2) (h1 : W2.heap[bn]? = some (.cells #[.int .i64 ((pre.length : Int) + 1)] 3)) :
    KeepsFrom w1.heap.size W W2 ∧ KeepsO (fun k _ => k = bn) W W2 ∧ LenI w1 bn (pre ++ [x]) W2 := by
  refine ⟨KeepsFrom.of_step hs (fun k o ho hk => ?_), KeepsO.of_step hs (fun _ _ _ hk => hk), by rw [List.length_append, List.length_singleton]; exact h1, h.2.trans hs⟩
  rw [hk, h.1] at ho; cases ho; rfl

end

/-! ### Things turned about -/
section
variable {w0 w w1 W : World} {A B L L' : List Item} {I I' : Item}
theorem ApartAll.perm (hp : L.Perm L') : ApartAll L → ApartAll L' := by
  induction hp with
  | nil => exact id
  | cons x hp ih => exact fun h => ⟨fun J hJ => h.1 J (hp.mem_iff.2 hJ), ih h.2⟩
  | swap x y l =>
    exact fun h => ⟨fun J hJ k hk hj => by
      rcases List.mem_cons.1 hJ with e | e
      · subst e; exact h.1 x List.mem_cons_self k hj hk
      · exact h.2.1 J e k hk hj, fun J hJ => h.1 J (List.mem_cons_of_mem _ hJ), h.2.2⟩
  | trans _ _ h1 h2 => exact fun h => h2 (h1 h)
theorem Star.perm (h : Star w0 L w) (hp : L.Perm L') : Star w0 L' w := ⟨fun J hJ => h.all J (hp.mem_iff.2 hJ), h.apart.perm hp, fun J hJ => h.low J (hp.mem_iff.2 hJ), h.below⟩
theorem Star.sink (h : Star w0 (I :: (A ++ B)) w) : Star w0 (A ++ I :: B) w := h.perm List.perm_middle.symm
theorem Star.rise (h : Star w0 (A ++ I :: B) w) : Star w0 (I :: (A ++ B)) w := h.perm List.perm_middle

/-- Behind a loop over a function that changes one thing's blocks alone: the mark that it leaves, beside all. -/
theorem Star.looped {D : Nat} (hs : Star w0 (A ++ I :: B) w1) (hI : I'.D = I.D) (hP : I'.P W) (hst : Step I.D w1 W) (hD : w1.heap.size ≤ D) (hK : W.heap[D]? = some (.deferred (some []))) :
    Star w0 (boxI D (.deferred (some [])) :: (A ++ I' :: B)) W := by
  have h1 := hs.update (I' := I') hP ⟨hst, fun k h => .inl (hI ▸ h)⟩
  refine h1.add' hK (fun k hk => by have hk : k = D := hk; have := hs.below.size; omega) (fun J hJ k hk hj => ?_)
  have hk : k = D := hk
  subst hk
  rcases List.mem_append.1 hJ with e | e
  · have := J.lt w1 (hs.all J (by simp [e])) k hj; omega
  · rcases List.mem_cons.1 e with e | e
    · subst e
      have := I.lt w1 hs.get k (hI ▸ hj); omega
    · have := J.lt w1 (hs.all J (by simp [e])) k hj; omega
end

/-! ### Once more, from the end on -/
theorem spX_front {X : List Th} {m id : Int} (hX : Can X) (hoX : ∀ x ∈ X, okT x) (h0 : 0 ≤ m) (hid : 0 ≤ id) (hs : sumT X + m ≤ 536870912) :
    spE X 0 0 [⟨m, id⟩] = 0 ∧ Can (spX X 0 0 [⟨m, id⟩]) ∧ nums (spX X 0 0 [⟨m, id⟩]) = List.replicate m.toNat id ++ nums X := by
  have hz := sumT_nonneg hoX
  have hE : spE X 0 0 [⟨m, id⟩] = 0 := by
    unfold spE
    rw [if_neg (by simp [badL, badX]; omega), if_pos (by unfold betE; rw [if_pos ⟨Int.le_refl 0, Int.le_refl 0, hz⟩]), if_pos (by simp [sumT, sizeT]; omega)]
  refine ⟨hE, ?_⟩
  unfold spX
  rw [if_pos hE]
  obtain ⟨h1, h2⟩ := repl_can hX hoX (l := [⟨m, id⟩]) (fun x hx => by rw [List.mem_singleton.1 hx]; exact ⟨h0, hid⟩) (Int.le_refl 0) (Int.le_refl 0)
  refine ⟨h1, ?_⟩
  rw [h2, nums_one]
  simp
theorem spX_twice {X : List Th} {x : Th} (hX : Can (x :: X)) (ho : ∀ y ∈ x :: X, okT y) (hs : sumT (x :: X) ≤ 536870912) (ho1 : ∀ y ∈ spX X 0 0 [⟨x.n.tdiv 2, x.id⟩], okT y) :
    spE X 0 0 [⟨x.n.tdiv 2, x.id⟩] = 0 ∧ spE (spX X 0 0 [⟨x.n.tdiv 2, x.id⟩]) 0 0 [⟨x.n - x.n.tdiv 2, x.id⟩] = 0 ∧ spX (spX X 0 0 [⟨x.n.tdiv 2, x.id⟩]) 0 0 [⟨x.n - x.n.tdiv 2, x.id⟩] = x :: X := by
  have hp := hX.pos x (by simp)
  have hd : x.n.tdiv 2 = x.n / 2 := Int.tdiv_eq_ediv_of_nonneg (by omega)
  have e : sumT (x :: X) = x.n + sumT X := by rw [show x :: X = [x] ++ X from rfl, sumT_append]; simp [sumT, sizeT]
  rw [e] at hs
  have hoX : ∀ y ∈ X, okT y := fun y hy => ho y (by simp [hy])
  rw [hd] at ho1 ⊢
  obtain ⟨a1, a2, a3⟩ := spX_front (m := x.n / 2) (id := x.id) hX.tail hoX (by omega) (by omega) (by omega)
  have hl := nums_len _ ho1
  have hl2 := nums_len _ hoX
  rw [a3, List.length_append, List.length_replicate] at hl
  obtain ⟨b1, b2, b3⟩ := spX_front (m := x.n - x.n / 2) (id := x.id) a2 ho1 (by omega) (by omega) (by omega)
  refine ⟨a1, b1, Can.unique b2 hX ?_⟩
  rw [b3, a3, nums_cons, ← List.append_assoc, List.replicate_append_replicate]
  congr 2
  omega

end Go.Proofs.Ytbioomilnjikpaa
