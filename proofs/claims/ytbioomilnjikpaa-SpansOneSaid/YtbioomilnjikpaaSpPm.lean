/-
  Spans, plainly: the numbers of a list of spans; one list for each row of numbers; what is cut, told and put in place is one list again.
-/
import Derived.Test.YtbioomilnjikpaaSpY6
namespace Go.Proofs.Ytbioomilnjikpaa
open Go.RowKit

/-- The numbers, one by one. -/
def nums (L : List Th) : List Int := L.flatMap fun x => List.replicate x.n.toNat x.id
theorem nums_append (A B : List Th) : nums (A ++ B) = nums A ++ nums B := List.flatMap_append
theorem nums_cons (x : Th) (L : List Th) : nums (x :: L) = List.replicate x.n.toNat x.id ++ nums L := List.flatMap_cons
theorem nums_one (x : Th) : nums [x] = List.replicate x.n.toNat x.id := by simp [nums]
theorem nums_len : ∀ (L : List Th), (∀ x ∈ L, okT x) → ((nums L).length : Int) = sumT L
  | [], _ => rfl
  | t :: L, h => by
    have ih := nums_len L (fun x hx => h x (by simp [hx]))
    have hz := sizeT_ok (h t (by simp))
    unfold sizeT at hz
    rw [nums_cons, List.length_append, List.length_replicate, sumT]
    unfold sizeT
    omega

theorem nums_split : ∀ (L : List Th) (a : Int), (∀ x ∈ L, okT x) → nums (splitT L a).1 = (nums L).take a.toNat ∧ nums (splitT L a).2 = (nums L).drop a.toNat
  | [], a, _ => by simp [splitT, nums]
  | t :: L, a, h => by
    have ih := nums_split L (a - sizeT t) (fun x hx => h x (by simp [hx]))
    have hz := sizeT_ok (h t (by simp))
    unfold sizeT at hz ih
    rw [splitT]
    by_cases h1 : a ≤ 0
    · rw [if_pos h1, show a.toNat = 0 by omega]; exact ⟨rfl, rfl⟩
    · rw [if_neg h1]
      unfold sizeT
      by_cases h2 : t.n ≤ a
      · rw [if_pos h2]
        dsimp only
        have e1 : (List.replicate t.n.toNat t.id).take a.toNat = List.replicate t.n.toNat t.id := List.take_of_length_le (by rw [List.length_replicate]; omega)
        have e2 : (List.replicate t.n.toNat t.id).drop a.toNat = [] := List.drop_of_length_le (by rw [List.length_replicate]; omega)
        rw [nums_cons, nums_cons, ih.1, ih.2, List.take_append, List.drop_append, List.length_replicate, e1, e2, List.nil_append, show (a - t.n).toNat = a.toNat - t.n.toNat by omega]
        exact ⟨rfl, rfl⟩
      · rw [if_neg h2]
        dsimp only
        rw [nums_one, nums_cons, nums_cons, List.take_append, List.drop_append, List.length_replicate, List.take_replicate, List.drop_replicate]
        unfold cutA cutB
        dsimp only
        rw [show a.toNat - t.n.toNat = 0 by omega, List.take_zero, List.drop_zero, List.append_nil, show min a.toNat t.n.toNat = a.toNat by omega, show (t.n - a).toNat = t.n.toNat - a.toNat by omega]
        exact ⟨rfl, rfl⟩

theorem nums_over : ∀ (L : List Th) (i j : Int), (∀ x ∈ L, okT x) → nums (overT L i j) = ((nums L).take j.toNat).drop i.toNat
  | [], i, j, _ => by simp [overT, nums]
  | t :: L, i, j, h => by
    have ih := nums_over L (i - sizeT t) (j - sizeT t) (fun x hx => h x (by simp [hx]))
    have hz := sizeT_ok (h t (by simp))
    have hno := overT_none L (i - sizeT t) (j - sizeT t) (fun x hx => h x (by simp [hx]))
    have hl := nums_len L (fun x hx => h x (by simp [hx]))
    unfold sizeT at hz ih hno
    have hpart : nums (if max i 0 < min j (sizeT t) then [partT t i j] else []) = ((List.replicate t.n.toNat t.id).take j.toNat).drop i.toNat := by
      rw [List.take_replicate, List.drop_replicate]
      unfold sizeT
      split
      · next h1 =>
        have hp := (partT_ok (i := i) (j := j) (h t (by simp)) (by unfold sizeT; exact h1)).2
        have hid : (partT t i j).id = t.id := by unfold partT partA cutB cutA; split <;> split <;> rfl
        unfold sizeT at hp
        rw [nums_one, hid, hp]
        congr 1
        omega
      · next h1 => rw [show min j.toNat t.n.toNat - i.toNat = 0 by omega]; rfl
    rw [overT, nums_append, hpart, nums_cons, List.take_append, List.drop_append, List.length_replicate]
    unfold sizeT
    congr 1
    by_cases h3 : j ≤ t.n
    · rw [hno (.inl (by omega)), show j.toNat - t.n.toNat = 0 by omega, List.take_zero, List.drop_nil]; rfl
    · rw [ih, show (j - t.n).toNat = j.toNat - t.n.toNat by omega]
      congr 1
      rw [List.length_take, List.length_replicate]
      omega

theorem nums_find : ∀ (L : List Th) (a : Int), (∀ x ∈ L, okT x) → 0 ≤ a → (findT L a).map (fun p => p.1.id) = (nums L)[a.toNat]?
  | [], _, _, _ => rfl
  | t :: L, a, h, h0 => by
    have ih := nums_find L (a - sizeT t) (fun x hx => h x (by simp [hx]))
    have hz := sizeT_ok (h t (by simp))
    unfold sizeT at hz ih
    rw [findT, if_neg (by omega), nums_cons]
    unfold sizeT
    by_cases h1 : a < t.n
    · rw [if_pos h1, List.getElem?_append_left (by rw [List.length_replicate]; omega), List.getElem?_replicate, if_pos (by omega)]; rfl
    · rw [if_neg h1, ih (by omega), List.getElem?_append_right (by rw [List.length_replicate]; omega), List.length_replicate, show (a - t.n).toNat = a.toNat - t.n.toNat by omega]

/-! ### One list -/
/-- No two neighbours are alike. -/
def Alt : List Th → Prop
  | [] => True
  | [_] => True
  | a :: b :: L => a.id ≠ b.id ∧ Alt (b :: L)
/-- What spans are. -/
structure Can (L : List Th) : Prop where
  pos : ∀ x ∈ L, 1 ≤ x.n ∧ 0 ≤ x.id
  alt : Alt L

theorem Alt.tail {a : Th} {L : List Th} (h : Alt (a :: L)) : Alt L := by
  cases L with
  | nil => trivial
  | cons b L => exact h.2
theorem Can.tail {a : Th} {L : List Th} (h : Can (a :: L)) : Can L := ⟨fun x hx => h.pos x (by simp [hx]), h.alt.tail⟩
theorem Can.nil_ : Can [] := ⟨(fun _ h => nomatch h), trivial⟩

theorem alt_app : ∀ (A B : List Th), Alt (A ++ B) ↔ Alt A ∧ Alt B ∧ (∀ x y, A.getLast? = some x → B.head? = some y → x.id ≠ y.id)
  | [], B => by simp [Alt]
  | [a], B => by
    cases B with
    | nil => simp [Alt]
    | cons b B =>
      rw [List.singleton_append, Alt]
      simp only [Alt, List.getLast?_singleton, List.head?_cons, Option.some.injEq, true_and]
      constructor
      · rintro ⟨h1, h2⟩
        exact ⟨h2, fun x y e1 e2 => by subst e1 e2; exact h1⟩
      · rintro ⟨h1, h2⟩
        exact ⟨h2 a b rfl rfl, h1⟩
  | a :: b :: A, B => by
    rw [List.cons_append, List.cons_append, Alt, Alt, ← List.cons_append, alt_app (b :: A) B, List.getLast?_cons_cons, and_assoc]

/-- The list of a row of numbers. -/
def rle : List Int → List Th
  | [] => []
  | a :: l => match rle l with
    | [] => [⟨1, a⟩]
    | ⟨n, b⟩ :: r => if a = b then ⟨n + 1, b⟩ :: r else ⟨1, a⟩ :: ⟨n, b⟩ :: r

theorem rle_rep (a : Int) (L : List Th) (h : ∀ b, L.head? = some b → a ≠ b.id) (l : List Int) (hl : rle l = L) : ∀ m : Nat, rle (List.replicate (m + 1) a ++ l) = ⟨(m : Int) + 1, a⟩ :: L
  | 0 => by
    rw [List.replicate_succ, List.replicate_zero, List.singleton_append, rle, hl]
    cases L with
    | nil => simp
    | cons b L =>
      obtain ⟨n, c⟩ := b
      have := h _ rfl
      dsimp only at this ⊢
      rw [if_neg this]
      simp
  | m + 1 => by
    rw [List.replicate_succ, List.cons_append, rle, rle_rep a L h l hl m]
    dsimp only
    rw [if_pos rfl]
    congr 1

theorem rle_nums : ∀ (L : List Th), Can L → rle (nums L) = L
  | [], _ => rfl
  | t :: L, h => by
    have h1 := h.pos t (by simp)
    obtain ⟨m, hm⟩ : ∃ m : Nat, t.n.toNat = m + 1 := ⟨t.n.toNat - 1, by omega⟩
    rw [nums_cons, hm, rle_rep t.id L (fun b hb => ?_) (nums L) (rle_nums L h.tail) m]
    · congr 1
      show (⟨(m : Int) + 1, t.id⟩ : Th) = t
      rw [show (m : Int) + 1 = t.n by omega]
    · cases L with
      | nil => cases hb
      | cons c L => cases hb; exact h.alt.1

theorem Can.unique {L M : List Th} (h : Can L) (k : Can M) (e : nums L = nums M) : L = M := by
  rw [← rle_nums L h, ← rle_nums M k, e]

theorem alt_congr : ∀ (A B : List Th), A.map (·.id) = B.map (·.id) → Alt A → Alt B
  | _, [], _, _ => trivial
  | _, [_], _, _ => trivial
  | [], _ :: _ :: _, e, _ => nomatch e
  | [_], _ :: _ :: _, e, _ => by simp at e
  | a :: c :: A, b :: d :: B, e, h => by
    simp only [List.map_cons, List.cons.injEq] at e
    refine ⟨?_, alt_congr (c :: A) (d :: B) (by simp [e.2.1, e.2.2]) h.2⟩
    rw [← e.1, ← e.2.1]
    exact h.1

theorem Can.left {A B : List Th} (h : Can (A ++ B)) : Can A := ⟨fun x hx => h.pos x (by simp [hx]), ((alt_app A B).1 h.alt).1⟩
theorem Can.right {A B : List Th} (h : Can (A ++ B)) : Can B := ⟨fun x hx => h.pos x (by simp [hx]), ((alt_app A B).1 h.alt).2.1⟩

theorem can_split : ∀ (L : List Th) (a : Int), Can L → Can (splitT L a).1 ∧ Can (splitT L a).2
  | [], _, h => ⟨h, h⟩
  | t :: L, a, h => by
    have ih := can_split L (a - sizeT t) h.tail
    have hh := splitT_head L (a - sizeT t)
    rw [splitT]
    by_cases h1 : a ≤ 0
    · rw [if_pos h1]; exact ⟨Can.nil_, h⟩
    · rw [if_neg h1]
      by_cases h2 : sizeT t ≤ a
      · rw [if_pos h2]
        refine ⟨⟨fun x hx => ?_, ?_⟩, ih.2⟩
        · rcases List.mem_cons.1 hx with e | e
          · rw [e]; exact h.pos t (by simp)
          · exact ih.1.pos x e
        · rw [← List.singleton_append, alt_app]
          refine ⟨trivial, ih.1.alt, fun x y e1 e2 => ?_⟩
          cases e1
          cases L with
          | nil => simp [splitT] at e2
          | cons c L =>
            rw [hh.1 c L y rfl e2]
            exact h.alt.1
      · rw [if_neg h2]
        have hp := h.pos t (by simp)
        unfold sizeT at h2
        refine ⟨⟨fun x hx => ?_, trivial⟩, ⟨fun x hx => ?_, alt_congr (t :: L) _ rfl h.alt⟩⟩
        · rw [List.mem_singleton] at hx
          subst hx
          exact ⟨by show 1 ≤ a; omega, hp.2⟩
        · rcases List.mem_cons.1 hx with e | e
          · subst e
            exact ⟨by show 1 ≤ t.n - a; omega, hp.2⟩
          · exact h.pos x (by simp [e])
where
  splitT_head (L : List Th) (a : Int) : (∀ c M y, L = c :: M → (splitT L a).1.head? = some y → y.id = c.id) ∧ True := by
    refine ⟨fun c M y e h => ?_, trivial⟩
    subst e
    rw [splitT] at h
    split at h
    · cases h
    · split at h
      · cases h; rfl
      · cases h; rfl

theorem can_meldStep {O : List Th} {x : Th} (hO : Can O) (hx : 0 ≤ x.n ∧ 0 ≤ x.id) : Can (meldStep O x) := by
  unfold meldStep
  split
  · exact hO
  · next h0 =>
    unfold sizeT at h0
    rcases List.eq_nil_or_concat O with rfl | ⟨P, y, rfl⟩
    · exact ⟨fun z hz => by simp at hz; subst hz; exact ⟨by omega, hx.2⟩, trivial⟩
    · rw [List.concat_eq_append] at *
      rw [List.getLast?_append, List.getLast?_singleton]
      simp only [Option.some_or]
      split
      · next hm =>
        rw [List.dropLast_concat]
        have hy := hO.pos y (by simp)
        refine ⟨fun z hz => ?_, alt_congr (P ++ [y]) _ (by simp [meldT]) hO.alt⟩
        rcases List.mem_append.1 hz with e | e
        · exact hO.pos z (by simp [e])
        · rw [List.mem_singleton] at e
          subst e
          exact ⟨by show 1 ≤ y.n + x.n; omega, hy.2⟩
      · next hm =>
        refine ⟨fun z hz => ?_, (alt_app _ _).2 ⟨hO.alt, trivial, fun a b e1 e2 => ?_⟩⟩
        · rcases List.mem_append.1 hz with e | e
          · exact hO.pos z e
          · rw [List.mem_singleton] at e
            subst e
            exact ⟨by omega, hx.2⟩
        · rw [List.getLast?_append, List.getLast?_singleton] at e1
          cases e1
          cases e2
          intro e
          exact hm (by unfold meldB; rw [e]; simp)

theorem nums_meldStep {O : List Th} {x : Th} (hx : 0 ≤ x.n) (hO : ∀ y ∈ O, 0 ≤ y.n) : nums (meldStep O x) = nums O ++ nums [x] := by
  unfold meldStep
  split
  · next h0 => unfold sizeT at h0; rw [nums_one, h0]; simp
  · rcases List.eq_nil_or_concat O with rfl | ⟨P, y, rfl⟩
    · rfl
    · rw [List.concat_eq_append] at *
      rw [List.getLast?_append, List.getLast?_singleton]
      simp only [Option.some_or]
      split
      · next hm =>
        have hy := hO y (by simp)
        have he : y.id = x.id := by unfold meldB at hm; simpa using hm
        rw [List.dropLast_concat, nums_append, nums_append, List.append_assoc]
        congr 1
        rw [nums_one, nums_one, nums_one, ← he, List.replicate_append_replicate]
        show List.replicate (y.n + x.n).toNat y.id = _
        rw [show (y.n + x.n).toNat = y.n.toNat + x.n.toNat by omega]
      · exact nums_append _ _

/-- What a list that is melded begins and ends with. -/
theorem meldStep_ends {O : List Th} {x : Th} : (∀ y, O.head? = some y → ∃ z, (meldStep O x).head? = some z ∧ z.id = y.id) ∧ (1 ≤ x.n → ∃ z, (meldStep O x).getLast? = some z ∧ z.id = x.id) := by
  unfold meldStep
  split
  · next h0 => unfold sizeT at h0; exact ⟨fun y hy => ⟨y, hy, rfl⟩, fun h => by omega⟩
  · rcases List.eq_nil_or_concat O with rfl | ⟨P, y, rfl⟩
    · exact ⟨fun y hy => by simp at hy, fun _ => ⟨x, rfl, rfl⟩⟩
    · rw [List.concat_eq_append] at *
      rw [List.getLast?_append, List.getLast?_singleton]
      simp only [Option.some_or]
      split
      · next hm =>
        have he : y.id = x.id := by unfold meldB at hm; simpa using hm
        rw [List.dropLast_concat]
        refine ⟨fun u hu => ?_, fun _ => ⟨meldT y x, by rw [List.getLast?_append, List.getLast?_singleton]; rfl, he⟩⟩
        cases P with
        | nil => cases hu; exact ⟨meldT y x, rfl, rfl⟩
        | cons p P => exact ⟨p, rfl, by cases hu; rfl⟩
      · refine ⟨fun u hu => ?_, fun _ => ⟨x, by rw [List.getLast?_append, List.getLast?_singleton]; rfl, rfl⟩⟩
        cases P with
        | nil => cases hu; exact ⟨y, rfl, rfl⟩
        | cons p P => exact ⟨p, rfl, by cases hu; rfl⟩

theorem meldF_can : ∀ (l O : List Th), Can O → (∀ x ∈ l, 0 ≤ x.n ∧ 0 ≤ x.id) → Can (l.foldl meldStep O) ∧ nums (l.foldl meldStep O) = nums O ++ nums l ∧ (∀ y, O.head? = some y → ∃ z, (l.foldl meldStep O).head? = some z ∧ z.id = y.id)
  | [], O, hO, _ => ⟨hO, by simp [nums], fun y hy => ⟨y, hy, rfl⟩⟩
  | x :: l, O, hO, h => by
    have hx := h x (by simp)
    obtain ⟨a1, a2, a3⟩ := meldF_can l (meldStep O x) (can_meldStep hO hx) (fun y hy => h y (by simp [hy]))
    rw [List.foldl_cons]
    refine ⟨a1, ?_, fun y hy => ?_⟩
    · rw [a2, nums_meldStep hx.1 (fun y hy => by have := hO.pos y hy; omega), List.append_assoc, nums_one, nums_cons]
    · obtain ⟨z, h1, h2⟩ := (meldStep_ends (x := x)).1 y hy
      obtain ⟨u, h3, h4⟩ := a3 z h1
      exact ⟨u, h3, h4.trans h2⟩
theorem meldL_can {l : List Th} (h : ∀ x ∈ l, 0 ≤ x.n ∧ 0 ≤ x.id) : Can (meldL l) ∧ nums (meldL l) = nums l := by
  have := meldF_can l [] Can.nil_ h
  exact ⟨this.1, this.2.1⟩
theorem meldL_head {x : Th} {l : List Th} (hx : 1 ≤ x.n ∧ 0 ≤ x.id) (h : ∀ y ∈ l, 0 ≤ y.n ∧ 0 ≤ y.id) : ∃ z, (meldL (x :: l)).head? = some z ∧ z.id = x.id := by
  have e : meldStep [] x = [x] := by unfold meldStep; rw [if_neg (by unfold sizeT; omega)]; rfl
  show ∃ z, (l.foldl meldStep (meldStep [] x)).head? = some z ∧ _
  rw [e]
  exact (meldF_can l [x] ⟨fun y hy => by simp at hy; subst hy; exact hx, trivial⟩ h).2.2 x rfl
theorem meldL_last {x : Th} {l : List Th} (hx : 1 ≤ x.n) : ∃ z, (meldL (l ++ [x])).getLast? = some z ∧ z.id = x.id := by
  unfold meldL
  rw [List.foldl_append]
  exact (meldStep_ends (O := l.foldl meldStep []) (x := x)).2 hx

/-- Things put in place of those from i to j: one list again, of the numbers that are asked. -/
theorem repl_can {X l : List Th} {i j : Int} (hX : Can X) (hoX : ∀ x ∈ X, okT x) (hl : ∀ x ∈ l, 0 ≤ x.n ∧ 0 ≤ x.id) (h0 : 0 ≤ i) (h1 : i ≤ j) :
    Can (replT X i j l) ∧ nums (replT X i j l) = (nums X).take i.toNat ++ nums l ++ (nums X).drop j.toNat := by
  have c1 := can_split X i hX
  have o1 := splitT_ok X i hoX
  have n1 := nums_split X i hoX
  unfold replT
  generalize splitT X i = q at *
  have c2 := can_split q.2 (j - i) c1.2
  have n2 := nums_split q.2 (j - i) o1.2.1
  generalize splitT q.2 (j - i) = r at *
  have hd : (nums X).drop j.toNat = nums r.2 := by rw [n2.2, n1.2, List.drop_drop]; congr 1; omega
  rw [hd, ← n1.1]
  obtain ⟨A, R⟩ := q
  obtain ⟨Gn, B⟩ := r
  dsimp only at *
  clear n1 n2 hd o1
  have cA := c1.1
  have cB := c2.2
  have hmid : ∀ x ∈ A.getLast?.toList ++ l ++ B.head?.toList, 0 ≤ x.n ∧ 0 ≤ x.id := fun x hx => by
    rcases List.mem_append.1 hx with e | e
    · rcases List.mem_append.1 e with e | e
      · have := cA.pos x (mem_lastOf e); omega
      · exact hl x e
    · have := cB.pos x (mem_headOf e); omega
  obtain ⟨m1, m2⟩ := meldL_can hmid
  refine ⟨⟨fun x hx => ?_, ?_⟩, ?_⟩
  · rcases List.mem_append.1 hx with e | e
    · rcases List.mem_append.1 e with e | e
      · exact cA.pos x ((List.dropLast_sublist _).subset e)
      · exact m1.pos x e
    · exact cB.pos x (List.mem_of_mem_tail e)
  · have hAM : Alt (A.dropLast ++ meldL (A.getLast?.toList ++ l ++ B.head?.toList)) := by
      rcases List.eq_nil_or_concat A with rfl | ⟨P, y, rfl⟩
      · exact m1.alt
      · rw [List.concat_eq_append] at *
        rw [List.getLast?_append, List.getLast?_singleton, List.dropLast_concat] at *
        have hy := cA.pos y (by simp)
        obtain ⟨z, hz, hzy⟩ := meldL_head (x := y) (l := l ++ B.head?.toList) hy (fun w hw => hmid w (by simp at hw ⊢; exact .inr hw))
        have ha := (alt_app P [y]).1 cA.alt
        refine (alt_app _ _).2 ⟨ha.1, m1.alt, fun a b e1 e2 => ?_⟩
        have e3 : (meldL (y :: (l ++ B.head?.toList))).head? = some b := by simpa using e2
        rw [hz] at e3
        cases e3
        rw [hzy]
        exact ha.2.2 a y e1 rfl
    cases B with
    | nil => rw [List.tail_nil, List.append_nil]; exact hAM
    | cons b B =>
      have hb := cB.pos b (by simp)
      obtain ⟨z, hz, hzb⟩ := meldL_last (x := b) (l := A.getLast?.toList ++ l) hb.1
      refine (alt_app _ _).2 ⟨hAM, cB.alt.tail, fun u v e1 e2 => ?_⟩
      have hz' : (meldL (A.getLast?.toList ++ l ++ (b :: B).head?.toList)).getLast? = some z := hz
      rw [List.getLast?_append, hz', Option.some_or] at e1
      cases e1
      rw [hzb]
      cases B with
      | nil => cases e2
      | cons c B => cases e2; exact cB.alt.1
  · rw [nums_append, nums_append, m2, nums_append, nums_append]
    have e1 : nums A.dropLast ++ nums A.getLast?.toList = nums A := by
      rcases List.eq_nil_or_concat A with rfl | ⟨P, y, rfl⟩
      · rfl
      · rw [List.concat_eq_append, List.getLast?_append, List.getLast?_singleton, List.dropLast_concat, nums_append]; rfl
    have e2 : nums B.head?.toList ++ nums B.tail = nums B := by
      cases B with
      | nil => rfl
      | cons b B => rw [nums_cons]; show nums [b] ++ nums B = _; rw [nums_one]
    rw [← e1, ← e2]
    simp only [List.append_assoc]

theorem can_part {t : Th} {i j : Int} (h : okT t) (hp : 0 ≤ t.id) (h0 : max i 0 < min j (sizeT t)) : 1 ≤ (partT t i j).n ∧ 0 ≤ (partT t i j).id ∧ (partT t i j).id = t.id := by
  have h1 := (partT_ok h h0).2
  have hid : (partT t i j).id = t.id := by unfold partT partA cutB cutA; split <;> split <;> rfl
  unfold sizeT at h1 h0
  exact ⟨by omega, by rw [hid]; exact hp, hid⟩

theorem can_over : ∀ (L : List Th) (i j : Int), Can L → (∀ x ∈ L, okT x) → Can (overT L i j) ∧ (∀ y, (overT L i j).head? = some y → ∃ z ∈ L, True) 
  | [], _, _, h, _ => ⟨h, fun _ hy => by simp [overT] at hy⟩
  | t :: L, i, j, h, ho => by
    have ih := can_over L (i - sizeT t) (j - sizeT t) h.tail (fun x hx => ho x (by simp [hx]))
    have hz := sizeT_ok (ho t (by simp))
    refine ⟨?_, fun _ _ => ⟨t, by simp, trivial⟩⟩
    rw [overT]
    split
    · next h1 =>
      have hp := can_part (ho t (by simp)) (h.pos t (by simp)).2 h1
      refine ⟨fun x hx => ?_, (alt_app _ _).2 ⟨trivial, ih.1.alt, fun a b e1 e2 => ?_⟩⟩
      · rcases List.mem_append.1 hx with e | e
        · rw [List.mem_singleton] at e; subst e; exact ⟨hp.1, hp.2.1⟩
        · exact ih.1.pos x e
      · have e1 : partT t i j = a := by simpa using e1
        rw [← e1, hp.2.2]
        -- the first part behind is a part of the next span
        cases L with
        | nil => simp [overT] at e2
        | cons c L =>
          have hc := ho c (by simp)
          have hcs := (h.pos c (by simp)).1
          rw [overT] at e2
          split at e2
          · next h2 =>
            cases e2
            rw [(can_part hc (h.pos c (by simp)).2 h2).2.2]
            exact h.alt.1
          · next h2 =>
            exfalso
            unfold sizeT at h1 h2 hz e2
            have : overT L (i - t.n - c.n) (j - t.n - c.n) = [] := overT_none L _ _ (fun x hx => ho x (by simp [hx])) (.inl (by omega))
            rw [this] at e2
            cases e2
    · rw [List.nil_append]; exact ih.1

/-- What is told is what is taken out; how many spans there are behind a call. -/
theorem over_gone {X : List Th} {i j : Int} (hX : Can X) (hoX : ∀ x ∈ X, okT x) (h0 : 0 ≤ i) (h1 : i ≤ j) : overT X i j = (splitT (splitT X i).2 (j - i)).1 := by
  have o1 := splitT_ok X i hoX
  have c1 := can_split X i hX
  refine Can.unique (can_over X i j hX hoX).1 (can_split _ (j - i) c1.2).1 ?_
  rw [nums_over X i j hoX, (nums_split _ _ o1.2.1).1, (nums_split _ _ hoX).2, List.drop_take, show (j - i).toNat = j.toNat - i.toNat by omega]
theorem repl_len {X l : List Th} {i j : Int} (hX : Can X) (hoX : ∀ x ∈ X, okT x) (hl : ∀ x ∈ l, okT x) (h0 : 0 ≤ i) (h1 : i ≤ j) (h2 : j ≤ sumT X) (hs : sumT X - (j - i) + sumT l ≤ 1000000000) :
    (replT X i j l).length + (overT X i j).length ≤ X.length + l.length + 2 := by
  have hg := over_gone hX hoX h0 h1
  have hm := repl_facts hoX hl h0 h1 h2 hs
  have o1 := splitT_ok X i hoX
  have o2 := splitT_ok (splitT X i).2 (j - i) o1.2.1
  have hml := (meldL_ok hm.1 hm.2.1).2.2
  rw [hg, replT_eq, List.length_append, List.length_append]
  unfold midT at hml ⊢
  generalize (splitT X i).1 = A at *
  generalize splitT (splitT X i).2 (j - i) = r at *
  have e1 : A.dropLast.length + A.getLast?.toList.length = A.length := by
    rcases List.eq_nil_or_concat A with rfl | ⟨P, y, rfl⟩
    · rfl
    · rw [List.concat_eq_append, List.getLast?_append, List.getLast?_singleton, List.dropLast_concat]; simp
  have e2 : r.2.head?.toList.length + r.2.tail.length = r.2.length := by cases r.2 <;> simp <;> omega
  simp only [List.length_append] at hml
  omega

end Go.Proofs.Ytbioomilnjikpaa
