/-
  Spans, plainly: what is cut, told and put in place is one list again.
-/
import Derived.Test.YtbioomilnjikpaaSpPl
namespace Go.Proofs.Ytbioomilnjikpaa
open Go.RowKit

theorem alt_congr : ∀ (A B : List Th), A.map (·.id) = B.map (·.id) → Alt A → Alt B
  | _, [], _, _ => trivial
  | _, [_], _, _ => trivial
  | [], _ :: _ :: _, e, _ => nomatch e
  | [_], _ :: _ :: _, e, _ => by simp at e
  | a :: c :: A, b :: d :: B, e, h => by
    simp only [List.map_cons, List.cons.injEq] at e
    refine ⟨?_, alt_congr (c :: A) (d :: B) (by simp [e.2.1, e.2.2]) h.2⟩
    rw [← e.1, ← e.2.1]
    exact h.1

theorem Can.left {A B : List Th} (h : Can (A ++ B)) : Can A := ⟨fun x hx => h.pos x (by simp [hx]), ((alt_app A B).1 h.alt).1⟩
theorem Can.right {A B : List Th} (h : Can (A ++ B)) : Can B := ⟨fun x hx => h.pos x (by simp [hx]), ((alt_app A B).1 h.alt).2.1⟩

theorem can_split : ∀ (L : List Th) (a : Int), Can L → Can (splitT L a).1 ∧ Can (splitT L a).2
  | [], _, h => ⟨h, h⟩
  | t :: L, a, h => by
    have ih := can_split L (a - sizeT t) h.tail
    have hh := splitT_head L (a - sizeT t)
    rw [splitT]
    by_cases h1 : a ≤ 0
    · rw [if_pos h1]; exact ⟨Can.nil_, h⟩
    · rw [if_neg h1]
      by_cases h2 : sizeT t ≤ a
      · rw [if_pos h2]
        refine ⟨⟨fun x hx => ?_, ?_⟩, ih.2⟩
        · rcases List.mem_cons.1 hx with e | e
          · rw [e]; exact h.pos t (by simp)
          · exact ih.1.pos x e
        · rw [← List.singleton_append, alt_app]
          refine ⟨trivial, ih.1.alt, fun x y e1 e2 => ?_⟩
          cases e1
          cases L with
          | nil => simp [splitT] at e2
          | cons c L =>
            rw [hh.1 c L y rfl e2]
            exact h.alt.1
      · rw [if_neg h2]
        have hp := h.pos t (by simp)
        unfold sizeT at h2
        refine ⟨⟨fun x hx => ?_, trivial⟩, ⟨fun x hx => ?_, alt_congr (t :: L) _ rfl h.alt⟩⟩
        · rw [List.mem_singleton] at hx
          subst hx
          exact ⟨by show 1 ≤ a; omega, hp.2⟩
        · rcases List.mem_cons.1 hx with e | e
          · subst e
            exact ⟨by show 1 ≤ t.n - a; omega, hp.2⟩
          · exact h.pos x (by simp [e])
where
  splitT_head (L : List Th) (a : Int) : (∀ c M y, L = c :: M → (splitT L a).1.head? = some y → y.id = c.id) ∧ True := by
    refine ⟨fun c M y e h => ?_, trivial⟩
    subst e
    rw [splitT] at h
    split at h
    · cases h
    · split at h
      · cases h; rfl
      · cases h; rfl

theorem can_meldStep {O : List Th} {x : Th} (hO : Can O) (hx : 0 ≤ x.n ∧ 0 ≤ x.id) : Can (meldStep O x) := by
  unfold meldStep
  split
  · exact hO
  · next h0 =>
    unfold sizeT at h0
    rcases List.eq_nil_or_concat O with rfl | ⟨P, y, rfl⟩
    · exact ⟨fun z hz => by simp at hz; subst hz; exact ⟨by omega, hx.2⟩, trivial⟩
    · rw [List.concat_eq_append] at *
      rw [List.getLast?_append, List.getLast?_singleton]
      simp only [Option.some_or]
      split
      · next hm =>
        rw [List.dropLast_concat]
        have hy := hO.pos y (by simp)
        refine ⟨fun z hz => ?_, alt_congr (P ++ [y]) _ (by simp [meldT]) hO.alt⟩
        rcases List.mem_append.1 hz with e | e
        · exact hO.pos z (by simp [e])
        · rw [List.mem_singleton] at e
          subst e
          exact ⟨by show 1 ≤ y.n + x.n; omega, hy.2⟩
      · next hm =>
        refine ⟨fun z hz => ?_, (alt_app _ _).2 ⟨hO.alt, trivial, fun a b e1 e2 => ?_⟩⟩
        · rcases List.mem_append.1 hz with e | e
          · exact hO.pos z e
          · rw [List.mem_singleton] at e
            subst e
            exact ⟨by omega, hx.2⟩
        · rw [List.getLast?_append, List.getLast?_singleton] at e1
          cases e1
          cases e2
          intro e
          exact hm (by unfold meldB; rw [e]; simp)

theorem nums_meldStep {O : List Th} {x : Th} (hx : 0 ≤ x.n) (hO : ∀ y ∈ O, 0 ≤ y.n) : nums (meldStep O x) = nums O ++ nums [x] := by
  unfold meldStep
  split
  · next h0 => unfold sizeT at h0; rw [nums_one, h0]; simp
  · rcases List.eq_nil_or_concat O with rfl | ⟨P, y, rfl⟩
    · rfl
    · rw [List.concat_eq_append] at *
      rw [List.getLast?_append, List.getLast?_singleton]
      simp only [Option.some_or]
      split
      · next hm =>
        have hy := hO y (by simp)
        have he : y.id = x.id := by unfold meldB at hm; simpa using hm
        rw [List.dropLast_concat, nums_append, nums_append, List.append_assoc]
        congr 1
        rw [nums_one, nums_one, nums_one, ← he, List.replicate_append_replicate]
        show List.replicate (y.n + x.n).toNat y.id = _
        rw [show (y.n + x.n).toNat = y.n.toNat + x.n.toNat by omega]
      · exact nums_append _ _

/-- What a list that is melded begins and ends with. -/
theorem meldStep_ends {O : List Th} {x : Th} : (∀ y, O.head? = some y → ∃ z, (meldStep O x).head? = some z ∧ z.id = y.id) ∧ (1 ≤ x.n → ∃ z, (meldStep O x).getLast? = some z ∧ z.id = x.id) := by
  unfold meldStep
  split
  · next h0 => unfold sizeT at h0; exact ⟨fun y hy => ⟨y, hy, rfl⟩, fun h => by omega⟩
  · rcases List.eq_nil_or_concat O with rfl | ⟨P, y, rfl⟩
    · exact ⟨fun y hy => by simp at hy, fun _ => ⟨x, rfl, rfl⟩⟩
    · rw [List.concat_eq_append] at *
      rw [List.getLast?_append, List.getLast?_singleton]
      simp only [Option.some_or]
      split
      · next hm =>
        have he : y.id = x.id := by unfold meldB at hm; simpa using hm
        rw [List.dropLast_concat]
        refine ⟨fun u hu => ?_, fun _ => ⟨meldT y x, by rw [List.getLast?_append, List.getLast?_singleton]; rfl, he⟩⟩
        cases P with
        | nil => cases hu; exact ⟨meldT y x, rfl, rfl⟩
        | cons p P => exact ⟨p, rfl, by cases hu; rfl⟩
      · refine ⟨fun u hu => ?_, fun _ => ⟨x, by rw [List.getLast?_append, List.getLast?_singleton]; rfl, rfl⟩⟩
        cases P with
        | nil => cases hu; exact ⟨y, rfl, rfl⟩
        | cons p P => exact ⟨p, rfl, by cases hu; rfl⟩

theorem meldF_can : ∀ (l O : List Th), Can O → (∀ x ∈ l, 0 ≤ x.n ∧ 0 ≤ x.id) → Can (l.foldl meldStep O) ∧ nums (l.foldl meldStep O) = nums O ++ nums l ∧ (∀ y, O.head? = some y → ∃ z, (l.foldl meldStep O).head? = some z ∧ z.id = y.id)
  | [], O, hO, _ => ⟨hO, by simp [nums], fun y hy => ⟨y, hy, rfl⟩⟩
  | x :: l, O, hO, h => by
    have hx := h x (by simp)
    obtain ⟨a1, a2, a3⟩ := meldF_can l (meldStep O x) (can_meldStep hO hx) (fun y hy => h y (by simp [hy]))
    rw [List.foldl_cons]
    refine ⟨a1, ?_, fun y hy => ?_⟩
    · rw [a2, nums_meldStep hx.1 (fun y hy => by have := hO.pos y hy; omega), List.append_assoc, nums_one, nums_cons]
    · obtain ⟨z, h1, h2⟩ := (meldStep_ends (x := x)).1 y hy
      obtain ⟨u, h3, h4⟩ := a3 z h1
      exact ⟨u, h3, h4.trans h2⟩
theorem meldL_can {l : List Th} (h : ∀ x ∈ l, 0 ≤ x.n ∧ 0 ≤ x.id) : Can (meldL l) ∧ nums (meldL l) = nums l := by
  have := meldF_can l [] Can.nil_ h
  exact ⟨this.1, this.2.1⟩
theorem meldL_head {x : Th} {l : List Th} (hx : 1 ≤ x.n ∧ 0 ≤ x.id) (h : ∀ y ∈ l, 0 ≤ y.n ∧ 0 ≤ y.id) : ∃ z, (meldL (x :: l)).head? = some z ∧ z.id = x.id := by
  have e : meldStep [] x = [x] := by unfold meldStep; rw [if_neg (by unfold sizeT; omega)]; rfl
  show ∃ z, (l.foldl meldStep (meldStep [] x)).head? = some z ∧ _
  rw [e]
  exact (meldF_can l [x] ⟨fun y hy => by simp at hy; subst hy; exact hx, trivial⟩ h).2.2 x rfl
theorem meldL_last {x : Th} {l : List Th} (hx : 1 ≤ x.n) : ∃ z, (meldL (l ++ [x])).getLast? = some z ∧ z.id = x.id := by
  unfold meldL
  rw [List.foldl_append]
  exact (meldStep_ends (O := l.foldl meldStep []) (x := x)).2 hx

/-- Things put in place of those from i to j: one list again, of the numbers that are asked. -/
theorem repl_can {X l : List Th} {i j : Int} (hX : Can X) (hoX : ∀ x ∈ X, okT x) (hl : ∀ x ∈ l, 0 ≤ x.n ∧ 0 ≤ x.id) (h0 : 0 ≤ i) (h1 : i ≤ j) :
    Can (replT X i j l) ∧ nums (replT X i j l) = (nums X).take i.toNat ++ nums l ++ (nums X).drop j.toNat := by
  have c1 := can_split X i hX
  have o1 := splitT_ok X i hoX
  have n1 := nums_split X i hoX
  unfold replT
  generalize splitT X i = q at *
  have c2 := can_split q.2 (j - i) c1.2
  have n2 := nums_split q.2 (j - i) o1.2.1
  generalize splitT q.2 (j - i) = r at *
  have hd : (nums X).drop j.toNat = nums r.2 := by rw [n2.2, n1.2, List.drop_drop]; congr 1; omega
  rw [hd, ← n1.1]
  obtain ⟨A, R⟩ := q
  obtain ⟨Gn, B⟩ := r
  dsimp only at *
  clear n1 n2 hd o1
  have cA := c1.1
  have cB := c2.2
  have hmid : ∀ x ∈ A.getLast?.toList ++ l ++ B.head?.toList, 0 ≤ x.n ∧ 0 ≤ x.id := fun x hx => by
    rcases List.mem_append.1 hx with e | e
    · rcases List.mem_append.1 e with e | e
      · have := cA.pos x (mem_lastOf e); omega
      · exact hl x e
    · have := cB.pos x (mem_headOf e); omega
  obtain ⟨m1, m2⟩ := meldL_can hmid
  refine ⟨⟨fun x hx => ?_, ?_⟩, ?_⟩
  · rcases List.mem_append.1 hx with e | e
    · rcases List.mem_append.1 e with e | e
      · exact cA.pos x ((List.dropLast_sublist _).subset e)
      · exact m1.pos x e
    · exact cB.pos x (List.mem_of_mem_tail e)
  · have hAM : Alt (A.dropLast ++ meldL (A.getLast?.toList ++ l ++ B.head?.toList)) := by
      rcases List.eq_nil_or_concat A with rfl | ⟨P, y, rfl⟩
      · exact m1.alt
      · rw [List.concat_eq_append] at *
        rw [List.getLast?_append, List.getLast?_singleton, List.dropLast_concat] at *
        have hy := cA.pos y (by simp)
        obtain ⟨z, hz, hzy⟩ := meldL_head (x := y) (l := l ++ B.head?.toList) hy (fun w hw => hmid w (by simp at hw ⊢; exact .inr hw))
        have ha := (alt_app P [y]).1 cA.alt
        refine (alt_app _ _).2 ⟨ha.1, m1.alt, fun a b e1 e2 => ?_⟩
        have e3 : (meldL (y :: (l ++ B.head?.toList))).head? = some b := by simpa using e2
        rw [hz] at e3
        cases e3
        rw [hzy]
        exact ha.2.2 a y e1 rfl
    cases B with
    | nil => rw [List.tail_nil, List.append_nil]; exact hAM
    | cons b B =>
      have hb := cB.pos b (by simp)
      obtain ⟨z, hz, hzb⟩ := meldL_last (x := b) (l := A.getLast?.toList ++ l) hb.1
      refine (alt_app _ _).2 ⟨hAM, cB.alt.tail, fun u v e1 e2 => ?_⟩
      have hz' : (meldL (A.getLast?.toList ++ l ++ (b :: B).head?.toList)).getLast? = some z := hz
      rw [List.getLast?_append, hz', Option.some_or] at e1
      cases e1
      rw [hzb]
      cases B with
      | nil => cases e2
      | cons c B => cases e2; exact cB.alt.1
  · rw [nums_append, nums_append, m2, nums_append, nums_append]
    have e1 : nums A.dropLast ++ nums A.getLast?.toList = nums A := by
      rcases List.eq_nil_or_concat A with rfl | ⟨P, y, rfl⟩
      · rfl
      · rw [List.concat_eq_append, List.getLast?_append, List.getLast?_singleton, List.dropLast_concat, nums_append]; rfl
    have e2 : nums B.head?.toList ++ nums B.tail = nums B := by
      cases B with
      | nil => rfl
      | cons b B => rw [nums_cons]; show nums [b] ++ nums B = _; rw [nums_one]
    rw [← e1, ← e2]
    simp only [List.append_assoc]

theorem can_part {t : Th} {i j : Int} (h : okT t) (hp : 0 ≤ t.id) (h0 : max i 0 < min j (sizeT t)) : 1 ≤ (partT t i j).n ∧ 0 ≤ (partT t i j).id ∧ (partT t i j).id = t.id := by
  have h1 := (partT_ok h h0).2
  have hid : (partT t i j).id = t.id := by unfold partT partA cutB cutA; split <;> split <;> rfl
  unfold sizeT at h1 h0
  exact ⟨by omega, by rw [hid]; exact hp, hid⟩

theorem can_over : ∀ (L : List Th) (i j : Int), Can L → (∀ x ∈ L, okT x) → Can (overT L i j) ∧ (∀ y, (overT L i j).head? = some y → ∃ z ∈ L, True) 
  | [], _, _, h, _ => ⟨h, fun _ hy => by simp [overT] at hy⟩
  | t :: L, i, j, h, ho => by
    have ih := can_over L (i - sizeT t) (j - sizeT t) h.tail (fun x hx => ho x (by simp [hx]))
    have hz := sizeT_ok (ho t (by simp))
    refine ⟨?_, fun _ _ => ⟨t, by simp, trivial⟩⟩
    rw [overT]
    split
    · next h1 =>
      have hp := can_part (ho t (by simp)) (h.pos t (by simp)).2 h1
      refine ⟨fun x hx => ?_, (alt_app _ _).2 ⟨trivial, ih.1.alt, fun a b e1 e2 => ?_⟩⟩
      · rcases List.mem_append.1 hx with e | e
        · rw [List.mem_singleton] at e; subst e; exact ⟨hp.1, hp.2.1⟩
        · exact ih.1.pos x e
      · have e1 : partT t i j = a := by simpa using e1
        rw [← e1, hp.2.2]
        -- the first part behind is a part of the next span
        cases L with
        | nil => simp [overT] at e2
        | cons c L =>
          have hc := ho c (by simp)
          have hcs := (h.pos c (by simp)).1
          rw [overT] at e2
          split at e2
          · next h2 =>
            cases e2
            rw [(can_part hc (h.pos c (by simp)).2 h2).2.2]
            exact h.alt.1
          · next h2 =>
            exfalso
            unfold sizeT at h1 h2 hz e2
            have : overT L (i - t.n - c.n) (j - t.n - c.n) = [] := overT_none L _ _ (fun x hx => ho x (by simp [hx])) (.inl (by omega))
            rw [this] at e2
            cases e2
    · rw [List.nil_append]; exact ih.1

/-- What is told is what is taken out; how many spans there are behind a call. -/
theorem over_gone {X : List Th} {i j : Int} (hX : Can X) (hoX : ∀ x ∈ X, okT x) (h0 : 0 ≤ i) (h1 : i ≤ j) : overT X i j = (splitT (splitT X i).2 (j - i)).1 := by
  have o1 := splitT_ok X i hoX
  have c1 := can_split X i hX
  refine Can.unique (can_over X i j hX hoX).1 (can_split _ (j - i) c1.2).1 ?_
  rw [nums_over X i j hoX, (nums_split _ _ o1.2.1).1, (nums_split _ _ hoX).2, List.drop_take, show (j - i).toNat = j.toNat - i.toNat by omega]
theorem repl_len {X l : List Th} {i j : Int} (hX : Can X) (hoX : ∀ x ∈ X, okT x) (hl : ∀ x ∈ l, okT x) (h0 : 0 ≤ i) (h1 : i ≤ j) (h2 : j ≤ sumT X) (hs : sumT X - (j - i) + sumT l ≤ 1000000000) :
    (replT X i j l).length + (overT X i j).length ≤ X.length + l.length + 2 := by
  have hg := over_gone hX hoX h0 h1
  have hm := repl_facts hoX hl h0 h1 h2 hs
  have o1 := splitT_ok X i hoX
  have o2 := splitT_ok (splitT X i).2 (j - i) o1.2.1
  have hml := (meldL_ok hm.1 hm.2.1).2.2
  rw [hg, replT_eq, List.length_append, List.length_append]
  unfold midT at hml ⊢
  generalize (splitT X i).1 = A at *
  generalize splitT (splitT X i).2 (j - i) = r at *
  have e1 : A.dropLast.length + A.getLast?.toList.length = A.length := by
    rcases List.eq_nil_or_concat A with rfl | ⟨P, y, rfl⟩
    · rfl
    · rw [List.concat_eq_append, List.getLast?_append, List.getLast?_singleton, List.dropLast_concat]; simp
  have e2 : r.2.head?.toList.length + r.2.tail.length = r.2.length := by cases r.2 <;> simp <;> omega
  simp only [List.length_append] at hml
  omega

end Go.Proofs.Ytbioomilnjikpaa
