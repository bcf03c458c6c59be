/-
  Records, plainly (what is cut, found, told, put in place, of things of size one); sets of attributes in memory, beside one another.
-/
import Derived.Test.YtpaelbhljgdenaaPaZ1
import Derived.Test.YtpaelbhljgdenaaPaAp
namespace Go.Proofs.Ytpaelbhljgdenaa
open Go.RowKit

/-! ### Things of size one -/
theorem splitT_one : ∀ (L : List Th) (a : Int), splitT L a = (L.take a.toNat, L.drop a.toNat)
  | [], a => by simp [splitT]
  | t :: L, a => by
    rw [splitT]
    by_cases h : a ≤ 0
    · rw [if_pos h, show a.toNat = 0 by omega]; rfl
    · rw [if_neg h, if_pos (show sizeT t ≤ a by unfold sizeT; omega), splitT_one L, show sizeT t = 1 from rfl, show a.toNat = (a - 1).toNat + 1 by omega]
      rfl
theorem replT_one (X : List Th) {i j : Int} (h0 : 0 ≤ i) (h1 : i ≤ j) (l : List Th) : replT X i j l = X.take i.toNat ++ l ++ X.drop j.toNat := by
  unfold replT
  rw [meldL_id, splitT_one X i, splitT_one]
  dsimp only
  rw [List.drop_drop, show i.toNat + (j - i).toNat = j.toNat by omega]
  have e1 : ∀ A : List Th, A.dropLast ++ A.getLast?.toList = A := fun A => by
    rcases List.eq_nil_or_concat A with h | ⟨B, b, h⟩
    · subst h; rfl
    · subst h; simp
  have e2 : ∀ A : List Th, A.head?.toList ++ A.tail = A := fun A => by cases A <;> rfl
  rw [List.append_assoc, List.append_assoc, List.append_assoc, e2, ← List.append_assoc, e1, List.append_assoc]
theorem findT_one : ∀ (L : List Th) (a : Int), findT L a = if 0 ≤ a then (L[a.toNat]?).map (fun t => (t, (0 : Int))) else none
  | [], a => by simp [findT]
  | t :: L, a => by
    rw [findT]
    by_cases h : a < 0
    · rw [if_pos h, if_neg (show ¬ 0 ≤ a by omega)]
    · rw [if_neg h, if_pos (show 0 ≤ a by omega)]
      by_cases h1 : a < 1
      · rw [if_pos (show a < sizeT t from h1), show a = 0 by omega]; rfl
      · rw [if_neg (show ¬ a < sizeT t from h1), findT_one L, show sizeT t = 1 from rfl, if_pos (show 0 ≤ a - 1 by omega), show a.toNat = (a - 1).toNat + 1 by omega]
        rfl
theorem overT_one : ∀ (L : List Th) (i j : Int), overT L i j = (L.drop i.toNat).take (j.toNat - i.toNat)
  | [], i, j => by simp [overT]
  | t :: L, i, j => by
    have hs : sizeT t = 1 := rfl
    rw [overT, hs, overT_one L]
    by_cases hi : i ≤ 0
    · by_cases hj : 0 < j
      · rw [if_pos (by omega), show i.toNat = 0 by omega, show (i - 1).toNat = 0 by omega, List.drop_zero, List.drop_zero, show j.toNat - 0 = ((j - 1).toNat - 0) + 1 by omega, List.take_succ_cons]
        unfold partT partA
        rw [if_neg (by omega), if_neg (by rw [hs]; omega)]
        rfl
      · rw [if_neg (by omega), show j.toNat - i.toNat = 0 by omega, show (j - 1).toNat - (i - 1).toNat = 0 by omega, List.take_zero, List.take_zero, List.nil_append]
    · rw [if_neg (by omega), show i.toNat = (i - 1).toNat + 1 by omega, List.drop_succ_cons, List.nil_append]
      congr 1
      omega

/-! ### Sets in memory -/
/-- The set a, read through the slice t, in a block of D. -/
structure SetAt (w : World) (D : Nat → Prop) (t : Th) (a : List At) : Prop where
  len : a.length = t.n
  cap : t.n ≤ t.c
  nil : t.A = none → t.c = 0
  rd : 0 < t.n → ∃ b o, t.A = some ⟨b, o, none⟩ ∧ D b ∧ b < w.heap.size ∧ w.rangeAt b o (rowA a)
/-- Sets, one behind the other. -/
structure SetsAt (w : World) (D : Nat → Prop) (xs : List Th) (X : List (List At)) : Prop where
  len : xs.length = X.length
  get : ∀ (i : Nat) (t : Th) (a : List At), xs[i]? = some t → X[i]? = some a → SetAt w D t a

section
variable {w w' : World} {D D' G : Nat → Prop} {t : Th} {a : List At} {xs ys : List Th} {X Y : List (List At)}

theorem range_step {b o : Nat} {vs : List Value} (h : w.rangeAt b o vs) (hs : Step G w w') (hb : b < w.heap.size) (hG : ¬ G b) : w'.rangeAt b o vs :=
  fun j v hv => (World.cell?_of_block (w := w) (a := ⟨b, o + j, none⟩) (hs.block b hb hG)).trans (h j v hv)
theorem SetAt.step (h : SetAt w D t a) (hs : Step G w w') (hG : ∀ k, D k → ¬ G k) : SetAt w' D t a :=
  ⟨h.len, h.cap, h.nil, fun hn => by
    obtain ⟨b, o, h1, h2, h3, h4⟩ := h.rd hn
    exact ⟨b, o, h1, h2, Nat.lt_of_lt_of_le h3 hs.size, range_step h4 hs h3 (hG b h2)⟩⟩
theorem SetAt.mono (h : SetAt w D t a) (hD : ∀ k, k < w.heap.size → D k → D' k) : SetAt w D' t a :=
  ⟨h.len, h.cap, h.nil, fun hn => by
    obtain ⟨b, o, h1, h2, h3, h4⟩ := h.rd hn
    exact ⟨b, o, h1, hD b h3 h2, h3, h4⟩⟩
theorem SetAt.sees (h : SetAt w D t a) : Sees w w.heap.size 5 t.A a.length (rowA a) :=
  ⟨rowA_len a, fun hn => by
    obtain ⟨b, o, h1, _, h3, h4⟩ := h.rd (by rw [← h.len]; exact hn)
    exact ⟨b, o, h1, h3, h4⟩⟩
theorem SetsAt.step (h : SetsAt w D xs X) (hs : Step G w w') (hG : ∀ k, D k → ¬ G k) : SetsAt w' D xs X := ⟨h.len, fun i t a h1 h2 => (h.get i t a h1 h2).step hs hG⟩
theorem SetsAt.below (h : SetsAt w D xs X) (hb : Below w.heap.size w w') : SetsAt w' D xs X := h.step (Step.of_below hb fun _ => False) (fun _ _ h => h)
theorem SetsAt.mono (h : SetsAt w D xs X) (hD : ∀ k, k < w.heap.size → D k → D' k) : SetsAt w D' xs X := ⟨h.len, fun i t a h1 h2 => (h.get i t a h1 h2).mono hD⟩
theorem SetsAt.nil_ (w : World) (D : Nat → Prop) : SetsAt w D [] [] := ⟨rfl, fun i t a h => by simp at h⟩
theorem SetsAt.append (h : SetsAt w D xs X) (k : SetsAt w D ys Y) : SetsAt w D (xs ++ ys) (X ++ Y) :=
  ⟨by rw [List.length_append, List.length_append, h.len, k.len], fun i t a h1 h2 => by
    by_cases hi : i < xs.length
    · rw [List.getElem?_append_left hi] at h1
      rw [List.getElem?_append_left (by rw [← h.len]; exact hi)] at h2
      exact h.get i t a h1 h2
    · rw [List.getElem?_append_right (by omega)] at h1
      rw [List.getElem?_append_right (by rw [← h.len]; omega), ← h.len] at h2
      exact k.get _ t a h1 h2⟩
theorem SetsAt.take (h : SetsAt w D xs X) (n : Nat) : SetsAt w D (xs.take n) (X.take n) :=
  ⟨by rw [List.length_take, List.length_take, h.len], fun i t a h1 h2 => by
    rw [List.getElem?_take] at h1 h2
    split at h1
    · next hi => rw [if_pos hi] at h2; exact h.get i t a h1 h2
    · cases h1⟩
theorem SetsAt.drop (h : SetsAt w D xs X) (n : Nat) : SetsAt w D (xs.drop n) (X.drop n) :=
  ⟨by rw [List.length_drop, List.length_drop, h.len], fun i t a h1 h2 => by
    rw [List.getElem?_drop] at h1 h2
    exact h.get _ t a h1 h2⟩
theorem SetsAt.set {k : Nat} (h : SetsAt w D xs X) (hk : SetAt w D t a) : SetsAt w D (xs.set k t) (X.set k a) :=
  ⟨by rw [List.length_set, List.length_set, h.len], fun i t' a' h1 h2 => by
    rw [List.getElem?_set] at h1 h2
    by_cases hi : k = i
    · rw [if_pos hi] at h1 h2
      split at h1
      · next hl =>
        rw [if_pos (by rw [← h.len]; exact hl)] at h2
        cases h1; cases h2; exact hk
      · cases h1
    · rw [if_neg hi] at h1 h2
      exact h.get i t' a' h1 h2⟩
theorem SetAt.of_own {base n : Nat} {v : Value} {l : List At} (h : OwnA w base v l) (hn : l.length = n) (hD : ∀ k, v.ownBlock = some k → D k) : ∃ A c, v = .slice A n c ∧ SetAt w D ⟨A, n, c⟩ l := by
  subst hn
  obtain ⟨A, c, rfl, h1, h2, h3, h4⟩ := own_shape h
  refine ⟨A, c, rfl, rfl, h1, fun e => (h3 e).2, fun hn => ?_⟩
  obtain ⟨b, o, e, hb, hc⟩ := (Sees.of_own h).2 hn
  obtain ⟨g, hg, _, _⟩ := h4 _ e
  refine ⟨b, o, e, hD b ?_, hb, hc⟩
  simp only [Addr.mk.injEq] at hg
  have e : A = some ⟨b, o, none⟩ := e
  rw [e, hg.2.1]
  rfl
end

/-- Records behind a pointer, in the blocks K; m: how many attributes a set has at most. -/
structure ParS (w : World) (K : Nat → Prop) (g : Nat) (X : List (List At)) (N m : Nat) : Prop where
  own : ∃ H D xs, ObW w H g xs N ∧ SetsAt w D xs X ∧ (∀ k, H k → ¬ D k) ∧ (∀ k, D k → k < w.heap.size) ∧ ∀ k, K k ↔ H k ∨ D k
  le : ∀ a ∈ X, a.length ≤ m

section
variable {w w' : World} {K G : Nat → Prop} {g N N' m m' : Nat} {X : List (List At)}
theorem ParS.lt (h : ParS w K g X N m) : ∀ k, K k → k < w.heap.size := by
  obtain ⟨⟨H, D, xs, hO, hS, hHD, hDl, hK⟩, _⟩ := h
  intro k hk
  rcases (hK k).1 hk with e | e
  · exact hO.lt k e
  · exact hDl k e
theorem ParS.step (h : ParS w K g X N m) (hs : Step G w w') (hG : ∀ k, K k → ¬ G k) : ParS w' K g X N m := by
  obtain ⟨⟨H, D, xs, hO, hS, hHD, hDl, hK⟩, hm⟩ := h
  exact ⟨⟨H, D, xs, hO.step hs (fun k hk => hG k ((hK k).2 (.inl hk))), hS.step hs (fun k hk => hG k ((hK k).2 (.inr hk))), hHD, fun k hk => Nat.lt_of_lt_of_le (hDl k hk) hs.size, hK⟩, hm⟩
theorem ParS.below (h : ParS w K g X N m) (hb : Below w.heap.size w w') : ParS w' K g X N m := h.step (Step.of_below hb fun _ => False) (fun _ _ h => h)
theorem ParS.more (h : ParS w K g X N m) (hN : N ≤ N') (hm : m ≤ m') : ParS w K g X N' m' := by
  obtain ⟨⟨H, D, xs, hO, hS, hHD, hDl, hK⟩, hl⟩ := h
  exact ⟨⟨H, D, xs, hO.more hN, hS, hHD, hDl, hK⟩, fun a ha => Nat.le_trans (hl a ha) hm⟩
theorem ParS.len (h : ParS w K g X N m) : X.length ≤ 100000 := by
  obtain ⟨⟨H, D, xs, hO, hS, hHD, hDl, hK⟩, _⟩ := h
  rw [← hS.len]; exact hO.okX.2.1
theorem okAll (xs : List Th) : ∀ x ∈ xs, okT x := fun _ _ => trivial
end

/-- A call that hands back v, and leaves these records. -/
def PaR (w : World) (K : Nat → Prop) (g : Nat) (X : List (List At)) (N m : Nat) (v : Value) (e : Ending) (w' : World) : Prop := ∃ K', e = .returned v ∧ ParS w' K' g X N m ∧ Grow K w w' K'

/-- From the tree's blocks to all. -/
theorem ParS.of {w w' : World} {H H' D K : Nat → Prop} {g N' m' : Nat} {xs' : List Th} {X' : List (List At)} (hK : ∀ k, K k ↔ H k ∨ D k) (hDl : ∀ k, D k → k < w.heap.size) (hHD : ∀ k, H k → ¬ D k) (hO : ObW w' H' g xs' N') (hg : Grow H w w' H') {E : Nat → Prop} (hE : ∀ k, E k → D k ∨ (w.heap.size ≤ k ∧ k < w'.heap.size ∧ ¬ H' k)) (hS : SetsAt w' E xs' X') (hm : ∀ a ∈ X', a.length ≤ m') :
    ∃ K', ParS w' K' g X' N' m' ∧ Grow K w w' K' := by
  refine ⟨fun k => H' k ∨ E k, ⟨⟨H', E, xs', hO, hS, fun k h1 h2 => ?_, fun k hk => ?_, fun _ => Iff.rfl⟩, hm⟩, hg.step.mono (fun k _ hk => (hK k).2 (.inl hk)), fun k hk => ?_⟩
  · rcases hE k h2 with e | ⟨_, _, e⟩
    · rcases hg.new k h1 with q | q
      · exact hHD k q e
      · have := hDl k e; omega
    · exact e h1
  · rcases hE k hk with e | ⟨_, e, _⟩
    · exact Nat.lt_of_lt_of_le (hDl k e) hg.step.size
    · exact e
  · rcases hk with e | e
    · rcases hg.new k e with q | q
      · exact .inl ((hK k).2 (.inl q))
      · exact .inr q
    · rcases hE k e with q | ⟨q, _⟩
      · exact .inl ((hK k).2 (.inr q))
      · exact .inr q

/-- Why k to m is no part. -/
def betP (X : List (List At)) (k m : Int) : Int := if 0 ≤ k ∧ k ≤ m ∧ m ≤ X.length then 0 else 5
theorem betP_of {w : World} {D : Nat → Prop} {xs : List Th} {X : List (List At)} (h : SetsAt w D xs X) (k m : Int) : betE xs k m = betP X k m := by unfold betE betP; rw [sumT_len, h.len]
theorem betP_or (X : List (List At)) (k m : Int) : betP X k m = 0 ∨ betP X k m = 5 := by unfold betP; split; exact .inl rfl; exact .inr rfl
theorem betP_zero {X : List (List At)} {k m : Int} (h : betP X k m = 0) : 0 ≤ k ∧ k ≤ m ∧ m ≤ X.length := by
  unfold betP at h
  split at h
  · assumption
  · cases h

set_option maxHeartbeats 1000000 in
theorem newP_any (w : World) :
    Calls Try.prog 7 #[] w fun e w' => ∃ g, e = .returned (.pointer (some ⟨g, 0, none⟩)) ∧ ParS w' (fun k => k = g) g [] 0 0 ∧ Below w.heap.size w w' ∧ w.heap.size ≤ g := by
  go_enter Try.func7, Try.ntmps7
  go_wp2_with fail
  obtain ⟨g, hg⟩ : ∃ g, w.heap.size = g := ⟨_, rfl⟩
  have HR := Lib.hid (show ParS (w.alloc (.cells #[.pointer none] 54)) (fun k => k = g) g [] 0 0 ∧ Below w.heap.size w (w.alloc (.cells #[.pointer none] 54)) from
    ⟨⟨⟨fun k => k = g, fun _ => False, [], .inl ⟨by rw [← hg]; exact heap_alloc_new w _, rfl, fun _ => Iff.rfl⟩, SetsAt.nil_ _ _, fun _ _ h => h, (fun _ h => h.elim), fun k => by simp⟩, (fun _ h => nomatch h)⟩, (Below.refl _ _).alloc (Nat.le_refl _) _⟩)
  have HG := Lib.hid hg
  rw [hg]
  clear hg
  go_ret
  exact ⟨g, rfl, HR.out.1, by have h1 := HR.out.2; rw [HG.out] at h1; exact h1, Nat.le_refl _⟩

theorem lenP_any {w : World} {K : Nat → Prop} {g N m : Nat} {X : List (List At)} (h : ParS w K g X N m) :
    Calls Try.prog 14 #[.pointer (some ⟨g, 0, none⟩)] w fun e w' => PaR w K g X N m (.int .i64 X.length) e w' := by
  obtain ⟨⟨H, D, xs, hO, hS, hHD, hDl, hK⟩, hm⟩ := h
  refine (lenO_any hO).mono ?_
  rintro e w' ⟨H', rfl, hO', hg⟩
  obtain ⟨K', h1, h2⟩ := ParS.of hK hDl hHD hO' hg (E := D) (fun k hk => .inl hk) (hS.step hg.step (fun k hk hH => hHD k hH hk)) hm
  exact ⟨K', by rw [sumT_len, hS.len], h1, h2⟩

theorem betweenP_any {w : World} {K : Nat → Prop} {g N m : Nat} {X : List (List At)} (h : ParS w K g X N m) (i j : Int) :
    Calls Try.prog 24 #[.pointer (some ⟨g, 0, none⟩), .int .i64 i, .int .i64 j] w fun e w' => PaR w K g X N m (.int .i64 (betP X i j)) e w' := by
  obtain ⟨⟨H, D, xs, hO, hS, hHD, hDl, hK⟩, hm⟩ := h
  refine (between_any hO i j).mono ?_
  rintro e w' ⟨H', rfl, hO', hg⟩
  obtain ⟨K', h1, h2⟩ := ParS.of hK hDl hHD hO' hg (E := D) (fun k hk => .inl hk) (hS.step hg.step (fun k hk hH => hHD k hH hk)) hm
  exact ⟨K', by rw [betP_of hS], h1, h2⟩

end Go.Proofs.Ytpaelbhljgdenaa
