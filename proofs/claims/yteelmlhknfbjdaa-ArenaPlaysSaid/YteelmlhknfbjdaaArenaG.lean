/-
  The arena as a thing of its own blocks, over any type of things: contracts that forget where its rows lie.
-/
import Derived.Test.YteelmlhknfbjdaaArenaS
import Derived.Test.YteelmlhknfbjdaaStep
namespace Go.Proofs.Yteelmlhknfbjdaa
open Go.RowKit
variable {α : Type}

/-- The free places are those that are free, each once. -/
structure ArOk (s : List (Option α)) (fr : List Nat) : Prop where
  nodup : fr.Nodup
  iff : ∀ i, i ∈ fr ↔ s[i]? = some none

theorem ArOk.nil_ : ArOk ([] : List (Option α)) [] := ⟨by simp, fun i => by simp⟩

theorem ArOk.len {s : List (Option α)} {fr : List Nat} (h : ArOk s fr) : fr.length ≤ s.length := by
  have h1 : ∀ i ∈ fr, i ∈ List.range s.length := fun i hi => List.mem_range.2 (List.getElem?_eq_some_iff.1 ((h.iff i).1 hi)).1
  have := h.nodup.length_le_of_subset h1
  simpa using this

/-- What stands at a place, if it is taken. -/
def look (s : List (Option α)) (i : Int) : Option α := if 0 ≤ i then (s[i.toNat]?).join else none

theorem look_nat (s : List (Option α)) (k : Nat) : look s (k : Int) = (s[k]?).join := by simp [look]

theorem look_some {s : List (Option α)} {i : Int} {x : α} (h : look s i = some x) : ∃ k : Nat, i = k ∧ ∃ hk : k < s.length, s[k] = some x := by
  unfold look at h
  split at h
  · refine ⟨i.toNat, by omega, ?_⟩
    cases hq : s[i.toNat]? with
    | none => rw [hq] at h; cases h
    | some o =>
      rw [hq] at h
      obtain ⟨hk, he⟩ := List.getElem?_eq_some_iff.1 hq
      exact ⟨hk, by rw [he]; exact h⟩
  · cases h

theorem look_none {s : List (Option α)} {i : Int} (h : look s i = none) : i < 0 ∨ (s.length : Int) ≤ i ∨ ∃ (hk : i.toNat < s.length), s[i.toNat] = none := by
  unfold look at h
  split at h
  · rcases Nat.lt_or_ge i.toNat s.length with hk | hk
    · rw [List.getElem?_eq_getElem hk] at h
      exact .inr (.inr ⟨hk, h⟩)
    · exact .inr (.inl (by omega))
  · exact .inl (by omega)

/-- The number that the next one gets, and the places behind it. -/
def nextOf (s : List (Option α)) (fr : List Nat) : Nat := fr.getLast?.getD s.length
def takeS (s : List (Option α)) (fr : List Nat) (x : α) : List (Option α) := if fr = [] then s ++ [some x] else s.set (nextOf s fr) (some x)

theorem ArOk.take {s : List (Option α)} {fr : List Nat} (h : ArOk s fr) (x : α) : ArOk (takeS s fr x) fr.dropLast := by
  rcases List.eq_nil_or_concat fr with rfl | ⟨fr, i, rfl⟩
  · refine ⟨by simp, fun i => ?_⟩
    have h0 : ¬ s[i]? = some none := fun e => by have := (h.iff i).2 e; simp at this
    simp only [takeS, if_pos, List.dropLast_nil]
    rw [List.getElem?_append]
    split
    · simpa using h0
    · rename_i hl
      cases hq : i - s.length with
      | zero => simp
      | succ j => simp
  · have h1 := h.nodup
    rw [List.concat_eq_append] at h1
    rw [List.nodup_append] at h1
    have hi : i ∉ fr := fun hm => h1.2.2 i hm i (by simp) rfl
    have hs : s[i]? = some none := (h.iff i).1 (by simp)
    have hl := (List.getElem?_eq_some_iff.1 hs).1
    simp only [List.concat_eq_append, List.dropLast_concat]
    refine ⟨h1.1, fun j => ?_⟩
    have hj := h.iff j
    simp only [takeS, nextOf, List.append_eq_nil_iff, List.cons_ne_nil, and_false, if_false, List.getLast?_append, List.getLast?_singleton, Option.some_or, Option.getD_some]
    rw [List.getElem?_set]
    by_cases hij : i = j
    · subst hij
      simp [hi, hl]
    · rw [if_neg hij, ← hj]
      simp [Ne.symm hij]

theorem ArOk.put {s : List (Option α)} {fr : List Nat} (h : ArOk s fr) {k : Nat} {y : α} (hk : s[k]? = some (some y)) (x : α) : ArOk (s.set k (some x)) fr := by
  refine ⟨h.nodup, fun i => ?_⟩
  rw [h.iff i, List.getElem?_set]
  by_cases hik : k = i
  · subst hik
    rw [if_pos rfl, if_pos (List.getElem?_eq_some_iff.1 hk).1, hk]
    simp
  · rw [if_neg hik]

theorem ArOk.free {s : List (Option α)} {fr : List Nat} (h : ArOk s fr) {k : Nat} {y : α} (hk : s[k]? = some (some y)) : ArOk (s.set k none) (fr ++ [k]) := by
  have hn : k ∉ fr := fun hm => by rw [(h.iff k).1 hm] at hk; cases hk
  refine ⟨by rw [List.nodup_append]; exact ⟨h.nodup, by simp, fun a ha b hb e => by simp at hb; subst hb; subst e; exact hn ha⟩, fun i => ?_⟩
  rw [List.mem_append, h.iff i, List.getElem?_set]
  by_cases hik : k = i
  · subst hik
    rw [if_pos rfl, if_pos (List.getElem?_eq_some_iff.1 hk).1]
    simp
  · rw [if_neg hik]
    simp [Ne.symm hik]

/-- The arena behind the pointer ⟨g, 0⟩, of the blocks F. -/
def ArF (w : World) (F : Nat → Prop) (tA tP tI : TypeId) (enc : α → Value) (zero : Value) (g : Nat) (s : List (Option α)) (fr : List Nat) : Prop :=
  ∃ vp vf, ArenaAt w 0 tA tP tI enc zero g vp vf s fr ∧ (∀ k, k = g ∨ vp.ownBlock = some k ∨ vf.ownBlock = some k → F k) ∧ (∀ k, F k → k < w.heap.size)

section
variable {w w' : World} {F : Nat → Prop} {tA tP tI : TypeId} {enc : α → Value} {zero : Value} {g : Nat} {s s' : List (Option α)} {fr fr' : List Nat}

theorem ArF.lt (h : ArF w F tA tP tI enc zero g s fr) : ∀ k, F k → k < w.heap.size := by
  obtain ⟨_, _, _, _, h⟩ := h
  exact h

theorem ArF.drewN (h : ArF w F tA tP tI enc zero g s fr) (n : Nat) : ArF (w.drewN n) F tA tP tI enc zero g s fr := by
  obtain ⟨vp, vf, ha, hF, hl⟩ := h
  exact ⟨vp, vf, ⟨ha.low, ha.blk, own_drewN ha.places n, own_drewN ha.free n⟩, hF, hl⟩

theorem ArF.drew (h : ArF w F tA tP tI enc zero g s fr) : ArF w.drew F tA tP tI enc zero g s fr := h.drewN 1

/-- Where none of its blocks has changed it is what it was. -/
theorem ArF.step {G : Nat → Prop} (h : ArF w F tA tP tI enc zero g s fr) (hs : Step G w w') (hG : ∀ k, F k → ¬ G k) : ArF w' F tA tP tI enc zero g s fr := by
  obtain ⟨vp, vf, ha, hF, hl⟩ := h
  refine ⟨vp, vf, ⟨Nat.zero_le _, ?_, own_step ha.places hs (fun k hk => hG k (hF k (.inr (.inl hk)))), own_step ha.free hs (fun k hk => hG k (hF k (.inr (.inr hk))))⟩, hF, fun k hk => Nat.lt_of_lt_of_le (hl k hk) hs.size⟩
  rw [hs.block g ha.lt (hG g (hF g (.inl rfl)))]
  exact ha.blk

theorem ArF.below (h : ArF w F tA tP tI enc zero g s fr) (hs : Below w.heap.size w w') : ArF w' F tA tP tI enc zero g s fr :=
  h.step (Step.of_below hs fun _ => False) (fun _ _ h => h)

theorem ArF.after {vp vf vp' vf' : Value} (ha : ArenaAt w 0 tA tP tI enc zero g vp vf s fr) (hF : ∀ k, k = g ∨ vp.ownBlock = some k ∨ vf.ownBlock = some k → F k) (_ : ∀ k, F k → k < w.heap.size)
    (ha' : ArenaAt w' 0 tA tP tI enc zero g vp' vf' s' fr') (hs : ArenaStep w w' g vp vf vp' vf') :
    ∃ F', ArF w' F' tA tP tI enc zero g s' fr' ∧ Grow F w w' F' := by
  refine ⟨fun k => (F k ∨ w.heap.size ≤ k) ∧ k < w'.heap.size, ⟨vp', vf', ha', fun k hk => ⟨?_, ?_⟩, fun k hk => hk.2⟩, ⟨hs.os, hs.tape, hs.output, hs.size, fun k hk hnF => ?_⟩, fun k hk => hk.1⟩
  · rcases hk with rfl | hk | hk
    · exact .inl (hF _ (.inl rfl))
    · rcases hs.newp with e | ⟨j, e, hj⟩
      · exact .inl (hF k (.inr (.inl (by rw [← e]; exact hk))))
      · rw [hk] at e; injection e with e; exact .inr (by omega)
    · rcases hs.newf with e | ⟨j, e, hj⟩
      · exact .inl (hF k (.inr (.inr (by rw [← e]; exact hk))))
      · rw [hk] at e; injection e with e; exact .inr (by omega)
  · rcases hk with rfl | hk | hk
    · exact ha'.lt
    · exact own_lt ha'.places hk
    · exact own_lt ha'.free hk
  · exact hs.block k hk (fun e => hnF (hF k (.inl e))) (fun e => hnF (hF k (.inr (.inl e)))) (fun e => hnF (hF k (.inr (.inr e))))
end

/- INT BEGIN -/
abbrev ArI (w : World) (F : Nat → Prop) (g : Nat) (s : List (Option Int)) (fr : List Nat) : Prop :=
  ArF w F 62 66 3 encI (.int .i64 0) g s fr

theorem newI_F (w : World) :
    Calls Try.prog 8 #[] w fun e w' => ∃ F g, e = .returned (.pointer (some ⟨g, 0, none⟩)) ∧ ArI w' F g [] [] ∧ Below w.heap.size w w' ∧ ∀ k, F k → w.heap.size ≤ k := by
  refine (newI_any w).mono ?_
  rintro e w' ⟨rfl, ha, hb⟩
  refine ⟨fun k => k = w.heap.size, w.heap.size, rfl, ⟨_, _, ⟨Nat.zero_le _, ha.blk, own_lower ha.places (Nat.zero_le _), own_lower ha.free (Nat.zero_le _)⟩, ?_, ?_⟩, hb, fun k hk => by omega⟩
  · rintro k (rfl | h | h)
    · rfl
    · cases h
    · cases h
  · rintro k rfl
    exact ha.lt

theorem takeI_F {w : World} {F : Nat → Prop} {g : Nat} {s : List (Option Int)} {fr : List Nat} (h : ArI w F g s fr) (hok : ArOk s fr) (hs : s.length ≤ 1000000) (x : Int) :
    Calls Try.prog 9 #[.pointer (some ⟨g, 0, none⟩), .int .i64 x] w fun e w' => ∃ F', e = .returned (.int .i64 (nextOf s fr : Int)) ∧ ArI w' F' g (takeS s fr x) fr.dropLast ∧ Grow F w w' F' := by
  obtain ⟨vp, vf, ha, hF, hl⟩ := h
  have hlen := hok.len
  rcases List.eq_nil_or_concat fr with rfl | ⟨fr, i, rfl⟩
  · refine (takeI_new 0 g vp vf s x w ha hs).mono ?_
    rintro e w' ⟨vp', rfl, ha', hst⟩
    obtain ⟨F', h1, h2⟩ := ArF.after ha hF hl ha' hst
    exact ⟨F', rfl, by simpa [takeS] using h1, h2⟩
  · have hsn : s[i]? = some none := (hok.iff i).1 (by simp)
    obtain ⟨hi, hin⟩ := List.getElem?_eq_some_iff.1 hsn
    rw [List.concat_eq_append] at ha hlen
    refine (takeI_old 0 g vp vf s fr i x w ha hi hin hs (by rw [List.length_append] at hlen; omega)).mono ?_
    rintro e w' ⟨vf', rfl, ha', hst⟩
    obtain ⟨F', h1, h2⟩ := ArF.after ha hF hl ha' hst
    refine ⟨F', by simp [nextOf], by simpa [takeS, nextOf] using h1, h2⟩

theorem freeI_F {w : World} {F : Nat → Prop} {g : Nat} {s : List (Option Int)} {fr : List Nat} (h : ArI w F g s fr) (hok : ArOk s fr) (hs : s.length ≤ 1000000) {k : Nat} {y : Int} (hk : s[k]? = some (some y)) :
    Calls Try.prog 10 #[.pointer (some ⟨g, 0, none⟩), .int .i64 k] w fun e w' => ∃ F', e = .returned (.int .i64 0) ∧ ArI w' F' g (s.set k none) (fr ++ [k]) ∧ Grow F w w' F' := by
  obtain ⟨vp, vf, ha, hF, hl⟩ := h
  have hlen := hok.len
  obtain ⟨hkl, hke⟩ := List.getElem?_eq_some_iff.1 hk
  refine (freeI_yes 0 g vp vf s fr k y w ha hkl hs (by omega) hke).mono ?_
  rintro e w' ⟨vf', rfl, ha', hst⟩
  obtain ⟨F', h1, h2⟩ := ArF.after ha hF hl ha' hst
  exact ⟨F', rfl, h1, h2⟩

theorem freeI_Fno {w : World} {F : Nat → Prop} {g : Nat} {s : List (Option Int)} {fr : List Nat} (h : ArI w F g s fr) (hs : s.length ≤ 1000000) {i : Int} (hi : look s i = none) :
    Calls Try.prog 10 #[.pointer (some ⟨g, 0, none⟩), .int .i64 i] w fun e w' => e = .returned (.int .i64 5) ∧ w = w' := by
  obtain ⟨vp, vf, ha, hF, hl⟩ := h
  exact freeI_no 0 g vp vf s fr i w ha hs (look_none hi)

theorem putI_F {w : World} {F : Nat → Prop} {g : Nat} {s : List (Option Int)} {fr : List Nat} (h : ArI w F g s fr) (hs : s.length ≤ 1000000) {k : Nat} {y : Int} (hk : s[k]? = some (some y)) (x : Int) :
    Calls Try.prog 24 #[.pointer (some ⟨g, 0, none⟩), .int .i64 k, .int .i64 x] w fun e w' => ∃ F', e = .returned (.int .i64 0) ∧ ArI w' F' g (s.set k (some x)) fr ∧ Grow F w w' F' := by
  obtain ⟨vp, vf, ha, hF, hl⟩ := h
  obtain ⟨hkl, hke⟩ := List.getElem?_eq_some_iff.1 hk
  refine (putI_yes 0 g vp vf s fr k x y w ha hkl hs hke).mono ?_
  rintro e w' ⟨rfl, ha', hst⟩
  obtain ⟨F', h1, h2⟩ := ArF.after ha hF hl ha' hst
  exact ⟨F', rfl, h1, h2⟩

theorem putI_Fno {w : World} {F : Nat → Prop} {g : Nat} {s : List (Option Int)} {fr : List Nat} (h : ArI w F g s fr) (hs : s.length ≤ 1000000) {i : Int} (x : Int) (hi : look s i = none) :
    Calls Try.prog 24 #[.pointer (some ⟨g, 0, none⟩), .int .i64 i, .int .i64 x] w fun e w' => e = .returned (.int .i64 5) ∧ w = w' := by
  obtain ⟨vp, vf, ha, hF, hl⟩ := h
  exact putI_no 0 g vp vf s fr i x w ha hs (look_none hi)

theorem atI_F {w : World} {F : Nat → Prop} {g : Nat} {s : List (Option Int)} {fr : List Nat} (h : ArI w F g s fr) (hs : s.length ≤ 1000000) {k : Nat} {x : Int} (hk : s[k]? = some (some x)) :
    Calls Try.prog 25 #[.pointer (some ⟨g, 0, none⟩), .int .i64 k] w fun e w' => e = .returned (.tuple #[.int .i64 x, .int .i64 0]) ∧ w = w' := by
  obtain ⟨vp, vf, ha, hF, hl⟩ := h
  obtain ⟨hkl, hke⟩ := List.getElem?_eq_some_iff.1 hk
  exact atI_yes 0 g vp vf s fr k x w ha hkl hs hke

theorem atI_Fno {w : World} {F : Nat → Prop} {g : Nat} {s : List (Option Int)} {fr : List Nat} (h : ArI w F g s fr) (hs : s.length ≤ 1000000) {i : Int} (hi : look s i = none) :
    Calls Try.prog 25 #[.pointer (some ⟨g, 0, none⟩), .int .i64 i] w fun e w' => e = .returned (.tuple #[.int .i64 0, .int .i64 5]) ∧ w = w' := by
  obtain ⟨vp, vf, ha, hF, hl⟩ := h
  exact atI_no 0 g vp vf s fr i w ha hs (look_none hi)

theorem capI_F {w : World} {F : Nat → Prop} {g : Nat} {s : List (Option Int)} {fr : List Nat} (h : ArI w F g s fr) :
    Calls Try.prog 12 #[.pointer (some ⟨g, 0, none⟩)] w fun e w' => e = .returned (.int .i64 (s.length : Int)) ∧ w = w' := by
  obtain ⟨vp, vf, ha, hF, hl⟩ := h
  exact capI_any 0 g vp vf s fr w ha

theorem lenI_F {w : World} {F : Nat → Prop} {g : Nat} {s : List (Option Int)} {fr : List Nat} (h : ArI w F g s fr) (hok : ArOk s fr) (hs : s.length ≤ 1000000) :
    Calls Try.prog 11 #[.pointer (some ⟨g, 0, none⟩)] w fun e w' => e = .returned (.int .i64 ((s.length : Int) - fr.length)) ∧ ∃ n, w' = w.drewN n := by
  obtain ⟨vp, vf, ha, hF, hl⟩ := h
  exact lenI_any 0 g vp vf s fr w ha hs hok.len
theorem takeI_to {w : World} {F : Nat → Prop} {g : Nat} {s : List (Option Int)} {fr : List Nat} (h : ArI w F g s fr) (hok : ArOk s fr) (hs : s.length ≤ 1000000) (x : Int) (m : Int) (s' : List (Option Int)) (fr' : List Nat)
    (hm : (nextOf s fr : Int) = m) (hs' : takeS s fr x = s') (hf : fr.dropLast = fr') {B : Nat} {w0 : World} (hk : Keeps B w0 w F) :
    Calls Try.prog 9 #[.pointer (some ⟨g, 0, none⟩), .int .i64 x] w fun e w' => ∃ F', e = .returned (.int .i64 m) ∧ ArI w' F' g s' fr' ∧ ArOk s' fr' ∧ Keeps B w0 w' F' := by
  subst hm hs' hf
  refine (takeI_F h hok hs x).mono ?_
  rintro e w' ⟨F', rfl, h1, h2⟩
  exact ⟨F', rfl, h1, hok.take x, hk.next h2⟩

theorem freeI_to {w : World} {F : Nat → Prop} {g : Nat} {s : List (Option Int)} {fr : List Nat} (h : ArI w F g s fr) (hok : ArOk s fr) (hs : s.length ≤ 1000000) (i : Int) (k : Nat) (y : Int) (hi : i = k) (hk : s[k]? = some (some y)) (s' : List (Option Int))
    (hs' : s.set k none = s') {B : Nat} {w0 : World} (hb : Keeps B w0 w F) :
    Calls Try.prog 10 #[.pointer (some ⟨g, 0, none⟩), .int .i64 i] w fun e w' => ∃ F', e = .returned (.int .i64 0) ∧ ArI w' F' g s' (fr ++ [k]) ∧ ArOk s' (fr ++ [k]) ∧ Keeps B w0 w' F' := by
  subst hi hs'
  refine (freeI_F h hok hs hk).mono ?_
  rintro e w' ⟨F', rfl, h1, h2⟩
  exact ⟨F', rfl, h1, hok.free hk, hb.next h2⟩
/- INT END -/

/- STRING PART -/
abbrev ArS (w : World) (F : Nat → Prop) (g : Nat) (s : List (Option ByteArray)) (fr : List Nat) : Prop :=
  ArF w F 69 71 3 encS (.string ⟨#[]⟩) g s fr

theorem newS_F (w : World) :
    Calls Try.prog 13 #[] w fun e w' => ∃ F g, e = .returned (.pointer (some ⟨g, 0, none⟩)) ∧ ArS w' F g [] [] ∧ Below w.heap.size w w' ∧ ∀ k, F k → w.heap.size ≤ k := by
  refine (newS_any w).mono ?_
  rintro e w' ⟨rfl, ha, hb⟩
  refine ⟨fun k => k = w.heap.size, w.heap.size, rfl, ⟨_, _, ⟨Nat.zero_le _, ha.blk, own_lower ha.places (Nat.zero_le _), own_lower ha.free (Nat.zero_le _)⟩, ?_, ?_⟩, hb, fun k hk => by omega⟩
  · rintro k (rfl | h | h)
    · rfl
    · cases h
    · cases h
  · rintro k rfl
    exact ha.lt

theorem takeS_F {w : World} {F : Nat → Prop} {g : Nat} {s : List (Option ByteArray)} {fr : List Nat} (h : ArS w F g s fr) (hok : ArOk s fr) (hs : s.length ≤ 1000000) (x : ByteArray) :
    Calls Try.prog 15 #[.pointer (some ⟨g, 0, none⟩), .string x] w fun e w' => ∃ F', e = .returned (.int .i64 (nextOf s fr : Int)) ∧ ArS w' F' g (takeS s fr x) fr.dropLast ∧ Grow F w w' F' := by
  obtain ⟨vp, vf, ha, hF, hl⟩ := h
  have hlen := hok.len
  rcases List.eq_nil_or_concat fr with rfl | ⟨fr, i, rfl⟩
  · refine (takeS_new 0 g vp vf s x w ha hs).mono ?_
    rintro e w' ⟨vp', rfl, ha', hst⟩
    obtain ⟨F', h1, h2⟩ := ArF.after ha hF hl ha' hst
    exact ⟨F', rfl, by simpa [takeS] using h1, h2⟩
  · have hsn : s[i]? = some none := (hok.iff i).1 (by simp)
    obtain ⟨hi, hin⟩ := List.getElem?_eq_some_iff.1 hsn
    rw [List.concat_eq_append] at ha hlen
    refine (takeS_old 0 g vp vf s fr i x w ha hi hin hs (by rw [List.length_append] at hlen; omega)).mono ?_
    rintro e w' ⟨vf', rfl, ha', hst⟩
    obtain ⟨F', h1, h2⟩ := ArF.after ha hF hl ha' hst
    refine ⟨F', by simp [nextOf], by simpa [takeS, nextOf] using h1, h2⟩

theorem freeS_F {w : World} {F : Nat → Prop} {g : Nat} {s : List (Option ByteArray)} {fr : List Nat} (h : ArS w F g s fr) (hok : ArOk s fr) (hs : s.length ≤ 1000000) {k : Nat} {y : ByteArray} (hk : s[k]? = some (some y)) :
    Calls Try.prog 16 #[.pointer (some ⟨g, 0, none⟩), .int .i64 k] w fun e w' => ∃ F', e = .returned (.int .i64 0) ∧ ArS w' F' g (s.set k none) (fr ++ [k]) ∧ Grow F w w' F' := by
  obtain ⟨vp, vf, ha, hF, hl⟩ := h
  have hlen := hok.len
  obtain ⟨hkl, hke⟩ := List.getElem?_eq_some_iff.1 hk
  refine (freeS_yes 0 g vp vf s fr k y w ha hkl hs (by omega) hke).mono ?_
  rintro e w' ⟨vf', rfl, ha', hst⟩
  obtain ⟨F', h1, h2⟩ := ArF.after ha hF hl ha' hst
  exact ⟨F', rfl, h1, h2⟩

theorem freeS_Fno {w : World} {F : Nat → Prop} {g : Nat} {s : List (Option ByteArray)} {fr : List Nat} (h : ArS w F g s fr) (hs : s.length ≤ 1000000) {i : Int} (hi : look s i = none) :
    Calls Try.prog 16 #[.pointer (some ⟨g, 0, none⟩), .int .i64 i] w fun e w' => e = .returned (.int .i64 5) ∧ w = w' := by
  obtain ⟨vp, vf, ha, hF, hl⟩ := h
  exact freeS_no 0 g vp vf s fr i w ha hs (look_none hi)

theorem putS_F {w : World} {F : Nat → Prop} {g : Nat} {s : List (Option ByteArray)} {fr : List Nat} (h : ArS w F g s fr) (hs : s.length ≤ 1000000) {k : Nat} {y : ByteArray} (hk : s[k]? = some (some y)) (x : ByteArray) :
    Calls Try.prog 17 #[.pointer (some ⟨g, 0, none⟩), .int .i64 k, .string x] w fun e w' => ∃ F', e = .returned (.int .i64 0) ∧ ArS w' F' g (s.set k (some x)) fr ∧ Grow F w w' F' := by
  obtain ⟨vp, vf, ha, hF, hl⟩ := h
  obtain ⟨hkl, hke⟩ := List.getElem?_eq_some_iff.1 hk
  refine (putS_yes 0 g vp vf s fr k x y w ha hkl hs hke).mono ?_
  rintro e w' ⟨rfl, ha', hst⟩
  obtain ⟨F', h1, h2⟩ := ArF.after ha hF hl ha' hst
  exact ⟨F', rfl, h1, h2⟩

theorem putS_Fno {w : World} {F : Nat → Prop} {g : Nat} {s : List (Option ByteArray)} {fr : List Nat} (h : ArS w F g s fr) (hs : s.length ≤ 1000000) {i : Int} (x : ByteArray) (hi : look s i = none) :
    Calls Try.prog 17 #[.pointer (some ⟨g, 0, none⟩), .int .i64 i, .string x] w fun e w' => e = .returned (.int .i64 5) ∧ w = w' := by
  obtain ⟨vp, vf, ha, hF, hl⟩ := h
  exact putS_no 0 g vp vf s fr i x w ha hs (look_none hi)

theorem atS_F {w : World} {F : Nat → Prop} {g : Nat} {s : List (Option ByteArray)} {fr : List Nat} (h : ArS w F g s fr) (hs : s.length ≤ 1000000) {k : Nat} {x : ByteArray} (hk : s[k]? = some (some x)) :
    Calls Try.prog 18 #[.pointer (some ⟨g, 0, none⟩), .int .i64 k] w fun e w' => e = .returned (.tuple #[.string x, .int .i64 0]) ∧ w = w' := by
  obtain ⟨vp, vf, ha, hF, hl⟩ := h
  obtain ⟨hkl, hke⟩ := List.getElem?_eq_some_iff.1 hk
  exact atS_yes 0 g vp vf s fr k x w ha hkl hs hke

theorem atS_Fno {w : World} {F : Nat → Prop} {g : Nat} {s : List (Option ByteArray)} {fr : List Nat} (h : ArS w F g s fr) (hs : s.length ≤ 1000000) {i : Int} (hi : look s i = none) :
    Calls Try.prog 18 #[.pointer (some ⟨g, 0, none⟩), .int .i64 i] w fun e w' => e = .returned (.tuple #[.string ⟨#[]⟩, .int .i64 5]) ∧ w = w' := by
  obtain ⟨vp, vf, ha, hF, hl⟩ := h
  exact atS_no 0 g vp vf s fr i w ha hs (look_none hi)

theorem capS_F {w : World} {F : Nat → Prop} {g : Nat} {s : List (Option ByteArray)} {fr : List Nat} (h : ArS w F g s fr) :
    Calls Try.prog 20 #[.pointer (some ⟨g, 0, none⟩)] w fun e w' => e = .returned (.int .i64 (s.length : Int)) ∧ w = w' := by
  obtain ⟨vp, vf, ha, hF, hl⟩ := h
  exact capS_any 0 g vp vf s fr w ha

theorem lenS_F {w : World} {F : Nat → Prop} {g : Nat} {s : List (Option ByteArray)} {fr : List Nat} (h : ArS w F g s fr) (hok : ArOk s fr) (hs : s.length ≤ 1000000) :
    Calls Try.prog 19 #[.pointer (some ⟨g, 0, none⟩)] w fun e w' => e = .returned (.int .i64 ((s.length : Int) - fr.length)) ∧ ∃ n, w' = w.drewN n := by
  obtain ⟨vp, vf, ha, hF, hl⟩ := h
  exact lenS_any 0 g vp vf s fr w ha hs hok.len
theorem takeS_to {w : World} {F : Nat → Prop} {g : Nat} {s : List (Option ByteArray)} {fr : List Nat} (h : ArS w F g s fr) (hok : ArOk s fr) (hs : s.length ≤ 1000000) (x : ByteArray) (m : Int) (s' : List (Option ByteArray)) (fr' : List Nat)
    (hm : (nextOf s fr : Int) = m) (hs' : takeS s fr x = s') (hf : fr.dropLast = fr') {B : Nat} {w0 : World} (hk : Keeps B w0 w F) :
    Calls Try.prog 15 #[.pointer (some ⟨g, 0, none⟩), .string x] w fun e w' => ∃ F', e = .returned (.int .i64 m) ∧ ArS w' F' g s' fr' ∧ ArOk s' fr' ∧ Keeps B w0 w' F' := by
  subst hm hs' hf
  refine (takeS_F h hok hs x).mono ?_
  rintro e w' ⟨F', rfl, h1, h2⟩
  exact ⟨F', rfl, h1, hok.take x, hk.next h2⟩

theorem freeS_to {w : World} {F : Nat → Prop} {g : Nat} {s : List (Option ByteArray)} {fr : List Nat} (h : ArS w F g s fr) (hok : ArOk s fr) (hs : s.length ≤ 1000000) (i : Int) (k : Nat) (y : ByteArray) (hi : i = k) (hk : s[k]? = some (some y)) (s' : List (Option ByteArray))
    (hs' : s.set k none = s') {B : Nat} {w0 : World} (hb : Keeps B w0 w F) :
    Calls Try.prog 16 #[.pointer (some ⟨g, 0, none⟩), .int .i64 i] w fun e w' => ∃ F', e = .returned (.int .i64 0) ∧ ArS w' F' g s' (fr ++ [k]) ∧ ArOk s' (fr ++ [k]) ∧ Keeps B w0 w' F' := by
  subst hi hs'
  refine (freeS_F h hok hs hk).mono ?_
  rintro e w' ⟨F', rfl, h1, h2⟩
  exact ⟨F', rfl, h1, hok.free hk, hb.next h2⟩

end Go.Proofs.Yteelmlhknfbjdaa
