/-
  The walks of arena.Arena[int64].
-/
import Derived.Test.YteelmlhknfbjdaaRows
import Derived.Test.YteelmlhknfbjdaaWords
import Derived.BigQuiet
import Derived.Deep.QuietTactic
namespace Go.Proofs.Yteelmlhknfbjdaa
open Go.RowKit

variable {α : Type}

/-- A place as cells: the thing, and whether it is taken. -/
def placeCells (enc : α → Value) (zero : Value) : Option α → List Value
  | some x => [enc x, .bool true]
  | none => [zero, .bool false]

/-- The arena behind the pointer ⟨g, 0⟩: its two slices vp, vf; the places s; the free ones fr. -/
structure ArenaAt (w : World) (base : Nat) (tA tP tI : TypeId) (enc : α → Value) (zero : Value) (g : Nat) (vp vf : Value) (s : List (Option α)) (fr : List Nat) : Prop where
  low : base ≤ g
  blk : w.heap[g]? = some (.cells #[vp, vf] tA (0, 0))
  places : w.ownsRow base tP 2 vp s.length (s.flatMap (placeCells enc zero))
  free : w.ownsRow base tI 1 vf fr.length (fr.map fun (i : Nat) => Value.int .i64 (i : Int))

theorem ArenaAt.cell0 {w : World} {base : Nat} {tA tP tI : TypeId} {enc : α → Value} {zero : Value} {g : Nat} {vp vf : Value} {s : List (Option α)} {fr : List Nat} (h : ArenaAt w base tA tP tI enc zero g vp vf s fr) : w.cell? ⟨g, 0, none⟩ = some vp := by
  rw [cell_of_row w g 0 _ _ _ h.blk]; rfl
theorem ArenaAt.cell1 {w : World} {base : Nat} {tA tP tI : TypeId} {enc : α → Value} {zero : Value} {g : Nat} {vp vf : Value} {s : List (Option α)} {fr : List Nat} (h : ArenaAt w base tA tP tI enc zero g vp vf s fr) : w.cell? ⟨g, 1, none⟩ = some vf := by
  rw [cell_of_row w g 1 _ _ _ h.blk]; rfl

theorem place_len (enc : α → Value) (zero : Value) (o : Option α) : (placeCells enc zero o).length = 2 := by cases o <;> rfl

theorem places_len (enc : α → Value) (zero : Value) (s : List (Option α)) : (s.flatMap (placeCells enc zero)).length = s.length * 2 := by
  induction s with
  | nil => rfl
  | cons o s ih => rw [List.flatMap_cons, List.length_append, ih, place_len, List.length_cons]; omega

/-- What the cells of the k-th place are. -/
theorem places_get (enc : α → Value) (zero : Value) : ∀ (s : List (Option α)) (k j : Nat), j < 2 → (s.flatMap (placeCells enc zero))[k * 2 + j]? = (s[k]?).bind fun o => (placeCells enc zero o)[j]? := by
  intro s
  induction s with
  | nil => intro k j _; simp
  | cons o s ih =>
    intro k j hj
    rw [List.flatMap_cons]
    cases k with
    | zero => rw [List.getElem?_append_left (by rw [place_len]; omega)]; simp
    | succ k =>
      rw [List.getElem?_append_right (by rw [place_len]; omega), place_len, show (k + 1) * 2 + j - 2 = k * 2 + j by omega, ih k j hj]
      simp

theorem places_set (enc : α → Value) (zero : Value) (s : List (Option α)) (k : Nat) (hk : k < s.length) (o : Option α) (v0 v1 : Value) (ho : placeCells enc zero o = [v0, v1]) :
    (((s.flatMap (placeCells enc zero)).set (k * 2) v0).set (k * 2 + 1) v1) = (s.set k o).flatMap (placeCells enc zero) := by
  apply List.ext_getElem?
  intro i
  have hi : i = i / 2 * 2 + i % 2 := by omega
  rw [List.getElem?_set, List.getElem?_set]
  simp only [List.length_set, places_len]
  by_cases h1 : k * 2 + 1 = i
  · subst h1
    rw [if_pos rfl, if_pos (by omega), places_get _ _ _ _ _ (by omega), List.getElem?_set_self (by omega)]
    simp [ho]
  · rw [if_neg h1]
    by_cases h0 : k * 2 = i
    · subst h0
      have := places_get enc zero (s.set k o) k 0 (by omega)
      rw [Nat.add_zero] at this
      rw [if_pos rfl, if_pos (by omega), this, List.getElem?_set_self (by omega)]
      simp [ho]
    · rw [if_neg h0, hi, places_get _ _ _ _ _ (by omega), places_get _ _ _ _ _ (by omega), List.getElem?_set_ne (by omega)]

theorem places_set1 (enc : α → Value) (zero : Value) (s : List (Option α)) (k : Nat) (hk : k < s.length) (x y : α) (hs : s[k] = some y) :
    ((s.flatMap (placeCells enc zero)).set (k * 2) (enc x)) = (s.set k (some x)).flatMap (placeCells enc zero) := by
  rw [← places_set enc zero s k hk (some x) (enc x) (.bool true) rfl]
  apply List.ext_getElem?
  intro i
  rw [List.getElem?_set (i := k * 2 + 1)]
  by_cases h1 : k * 2 + 1 = i
  · subst h1
    rw [if_pos rfl, if_pos (by rw [List.length_set, places_len]; omega), List.getElem?_set_ne (by omega), places_get _ _ _ _ _ (by omega), List.getElem?_eq_getElem hk, hs]
    rfl
  · rw [if_neg h1]

def encI (x : Int) : Value := .int .i64 x

abbrev AtI (w : World) (base g : Nat) (vp vf : Value) (s : List (Option Int)) (fr : List Nat) : Prop :=
  ArenaAt w base 62 66 3 encI (.int .i64 0) g vp vf s fr

set_option maxHeartbeats 400000 in
theorem capI_any (base g : Nat) (vp vf : Value) (s : List (Option Int)) (fr : List Nat) (w : World) (h : AtI w base g vp vf s fr) :
    Calls Try.prog 12 #[.pointer (some ⟨g, 0, none⟩)] w fun e w' => e = .returned (.int .i64 (s.length : Int)) ∧ w = w' := by
  have h0 := h.cell0
  obtain ⟨A, c, rfl, _⟩ := own_shape h.places
  go_enter Try.func12, Try.ntmps12
  go_wp2
  go_ret
  exact ⟨rfl, rfl⟩

set_option maxHeartbeats 400000 in
theorem lenI_any (base g : Nat) (vp vf : Value) (s : List (Option Int)) (fr : List Nat) (w : World) (h : AtI w base g vp vf s fr) (hs : s.length ≤ 1000000) (hf : fr.length ≤ s.length) :
    Calls Try.prog 11 #[.pointer (some ⟨g, 0, none⟩)] w fun e w' => e = .returned (.int .i64 ((s.length : Int) - fr.length)) ∧ ∃ n, w' = w.drewN n := by
  have h0 := h.cell0
  have h1 := h.cell1
  obtain ⟨A, c, rfl, _⟩ := own_shape h.places
  obtain ⟨B, d, rfl, _⟩ := own_shape h.free
  obtain ⟨ns, hns⟩ : ∃ n, s.length = n := ⟨_, rfl⟩
  obtain ⟨nf, hnf⟩ : ∃ n, fr.length = n := ⟨_, rfl⟩
  rw [hns] at h0 hs hf ⊢
  rw [hnf] at h1 hf ⊢
  have hsI : (ns : Int) ≤ 1000000 := by omega
  have hfI : (nf : Int) ≤ ns := by omega
  clear hns hnf
  go_enter Try.func11, Try.ntmps11
  go_wp2_with fail
  go_quiet (fail)
  go_wp2_with fail
  go_ret
  exact ⟨rfl, _, rfl⟩

set_option maxHeartbeats 400000 in
theorem newI_any (w : World) :
    Calls Try.prog 8 #[] w fun e w' => e = .returned (.pointer (some ⟨w.heap.size, 0, none⟩)) ∧ AtI w' w.heap.size w.heap.size (.slice none 0 0) (.slice none 0 0) [] [] ∧ Below w.heap.size w w' := by
  go_enter Try.func8, Try.ntmps8
  go_wp2
  go_ret
  refine ⟨rfl, ⟨Nat.le_refl _, heap_alloc_new w _, World.ownsRow_nil _ _ _ _, World.ownsRow_nil _ _ _ _⟩, (Below.refl _ _).alloc (Nat.le_refl _) _⟩

set_option maxHeartbeats 1000000 in
theorem askedI_out (base g : Nat) (vp vf : Value) (s : List (Option Int)) (fr : List Nat) (i : Int) (w : World) (h : AtI w base g vp vf s fr) (hi : i < 0 ∨ (s.length : Int) ≤ i) :
    Calls Try.prog 28 #[.pointer (some ⟨g, 0, none⟩), .int .i64 i] w fun e w' => e = .returned (.int .i64 5) ∧ w = w' := by
  have h0 := h.cell0
  obtain ⟨A, c, rfl, _⟩ := own_shape h.places
  have hh : i < 0 ∨ (¬ i < 0 ∧ (s.length : Int) ≤ i) := by omega
  clear hi
  rcases hh with hi | ⟨hi, hi2⟩
  all_goals
    go_enter Try.func28, Try.ntmps28
    go_wp2
    go_ret
    exact ⟨rfl, rfl⟩

/-- The places' address, where there is one; the cells of the k-th. -/
theorem place_at {w : World} {base : Nat} {tA tP tI : TypeId} {enc : α → Value} {zero : Value} {g : Nat} {vp vf : Value} {s : List (Option α)} {fr : List Nat} (h : ArenaAt w base tA tP tI enc zero g vp vf s fr) {k : Nat} (hk : k < s.length) :
    ∃ b c, vp = .slice (some ⟨b, 0, none⟩) s.length c ∧ s.length ≤ c ∧ base ≤ b ∧ (∀ j v, j < 2 → (placeCells enc zero s[k])[j]? = some v → w.cell? ⟨b, k * 2 + j, none⟩ = some v) ∧ (∀ j, w.frozen? ⟨b, j, none⟩ = false) := by
  obtain ⟨A, c, rfl, hc, _, hn, hs⟩ := own_shape h.places
  cases A with
  | none => have := (hn rfl).1; omega
  | some ad =>
    obtain ⟨b, rfl, hb, _⟩ := hs ad rfl
    refine ⟨b, c, rfl, hc, hb, fun j v hj hv => ?_, fun j => h.places.frozenAt j⟩
    rw [h.places.cellAt (k * 2 + j) (by omega), places_get _ _ _ _ _ hj, List.getElem?_eq_getElem hk]
    exact hv

set_option maxHeartbeats 1000000 in
theorem askedI_in (base g : Nat) (vp vf : Value) (s : List (Option Int)) (fr : List Nat) (k : Nat) (w : World) (h : AtI w base g vp vf s fr) (hk : k < s.length) (hs : s.length ≤ 1000000) (t : Bool) (ht : s[k].isSome = t) :
    Calls Try.prog 28 #[.pointer (some ⟨g, 0, none⟩), .int .i64 k] w fun e w' => e = .returned (.int .i64 (if t then 0 else 5)) ∧ w = w' := by
  have h0 := h.cell0
  obtain ⟨b, c, rfl, hc, _, hcell, _⟩ := place_at h hk
  have h1 := hcell 1 (.bool t) (by omega) (by cases hq : s[k] <;> rw [hq] at ht <;> subst ht <;> rfl)
  obtain ⟨ns, hns⟩ : ∃ n, s.length = n := ⟨_, rfl⟩
  have hkI : (k : Int) < ns := by omega
  have hsI : (ns : Int) ≤ 1000000 := by omega
  rw [hns] at h0 hc
  clear hcell ht hns hs hk
  cases t
  all_goals
    go_enter Try.func28, Try.ntmps28
    go_wp2
    go_ret
    exact ⟨rfl, rfl⟩
/-- What has changed at most, behind a call on the arena: its own blocks; and what its blocks are then. -/
structure ArenaStep (w w' : World) (g : Nat) (vp vf vp' vf' : Value) : Prop where
  os : w'.os = w.os
  tape : w'.tape = w.tape
  output : w'.output = w.output
  size : w.heap.size ≤ w'.heap.size
  block : ∀ k, k < w.heap.size → k ≠ g → vp.ownBlock ≠ some k → vf.ownBlock ≠ some k → w'.heap[k]? = w.heap[k]?
  newp : vp'.ownBlock = vp.ownBlock ∨ ∃ k, vp'.ownBlock = some k ∧ w.heap.size ≤ k
  newf : vf'.ownBlock = vf.ownBlock ∨ ∃ k, vf'.ownBlock = some k ∧ w.heap.size ≤ k

theorem ArenaStep.refl (w : World) (g : Nat) (vp vf : Value) : ArenaStep w w g vp vf vp vf := ⟨rfl, rfl, rfl, Nat.le_refl _, fun _ _ _ _ _ => rfl, .inl rfl, .inl rfl⟩

/-- Rows and structs of other element types are other blocks. -/
theorem row_ne_blk {w : World} {base g : Nat} {e t : TypeId} {size n : Nat} {v : Value} {xs : List Value} {cs : Array Value} (h : w.ownsRow base e size v n xs) (hg : w.heap[g]? = some (.cells cs t (0, 0))) (hne : e ≠ t) : v.ownBlock ≠ some g := by
  rcases h.2 with ⟨rfl, _⟩ | ⟨g', cap, cur, rfl, _, hh, _⟩
  · simp [Value.ownBlock]
  · intro he
    have : g' = g := by simpa [Value.ownBlock] using he
    subst this
    rw [hh] at hg
    injection hg with hg
    injection hg with _ ht
    exact hne ht

theorem row_ne_row {w : World} {base base' : Nat} {e e' : TypeId} {size size' n n' : Nat} {v v' : Value} {xs xs' : List Value} (h : w.ownsRow base e size v n xs) (h' : w.ownsRow base' e' size' v' n' xs') (hne : e ≠ e') : v.ownBlock = none ∨ v.ownBlock ≠ v'.ownBlock := by
  rcases h.2 with ⟨rfl, _⟩ | ⟨g, cap, cur, rfl, _, hh, _⟩
  · exact .inl rfl
  · refine .inr fun he => ?_
    rcases h'.2 with ⟨rfl, _⟩ | ⟨g', cap', cur', rfl, _, hh', _⟩
    · simp [Value.ownBlock] at he
    · have : g = g' := by simpa [Value.ownBlock] using he
      subst this
      rw [hh] at hh'
      injection hh' with hh'
      injection hh' with _ ht
      exact hne ht

set_option maxHeartbeats 1000000 in
theorem atI_no (base g : Nat) (vp vf : Value) (s : List (Option Int)) (fr : List Nat) (i : Int) (w : World) (h : AtI w base g vp vf s fr) (hs : s.length ≤ 1000000)
    (hi : i < 0 ∨ (s.length : Int) ≤ i ∨ ∃ (hk : i.toNat < s.length), s[i.toNat] = none) :
    Calls Try.prog 25 #[.pointer (some ⟨g, 0, none⟩), .int .i64 i] w fun e w' => e = .returned (.tuple #[.int .i64 0, .int .i64 5]) ∧ w = w' := by
  have H : Hid (Calls Try.prog 28 #[.pointer (some ⟨g, 0, none⟩), .int .i64 i] w fun e w' => e = .returned (.int .i64 5) ∧ w = w') := by
    by_cases ho : i < 0 ∨ (s.length : Int) ≤ i
    · exact Lib.hid (askedI_out base g vp vf s fr i w h ho)
    · rcases hi with hi | hi | ⟨hk, hn⟩
      · omega
      · omega
      · have := askedI_in base g vp vf s fr i.toNat w h hk hs false (by rw [hn]; rfl)
        rw [Int.toNat_of_nonneg (by omega)] at this
        exact Lib.hid this
  clear hi h hs
  go_enter Try.func25, Try.ntmps25
  go_wp2_with (go_at_call 28; refine H.out.mono ?_; rintro e w' ⟨rfl, rfl⟩)
  go_ret2
  exact ⟨rfl, rfl⟩

set_option maxHeartbeats 1000000 in
theorem atI_yes (base g : Nat) (vp vf : Value) (s : List (Option Int)) (fr : List Nat) (k : Nat) (x : Int) (w : World) (h : AtI w base g vp vf s fr) (hk : k < s.length) (hs : s.length ≤ 1000000) (hx : s[k] = some x) :
    Calls Try.prog 25 #[.pointer (some ⟨g, 0, none⟩), .int .i64 k] w fun e w' => e = .returned (.tuple #[.int .i64 x, .int .i64 0]) ∧ w = w' := by
  have H := Lib.hid (askedI_in base g vp vf s fr k w h hk hs true (by rw [hx]; rfl))
  have h0 := h.cell0
  obtain ⟨b, c, rfl, hc, _, hcell, _⟩ := place_at h hk
  have h1 := hcell 0 (.int .i64 x) (by omega) (by rw [hx]; rfl)
  rw [Nat.add_zero] at h1
  obtain ⟨ns, hns⟩ : ∃ n, s.length = n := ⟨_, rfl⟩
  have hkI : (k : Int) < ns := by omega
  have hsI : (ns : Int) ≤ 1000000 := by omega
  rw [hns] at h0 hc
  clear hcell hns hs hk hx
  go_enter Try.func25, Try.ntmps25
  go_wp2_with (go_at_call 28; refine H.out.mono ?_; rintro e w' ⟨rfl, rfl⟩; rw [if_pos rfl])
  go_ret2
  exact ⟨rfl, rfl⟩

set_option maxHeartbeats 1000000 in
theorem putI_yes (base g : Nat) (vp vf : Value) (s : List (Option Int)) (fr : List Nat) (k : Nat) (x y : Int) (w : World) (h : AtI w base g vp vf s fr) (hk : k < s.length) (hs : s.length ≤ 1000000) (hx : s[k] = some y) :
    Calls Try.prog 24 #[.pointer (some ⟨g, 0, none⟩), .int .i64 k, .int .i64 x] w fun e w' => e = .returned (.int .i64 0) ∧ AtI w' base g vp vf (s.set k (some x)) fr ∧ ArenaStep w w' g vp vf vp vf := by
  have H := Lib.hid (askedI_in base g vp vf s fr k w h hk hs true (by rw [hx]; rfl))
  have h0 := h.cell0
  obtain ⟨b, c, rfl, hc, _, hcell, hfz⟩ := place_at h hk
  have h1 := hcell 0 (.int .i64 y) (by omega) (by rw [hx]; rfl)
  have hfz := hfz (k * 2)
  rw [Nat.add_zero] at h1
  obtain ⟨ns, hns⟩ : ∃ n, s.length = n := ⟨_, rfl⟩
  have hkI : (k : Int) < ns := by omega
  have hsI : (ns : Int) ≤ 1000000 := by omega
  rw [hns] at h0 hc
  have HS := Lib.hid hns
  clear hcell hns hs
  go_enter Try.func24, Try.ntmps24
  go_wp2_with (go_at_call 28; refine H.out.mono ?_; rintro e w' ⟨rfl, rfl⟩; rw [if_pos rfl])
  go_ret
  have hst := h.places.stored (k * 2) (.int .i64 x)
  rw [show Value.int .i64 x = encI x from rfl, places_set1 encI _ s k hk x y hx] at hst
  refine ⟨rfl, ⟨h.low, ?_, by rw [List.length_set]; exact hst.1, h.free.kept hst.2 ?_⟩, ⟨rfl, rfl, rfl, hst.2.size, fun j hj _ hp _ => hst.2.block j hj (fun he => hp he.symm), .inl rfl, .inl rfl⟩⟩
  · show (w.setCell _ (encI x)).heap[g]? = _
    rw [hst.2.block g (Array.getElem?_eq_some_iff.1 h.blk).1 (fun he => row_ne_blk h.places h.blk (by decide) he.symm)]
    exact h.blk
  · exact row_ne_row h.free h.places (by decide)
theorem putI_no (base g : Nat) (vp vf : Value) (s : List (Option Int)) (fr : List Nat) (i x : Int) (w : World) (h : AtI w base g vp vf s fr) (hs : s.length ≤ 1000000)
    (hi : i < 0 ∨ (s.length : Int) ≤ i ∨ ∃ (hk : i.toNat < s.length), s[i.toNat] = none) :
    Calls Try.prog 24 #[.pointer (some ⟨g, 0, none⟩), .int .i64 i, .int .i64 x] w fun e w' => e = .returned (.int .i64 5) ∧ w = w' := by
  have H : Hid (Calls Try.prog 28 #[.pointer (some ⟨g, 0, none⟩), .int .i64 i] w fun e w' => e = .returned (.int .i64 5) ∧ w = w') := by
    by_cases ho : i < 0 ∨ (s.length : Int) ≤ i
    · exact Lib.hid (askedI_out base g vp vf s fr i w h ho)
    · rcases hi with hi | hi | ⟨hk, hn⟩
      · omega
      · omega
      · have := askedI_in base g vp vf s fr i.toNat w h hk hs false (by rw [hn]; rfl)
        rw [Int.toNat_of_nonneg (by omega)] at this
        exact Lib.hid this
  clear hi h hs
  go_enter Try.func24, Try.ntmps24
  go_wp2_with (go_at_call 28; refine H.out.mono ?_; rintro e w' ⟨rfl, rfl⟩)
  go_ret
  exact ⟨rfl, rfl⟩

theorem freeI_no (base g : Nat) (vp vf : Value) (s : List (Option Int)) (fr : List Nat) (i : Int) (w : World) (h : AtI w base g vp vf s fr) (hs : s.length ≤ 1000000)
    (hi : i < 0 ∨ (s.length : Int) ≤ i ∨ ∃ (hk : i.toNat < s.length), s[i.toNat] = none) :
    Calls Try.prog 10 #[.pointer (some ⟨g, 0, none⟩), .int .i64 i] w fun e w' => e = .returned (.int .i64 5) ∧ w = w' := by
  have H : Hid (Calls Try.prog 28 #[.pointer (some ⟨g, 0, none⟩), .int .i64 i] w fun e w' => e = .returned (.int .i64 5) ∧ w = w') := by
    by_cases ho : i < 0 ∨ (s.length : Int) ≤ i
    · exact Lib.hid (askedI_out base g vp vf s fr i w h ho)
    · rcases hi with hi | hi | ⟨hk, hn⟩
      · omega
      · omega
      · have := askedI_in base g vp vf s fr i.toNat w h hk hs false (by rw [hn]; rfl)
        rw [Int.toNat_of_nonneg (by omega)] at this
        exact Lib.hid this
  clear hi h hs
  go_enter Try.func10, Try.ntmps10
  go_wp2_with (go_at_call 28; refine H.out.mono ?_; rintro e w' ⟨rfl, rfl⟩)
  go_ret
  exact ⟨rfl, rfl⟩

theorem ArenaAt.lt {w : World} {base : Nat} {tA tP tI : TypeId} {enc : α → Value} {zero : Value} {g : Nat} {vp vf : Value} {s : List (Option α)} {fr : List Nat} (h : ArenaAt w base tA tP tI enc zero g vp vf s fr) : g < w.heap.size :=
  (Array.getElem?_eq_some_iff.1 h.blk).1

/-- A place written whole. -/
theorem ArenaAt.set2 {w : World} {base : Nat} {tA tP tI : TypeId} {enc : α → Value} {zero : Value} {g : Nat} {vf : Value} {s : List (Option α)} {fr : List Nat} {b c : Nat} (h : ArenaAt w base tA tP tI enc zero g (.slice (some ⟨b, 0, none⟩) s.length c) vf s fr)
    (h1 : tP ≠ tA) (h2 : tI ≠ tP) {k : Nat} (hk : k < s.length) (o : Option α) (v0 v1 : Value) (ho : placeCells enc zero o = [v0, v1]) :
    ArenaAt ((w.setCell ⟨b, k * 2, none⟩ v0).setCell ⟨b, k * 2 + 1, none⟩ v1) base tA tP tI enc zero g (.slice (some ⟨b, 0, none⟩) s.length c) vf (s.set k o) fr ∧
      w.grownBy ((w.setCell ⟨b, k * 2, none⟩ v0).setCell ⟨b, k * 2 + 1, none⟩ v1) (some b) := by
  have s1 := h.places.stored (k * 2) v0
  have s2 := s1.1.stored (k * 2 + 1) v1
  have hg : w.grownBy ((w.setCell ⟨b, k * 2, none⟩ v0).setCell ⟨b, k * 2 + 1, none⟩ v1) (some b) :=
    ⟨rfl, rfl, rfl, Nat.le_trans s1.2.size s2.2.size, fun j hj hne => (s2.2.block j (Nat.lt_of_lt_of_le hj s1.2.size) hne).trans (s1.2.block j hj hne)⟩
  refine ⟨⟨h.low, ?_, ?_, h.free.kept hg (row_ne_row h.free h.places h2)⟩, hg⟩
  · rw [hg.block g h.lt (fun he => row_ne_blk h.places h.blk h1 he.symm)]
    exact h.blk
  · rw [List.length_set, ← places_set enc zero s k hk o v0 v1 ho]
    exact s2.1

/-- Another row of free places, laid and named in the arena's second field. -/
theorem ArenaAt.newFree {w w1 : World} {base : Nat} {tA tP tI : TypeId} {enc : α → Value} {zero : Value} {g : Nat} {vp vf vf' : Value} {s : List (Option α)} {fr fr' : List Nat} (h : ArenaAt w base tA tP tI enc zero g vp vf s fr)
    (h0 : tP ≠ tA) (h1 : tI ≠ tA) (h2 : tP ≠ tI) (hg : w.grownBy w1 vf.ownBlock) (hown : w1.ownsRow base tI 1 vf' fr'.length (fr'.map fun (i : Nat) => Value.int .i64 (i : Int))) :
    w1.cell? ⟨g, 1, none⟩ = some vf ∧ w1.frozen? ⟨g, 1, none⟩ = false ∧ ArenaAt (w1.setCell ⟨g, 1, none⟩ vf') base tA tP tI enc zero g vp vf' s fr' ∧ w1.heap.size = (w1.setCell ⟨g, 1, none⟩ vf').heap.size := by
  have hb1 : w1.heap[g]? = some (.cells #[vp, vf] tA (0, 0)) := by
    rw [hg.block g h.lt (fun he => row_ne_blk h.free h.blk h1 he.symm)]
    exact h.blk
  have hp1 : w1.ownsRow base tP 2 vp s.length (s.flatMap (placeCells enc zero)) := h.places.kept hg (row_ne_row h.places h.free h2)
  have hgs : w1.grownBy (w1.setCell ⟨g, 1, none⟩ vf') (some g) := ⟨rfl, rfl, rfl, by simp [World.setCell], fun k _ hk => heap_setCell_other w1 ⟨g, 1, none⟩ k vf' (fun e => hk (by simp [e]))⟩
  refine ⟨by rw [cell_of_row w1 g 1 _ _ _ hb1]; rfl, frozen_of_row w1 g 1 _ _ hb1, ⟨h.low, ?_, hp1.kept hgs ?_, hown.kept hgs ?_⟩, by simp [World.setCell]⟩
  · have := heap_setCell_same w1 g 1 _ _ vf' hb1
    simpa using this
  · exact .inr (row_ne_blk hp1 hb1 h0)
  · exact .inr (row_ne_blk hown hb1 h1)

theorem grown_of_alloc {w w1 : World} {o : Obj} {row : Option Nat} (h : (w.alloc o).grownBy w1 row) : w.grownBy w1 row :=
  ⟨h.os, h.tape, h.output, Nat.le_trans (Nat.le_of_lt (by show w.heap.size < (w.heap.push o).size; rw [Array.size_push]; omega)) h.size, fun j hj hne => (h.block j (by show j < (w.heap.push o).size; rw [Array.size_push]; omega) hne).trans (Below.heap_alloc _ _ j hj)⟩

theorem int_info : (Try.prog.info? 3).map (fun i => (i.zero, i.size, i.bytes)) = some (some (.int .i64 0), 1, 8) := by kernel_rfl
theorem placeI_info : (Try.prog.info? 66).map (fun i => (i.zero, i.size, i.bytes)) = some (some (.agg #[.int .i64 0, .bool false]), 2, 16) := by kernel_rfl

end Go.Proofs.Yteelmlhknfbjdaa
