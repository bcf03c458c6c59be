/-
  The walks of arena.Arena[string], written out of those of Arena[int64] by arena_string.py.
-/
import Derived.Test.YteelmlhknfbjdaaArenaR
namespace Go.Proofs.Yteelmlhknfbjdaa
open Go.RowKit

def encS (x : ByteArray) : Value := .string x

abbrev AtS (w : World) (base g : Nat) (vp vf : Value) (s : List (Option ByteArray)) (fr : List Nat) : Prop :=
  ArenaAt w base 69 71 3 encS (.string ⟨#[]⟩) g vp vf s fr

set_option maxHeartbeats 400000 in
theorem capS_any (base g : Nat) (vp vf : Value) (s : List (Option ByteArray)) (fr : List Nat) (w : World) (h : AtS w base g vp vf s fr) :
    Calls Try.prog 20 #[.pointer (some ⟨g, 0, none⟩)] w fun e w' => e = .returned (.int .i64 (s.length : Int)) ∧ w = w' := by
  have h0 := h.cell0
  obtain ⟨A, c, rfl, _⟩ := own_shape h.places
  go_enter Try.func20, Try.ntmps20
  go_wp2
  go_ret
  exact ⟨rfl, rfl⟩

set_option maxHeartbeats 400000 in
theorem lenS_any (base g : Nat) (vp vf : Value) (s : List (Option ByteArray)) (fr : List Nat) (w : World) (h : AtS w base g vp vf s fr) (hs : s.length ≤ 1000000) (hf : fr.length ≤ s.length) :
    Calls Try.prog 19 #[.pointer (some ⟨g, 0, none⟩)] w fun e w' => e = .returned (.int .i64 ((s.length : Int) - fr.length)) ∧ ∃ n, w' = w.drewN n := by
  have h0 := h.cell0
  have h1 := h.cell1
  obtain ⟨A, c, rfl, _⟩ := own_shape h.places
  obtain ⟨B, d, rfl, _⟩ := own_shape h.free
  obtain ⟨ns, hns⟩ : ∃ n, s.length = n := ⟨_, rfl⟩
  obtain ⟨nf, hnf⟩ : ∃ n, fr.length = n := ⟨_, rfl⟩
  rw [hns] at h0 hs hf ⊢
  rw [hnf] at h1 hf ⊢
  have hsI : (ns : Int) ≤ 1000000 := by omega
  have hfI : (nf : Int) ≤ ns := by omega
  clear hns hnf
  go_enter Try.func19, Try.ntmps19
  go_wp2_with fail
  go_quiet (fail)
  go_wp2_with fail
  go_ret
  exact ⟨rfl, _, rfl⟩

set_option maxHeartbeats 400000 in
theorem newS_any (w : World) :
    Calls Try.prog 13 #[] w fun e w' => e = .returned (.pointer (some ⟨w.heap.size, 0, none⟩)) ∧ AtS w' w.heap.size w.heap.size (.slice none 0 0) (.slice none 0 0) [] [] ∧ Below w.heap.size w w' := by
  go_enter Try.func13, Try.ntmps13
  go_wp2
  go_ret
  refine ⟨rfl, ⟨Nat.le_refl _, heap_alloc_new w _, World.ownsRow_nil _ _ _ _, World.ownsRow_nil _ _ _ _⟩, (Below.refl _ _).alloc (Nat.le_refl _) _⟩

set_option maxHeartbeats 1000000 in
theorem askedS_out (base g : Nat) (vp vf : Value) (s : List (Option ByteArray)) (fr : List Nat) (i : Int) (w : World) (h : AtS w base g vp vf s fr) (hi : i < 0 ∨ (s.length : Int) ≤ i) :
    Calls Try.prog 29 #[.pointer (some ⟨g, 0, none⟩), .int .i64 i] w fun e w' => e = .returned (.int .i64 5) ∧ w = w' := by
  have h0 := h.cell0
  obtain ⟨A, c, rfl, _⟩ := own_shape h.places
  have hh : i < 0 ∨ (¬ i < 0 ∧ (s.length : Int) ≤ i) := by omega
  clear hi
  rcases hh with hi | ⟨hi, hi2⟩
  all_goals
    go_enter Try.func29, Try.ntmps29
    go_wp2
    go_ret
    exact ⟨rfl, rfl⟩

set_option maxHeartbeats 1000000 in
theorem askedS_in (base g : Nat) (vp vf : Value) (s : List (Option ByteArray)) (fr : List Nat) (k : Nat) (w : World) (h : AtS w base g vp vf s fr) (hk : k < s.length) (hs : s.length ≤ 1000000) (t : Bool) (ht : s[k].isSome = t) :
    Calls Try.prog 29 #[.pointer (some ⟨g, 0, none⟩), .int .i64 k] w fun e w' => e = .returned (.int .i64 (if t then 0 else 5)) ∧ w = w' := by
  have h0 := h.cell0
  obtain ⟨b, c, rfl, hc, _, hcell, _⟩ := place_at h hk
  have h1 := hcell 1 (.bool t) (by omega) (by cases hq : s[k] <;> rw [hq] at ht <;> subst ht <;> rfl)
  obtain ⟨ns, hns⟩ : ∃ n, s.length = n := ⟨_, rfl⟩
  have hkI : (k : Int) < ns := by omega
  have hsI : (ns : Int) ≤ 1000000 := by omega
  rw [hns] at h0 hc
  clear hcell ht hns hs hk
  cases t
  all_goals
    go_enter Try.func29, Try.ntmps29
    go_wp2
    go_ret
    exact ⟨rfl, rfl⟩

set_option maxHeartbeats 1000000 in
theorem atS_no (base g : Nat) (vp vf : Value) (s : List (Option ByteArray)) (fr : List Nat) (i : Int) (w : World) (h : AtS w base g vp vf s fr) (hs : s.length ≤ 1000000)
    (hi : i < 0 ∨ (s.length : Int) ≤ i ∨ ∃ (hk : i.toNat < s.length), s[i.toNat] = none) :
    Calls Try.prog 18 #[.pointer (some ⟨g, 0, none⟩), .int .i64 i] w fun e w' => e = .returned (.tuple #[.string ⟨#[]⟩, .int .i64 5]) ∧ w = w' := by
  have H : Hid (Calls Try.prog 29 #[.pointer (some ⟨g, 0, none⟩), .int .i64 i] w fun e w' => e = .returned (.int .i64 5) ∧ w = w') := by
    by_cases ho : i < 0 ∨ (s.length : Int) ≤ i
    · exact Lib.hid (askedS_out base g vp vf s fr i w h ho)
    · rcases hi with hi | hi | ⟨hk, hn⟩
      · omega
      · omega
      · have := askedS_in base g vp vf s fr i.toNat w h hk hs false (by rw [hn]; rfl)
        rw [Int.toNat_of_nonneg (by omega)] at this
        exact Lib.hid this
  clear hi h hs
  go_enter Try.func18, Try.ntmps18
  go_wp2_with (go_at_call 29; refine H.out.mono ?_; rintro e w' ⟨rfl, rfl⟩)
  go_ret2
  exact ⟨rfl, rfl⟩

set_option maxHeartbeats 1000000 in
theorem atS_yes (base g : Nat) (vp vf : Value) (s : List (Option ByteArray)) (fr : List Nat) (k : Nat) (x : ByteArray) (w : World) (h : AtS w base g vp vf s fr) (hk : k < s.length) (hs : s.length ≤ 1000000) (hx : s[k] = some x) :
    Calls Try.prog 18 #[.pointer (some ⟨g, 0, none⟩), .int .i64 k] w fun e w' => e = .returned (.tuple #[.string x, .int .i64 0]) ∧ w = w' := by
  have H := Lib.hid (askedS_in base g vp vf s fr k w h hk hs true (by rw [hx]; rfl))
  have h0 := h.cell0
  obtain ⟨b, c, rfl, hc, _, hcell, _⟩ := place_at h hk
  have h1 := hcell 0 (.string x) (by omega) (by rw [hx]; rfl)
  rw [Nat.add_zero] at h1
  obtain ⟨ns, hns⟩ : ∃ n, s.length = n := ⟨_, rfl⟩
  have hkI : (k : Int) < ns := by omega
  have hsI : (ns : Int) ≤ 1000000 := by omega
  rw [hns] at h0 hc
  clear hcell hns hs hk hx
  go_enter Try.func18, Try.ntmps18
  go_wp2_with (go_at_call 29; refine H.out.mono ?_; rintro e w' ⟨rfl, rfl⟩; rw [if_pos rfl])
  go_ret2
  exact ⟨rfl, rfl⟩

set_option maxHeartbeats 1000000 in
theorem putS_yes (base g : Nat) (vp vf : Value) (s : List (Option ByteArray)) (fr : List Nat) (k : Nat) (x y : ByteArray) (w : World) (h : AtS w base g vp vf s fr) (hk : k < s.length) (hs : s.length ≤ 1000000) (hx : s[k] = some y) :
    Calls Try.prog 17 #[.pointer (some ⟨g, 0, none⟩), .int .i64 k, .string x] w fun e w' => e = .returned (.int .i64 0) ∧ AtS w' base g vp vf (s.set k (some x)) fr ∧ ArenaStep w w' g vp vf vp vf := by
  have H := Lib.hid (askedS_in base g vp vf s fr k w h hk hs true (by rw [hx]; rfl))
  have h0 := h.cell0
  obtain ⟨b, c, rfl, hc, _, hcell, hfz⟩ := place_at h hk
  have h1 := hcell 0 (.string y) (by omega) (by rw [hx]; rfl)
  have hfz := hfz (k * 2)
  rw [Nat.add_zero] at h1
  obtain ⟨ns, hns⟩ : ∃ n, s.length = n := ⟨_, rfl⟩
  have hkI : (k : Int) < ns := by omega
  have hsI : (ns : Int) ≤ 1000000 := by omega
  rw [hns] at h0 hc
  have HS := Lib.hid hns
  clear hcell hns hs
  go_enter Try.func17, Try.ntmps17
  go_wp2_with (go_at_call 29; refine H.out.mono ?_; rintro e w' ⟨rfl, rfl⟩; rw [if_pos rfl])
  go_ret
  have hst := h.places.stored (k * 2) (.string x)
  rw [show Value.string x = encS x from rfl, places_set1 encS _ s k hk x y hx] at hst
  refine ⟨rfl, ⟨h.low, ?_, by rw [List.length_set]; exact hst.1, h.free.kept hst.2 ?_⟩, ⟨rfl, rfl, rfl, hst.2.size, fun j hj _ hp _ => hst.2.block j hj (fun he => hp he.symm), .inl rfl, .inl rfl⟩⟩
  · show (w.setCell _ (encS x)).heap[g]? = _
    rw [hst.2.block g (Array.getElem?_eq_some_iff.1 h.blk).1 (fun he => row_ne_blk h.places h.blk (by decide) he.symm)]
    exact h.blk
  · exact row_ne_row h.free h.places (by decide)
theorem putS_no (base g : Nat) (vp vf : Value) (s : List (Option ByteArray)) (fr : List Nat) (i : Int) (x : ByteArray) (w : World) (h : AtS w base g vp vf s fr) (hs : s.length ≤ 1000000)
    (hi : i < 0 ∨ (s.length : Int) ≤ i ∨ ∃ (hk : i.toNat < s.length), s[i.toNat] = none) :
    Calls Try.prog 17 #[.pointer (some ⟨g, 0, none⟩), .int .i64 i, .string x] w fun e w' => e = .returned (.int .i64 5) ∧ w = w' := by
  have H : Hid (Calls Try.prog 29 #[.pointer (some ⟨g, 0, none⟩), .int .i64 i] w fun e w' => e = .returned (.int .i64 5) ∧ w = w') := by
    by_cases ho : i < 0 ∨ (s.length : Int) ≤ i
    · exact Lib.hid (askedS_out base g vp vf s fr i w h ho)
    · rcases hi with hi | hi | ⟨hk, hn⟩
      · omega
      · omega
      · have := askedS_in base g vp vf s fr i.toNat w h hk hs false (by rw [hn]; rfl)
        rw [Int.toNat_of_nonneg (by omega)] at this
        exact Lib.hid this
  clear hi h hs
  go_enter Try.func17, Try.ntmps17
  go_wp2_with (go_at_call 29; refine H.out.mono ?_; rintro e w' ⟨rfl, rfl⟩)
  go_ret
  exact ⟨rfl, rfl⟩

theorem freeS_no (base g : Nat) (vp vf : Value) (s : List (Option ByteArray)) (fr : List Nat) (i : Int) (w : World) (h : AtS w base g vp vf s fr) (hs : s.length ≤ 1000000)
    (hi : i < 0 ∨ (s.length : Int) ≤ i ∨ ∃ (hk : i.toNat < s.length), s[i.toNat] = none) :
    Calls Try.prog 16 #[.pointer (some ⟨g, 0, none⟩), .int .i64 i] w fun e w' => e = .returned (.int .i64 5) ∧ w = w' := by
  have H : Hid (Calls Try.prog 29 #[.pointer (some ⟨g, 0, none⟩), .int .i64 i] w fun e w' => e = .returned (.int .i64 5) ∧ w = w') := by
    by_cases ho : i < 0 ∨ (s.length : Int) ≤ i
    · exact Lib.hid (askedS_out base g vp vf s fr i w h ho)
    · rcases hi with hi | hi | ⟨hk, hn⟩
      · omega
      · omega
      · have := askedS_in base g vp vf s fr i.toNat w h hk hs false (by rw [hn]; rfl)
        rw [Int.toNat_of_nonneg (by omega)] at this
        exact Lib.hid this
  clear hi h hs
  go_enter Try.func16, Try.ntmps16
  go_wp2_with (go_at_call 29; refine H.out.mono ?_; rintro e w' ⟨rfl, rfl⟩)
  go_ret
  exact ⟨rfl, rfl⟩

theorem placeS_info : (Try.prog.info? 71).map (fun i => (i.zero, i.size, i.bytes)) = some (some (.agg #[.string ⟨#[]⟩, .bool false]), 2, 24) := by kernel_rfl

set_option maxHeartbeats 1000000 in
theorem freeS_yes (base g : Nat) (vp vf : Value) (s : List (Option ByteArray)) (fr : List Nat) (k : Nat) (y : ByteArray) (w : World) (h : AtS w base g vp vf s fr) (hk : k < s.length) (hs : s.length ≤ 1000000) (hf : fr.length ≤ 1000000) (hx : s[k] = some y) :
    Calls Try.prog 16 #[.pointer (some ⟨g, 0, none⟩), .int .i64 k] w fun e w' => ∃ vf', e = .returned (.int .i64 0) ∧ AtS w' base g vp vf' (s.set k none) (fr ++ [k]) ∧ ArenaStep w w' g vp vf vp vf' := by
  obtain ⟨i0, ii0, iz0, iz1, iz2⟩ := info_parts int_info
  have H := Lib.hid (askedS_in base g vp vf s fr k w h hk hs true (by rw [hx]; rfl))
  have h0 := h.cell0
  have h1 := h.cell1
  obtain ⟨b, c, rfl, hc, _, hcell, hfz⟩ := place_at h hk
  have c0 := hcell 0 (.string y) (by omega) (by rw [hx]; rfl)
  have c1 := hcell 1 (.bool true) (by omega) (by rw [hx]; rfl)
  have z0 := hfz (k * 2)
  have z1 := hfz (k * 2 + 1)
  rw [Nat.add_zero] at c0
  obtain ⟨ns, hns⟩ : ∃ n, s.length = n := ⟨_, rfl⟩
  have hkI : (k : Int) < ns := by omega
  have hsI : (ns : Int) ≤ 1000000 := by omega
  rw [hns] at h0 hc
  have HS := Lib.hid hns
  have HA2 := Lib.hid (h.set2 (by decide) (by decide) hk none (.string ⟨#[]⟩) (.bool false) rfl)
  have hf1 := HA2.out.1.cell1
  have hlow : base ≤ (((w.setCell ⟨b, k * 2, none⟩ (.string ⟨#[]⟩)).setCell ⟨b, k * 2 + 1, none⟩ (.bool false)).alloc (.cells #[.int .i64 (k : Int)] 3)).heap.size := by
    have h1 := h.low
    have h2 := h.lt
    simp
    omega
  clear hcell hns hs
  go_enter Try.func16, Try.ntmps16
  go_wp2_with (first
    | (go_at_call 29; refine H.out.mono ?_; rintro e w' ⟨rfl, rfl⟩; rw [if_pos rfl])
    | (at_builtin
       refine wpList_append_sees _ rfl _ _ _ rfl base 3 i0 _ 1 8 Try.underlying22 ii0 iz0 iz1 iz2 rfl (by omega) vf fr.length _ rfl
         (HA2.out.1.free.alloc _) _ _ 1 1 _ rfl (Sees.one_at _ w.heap.size _ _ (by simp)) (by intro u hu; simp at hu; subst hu; rfl) (by simp only [maxLen]; omega) (by omega) hlow ?_
       intro vf' w1 hown1 hg1 hat1 hnil1
       have hgr := grown_of_alloc hg1
       obtain ⟨d0, d1, d2, d3⟩ := HA2.out.1.newFree (vf' := vf') (fr' := fr ++ [k]) (by decide) (by decide) (by decide) hgr (by simpa using hown1)
       have D2 := Lib.hid d2
       have D3 := Lib.hid d3
       obtain ⟨B1, e1, hv1, _⟩ := own_shape hown1
       subst hv1
       clear d2 d3 hown1 hg1 hnil1))
  go_ret
  refine ⟨_, rfl, D2.out, ?_⟩
  have hs2 := HA2.out.2
  refine ⟨hgr.os.trans hs2.os, hgr.tape.trans hs2.tape, hgr.output.trans hs2.output, ?_, fun j hj hjg hjp hjf => ?_, .inl rfl, ?_⟩
  · rw [← D3.out]
    exact Nat.le_trans hs2.size hgr.size
  · rw [heap_setCell_other _ _ _ _ (fun e => hjg (by simpa using e))]
    rw [hgr.block j (Nat.lt_of_lt_of_le hj hs2.size) (fun e => hjf e.symm), hs2.block j hj (fun e => hjp e.symm)]
  · rcases hat1 with e | e
    · exact .inl e
    · exact .inr ⟨_, e, by simp⟩

set_option maxHeartbeats 1000000 in
theorem takeS_new (base g : Nat) (vp vf : Value) (s : List (Option ByteArray)) (x : ByteArray) (w : World) (h : AtS w base g vp vf s []) (hs : s.length ≤ 1000000) :
    Calls Try.prog 15 #[.pointer (some ⟨g, 0, none⟩), .string x] w fun e w' => ∃ vp', e = .returned (.int .i64 (s.length : Int)) ∧ AtS w' base g vp' vf (s ++ [some x]) [] ∧ ArenaStep w w' g vp vf vp' vf := by
  obtain ⟨i0, ii0, iz0, iz1, iz2⟩ := info_parts placeS_info
  have h0 := h.cell0
  have h1 := h.cell1
  obtain ⟨B, d, hvf, _⟩ := own_shape h.free
  have hvf0 : vf = .slice B 0 d := hvf
  subst hvf0
  have hlow : base ≤ (w.alloc (.cells #[.string x, .bool true] 71)).heap.size := by
    have h1 := h.low
    have h2 := h.lt
    simp
    omega
  have HA := Lib.hid h
  clear hvf
  go_enter Try.func15, Try.ntmps15
  go_wp2_with (
    at_builtin
    refine wpList_append_sees _ rfl _ _ _ rfl base 71 i0 _ 2 24 Try.underlying67 ii0 iz0 iz1 iz2 rfl (by omega) vp s.length _ rfl
      (HA.out.places.alloc _) _ _ 1 1 _ rfl (Sees.two_at _ w.heap.size _ _ _ (by simp)) (by intro u hu; simp at hu; rcases hu with rfl | rfl <;> rfl) (by simp only [maxLen]; omega) (by omega) hlow ?_
    intro vp' w1 hown1 hg1 hat1 hnil1
    have hgr := grown_of_alloc hg1
    obtain ⟨d0, d1, d2, d3⟩ := HA.out.newPlaces (vp' := vp') (s' := s ++ [some x]) (by decide) (by decide) (by decide) hgr (by simpa [placeCells, encS] using hown1)
    have D2 := Lib.hid d2
    have D3 := Lib.hid d3
    obtain ⟨B1, e1, hv1, _⟩ := own_shape hown1
    subst hv1
    have c2 := d2.cell0
    clear d2 d3 hown1 hg1 hnil1)
  go_ret
  refine ⟨_, ?_, D2.out, ?_⟩
  · simp
  · refine ⟨hgr.os, hgr.tape, hgr.output, ?_, fun j hj hjg hjp hjf => ?_, ?_, .inl rfl⟩
    · rw [← D3.out]
      exact hgr.size
    · rw [heap_setCell_other _ _ _ _ (fun e => hjg (by simpa using e))]
      exact hgr.block j hj (fun e => hjp e.symm)
    · rcases hat1 with e | e
      · exact .inl e
      · exact .inr ⟨_, e, by simp⟩

set_option maxHeartbeats 1000000 in
theorem takeS_old (base g : Nat) (vp vf : Value) (s : List (Option ByteArray)) (fr : List Nat) (i : Nat) (x : ByteArray) (w : World) (h : AtS w base g vp vf s (fr ++ [i])) (hi : i < s.length) (hin : s[i] = none) (hs : s.length ≤ 1000000) (hf : fr.length ≤ 1000000) :
    Calls Try.prog 15 #[.pointer (some ⟨g, 0, none⟩), .string x] w fun e w' => ∃ vf', e = .returned (.int .i64 (i : Int)) ∧ AtS w' base g vp vf' (s.set i (some x)) fr ∧ ArenaStep w w' g vp vf vp vf' := by
  have h0 := h.cell0
  have h1 := h.cell1
  obtain ⟨b, c, rfl, hc, _, hcell, hfz⟩ := place_at h hi
  have k0 := hcell 0 (.string ⟨#[]⟩) (by omega) (by rw [hin]; rfl)
  have k1 := hcell 1 (.bool false) (by omega) (by rw [hin]; rfl)
  rw [Nat.add_zero] at k0
  have hfree := h.free
  rw [List.length_append, List.length_singleton] at hfree
  obtain ⟨B, d, rfl, hd, _, hn0, hb0⟩ := own_shape hfree
  obtain ⟨bf, rfl⟩ : ∃ bf, B = some ⟨bf, 0, none⟩ := by
    cases B with
    | none => have := (hn0 rfl).1; omega
    | some ad => obtain ⟨bf, rfl, _⟩ := hb0 ad rfl; exact ⟨bf, rfl⟩
  have hfc := hfree.cellAt fr.length (by omega)
  rw [List.map_append, List.getElem?_append_right (by simp), List.length_map, Nat.sub_self] at hfc
  simp only [List.map_cons, List.map_nil, List.getElem?_cons_zero] at hfc
  have hless := own_less hfree
  rw [List.map_append, List.take_left' (by simp)] at hless
  obtain ⟨d0, d1, d2, d3⟩ := h.newFree (vf' := .slice (some ⟨bf, 0, none⟩) fr.length d) (fr' := fr) (by decide) (by decide) (by decide) (World.grownBy.refl _ _) hless
  have e2 := d2.set2 (by decide) (by decide) hi (some x) (.string x) (.bool true) rfl
  obtain ⟨b', c', hvp', _, _, hcell', hfz'⟩ := place_at d2 hi
  injection hvp' with q1 q2 q3
  injection q1 with q1
  injection q1 with q1
  subst q1
  subst q3
  have m0 := hcell' 0 (.string ⟨#[]⟩) (by omega) (by rw [hin]; rfl)
  have m1 := hcell' 1 (.bool false) (by omega) (by rw [hin]; rfl)
  rw [Nat.add_zero] at m0
  have m2 := hfz' (i * 2)
  have m3 := hfz' (i * 2 + 1)
  have m4 := d2.cell0
  have E2 := Lib.hid e2
  have D3 := Lib.hid d3
  obtain ⟨ns, hns⟩ : ∃ n, s.length = n := ⟨_, rfl⟩
  obtain ⟨nf, hnf⟩ : ∃ n, fr.length = n := ⟨_, rfl⟩
  have hiI : (i : Int) < ns := by omega
  have hsI : (ns : Int) ≤ 1000000 := by omega
  have hfI : (nf : Int) ≤ 1000000 := by omega
  rw [hnf] at h1 hd hfc m0 m1 m2 m3 m4
  rw [hns] at h0 hc m4
  have HNS := Lib.hid hns
  have HNF := Lib.hid hnf
  clear hcell hcell' hns hnf hs hf d2 d3 e2 hless hfree hn0 hb0 d0
  go_enter Try.func15, Try.ntmps15
  go_wp2_with fail
  go_ret
  refine ⟨rfl, .slice (some ⟨bf, 0, none⟩) nf d, ?_, ?_⟩
  · have := E2.out.1
    rw [HNF.out] at this
    simpa using this
  · have hs2 := E2.out.2
    rw [HNF.out] at hs2
    refine ⟨hs2.os, hs2.tape, hs2.output, ?_, fun j hj hjg hjp hjf => ?_, .inl rfl, .inl rfl⟩
    · have := hs2.size
      simp [World.setCell] at this ⊢
    · rw [hs2.block j (by simpa [World.setCell] using hj) (fun e => hjp e.symm)]
      exact heap_setCell_other _ _ _ _ (fun e => hjg (by simpa using e))

end Go.Proofs.Yteelmlhknfbjdaa
