/-
  The walk of the law WireWrites.
-/
import Derived.Test.YtdhcnolbiocneaaWireOwn
import Derived.Test.YtdhcnolbiocneaaHeld
namespace Go.Proofs.Ytdhcnolbiocneaa
open Go.RowKit

set_option maxRecDepth 100000 in
set_option maxHeartbeats 1000000 in
theorem writes_big (A : Option Addr) (n c : Nat) (B : Option Addr) (m d : Nat) (x0 i : Int) (w : World) (hn : 2000 < n ∨ 2000 < m) :
    Calls Try.prog 5 #[.slice A n c, .slice B m d, .int .u64 x0, .int .i64 i] w fun e w' => e = .returned (.bool true) ∧ Below w.heap.size w w' := by
  have hh : ((2000 : Int) < n) ∨ ((n : Int) ≤ 2000 ∧ (2000 : Int) < m) := by omega
  clear hn
  rcases hh with h | ⟨h, h'⟩
  all_goals
    go_enter Try.func5, Try.ntmps5
    go_wp2_with (go_at_call 9; refine (known_any _).mono ?_; rintro e w1 ⟨rfl, hb1⟩)
    go_ret
    exact ⟨rfl, hb1⟩

theorem spliced_row {w1 : World} {g n : Nat} {l : List UInt8} {base : Nat} (hl : l.length = n) (hb : base ≤ g) (hn : n ≤ 2000)
    (h : w1.heap[g]? = some (.cells (splice (madeCells #[.int .u8 0] (n + 20)).toList 0 (bvs l)).toArray 5 (0, 0))) : w1.ownsRow base 5 1 (.slice (some ⟨g, 0, none⟩) n (n + 20)) n (bvs l) := by
  refine ⟨by rw [bvs_length, hl, Nat.mul_one], .inr ⟨g, n + 20, _, rfl, hb, h, by omega, by simp only [maxLen]; omega, ?_, ?_⟩⟩
  · rw [List.size_toArray, length_splice _ _ _ (by rw [bvs_length, hl, Array.length_toList, size_madeCells]; omega), Array.length_toList, size_madeCells, Nat.mul_one]
  · rw [Nat.mul_one]
    simp only [splice, List.take_zero, List.nil_append]
    exact List.take_left' (by rw [bvs_length, hl])

theorem one_sees {w1 : World} {base g n : Nat} {c : Nat} {xs : List Value} (h : w1.ownsRow base 5 1 (.slice (some ⟨g, 0, none⟩) n c) n xs) : Sees w1 w1.heap.size 1 (some ⟨g, 0, none⟩) n xs := Sees.of_own h

set_option linter.unusedSimpArgs false in
set_option maxRecDepth 100000 in
set_option maxHeartbeats 8000000 in
theorem writes_any (A : Option Addr) (n c : Nat) (l : List UInt8) (B : Option Addr) (m d : Nat) (x : List UInt8) (x0 : Nat) (i : Int) (w : World) (hA : Sees w w.heap.size 1 A n (bvs l)) (hl : l.length = n) (hB : Sees w w.heap.size 1 B m (bvs x)) (hx : x.length = m)
    (hx0 : x0 < 18446744073709551616) (hi0 : -9223372036854775808 ≤ i) (hi1 : i ≤ 9223372036854775807) :
    Calls Try.prog 5 #[.slice A n c, .slice B m d, .int .u64 x0, .int .i64 i] w fun e w' => e = .returned (.bool true) ∧ Below w.heap.size w w' := by
  by_cases hbig : 2000 < n ∨ 2000 < m
  · exact writes_big A n c B m d x0 i w hbig
  · obtain ⟨i0, ii0, iz0, iz1, iz2⟩ := info_parts byte_info
    have hnI : (n : Int) ≤ 2000 := by omega
    have hmI : (m : Int) ≤ 2000 := by omega
    have X0 := Lib.hid hx0
    have I0 := Lib.hid hi0
    have I1 := Lib.hid hi1
    have Z0 := Lib.hid (zig_lt i hi0 hi1)
    have M0 : Hid (m < 18446744073709551616) := Lib.hid (by omega)
    have HL := Lib.hid hl
    have HX := Lib.hid hx
    obtain ⟨p1, hp1⟩ : ∃ k, (form 9 x0).length = k := ⟨_, rfl⟩
    obtain ⟨p2, hp2⟩ : ∃ k, (form 9 (zigN i)).length = k := ⟨_, rfl⟩
    obtain ⟨p3, hp3⟩ : ∃ k, (form 9 m).length = k := ⟨_, rfl⟩
    have q1 := form_le 9 x0
    have q2 := form_le 9 (zigN i)
    have q3 := form_le 9 m
    rw [hp1] at q1
    rw [hp2] at q2
    rw [hp3] at q3
    have P1 := Lib.hid hp1
    have P2 := Lib.hid hp2
    have P3 := Lib.hid hp3
    have hmk : ∀ w : World, (Instr.makeSlice 22 (.int .i64 (n : Int)) (.int .i64 ((n : Int) + 20))).run Try.prog w = .ok (.slice (some ⟨w.heap.size, 0, none⟩) n (n + 20)) (w.alloc (.cells (madeCells #[.int .u8 0] (n + 20)) 5)) := by
      intro w
      have h := run_make (P := Try.prog) w 22 5 i0 (.int .u8 0) Try.underlying22 ii0 iz0 .i64 .i64 (n : Int) ((n : Int) + 20) (by omega) (by omega) (by rw [iz2]; omega) (by omega)
      rw [iz1] at h
      have e1 : ((n : Int) + 20).toNat = n + 20 := by omega
      rw [e1, Nat.mul_one, Int.toNat_natCast] at h
      exact h
    have HMK := Lib.hid hmk
    clear hbig hx0 hi0 hi1 hp1 hp2 hp3 hl hx
    go_enter Try.func5, Try.ntmps5
    go_wp2_with (
      refine wpList_copy_splice rfl _ _ _ _ rfl 5 Try.underlying22 (by kernel_rfl) (some ⟨w.heap.size, 0, none⟩) A n (n + 20) n c rfl rfl w.heap.size 0 (madeCells #[.int .u8 0] (n + 20)).toList 5 (by rw [Array.toArray_toList]; exact heap_alloc_new w _) (bvs l)
        (by rw [bvs_length, HL.out]; exact (Nat.min_self n).symm) ?hpos (by rw [bvs_length, HL.out, Array.length_toList, size_madeCells]; omega) (bvs_one _) w.heap.size w ((Below.refl _ _).alloc (Nat.le_refl _) _) (Nat.le_refl _) ?_
      case hpos => exact fun hp => ⟨rfl, by
        rw [bvs_length, HL.out] at hp
        obtain ⟨b, o, rfl, hbl, hcell⟩ := (hA.alloc (Nat.le_refl _) (.cells (madeCells #[.int .u8 0] (n + 20)) 5)).2 hp
        exact ⟨_, rfl, fun j v hv => by rw [Addr.add_lit]; exact hcell j v hv⟩⟩
      intro w1 hrow1 hb1)
    have ho1 := spliced_row HL.out (Nat.le_refl _) (by omega) hrow1.out
    have hgb : w.heap.size < w1.heap.size := (ho1.lt w.heap.size rfl).2
    have hsin1 := one_sees ho1
    refine (appendUint_any (some ⟨w.heap.size, 0, none⟩) n (n + 20) (bvs l) (x0 : Int) (by omega) (by have := X0.out; omega) _ hsin1 (bvs_one _) (by omega)).mono ?_
    rintro e w2 ⟨v1, rfl, hr1, hb2, hn1⟩
    rw [Int.toNat_natCast, P1.out, ← bvs_append] at hr1
    obtain ⟨A1, c1, rfl, hc1', _⟩ := own_shape hr1
    have hne1 : (Value.slice A1 (n + p1) c1).ownBlock ≠ some w.heap.size := fun he => by have := (hr1.lt _ he).1; omega
    have hr1 := own_lower hr1 hb1.size
    have hbel2 := hb1.trans (hb2.mono hb1.size)
    have hz2 := hbel2.size
    have hz12 := hb2.size
    have ho2 := own_below ho1 hb2 (fun k hk => (ho1.lt k hk).2)
    clear hn1 hb2 hsin1
    go_wp2_with fail
    refine (appendInt_any (some ⟨w.heap.size, 0, none⟩) n (n + 20) (bvs l) i I0.out I1.out _ (one_sees ho2) (bvs_one _) (by omega)).mono ?_
    rintro e w3 ⟨v2, rfl, hr2, hb3, hn2⟩
    rw [P2.out, ← bvs_append] at hr2
    obtain ⟨A2, c2, rfl, hc2', _⟩ := own_shape hr2
    have hne2 : (Value.slice A2 (n + p2) c2).ownBlock ≠ some w.heap.size := fun he => by have := (hr2.lt _ he).1; omega
    have hr2 := own_lower hr2 hz2
    have hr1 := own_below hr1 hb3 (fun k hk => (hr1.lt k hk).2)
    have ho3 := own_below ho2 hb3 (fun k hk => (ho2.lt k hk).2)
    have hbel3 := hbel2.trans (hb3.mono hz2)
    have hz3 := hbel3.size
    have hz23 := hb3.size
    clear hn2 hb3 ho2 hbel2 ho1 hb1 hrow1
    go_wp2_with (
      at_builtin
      refine wpList_append_sees _ rfl _ _ _ rfl w.heap.size 5 i0 _ 1 1 Try.underlying22 ii0 iz0 iz1 iz2 rfl (by omega) _ 0 [] rfl
        (own_lower (World.ownsRow_made w3 #[] 0 (Nat.le_refl _) (Nat.zero_le _) rfl) hz3) w.heap.size B m d (bvs x) rfl ((hB.below hbel3 (Nat.le_refl _)).alloc hz3 _) (bvs_one _) (by simp only [maxLen]; omega) (by omega) (by simp; omega) ?_
      intro v4 w4 hr4 hg4 hat4 hnil4
      rw [Nat.zero_add, List.nil_append] at hr4
      have hk3 : ∀ k, (Value.slice (some ⟨w3.heap.size, 0, none⟩) 0 0).ownBlock = some k → w3.heap.size ≤ k := fun k hk => by have hk4 := Option.some.inj (show some w3.heap.size = some k from hk); omega
      have hb4 : Below w3.heap.size w3 w4 := ((Below.refl w3.heap.size w3).alloc (Nat.le_refl _) _).grown hg4 (by simp) hk3
      obtain ⟨A4, c4, rfl, hc4', _⟩ := own_shape hr4
      clear hg4 hat4 hnil4)
    have hr1 := own_below hr1 hb4 (fun k hk => (hr1.lt k hk).2)
    have hr2 := own_below hr2 hb4 (fun k hk => (hr2.lt k hk).2)
    have ho4 := own_below ho3 hb4 (fun k hk => (ho3.lt k hk).2)
    have hbel4 := hbel3.trans (hb4.mono hz3)
    have hz4 := hbel4.size
    have hz34 := hb4.size
    clear ho3 hbel3
    refine (appendBytes_any (some ⟨w.heap.size, 0, none⟩) n (n + 20) (bvs l) A4 m c4 (bvs x) _ (one_sees ho4) (bvs_one _) (by omega) (Sees.of_own hr4) (bvs_one _) (by omega)).mono ?_
    rintro e w5 ⟨v3, rfl, hr3, hb5⟩
    rw [P3.out, ← bvs_append, ← bvs_append] at hr3
    obtain ⟨A3, c3, rfl, hc3', _⟩ := own_shape hr3
    have hne3 : (Value.slice A3 (n + p3 + m) c3).ownBlock ≠ some w.heap.size := fun he => by have := (hr3.lt _ he).1; omega
    have hr3 := own_lower hr3 hz4
    have hr1 := own_below hr1 hb5 (fun k hk => (hr1.lt k hk).2)
    have hr2 := own_below hr2 hb5 (fun k hk => (hr2.lt k hk).2)
    have ho5 := own_below ho4 hb5 (fun k hk => (ho4.lt k hk).2)
    have hbel5 := hbel4.trans (hb5.mono hz4)
    have hz5 := hbel5.size
    clear ho4 hbel4 hb4 hb5 hr4
    have hs1 := Sees.of_own hr1
    have hs2 := Sees.of_own hr2
    have hs3 := Sees.of_own hr3
    have hA5 := (hA.below hbel5 (Nat.le_refl _)).up hz5
    have hB5 := (hB.below hbel5 (Nat.le_refl _)).up hz5
    have hc1 := run_str (P := Try.prog) (c := c1) Try.underlying22 Try.underlying5 Try.underlying9 hs1.drew
    have hc2 := run_str (P := Try.prog) (c := c2) Try.underlying22 Try.underlying5 Try.underlying9 hs2.drew
    have hc3 := run_str (P := Try.prog) (c := c3) Try.underlying22 Try.underlying5 Try.underlying9 hs3.drew
    have hcb := run_str (P := Try.prog) (c := c) Try.underlying22 Try.underlying5 Try.underlying9 hA5.drew
    have hcx := run_str (P := Try.prog) (c := d) Try.underlying22 Try.underlying5 Try.underlying9 hB5.drew
    have hwm := u64_of m (by omega)
    have a1 := fun wx => run_string_add_lists (P := Try.prog) wx l (form 9 x0) (by rw [HL.out]; omega) (by rw [P1.out]; omega)
    have a2 := fun wx => run_string_add_lists (P := Try.prog) wx l (form 9 (zigN i)) (by rw [HL.out]; omega) (by rw [P2.out]; omega)
    have a3 := fun wx => run_string_add_lists (P := Try.prog) wx l (form 9 m) (by rw [HL.out]; omega) (by rw [P3.out]; omega)
    have a4 := fun wx => run_string_add_lists (P := Try.prog) wx (l ++ form 9 m) x (by rw [List.length_append, HL.out, P3.out]; omega) (by rw [HX.out]; omega)
    go_wp2_with fail
    refine wp_region_held_drew (S := fun w' => (convert 22 9 (.slice A1 (n + p1) c1)).run Try.prog w' = .ok (.string ⟨(l ++ form 9 x0).toArray⟩) w' ∧ (convert 22 9 (.slice A2 (n + p2) c2)).run Try.prog w' = .ok (.string ⟨(l ++ form 9 (zigN i)).toArray⟩) w' ∧ (convert 22 9 (.slice A3 (n + p3 + m) c3)).run Try.prog w' = .ok (.string ⟨(l ++ form 9 m ++ x).toArray⟩) w' ∧ (convert 22 9 (.slice A n c)).run Try.prog w' = .ok (.string ⟨(l).toArray⟩) w' ∧ (convert 22 9 (.slice B m d)).run Try.prog w' = .ok (.string ⟨(x).toArray⟩) w') (by kernel_rfl) ⟨hc1, hc2, hc3, hcb, hcx⟩ (fun hHeld => ?_)
    try dsimp only at hHeld
    refine take_at (i := 0) (v := ?_) (some 42) rfl rfl (by kernel_rfl) (by kernel_rfl) (by kernel_rfl) (fun _ _ _ h => h) hHeld (by rfl) (fun wS hSw => ?_) ?_
    rotate_left
    · try dsimp only at hSw
      go_simp
      try with_reducible rfl
    try simp only [Act.put, List.setIfInBounds_toArray, List.set_cons_zero, List.set_cons_succ]
    refine take_at (i := 1) (v := ?_) (some 43) rfl rfl (by kernel_rfl) (by kernel_rfl) (by kernel_rfl) (fun _ _ _ h => h) hHeld (by rfl) (fun wS hSw => ?_) ?_
    rotate_left
    · try dsimp only at hSw
      go_simp
      try with_reducible rfl
    try simp only [Act.put, List.setIfInBounds_toArray, List.set_cons_zero, List.set_cons_succ]
    refine take_at (i := 2) (v := ?_) (some 44) rfl rfl (by kernel_rfl) (by kernel_rfl) (by kernel_rfl) (fun _ _ _ h => h) hHeld (by rfl) (fun wS hSw => ?_) ?_
    rotate_left
    · try dsimp only at hSw
      go_simp
      try with_reducible rfl
    try simp only [Act.put, List.setIfInBounds_toArray, List.set_cons_zero, List.set_cons_succ]
    refine take_at (i := 3) (v := ?_) (some 45) rfl rfl (by kernel_rfl) (by kernel_rfl) (by kernel_rfl) (fun _ _ _ h => h) hHeld (by rfl) (fun wS hSw => ?_) ?_
    rotate_left
    · try dsimp only at hSw
      go_simp
      try with_reducible rfl
    try simp only [Act.put, List.setIfInBounds_toArray, List.set_cons_zero, List.set_cons_succ]
    refine take_at (i := 4) (v := ?_) (some 46) rfl rfl (by kernel_rfl) (by kernel_rfl) (by kernel_rfl) (fun _ _ _ h => h) hHeld (by rfl) (fun wS hSw => ?_) ?_
    rotate_left
    · try dsimp only at hSw
      go_simp
      try with_reducible rfl
    try simp only [Act.put, List.setIfInBounds_toArray, List.set_cons_zero, List.set_cons_succ]
    refine wpAnyH_ready (rs := [5]) (by kernel_rfl) (by simp) ?_
    refine AllReadyH.cons rfl (fun K hK => ?_) AllReadyH.nil
    simp only [List.getElem_toArray, List.getElem_cons_succ, List.getElem_cons_zero]
    go_simp
    refine (form_any x0 X0.out _).mono ?_
    rintro e u1 ⟨y1, rfl, hy1, hz1⟩
    rw [P1.out] at hy1
    obtain ⟨F1, e1, rfl, _⟩ := own_shape hy1
    have hf1 := Sees.of_own hy1
    have hb1 : Below w5.heap.size w5 u1 := ⟨hz1.os, hz1.tape, hz1.output, hz1.size, hz1.block⟩
    have g0 := run_str (P := Try.prog) (c := c1) Try.underlying22 Try.underlying5 Try.underlying9 (hs1.below hb1 (Nat.le_refl _))
    have g1 := run_str (P := Try.prog) (c := c2) Try.underlying22 Try.underlying5 Try.underlying9 (hs2.below hb1 (Nat.le_refl _))
    have g2 := run_str (P := Try.prog) (c := c3) Try.underlying22 Try.underlying5 Try.underlying9 (hs3.below hb1 (Nat.le_refl _))
    have g3 := run_str (P := Try.prog) (c := c) Try.underlying22 Try.underlying5 Try.underlying9 (hA5.below hb1 (Nat.le_refl _))
    have g4 := run_str (P := Try.prog) (c := d) Try.underlying22 Try.underlying5 Try.underlying9 (hB5.below hb1 (Nat.le_refl _))
    have f1 := run_str (P := Try.prog) (c := e1) Try.underlying22 Try.underlying5 Try.underlying9 hf1
    clear hy1 hz1
    dsimp only
    have hOld := hHeld
    refine hK.out _ _ ⟨g0, g1, g2, g3, g4⟩ (fun _ => ?_)
    clear hK K
    refine wpAnyH_mono (S2 := fun w' => (convert 22 9 (.slice A1 (n + p1) c1)).run Try.prog w' = .ok (.string ⟨(l ++ form 9 x0).toArray⟩) w' ∧ (convert 22 9 (.slice A2 (n + p2) c2)).run Try.prog w' = .ok (.string ⟨(l ++ form 9 (zigN i)).toArray⟩) w' ∧ (convert 22 9 (.slice A3 (n + p3 + m) c3)).run Try.prog w' = .ok (.string ⟨(l ++ form 9 m ++ x).toArray⟩) w' ∧ (convert 22 9 (.slice A n c)).run Try.prog w' = .ok (.string ⟨(l).toArray⟩) w' ∧ (convert 22 9 (.slice B m d)).run Try.prog w' = .ok (.string ⟨(x).toArray⟩) w' ∧ (convert 22 9 (.slice F1 p1 e1)).run Try.prog w' = .ok (.string ⟨(form 9 x0).toArray⟩) w') (fun _ h => (by obtain ⟨q0, q1, q2, q3, q4, q5⟩ := h; exact ⟨q0, q1, q2, q3, q4⟩)) _ _ _ _ ?_
    clear hHeld
    have hHeld := (⟨g0, g1, g2, g3, g4, f1⟩ : (fun w' => (convert 22 9 (.slice A1 (n + p1) c1)).run Try.prog w' = .ok (.string ⟨(l ++ form 9 x0).toArray⟩) w' ∧ (convert 22 9 (.slice A2 (n + p2) c2)).run Try.prog w' = .ok (.string ⟨(l ++ form 9 (zigN i)).toArray⟩) w' ∧ (convert 22 9 (.slice A3 (n + p3 + m) c3)).run Try.prog w' = .ok (.string ⟨(l ++ form 9 m ++ x).toArray⟩) w' ∧ (convert 22 9 (.slice A n c)).run Try.prog w' = .ok (.string ⟨(l).toArray⟩) w' ∧ (convert 22 9 (.slice B m d)).run Try.prog w' = .ok (.string ⟨(x).toArray⟩) w' ∧ (convert 22 9 (.slice F1 p1 e1)).run Try.prog w' = .ok (.string ⟨(form 9 x0).toArray⟩) w') u1)
    clear hOld
    try simp only [Act.put, List.setIfInBounds_toArray, List.set_cons_zero, List.set_cons_succ]
    refine take_at (i := 6) (v := ?_) (some 48) rfl rfl (by kernel_rfl) (by kernel_rfl) (by kernel_rfl) (fun _ _ _ h => h) hHeld (by rfl) (fun wS hSw => ?_) ?_
    rotate_left
    · try dsimp only at hSw
      go_simp
      try with_reducible rfl
    try simp only [Act.put, List.setIfInBounds_toArray, List.set_cons_zero, List.set_cons_succ]
    refine take_at (i := 7) (v := ?_) (some 49) rfl rfl (by kernel_rfl) (by kernel_rfl) (by kernel_rfl) (fun _ _ _ h => h) hHeld (by rfl) (fun wS hSw => ?_) ?_
    rotate_left
    · try dsimp only at hSw
      go_simp
      try with_reducible rfl
    try simp only [Act.put, List.setIfInBounds_toArray, List.set_cons_zero, List.set_cons_succ]
    refine take_at (i := 8) (v := ?_) (some 50) rfl rfl (by kernel_rfl) (by kernel_rfl) (by kernel_rfl) (fun _ _ _ h => h) hHeld (by rfl) (fun wS hSw => ?_) ?_
    rotate_left
    · try dsimp only at hSw
      go_simp
      try with_reducible rfl
    try simp only [Act.put, List.setIfInBounds_toArray, List.set_cons_zero, List.set_cons_succ]
    refine take_at (i := 9) (v := ?_) (some 51) rfl rfl (by kernel_rfl) (by kernel_rfl) (by kernel_rfl) (fun _ _ _ h => h) hHeld (by rfl) (fun wS hSw => ?_) ?_
    rotate_left
    · try dsimp only at hSw
      go_simp
      try with_reducible rfl
    try simp only [Act.put, List.setIfInBounds_toArray, List.set_cons_zero, List.set_cons_succ]
    refine take_at (i := 10) (v := ?_) (some 52) rfl rfl (by kernel_rfl) (by kernel_rfl) (by kernel_rfl) (fun _ _ _ h => h) hHeld (by rfl) (fun wS hSw => ?_) ?_
    rotate_left
    · try dsimp only at hSw
      go_simp
      try with_reducible rfl
    try simp only [Act.put, List.setIfInBounds_toArray, List.set_cons_zero, List.set_cons_succ]
    refine take_at (i := 11) (v := ?_) (some 53) rfl rfl (by kernel_rfl) (by kernel_rfl) (by kernel_rfl) (fun _ _ _ h => h) hHeld (by rfl) (fun wS hSw => ?_) ?_
    rotate_left
    · try dsimp only at hSw
      go_simp
      try with_reducible rfl
    try simp only [Act.put, List.setIfInBounds_toArray, List.set_cons_zero, List.set_cons_succ]
    refine take_at (i := 12) (v := ?_) (some 54) rfl rfl (by kernel_rfl) (by kernel_rfl) (by kernel_rfl) (fun _ _ _ h => h) hHeld (by rfl) (fun wS hSw => ?_) ?_
    rotate_left
    · try dsimp only at hSw
      go_simp
      try with_reducible rfl
    try simp only [Act.put, List.setIfInBounds_toArray, List.set_cons_zero, List.set_cons_succ]
    refine take_at (i := 13) (v := ?_) (some 55) rfl rfl (by kernel_rfl) (by kernel_rfl) (by kernel_rfl) (fun _ _ _ h => h) hHeld (by rfl) (fun wS hSw => ?_) ?_
    rotate_left
    · try dsimp only at hSw
      go_simp
      try with_reducible rfl
    try simp only [Act.put, List.setIfInBounds_toArray, List.set_cons_zero, List.set_cons_succ]
    refine take_at (i := 14) (v := ?_) (some 56) rfl rfl (by kernel_rfl) (by kernel_rfl) (by kernel_rfl) (fun _ _ _ h => h) hHeld (by rfl) (fun wS hSw => ?_) ?_
    rotate_left
    · try dsimp only at hSw
      go_simp
      try with_reducible rfl
    try simp only [Act.put, List.setIfInBounds_toArray, List.set_cons_zero, List.set_cons_succ]
    refine wpAnyH_ready (rs := [15]) (by kernel_rfl) (by simp) ?_
    refine AllReadyH.cons rfl (fun K hK => ?_) AllReadyH.nil
    simp only [List.getElem_toArray, List.getElem_cons_succ, List.getElem_cons_zero]
    go_simp
    refine (whole_any i I0.out I1.out _).mono ?_
    rintro e u ⟨rfl, rfl⟩
    dsimp only
    have hOld := hHeld
    refine hK.out _ _ hOld (fun _ => ?_)
    clear hK K
    refine wpAnyH_mono (S2 := fun w' => (convert 22 9 (.slice A1 (n + p1) c1)).run Try.prog w' = .ok (.string ⟨(l ++ form 9 x0).toArray⟩) w' ∧ (convert 22 9 (.slice A2 (n + p2) c2)).run Try.prog w' = .ok (.string ⟨(l ++ form 9 (zigN i)).toArray⟩) w' ∧ (convert 22 9 (.slice A3 (n + p3 + m) c3)).run Try.prog w' = .ok (.string ⟨(l ++ form 9 m ++ x).toArray⟩) w' ∧ (convert 22 9 (.slice A n c)).run Try.prog w' = .ok (.string ⟨(l).toArray⟩) w' ∧ (convert 22 9 (.slice B m d)).run Try.prog w' = .ok (.string ⟨(x).toArray⟩) w' ∧ (convert 22 9 (.slice F1 p1 e1)).run Try.prog w' = .ok (.string ⟨(form 9 x0).toArray⟩) w') (fun _ h => h) _ _ _ _ ?_
    clear hHeld
    have hHeld := hOld
    clear hOld
    try simp only [Act.put, List.setIfInBounds_toArray, List.set_cons_zero, List.set_cons_succ]
    refine wpAnyH_ready (rs := [16]) (by kernel_rfl) (by simp) ?_
    refine AllReadyH.cons rfl (fun K hK => ?_) AllReadyH.nil
    simp only [List.getElem_toArray, List.getElem_cons_succ, List.getElem_cons_zero]
    go_simp
    refine (form_any (zigN i) Z0.out _).mono ?_
    rintro e u2 ⟨y2, rfl, hy2, hz2⟩
    rw [P2.out] at hy2
    obtain ⟨F2, e2, rfl, _⟩ := own_shape hy2
    have hf2 := Sees.of_own hy2
    have hb2 : Below w5.heap.size w5 u2 := hb1.trans (hz2.mono hb1.size)
    have g0 := run_str (P := Try.prog) (c := c1) Try.underlying22 Try.underlying5 Try.underlying9 (hs1.below hb2 (Nat.le_refl _))
    have g1 := run_str (P := Try.prog) (c := c2) Try.underlying22 Try.underlying5 Try.underlying9 (hs2.below hb2 (Nat.le_refl _))
    have g2 := run_str (P := Try.prog) (c := c3) Try.underlying22 Try.underlying5 Try.underlying9 (hs3.below hb2 (Nat.le_refl _))
    have g3 := run_str (P := Try.prog) (c := c) Try.underlying22 Try.underlying5 Try.underlying9 (hA5.below hb2 (Nat.le_refl _))
    have g4 := run_str (P := Try.prog) (c := d) Try.underlying22 Try.underlying5 Try.underlying9 (hB5.below hb2 (Nat.le_refl _))
    have hf1 := hf1.below hz2 (Nat.le_refl _)
    have hf1 := hf1.up hz2.size
    have f1 := run_str (P := Try.prog) (c := e1) Try.underlying22 Try.underlying5 Try.underlying9 hf1
    have f2 := run_str (P := Try.prog) (c := e2) Try.underlying22 Try.underlying5 Try.underlying9 hf2
    clear hy2 hz2
    dsimp only
    have hOld := hHeld
    refine hK.out _ _ ⟨g0, g1, g2, g3, g4, f1⟩ (fun _ => ?_)
    clear hK K
    refine wpAnyH_mono (S2 := fun w' => (convert 22 9 (.slice A1 (n + p1) c1)).run Try.prog w' = .ok (.string ⟨(l ++ form 9 x0).toArray⟩) w' ∧ (convert 22 9 (.slice A2 (n + p2) c2)).run Try.prog w' = .ok (.string ⟨(l ++ form 9 (zigN i)).toArray⟩) w' ∧ (convert 22 9 (.slice A3 (n + p3 + m) c3)).run Try.prog w' = .ok (.string ⟨(l ++ form 9 m ++ x).toArray⟩) w' ∧ (convert 22 9 (.slice A n c)).run Try.prog w' = .ok (.string ⟨(l).toArray⟩) w' ∧ (convert 22 9 (.slice B m d)).run Try.prog w' = .ok (.string ⟨(x).toArray⟩) w' ∧ (convert 22 9 (.slice F1 p1 e1)).run Try.prog w' = .ok (.string ⟨(form 9 x0).toArray⟩) w' ∧ (convert 22 9 (.slice F2 p2 e2)).run Try.prog w' = .ok (.string ⟨(form 9 (zigN i)).toArray⟩) w') (fun _ h => (by obtain ⟨q0, q1, q2, q3, q4, q5, q6⟩ := h; exact ⟨q0, q1, q2, q3, q4, q5⟩)) _ _ _ _ ?_
    clear hHeld
    have hHeld := (⟨g0, g1, g2, g3, g4, f1, f2⟩ : (fun w' => (convert 22 9 (.slice A1 (n + p1) c1)).run Try.prog w' = .ok (.string ⟨(l ++ form 9 x0).toArray⟩) w' ∧ (convert 22 9 (.slice A2 (n + p2) c2)).run Try.prog w' = .ok (.string ⟨(l ++ form 9 (zigN i)).toArray⟩) w' ∧ (convert 22 9 (.slice A3 (n + p3 + m) c3)).run Try.prog w' = .ok (.string ⟨(l ++ form 9 m ++ x).toArray⟩) w' ∧ (convert 22 9 (.slice A n c)).run Try.prog w' = .ok (.string ⟨(l).toArray⟩) w' ∧ (convert 22 9 (.slice B m d)).run Try.prog w' = .ok (.string ⟨(x).toArray⟩) w' ∧ (convert 22 9 (.slice F1 p1 e1)).run Try.prog w' = .ok (.string ⟨(form 9 x0).toArray⟩) w' ∧ (convert 22 9 (.slice F2 p2 e2)).run Try.prog w' = .ok (.string ⟨(form 9 (zigN i)).toArray⟩) w') u2)
    clear hOld
    try simp only [Act.put, List.setIfInBounds_toArray, List.set_cons_zero, List.set_cons_succ]
    refine take_at (i := 17) (v := ?_) (some 59) rfl rfl (by kernel_rfl) (by kernel_rfl) (by kernel_rfl) (fun _ _ _ h => h) hHeld (by rfl) (fun wS hSw => ?_) ?_
    rotate_left
    · try dsimp only at hSw
      go_simp
      try with_reducible rfl
    try simp only [Act.put, List.setIfInBounds_toArray, List.set_cons_zero, List.set_cons_succ]
    refine take_at (i := 18) (v := ?_) (some 60) rfl rfl (by kernel_rfl) (by kernel_rfl) (by kernel_rfl) (fun _ _ _ h => h) hHeld (by rfl) (fun wS hSw => ?_) ?_
    rotate_left
    · try dsimp only at hSw
      go_simp
      try with_reducible rfl
    try simp only [Act.put, List.setIfInBounds_toArray, List.set_cons_zero, List.set_cons_succ]
    refine take_at (i := 19) (v := ?_) (some 61) rfl rfl (by kernel_rfl) (by kernel_rfl) (by kernel_rfl) (fun _ _ _ h => h) hHeld (by rfl) (fun wS hSw => ?_) ?_
    rotate_left
    · try dsimp only at hSw
      go_simp
      try with_reducible rfl
    try simp only [Act.put, List.setIfInBounds_toArray, List.set_cons_zero, List.set_cons_succ]
    refine take_at (i := 20) (v := ?_) (some 62) rfl rfl (by kernel_rfl) (by kernel_rfl) (by kernel_rfl) (fun _ _ _ h => h) hHeld (by rfl) (fun wS hSw => ?_) ?_
    rotate_left
    · try dsimp only at hSw
      go_simp
      try with_reducible rfl
    try simp only [Act.put, List.setIfInBounds_toArray, List.set_cons_zero, List.set_cons_succ]
    refine take_at (i := 21) (v := ?_) (some 63) rfl rfl (by kernel_rfl) (by kernel_rfl) (by kernel_rfl) (fun _ _ _ h => h) hHeld (by rfl) (fun wS hSw => ?_) ?_
    rotate_left
    · try dsimp only at hSw
      go_simp
      try with_reducible rfl
    try simp only [Act.put, List.setIfInBounds_toArray, List.set_cons_zero, List.set_cons_succ]
    refine take_at (i := 22) (v := ?_) (some 64) rfl rfl (by kernel_rfl) (by kernel_rfl) (by kernel_rfl) (fun _ _ _ h => h) hHeld (by rfl) (fun wS hSw => ?_) ?_
    rotate_left
    · try dsimp only at hSw
      go_simp
      try with_reducible rfl
    try simp only [Act.put, List.setIfInBounds_toArray, List.set_cons_zero, List.set_cons_succ]
    refine take_at (i := 23) (v := ?_) (some 65) rfl rfl (by kernel_rfl) (by kernel_rfl) (by kernel_rfl) (fun _ _ _ h => h) hHeld (by rfl) (fun wS hSw => ?_) ?_
    rotate_left
    · try dsimp only at hSw
      go_simp
      try with_reducible rfl
    try simp only [Act.put, List.setIfInBounds_toArray, List.set_cons_zero, List.set_cons_succ]
    refine take_at (i := 24) (v := ?_) (some 66) rfl rfl (by kernel_rfl) (by kernel_rfl) (by kernel_rfl) (fun _ _ _ h => h) hHeld (by rfl) (fun wS hSw => ?_) ?_
    rotate_left
    · try dsimp only at hSw
      go_simp
      try with_reducible rfl
    try simp only [Act.put, List.setIfInBounds_toArray, List.set_cons_zero, List.set_cons_succ]
    refine take_at (i := 25) (v := ?_) (some 67) rfl rfl (by kernel_rfl) (by kernel_rfl) (by kernel_rfl) (fun _ _ _ h => h) hHeld (by rfl) (fun wS hSw => ?_) ?_
    rotate_left
    · try dsimp only at hSw
      go_simp
      try with_reducible rfl
    try simp only [Act.put, List.setIfInBounds_toArray, List.set_cons_zero, List.set_cons_succ]
    refine take_at (i := 26) (v := ?_) (some 68) rfl rfl (by kernel_rfl) (by kernel_rfl) (by kernel_rfl) (fun _ _ _ h => h) hHeld (by rfl) (fun wS hSw => ?_) ?_
    rotate_left
    · try dsimp only at hSw
      go_simp
      try with_reducible rfl
    try simp only [Act.put, List.setIfInBounds_toArray, List.set_cons_zero, List.set_cons_succ]
    refine take_at (i := 27) (v := ?_) (some 69) rfl rfl (by kernel_rfl) (by kernel_rfl) (by kernel_rfl) (fun _ _ _ h => h) hHeld (by rfl) (fun wS hSw => ?_) ?_
    rotate_left
    · try dsimp only at hSw
      go_simp
      try with_reducible rfl
    try simp only [Act.put, List.setIfInBounds_toArray, List.set_cons_zero, List.set_cons_succ]
    refine take_at (i := 28) (v := ?_) (some 70) rfl rfl (by kernel_rfl) (by kernel_rfl) (by kernel_rfl) (fun _ _ _ h => h) hHeld (by rfl) (fun wS hSw => ?_) ?_
    rotate_left
    · try dsimp only at hSw
      go_simp
      try with_reducible rfl
    try simp only [Act.put, List.setIfInBounds_toArray, List.set_cons_zero, List.set_cons_succ]
    refine take_at (i := 32) (v := ?_) (some 74) rfl rfl (by kernel_rfl) (by kernel_rfl) (by kernel_rfl) (fun _ _ _ h => h) hHeld (by rfl) (fun wS hSw => ?_) ?_
    rotate_left
    · try dsimp only at hSw
      go_simp
      try with_reducible rfl
    try simp only [Act.put, List.setIfInBounds_toArray, List.set_cons_zero, List.set_cons_succ]
    refine take_at (i := 33) (v := ?_) (some 75) rfl rfl (by kernel_rfl) (by kernel_rfl) (by kernel_rfl) (fun _ _ _ h => h) hHeld (by rfl) (fun wS hSw => ?_) ?_
    rotate_left
    · try dsimp only at hSw
      go_simp
      try with_reducible rfl
    try simp only [Act.put, List.setIfInBounds_toArray, List.set_cons_zero, List.set_cons_succ]
    refine wpAnyH_ready (rs := [29]) (by kernel_rfl) (by simp) ?_
    refine AllReadyH.cons rfl (fun K hK => ?_) AllReadyH.nil
    simp only [List.getElem_toArray, List.getElem_cons_succ, List.getElem_cons_zero]
    go_simp
    refine (form_any m M0.out _).mono ?_
    rintro e u3 ⟨y3, rfl, hy3, hz3⟩
    rw [P3.out] at hy3
    obtain ⟨F3, e3, rfl, _⟩ := own_shape hy3
    have hf3 := Sees.of_own hy3
    have hb3 : Below w5.heap.size w5 u3 := hb2.trans (hz3.mono hb2.size)
    have g0 := run_str (P := Try.prog) (c := c1) Try.underlying22 Try.underlying5 Try.underlying9 (hs1.below hb3 (Nat.le_refl _))
    have g1 := run_str (P := Try.prog) (c := c2) Try.underlying22 Try.underlying5 Try.underlying9 (hs2.below hb3 (Nat.le_refl _))
    have g2 := run_str (P := Try.prog) (c := c3) Try.underlying22 Try.underlying5 Try.underlying9 (hs3.below hb3 (Nat.le_refl _))
    have g3 := run_str (P := Try.prog) (c := c) Try.underlying22 Try.underlying5 Try.underlying9 (hA5.below hb3 (Nat.le_refl _))
    have g4 := run_str (P := Try.prog) (c := d) Try.underlying22 Try.underlying5 Try.underlying9 (hB5.below hb3 (Nat.le_refl _))
    have hf1 := hf1.below hz3 (Nat.le_refl _)
    have hf1 := hf1.up hz3.size
    have hf2 := hf2.below hz3 (Nat.le_refl _)
    have hf2 := hf2.up hz3.size
    have f1 := run_str (P := Try.prog) (c := e1) Try.underlying22 Try.underlying5 Try.underlying9 hf1
    have f2 := run_str (P := Try.prog) (c := e2) Try.underlying22 Try.underlying5 Try.underlying9 hf2
    have f3 := run_str (P := Try.prog) (c := e3) Try.underlying22 Try.underlying5 Try.underlying9 hf3
    clear hy3 hz3
    dsimp only
    have hOld := hHeld
    refine hK.out _ _ ⟨g0, g1, g2, g3, g4, f1, f2⟩ (fun _ => ?_)
    clear hK K
    refine wpAnyH_mono (S2 := fun w' => (convert 22 9 (.slice A1 (n + p1) c1)).run Try.prog w' = .ok (.string ⟨(l ++ form 9 x0).toArray⟩) w' ∧ (convert 22 9 (.slice A2 (n + p2) c2)).run Try.prog w' = .ok (.string ⟨(l ++ form 9 (zigN i)).toArray⟩) w' ∧ (convert 22 9 (.slice A3 (n + p3 + m) c3)).run Try.prog w' = .ok (.string ⟨(l ++ form 9 m ++ x).toArray⟩) w' ∧ (convert 22 9 (.slice A n c)).run Try.prog w' = .ok (.string ⟨(l).toArray⟩) w' ∧ (convert 22 9 (.slice B m d)).run Try.prog w' = .ok (.string ⟨(x).toArray⟩) w' ∧ (convert 22 9 (.slice F1 p1 e1)).run Try.prog w' = .ok (.string ⟨(form 9 x0).toArray⟩) w' ∧ (convert 22 9 (.slice F2 p2 e2)).run Try.prog w' = .ok (.string ⟨(form 9 (zigN i)).toArray⟩) w' ∧ (convert 22 9 (.slice F3 p3 e3)).run Try.prog w' = .ok (.string ⟨(form 9 m).toArray⟩) w') (fun _ h => (by obtain ⟨q0, q1, q2, q3, q4, q5, q6, q7⟩ := h; exact ⟨q0, q1, q2, q3, q4, q5, q6⟩)) _ _ _ _ ?_
    clear hHeld
    have hHeld := (⟨g0, g1, g2, g3, g4, f1, f2, f3⟩ : (fun w' => (convert 22 9 (.slice A1 (n + p1) c1)).run Try.prog w' = .ok (.string ⟨(l ++ form 9 x0).toArray⟩) w' ∧ (convert 22 9 (.slice A2 (n + p2) c2)).run Try.prog w' = .ok (.string ⟨(l ++ form 9 (zigN i)).toArray⟩) w' ∧ (convert 22 9 (.slice A3 (n + p3 + m) c3)).run Try.prog w' = .ok (.string ⟨(l ++ form 9 m ++ x).toArray⟩) w' ∧ (convert 22 9 (.slice A n c)).run Try.prog w' = .ok (.string ⟨(l).toArray⟩) w' ∧ (convert 22 9 (.slice B m d)).run Try.prog w' = .ok (.string ⟨(x).toArray⟩) w' ∧ (convert 22 9 (.slice F1 p1 e1)).run Try.prog w' = .ok (.string ⟨(form 9 x0).toArray⟩) w' ∧ (convert 22 9 (.slice F2 p2 e2)).run Try.prog w' = .ok (.string ⟨(form 9 (zigN i)).toArray⟩) w' ∧ (convert 22 9 (.slice F3 p3 e3)).run Try.prog w' = .ok (.string ⟨(form 9 m).toArray⟩) w') u3)
    clear hOld
    try simp only [Act.put, List.setIfInBounds_toArray, List.set_cons_zero, List.set_cons_succ]
    refine take_at (i := 30) (v := ?_) (some 72) rfl rfl (by kernel_rfl) (by kernel_rfl) (by kernel_rfl) (fun _ _ _ h => h) hHeld (by rfl) (fun wS hSw => ?_) ?_
    rotate_left
    · try dsimp only at hSw
      go_simp
      try with_reducible rfl
    try simp only [Act.put, List.setIfInBounds_toArray, List.set_cons_zero, List.set_cons_succ]
    refine take_at (i := 31) (v := ?_) (some 73) rfl rfl (by kernel_rfl) (by kernel_rfl) (by kernel_rfl) (fun _ _ _ h => h) hHeld (by rfl) (fun wS hSw => ?_) ?_
    rotate_left
    · try dsimp only at hSw
      go_simp
      try with_reducible rfl
    try simp only [Act.put, List.setIfInBounds_toArray, List.set_cons_zero, List.set_cons_succ]
    refine take_at (i := 34) (v := ?_) (some 76) rfl rfl (by kernel_rfl) (by kernel_rfl) (by kernel_rfl) (fun _ _ _ h => h) hHeld (by rfl) (fun wS hSw => ?_) ?_
    rotate_left
    · try dsimp only at hSw
      go_simp
      try with_reducible rfl
    try simp only [Act.put, List.setIfInBounds_toArray, List.set_cons_zero, List.set_cons_succ]
    refine take_at (i := 35) (v := ?_) (some 77) rfl rfl (by kernel_rfl) (by kernel_rfl) (by kernel_rfl) (fun _ _ _ h => h) hHeld (by rfl) (fun wS hSw => ?_) ?_
    rotate_left
    · try dsimp only at hSw
      go_simp
      try with_reducible rfl
    try simp only [Act.put, List.setIfInBounds_toArray, List.set_cons_zero, List.set_cons_succ]
    refine take_at (i := 36) (v := ?_) (some 78) rfl rfl (by kernel_rfl) (by kernel_rfl) (by kernel_rfl) (fun _ _ _ h => h) hHeld (by rfl) (fun wS hSw => ?_) ?_
    rotate_left
    · try dsimp only at hSw
      go_simp
      try with_reducible rfl
    try simp only [Act.put, List.setIfInBounds_toArray, List.set_cons_zero, List.set_cons_succ]
    refine wpAnyH_done (by kernel_rfl) ?_ _
    have hr1 := own_below hr1 hb3 (fun k hk => (hr1.lt k hk).2)
    have hr2 := own_below hr2 hb3 (fun k hk => (hr2.lt k hk).2)
    have hr3 := own_below hr3 hb3 (fun k hk => (hr3.lt k hk).2)
    have hin := own_below ho5 hb3 (fun k hk => (ho5.lt k hk).2)
    have hbel6 := hbel5.trans (hb3.mono hz5)
    have hz6 := hbel6.size
    clear hHeld a1 a2 a3 a4 g0 g1 g2 g3 g4 f1 f2 f3 hf1 hf2 hf3 hs1 hs2 hs3 hA5 hB5 hc1 hc2 hc3 hcb hcx hb1 hb2 hb3 ho5 hbel5
    go_wp2_with fail
    refine (own2_any w.heap.size n (n + 20) l (.slice A1 (n + p1) c1) _ _ _ _ hin (by omega) hr1 hne1 (by omega)).mono ?_
    rintro e u4 ⟨rfl, ⟨l4, hin4⟩, hg4⟩
    have hr2 := hr2.kept hg4 (.inr hne2)
    have hr3 := hr3.kept hg4 (.inr hne3)
    have hbel7 := hbel6.grown hg4 hz6 (fun k hk => by have hk2 := Option.some.inj hk; omega)
    have hz7 := hbel7.size
    clear hg4 hin hr1 hbel6
    go_wp2_with fail
    refine (own2_any w.heap.size n (n + 20) l4 (.slice A2 (n + p2) c2) _ _ _ _ hin4 (by omega) hr2 hne2 (by omega)).mono ?_
    rintro e u5 ⟨rfl, ⟨l5, hin5⟩, hg5⟩
    have hr3 := hr3.kept hg5 (.inr hne3)
    have hbel8 := hbel7.grown hg5 hz7 (fun k hk => by have hk2 := Option.some.inj hk; omega)
    have hz8 := hbel8.size
    clear hg5 hin4 hr2 hbel7
    go_wp2_with fail
    refine (own2_any w.heap.size n (n + 20) l5 (.slice A3 (n + p3 + m) c3) _ _ _ _ hin5 (by omega) hr3 hne3 (by omega)).mono ?_
    rintro e u6 ⟨rfl, _, hg6⟩
    have hbel9 := hbel8.grown hg6 hz8 (fun k hk => by have hk2 := Option.some.inj hk; omega)
    have hz9 := hbel9.size
    clear hg6 hin5 hr3 hbel8
    go_wp2_with (go_at_call 9; refine (known_any _).mono ?_; rintro e u7 ⟨rfl, hb10⟩)
    go_ret
    exact ⟨rfl, hbel9.trans (hb10.mono hz9)⟩

theorem wireWrites_any (A : Option Addr) (n c : Nat) (l : List UInt8) (B : Option Addr) (m d : Nat) (x : List UInt8) (x0 i : Int) (w : World) (hA : Sees w w.heap.size 1 A n (bvs l)) (hl : l.length = n) (hB : Sees w w.heap.size 1 B m (bvs x)) (hx : x.length = m)
    (h0 : 0 ≤ x0) (hx0 : x0 < 18446744073709551616) (hi0 : -9223372036854775808 ≤ i) (hi1 : i ≤ 9223372036854775807) :
    Calls Try.prog 5 #[.slice A n c, .slice B m d, .int .u64 x0, .int .i64 i] w fun e w' => e = .returned (.bool true) ∧ Below w.heap.size w w' := by
  obtain ⟨x0, rfl⟩ := Int.eq_ofNat_of_zero_le h0
  exact writes_any A n c l B m d x x0 i w hA hl hB hx (by omega) hi0 hi1
end Go.Proofs.Ytdhcnolbiocneaa
