/-
  The walk of the law WireOnly.
-/
import Derived.Test.YtdhcnolbiocneaaWireC
import Derived.Test.YtdhcnolbiocneaaHeld
import Derived.Deep.RegionWith
import Derived.Deep.RegionHeld3
import Derived.BigQuiet
import Derived.Deep.QuietTactic
namespace Go.Proofs.Ytdhcnolbiocneaa
open Go.RowKit

set_option linter.unusedSimpArgs false in
set_option maxRecDepth 100000 in
set_option maxHeartbeats 2000000 in
theorem only_ok (A : Option Addr) (n c : Nat) (l : List UInt8) (x y v d : Nat) (w : World) (h : Sees w w.heap.size 1 A n (bvs l)) (hnc : n ≤ c) (hn : n ≤ 2000) (hx : x < 18446744073709551616) (hy : y < 18446744073709551616)
    (lx ly : Nat) (HLX : Hid ((form 9 x).length = lx)) (HLY : Hid ((form 9 y).length = ly))
    (hu : uintAt l 0 = (v, d, 0)) (hv : v < 18446744073709551616) (hd1 : 1 ≤ d) (hd2 : d ≤ 10) (hdn : d ≤ n) (hf : form 9 v = l.take d) :
    Calls Try.prog 3 #[.slice A n c, .int .u64 x, .int .u64 y] w fun e w' => e = .returned (.bool true) ∧ Below w.heap.size w w' := by
  have HU := Lib.hid (uint_any A n c 0 l w _ h hnc (by omega))
  rw [hu] at HU
  have H1 := Lib.hid (fun w => appendUint_any none 0 0 [] (v : Int) (by omega) (by omega) w (Sees.nil_ _ _ _ _) (by simp) (by omega))
  have H2 := Lib.hid (fun w => appendUint_any none 0 0 [] (x : Int) (by omega) (by omega) w (Sees.nil_ _ _ _ _) (by simp) (by omega))
  have H3 := Lib.hid (fun w => appendUint_any none 0 0 [] (y : Int) (by omega) (by omega) w (Sees.nil_ _ _ _ _) (by simp) (by omega))
  have HFL : Hid ((form 9 v).length = d) := by
    have hl : l.length = n := by have := h.1; rw [bvs_length] at this; omega
    rw [hf, List.length_take, hl]
    exact Nat.min_eq_left hdn
  have HF := Lib.hid hf
  have hnI : (n : Int) ≤ 2000 := by omega
  have hncI : (n : Int) ≤ c := by omega
  have b1 : decide ((d : Int) < 1) = false := by simp; omega
  have b2 : decide (10 < (d : Int)) = false := by simp; omega
  have b3 : decide (n < d) = false := by simp; omega
  have hdI : (d : Int) ≤ c := by omega
  have hpre := h.prefix_ (k := d) hdn
  rw [bvs_take] at hpre
  have hcA := run_str (P := Try.prog) (c := c) Try.underlying22 Try.underlying5 Try.underlying9 hpre.drew
  have HXL := Lib.hid hx
  have HYL := Lib.hid hy
  clear hf hu hx hy hv
  go_enter Try.func3, Try.ntmps3
  go_wp2_with (go_at_call 10; refine HU.out.mono ?_; rintro en w' ⟨rfl, rfl⟩; unfold trip)
  refine wp_region_held_drew (S := fun w' => (convert 22 9 (.slice A d c)).run Try.prog w' = .ok (.string ⟨(l.take d).toArray⟩) w') (by kernel_rfl) hcA (fun hHeld => ?_)
  try dsimp only at hHeld
  refine take_at (i := 0) (v := ?_) (some 24) rfl rfl (by kernel_rfl) (by kernel_rfl) (by kernel_rfl) (fun _ _ _ h => h) hHeld (by rfl) (fun wS hSw => ?_) ?_
  rotate_left
  · try dsimp only at hSw
    go_simp
    try with_reducible rfl
  try simp only [Act.put, List.setIfInBounds_toArray, List.set_cons_zero, List.set_cons_succ]
  refine take_at (i := 1) (v := ?_) (some 25) rfl rfl (by kernel_rfl) (by kernel_rfl) (by kernel_rfl) (fun _ _ _ h => h) hHeld (by rfl) (fun wS hSw => ?_) ?_
  rotate_left
  · try dsimp only at hSw
    go_simp
    try with_reducible rfl
  try simp only [Act.put, List.setIfInBounds_toArray, List.set_cons_zero, List.set_cons_succ]
  refine take_at (i := 2) (v := ?_) (some 26) rfl rfl (by kernel_rfl) (by kernel_rfl) (by kernel_rfl) (fun _ _ _ h => h) hHeld (by rfl) (fun wS hSw => ?_) ?_
  rotate_left
  · try dsimp only at hSw
    go_simp
    try with_reducible rfl
  try simp only [Act.put, List.setIfInBounds_toArray, List.set_cons_zero, List.set_cons_succ]
  refine take_at (i := 3) (v := ?_) (some 27) rfl rfl (by kernel_rfl) (by kernel_rfl) (by kernel_rfl) (fun _ _ _ h => h) hHeld (by rfl) (fun wS hSw => ?_) ?_
  rotate_left
  · try dsimp only at hSw
    go_simp
    try with_reducible rfl
  try simp only [Act.put, List.setIfInBounds_toArray, List.set_cons_zero, List.set_cons_succ]
  refine take_at (i := 4) (v := ?_) (some 28) rfl rfl (by kernel_rfl) (by kernel_rfl) (by kernel_rfl) (fun _ _ _ h => h) hHeld (by rfl) (fun wS hSw => ?_) ?_
  rotate_left
  · try dsimp only at hSw
    go_simp
    try with_reducible rfl
  try simp only [Act.put, List.setIfInBounds_toArray, List.set_cons_zero, List.set_cons_succ]
  refine take_at (i := 5) (v := ?_) (some 29) rfl rfl (by kernel_rfl) (by kernel_rfl) (by kernel_rfl) (fun _ _ _ h => h) hHeld (by rfl) (fun wS hSw => ?_) ?_
  rotate_left
  · try dsimp only at hSw
    go_simp
    try with_reducible rfl
  try simp only [Act.put, List.setIfInBounds_toArray, List.set_cons_zero, List.set_cons_succ]
  refine take_at (i := 6) (v := ?_) (some 30) rfl rfl (by kernel_rfl) (by kernel_rfl) (by kernel_rfl) (fun _ _ _ h => h) hHeld (by rfl) (fun wS hSw => ?_) ?_
  rotate_left
  · try dsimp only at hSw
    go_simp
    try with_reducible rfl
  try simp only [Act.put, List.setIfInBounds_toArray, List.set_cons_zero, List.set_cons_succ]
  refine take_at (i := 7) (v := ?_) (some 31) rfl rfl (by kernel_rfl) (by kernel_rfl) (by kernel_rfl) (fun _ _ _ h => h) hHeld (by rfl) (fun wS hSw => ?_) ?_
  rotate_left
  · try dsimp only at hSw
    go_simp
    try with_reducible rfl
  try simp only [Act.put, List.setIfInBounds_toArray, List.set_cons_zero, List.set_cons_succ]
  refine take_at (i := 8) (v := ?_) (some 32) rfl rfl (by kernel_rfl) (by kernel_rfl) (by kernel_rfl) (fun _ _ _ h => h) hHeld (by rfl) (fun wS hSw => ?_) ?_
  rotate_left
  · try dsimp only at hSw
    go_simp
    try with_reducible rfl
  try simp only [Act.put, List.setIfInBounds_toArray, List.set_cons_zero, List.set_cons_succ]
  refine take_at (i := 9) (v := ?_) (some 33) rfl rfl (by kernel_rfl) (by kernel_rfl) (by kernel_rfl) (fun _ _ _ h => h) hHeld (by rfl) (fun wS hSw => ?_) ?_
  rotate_left
  · try dsimp only at hSw
    go_simp
    try with_reducible rfl
  try simp only [Act.put, List.setIfInBounds_toArray, List.set_cons_zero, List.set_cons_succ]
  refine take_at (i := 10) (v := ?_) (some 34) rfl rfl (by kernel_rfl) (by kernel_rfl) (by kernel_rfl) (fun _ _ _ h => h) hHeld (by rfl) (fun wS hSw => ?_) ?_
  rotate_left
  · try dsimp only at hSw
    go_simp
    try with_reducible rfl
  try simp only [Act.put, List.setIfInBounds_toArray, List.set_cons_zero, List.set_cons_succ]
  refine take_at (i := 11) (v := ?_) (some 35) rfl rfl (by kernel_rfl) (by kernel_rfl) (by kernel_rfl) (fun _ _ _ h => h) hHeld (by rfl) (fun wS hSw => ?_) ?_
  rotate_left
  · try dsimp only at hSw
    go_simp
    try with_reducible rfl
  try simp only [Act.put, List.setIfInBounds_toArray, List.set_cons_zero, List.set_cons_succ]
  refine take_at (i := 12) (v := ?_) (some 36) rfl rfl (by kernel_rfl) (by kernel_rfl) (by kernel_rfl) (fun _ _ _ h => h) hHeld (by rfl) (fun wS hSw => ?_) ?_
  rotate_left
  · try dsimp only at hSw
    go_simp
    try with_reducible rfl
  try simp only [Act.put, List.setIfInBounds_toArray, List.set_cons_zero, List.set_cons_succ]
  refine take_at (i := 13) (v := ?_) (some 37) rfl rfl (by kernel_rfl) (by kernel_rfl) (by kernel_rfl) (fun _ _ _ h => h) hHeld (by rfl) (fun wS hSw => ?_) ?_
  rotate_left
  · try dsimp only at hSw
    go_simp
    try with_reducible rfl
  try simp only [Act.put, List.setIfInBounds_toArray, List.set_cons_zero, List.set_cons_succ]
  refine take_at (i := 16) (v := ?_) (some 40) rfl rfl (by kernel_rfl) (by kernel_rfl) (by kernel_rfl) (fun _ _ _ h => h) hHeld (by rfl) (fun wS hSw => ?_) ?_
  rotate_left
  · try dsimp only at hSw
    go_simp
    try with_reducible rfl
  try simp only [Act.put, List.setIfInBounds_toArray, List.set_cons_zero, List.set_cons_succ]
  refine take_at (i := 17) (v := ?_) (some 41) rfl rfl (by kernel_rfl) (by kernel_rfl) (by kernel_rfl) (fun _ _ _ h => h) hHeld (by rfl) (fun wS hSw => ?_) ?_
  rotate_left
  · try dsimp only at hSw
    go_simp
    try with_reducible rfl
  try simp only [Act.put, List.setIfInBounds_toArray, List.set_cons_zero, List.set_cons_succ]
  refine take_at (i := 18) (v := ?_) (some 42) rfl rfl (by kernel_rfl) (by kernel_rfl) (by kernel_rfl) (fun _ _ _ h => h) hHeld (by rfl) (fun wS hSw => ?_) ?_
  rotate_left
  · try dsimp only at hSw
    go_simp
    try with_reducible rfl
  try simp only [Act.put, List.setIfInBounds_toArray, List.set_cons_zero, List.set_cons_succ]
  refine take_at (i := 19) (v := ?_) (some 43) rfl rfl (by kernel_rfl) (by kernel_rfl) (by kernel_rfl) (fun _ _ _ h => h) hHeld (by rfl) (fun wS hSw => ?_) ?_
  rotate_left
  · try dsimp only at hSw
    go_simp
    try with_reducible rfl
  try simp only [Act.put, List.setIfInBounds_toArray, List.set_cons_zero, List.set_cons_succ]
  refine wpAnyH_ready (rs := [14]) (by kernel_rfl) (by simp) ?_
  refine AllReadyH.cons rfl (fun K hK => ?_) AllReadyH.nil
  simp only [List.getElem_toArray, List.getElem_cons_succ, List.getElem_cons_zero]
  go_simp
  refine (H1.out _).mono ?_
  rintro e w1 ⟨v1, rfl, ho1, hb1, hn1⟩
  rw [Int.toNat_natCast, HFL.out, HF.out, Nat.zero_add, List.nil_append] at ho1
  obtain ⟨A1, c1, rfl, _⟩ := own_shape ho1
  have hc1 := run_str (P := Try.prog) (c := c1) Try.underlying22 Try.underlying5 Try.underlying9 (Sees.of_own ho1)
  have hcB := run_str (P := Try.prog) (c := c) Try.underlying22 Try.underlying5 Try.underlying9 (hpre.drew.below hb1 (by simp))
  have hbel1 : Below w.heap.size w w1 := ⟨hb1.os, hb1.tape, hb1.output, hb1.size, hb1.block⟩
  clear ho1 hn1 hb1
  dsimp only
  refine hK.out _ _ hcB (fun _ => ?_)
  clear hK K
  refine wpAnyH_mono (S2 := fun w' => (convert 22 9 (.slice A d c)).run Try.prog w' = .ok (.string ⟨(l.take d).toArray⟩) w' ∧ (convert 22 9 (.slice A1 d c1)).run Try.prog w' = .ok (.string ⟨(l.take d).toArray⟩) w') (fun _ h => h.1) _ _ _ _ ?_
  clear hHeld
  have hHeld := And.intro hcB hc1
  try simp only [Act.put, List.setIfInBounds_toArray, List.set_cons_zero, List.set_cons_succ]
  refine take_at (i := 15) (v := ?_) (some 39) rfl rfl (by kernel_rfl) (by kernel_rfl) (by kernel_rfl) (fun _ _ _ h => h) hHeld (by rfl) (fun wS hSw => ?_) ?_
  rotate_left
  · try dsimp only at hSw
    go_simp
    try with_reducible rfl
  try simp only [Act.put, List.setIfInBounds_toArray, List.set_cons_zero, List.set_cons_succ]
  refine take_at (i := 20) (v := ?_) (some 44) rfl rfl (by kernel_rfl) (by kernel_rfl) (by kernel_rfl) (fun _ _ _ h => h) hHeld (by rfl) (fun wS hSw => ?_) ?_
  rotate_left
  · try dsimp only at hSw
    go_simp
    try with_reducible rfl
  try simp only [Act.put, List.setIfInBounds_toArray, List.set_cons_zero, List.set_cons_succ]
  refine take_at (i := 21) (v := ?_) (some 45) rfl rfl (by kernel_rfl) (by kernel_rfl) (by kernel_rfl) (fun _ _ _ h => h) hHeld (by rfl) (fun wS hSw => ?_) ?_
  rotate_left
  · try dsimp only at hSw
    go_simp
    try with_reducible rfl
  try simp only [Act.put, List.setIfInBounds_toArray, List.set_cons_zero, List.set_cons_succ]
  refine wpAnyH_done (by kernel_rfl) ?_ _
  have hz1 := hbel1.size
  clear hHeld hcB hc1 hcA hpre
  go_wp2_with fail
  refine (H2.out _).mono ?_
  rintro e w2 ⟨v2, rfl, ho2, hb2, hn2⟩
  rw [Int.toNat_natCast, HLX.out, Nat.zero_add, List.nil_append] at ho2
  obtain ⟨A2, c2, rfl, hc2, _⟩ := own_shape ho2
  have hbel2 : Below w.heap.size w w2 := hbel1.trans (hb2.mono hz1)
  have hz2 := hbel2.size
  have hs2 := Sees.of_own ho2
  clear ho2 hn2 hb2
  go_wp2_with fail
  refine (H3.out _).mono ?_
  rintro e w3 ⟨v3, rfl, ho3, hb3, hn3⟩
  rw [Int.toNat_natCast, HLY.out, Nat.zero_add, List.nil_append] at ho3
  obtain ⟨A3, c3, rfl, hc3, _⟩ := own_shape ho3
  have hbel3 : Below w.heap.size w w3 := hbel2.trans (hb3.mono hz2)
  have hz3 := hbel3.size
  have hs3 := Sees.of_own ho3
  have hs2' := hs2.below hb3 (Nat.le_refl _)
  clear ho3 hn3 hb3 hs2
  go_wp2_with fail
  clear h HU H1 H2 H3
  by_cases hxy : x = y
  · subst hxy
    go_quiet (fail)
    go_wp2_with (go_at_call 9; refine (known_any _).mono ?_; rintro e w4 ⟨rfl, hb4⟩)
    go_ret
    exact ⟨rfl, (below_drewN hbel3 _).trans (hb4.mono hz3)⟩
  · have e1 : ((x : Int) == (y : Int)) = false := by simp; omega
    have e6 : ((x : Int) != (y : Int)) = true := by rw [bne_iff_ne]; omega
    by_cases hle : lx ≤ ly
    · have e5 : decide (lx ≤ ly) = true := by simp [hle]
      have hsg := hs3.prefix_ hle
      rw [bvs_take] at hsg
      have hcf := fun n => run_str (P := Try.prog) (c := c2) Try.underlying22 Try.underlying5 Try.underlying9 (hs2'.drewN n)
      have hcg := fun n => run_str (P := Try.prog) (c := c3) Try.underlying22 Try.underlying5 Try.underlying9 (hsg.drewN n)
      have hlxc : (lx : Int) ≤ c3 := by omega
      clear hs2' hs3 hsg
      have hne : ¬ List.take lx (form 9 y) = form 9 x := fun he => hxy (form_prefix x y HXL.out HYL.out lx he)
      have hne2 : (List.take lx (form 9 y) == form 9 x) = false := by simpa using hne
      go_quiet (fail)
      go_wp2_with (go_at_call 9; refine (known_any _).mono ?_; rintro e w4 ⟨rfl, hb4⟩)
      go_ret
      exact ⟨rfl, (below_drewN hbel3 _).trans (hb4.mono hz3)⟩
    · have e5 : decide (lx ≤ ly) = false := by simp [hle]
      clear hs2' hs3
      go_quiet (fail)
      go_wp2_with (go_at_call 9; refine (known_any _).mono ?_; rintro e w4 ⟨rfl, hb4⟩)
      go_ret
      exact ⟨rfl, (below_drewN hbel3 _).trans (hb4.mono hz3)⟩

set_option linter.unusedSimpArgs false in
set_option maxRecDepth 100000 in
set_option maxHeartbeats 2000000 in
theorem only_bad (A : Option Addr) (n c : Nat) (l : List UInt8) (x y : Nat) (w : World) (h : Sees w w.heap.size 1 A n (bvs l)) (hnc : n ≤ c) (hn : n ≤ 2000) (hx : x < 18446744073709551616) (hy : y < 18446744073709551616)
    (lx ly : Nat) (HLX : Hid ((form 9 x).length = lx)) (HLY : Hid ((form 9 y).length = ly)) (v d e0 : Nat)
    (hu : uintAt l 0 = (v, d, e0)) (he : e0 ≠ 0) :
    Calls Try.prog 3 #[.slice A n c, .int .u64 x, .int .u64 y] w fun e w' => e = .returned (.bool true) ∧ Below w.heap.size w w' := by
  have HU := Lib.hid (uint_any A n c 0 l w _ h hnc (by omega))
  rw [hu] at HU
  have H2 := Lib.hid (fun w => appendUint_any none 0 0 [] (x : Int) (by omega) (by omega) w (Sees.nil_ _ _ _ _) (by simp) (by omega))
  have H3 := Lib.hid (fun w => appendUint_any none 0 0 [] (y : Int) (by omega) (by omega) w (Sees.nil_ _ _ _ _) (by simp) (by omega))
  have hnI : (n : Int) ≤ 2000 := by omega
  have heb : ((e0 : Int) == 0) = false := by simp; omega
  have HXL := Lib.hid hx
  have HYL := Lib.hid hy
  clear hu hx hy he
  go_enter Try.func3, Try.ntmps3
  go_wp2_with (go_at_call 10; refine HU.out.mono ?_; rintro en w' ⟨rfl, rfl⟩; unfold trip)
  refine (H2.out _).mono ?_
  rintro e w2 ⟨v2, rfl, ho2, hb2, hn2⟩
  rw [Int.toNat_natCast, HLX.out, Nat.zero_add, List.nil_append] at ho2
  obtain ⟨A2, c2, rfl, hc2, _⟩ := own_shape ho2
  have hbel2 : Below w.heap.size w w2 := hb2
  have hz2 := hbel2.size
  have hs2 := Sees.of_own ho2
  clear ho2 hn2 hb2
  go_wp2_with fail
  refine (H3.out _).mono ?_
  rintro e w3 ⟨v3, rfl, ho3, hb3, hn3⟩
  rw [Int.toNat_natCast, HLY.out, Nat.zero_add, List.nil_append] at ho3
  obtain ⟨A3, c3, rfl, hc3, _⟩ := own_shape ho3
  have hbel3 : Below w.heap.size w w3 := hbel2.trans (hb3.mono hz2)
  have hz3 := hbel3.size
  have hs3 := Sees.of_own ho3
  have hs2' := hs2.below hb3 (Nat.le_refl _)
  clear ho3 hn3 hb3 hs2
  go_wp2_with fail
  clear h HU H2 H3
  by_cases hxy : x = y
  · subst hxy
    go_quiet (fail)
    go_wp2_with (go_at_call 9; refine (known_any _).mono ?_; rintro e w4 ⟨rfl, hb4⟩)
    go_ret
    exact ⟨rfl, (below_drewN hbel3 _).trans (hb4.mono hz3)⟩
  · have e1 : ((x : Int) == (y : Int)) = false := by simp; omega
    have e6 : ((x : Int) != (y : Int)) = true := by rw [bne_iff_ne]; omega
    by_cases hle : lx ≤ ly
    · have e5 : decide (lx ≤ ly) = true := by simp [hle]
      have hsg := hs3.prefix_ hle
      rw [bvs_take] at hsg
      have hcf := fun n => run_str (P := Try.prog) (c := c2) Try.underlying22 Try.underlying5 Try.underlying9 (hs2'.drewN n)
      have hcg := fun n => run_str (P := Try.prog) (c := c3) Try.underlying22 Try.underlying5 Try.underlying9 (hsg.drewN n)
      have hlxc : (lx : Int) ≤ c3 := by omega
      clear hs2' hs3 hsg
      have hne : ¬ List.take lx (form 9 y) = form 9 x := fun he => hxy (form_prefix x y HXL.out HYL.out lx he)
      have hne2 : (List.take lx (form 9 y) == form 9 x) = false := by simpa using hne
      go_quiet (fail)
      go_wp2_with (go_at_call 9; refine (known_any _).mono ?_; rintro e w4 ⟨rfl, hb4⟩)
      go_ret
      exact ⟨rfl, (below_drewN hbel3 _).trans (hb4.mono hz3)⟩
    · have e5 : decide (lx ≤ ly) = false := by simp [hle]
      clear hs2' hs3
      go_quiet (fail)
      go_wp2_with (go_at_call 9; refine (known_any _).mono ?_; rintro e w4 ⟨rfl, hb4⟩)
      go_ret
      exact ⟨rfl, (below_drewN hbel3 _).trans (hb4.mono hz3)⟩

set_option maxHeartbeats 1000000 in
theorem only_big (A : Option Addr) (n c : Nat) (x y : Int) (w : World) (hn : (2000 : Int) < n) :
    Calls Try.prog 3 #[.slice A n c, .int .u64 x, .int .u64 y] w fun e w' => e = .returned (.bool true) ∧ Below w.heap.size w w' := by
  go_enter Try.func3, Try.ntmps3
  go_wp2_with (go_at_call 9; refine (known_any _).mono ?_; rintro e w1 ⟨rfl, hb1⟩)
  go_ret
  exact ⟨rfl, hb1⟩

theorem wireOnly_any (A : Option Addr) (n c : Nat) (l : List UInt8) (x y : Int) (w : World) (h : Sees w w.heap.size 1 A n (bvs l)) (hl : l.length = n) (hnc : n ≤ c) (hx0 : 0 ≤ x) (hx : x < 18446744073709551616) (hy0 : 0 ≤ y) (hy : y < 18446744073709551616) :
    Calls Try.prog 3 #[.slice A n c, .int .u64 x, .int .u64 y] w fun e w' => e = .returned (.bool true) ∧ Below w.heap.size w w' := by
  obtain ⟨x, rfl⟩ := Int.eq_ofNat_of_zero_le hx0
  obtain ⟨y, rfl⟩ := Int.eq_ofNat_of_zero_le hy0
  by_cases hn : 2000 < n
  · exact only_big A n c x y w (by omega)
  · obtain ⟨v, d, e, hr⟩ : ∃ v d e, rd 0 0 l = (v, d, e) := ⟨_, _, _, rfl⟩
    have hu : uintAt l 0 = (v, if e = 0 then d else 0, e) := by
      unfold uintAt
      rw [if_neg (by omega)]
      simp [hr]
    by_cases he : e = 0
    · subst he
      obtain ⟨g1, g2, g3, g4, g5⟩ := rd_only0 l v d hr
      rw [if_pos rfl] at hu
      exact only_ok A n c l x y v d w h hnc (by omega) (by omega) (by omega) _ _ (Lib.hid rfl) (Lib.hid rfl) hu g4 g1 g3 (by omega) g5.symm
    · exact only_bad A n c l x y w h hnc (by omega) (by omega) (by omega) _ _ (Lib.hid rfl) (Lib.hid rfl) _ _ _ hu he
end Go.Proofs.Ytdhcnolbiocneaa
