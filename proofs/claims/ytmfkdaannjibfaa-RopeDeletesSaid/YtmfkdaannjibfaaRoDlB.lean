/-
  The walk of RopeDeletes.
-/
import Derived.Test.YtmfkdaannjibfaaBdP
namespace Go.Proofs.Ytmfkdaannjibfaa
open Go.RowKit

set_option maxRecDepth 100000 in
set_option maxHeartbeats 4000000 in
theorem dels_law (A : Option Addr) (n c : Nat) (l : List Int) (i j k m : Int) (w : World) (hs : Sees w w.heap.size 1 A n (l.map r32)) (hc : n ≤ c) (hn : (n : Int) ≤ 9223372036854775807) :
    Calls Try.prog 6 #[.slice A n c, .int .i64 i, .int .i64 j, .int .i64 k, .int .i64 m] w fun e w' => e = .returned (.bool true) ∧ Below w.heap.size w w' := by
  have hl : l.length = n := by have := hs.1; simp at this; omega
  have HS := Lib.hid (And.intro hs (And.intro hc hl))
  have S0 := Star.nil_ w
  clear hs hc hl
  by_cases hbig : (2000 : Int) < n
  · go_enter Try.func6, Try.ntmps6
    have HB := Lib.hid S0
    clear S0
    go_wp2_with fail
    refine (known_any _).mono ?_
    rintro e wz ⟨rfl, hbz⟩
    have HBz := Lib.hid (HB.out.below.trans (hbz.mono HB.out.below.size))
    clear hbz
    go_wp2_with fail
    go_ret
    exact ⟨rfl, HBz.out⟩
  · have hn2 : n ≤ 2000 := by omega
    have HC := Lib.hid (newR_star S0)
    clear S0
    go_enter Try.func6, Try.ntmps6
    go_wp2_with fail
    refine HC.out.mono ?_
    clear HC
    rintro e w1 ⟨g, rfl, S1⟩
    have HC := Lib.hid (newR_star S1)
    clear S1
    go_wp2_with fail
    refine HC.out.mono ?_
    clear HC
    rintro e w2 ⟨g2, rfl, S2⟩
    have HC := Lib.hid (ins_star (A := [roI (fun k => k = g2) g2 [] 0]) (B := []) S2 (arg_sees S2 HS.out.1) HS.out.2.1 (by omega) (by unfold chkN; omega) 0)
    clear S2
    rcases ins_nil l with ⟨e1, e2, -⟩ | ⟨e1, -, -⟩
    rotate_left
    · rw [e1] at HC
      clear e1
      go_wp2_with fail
      refine HC.out.mono ?_
      clear HC
      rintro e w3 ⟨H3, rfl, S3⟩
      have HB := Lib.hid S3
      clear S3
      go_wp2_with fail
      refine (known_any _).mono ?_
      rintro e wz ⟨rfl, hbz⟩
      have HBz := Lib.hid (HB.out.below.trans (hbz.mono HB.out.below.size))
      clear hbz
      go_wp2_with fail
      go_ret
      exact ⟨rfl, HBz.out⟩
    have HE := Lib.hid (And.intro e1 e2)
    rw [e1, e2] at HC
    clear e1 e2
    go_wp2_with fail
    refine HC.out.mono ?_
    clear HC
    rintro e w3 ⟨H3, rfl, S3⟩
    have HC := Lib.hid (ins_star (A := []) S3 (arg_sees S3 HS.out.1) HS.out.2.1 (by omega) (by unfold chkN; omega) 0)
    rw [HE.out.1, HE.out.2] at HC
    clear S3
    go_wp2_with fail
    refine HC.out.mono ?_
    clear HC HE
    rintro e w4 ⟨H4, rfl, S4⟩
    have hcase : i < 0 ∨ (¬ i < 0 ∧ j < i) ∨ (¬ i < 0 ∧ ¬ j < i ∧ k < j) ∨ (¬ i < 0 ∧ ¬ j < i ∧ ¬ k < j ∧ m < k) ∨ (¬ i < 0 ∧ ¬ j < i ∧ ¬ k < j ∧ ¬ m < k ∧ (n : Int) < m) ∨ (¬ i < 0 ∧ ¬ j < i ∧ ¬ k < j ∧ ¬ m < k ∧ ¬ (n : Int) < m) := by omega
    rcases hcase with h1 | ⟨h1, h2⟩ | ⟨h1, h2, h3⟩ | ⟨h1, h2, h3, h4⟩ | ⟨h1, h2, h3, h4, h5⟩ | ⟨h1, h2, h3, h4, h5⟩
    · have HB := Lib.hid S4
      clear S4
      go_wp2_with fail
      refine (known_any _).mono ?_
      rintro e wz ⟨rfl, hbz⟩
      have HBz := Lib.hid (HB.out.below.trans (hbz.mono HB.out.below.size))
      clear hbz
      go_wp2_with fail
      go_ret
      exact ⟨rfl, HBz.out⟩
    · have HB := Lib.hid S4
      clear S4
      go_wp2_with fail
      refine (known_any _).mono ?_
      rintro e wz ⟨rfl, hbz⟩
      have HBz := Lib.hid (HB.out.below.trans (hbz.mono HB.out.below.size))
      clear hbz
      go_wp2_with fail
      go_ret
      exact ⟨rfl, HBz.out⟩
    · have HB := Lib.hid S4
      clear S4
      go_wp2_with fail
      refine (known_any _).mono ?_
      rintro e wz ⟨rfl, hbz⟩
      have HBz := Lib.hid (HB.out.below.trans (hbz.mono HB.out.below.size))
      clear hbz
      go_wp2_with fail
      go_ret
      exact ⟨rfl, HBz.out⟩
    · have HB := Lib.hid S4
      clear S4
      go_wp2_with fail
      refine (known_any _).mono ?_
      rintro e wz ⟨rfl, hbz⟩
      have HBz := Lib.hid (HB.out.below.trans (hbz.mono HB.out.below.size))
      clear hbz
      go_wp2_with fail
      go_ret
      exact ⟨rfl, HBz.out⟩
    · have HB := Lib.hid S4
      clear S4
      go_wp2_with fail
      refine (known_any _).mono ?_
      rintro e wz ⟨rfl, hbz⟩
      have HBz := Lib.hid (HB.out.below.trans (hbz.mono HB.out.below.size))
      clear hbz
      go_wp2_with fail
      go_ret
      exact ⟨rfl, HBz.out⟩
    · have hR : l.length = n := HS.out.2.2
      obtain ⟨Z, x1, x2, x3, x4, x5, x6, x7, x8, x9⟩ := del_two (R := l) (i := i) (j := j) (k := k) (m := m) (by omega) (by omega) (by omega) (by omega) (by omega)
      obtain ⟨R1, hR1⟩ : ∃ x, delR l k m = x := ⟨_, rfl⟩
      obtain ⟨R2, hR2⟩ : ∃ x, delR l i j = x := ⟨_, rfl⟩
      rw [hR1] at x2 x5 x8
      rw [hR2] at x4 x6 x9
      have HX := Lib.hid (And.intro x1 (And.intro x2 (And.intro x3 (And.intro x4 (And.intro x5 (And.intro x6 (And.intro hR1 hR2)))))))
      obtain ⟨z, hz⟩ : ∃ x, Z.length = x := ⟨_, rfl⟩
      rw [hz, hR] at x7
      have HZ := Lib.hid (And.intro hz x7)
      have hzz : (z : Int) ≤ 2000 := by omega
      have gw1 : IntKind.i64.wrap (j - i) = j - i := IntWalk.i64_in _ (by omega)
      have gw2 : IntKind.i64.wrap (k - (j - i)) = k - (j - i) := IntWalk.i64_in _ (by omega)
      have gw3 : IntKind.i64.wrap (m - (j - i)) = m - (j - i) := IntWalk.i64_in _ (by omega)
      have gw4 : IntKind.i64.wrap ((n : Int) - (j - i)) = (n : Int) - (j - i) := IntWalk.i64_in _ (by omega)
      have gw5 : IntKind.i64.wrap (m - k) = m - k := IntWalk.i64_in _ (by omega)
      have gw6 : IntKind.i64.wrap ((n : Int) - (j - i) - (m - k)) = (z : Int) := (IntWalk.i64_in _ (by omega)).trans x7.symm
      clear x1 x2 x3 x4 x5 x6 x7 x8 x9 hR1 hR2 hz hR
      have HC := Lib.hid (del_star (A := [roI H4 g2 l (0 + chkN n + 2)]) (B := []) S4 (by unfold chkN; omega) k m)
      rw [HX.out.1, HX.out.2.2.2.2.2.2.1] at HC
      clear S4
      go_wp2_with fail
      refine HC.out.mono ?_
      clear HC
      rintro e w5 ⟨H5, rfl, S5⟩
      have HC := Lib.hid (del_star (A := [roI H4 g2 l (0 + chkN n + 2)]) (B := []) S5 (by unfold chkN; omega) i j)
      rw [HX.out.2.1, HX.out.2.2.2.2.1] at HC
      clear S5
      go_wp2_with fail
      refine HC.out.mono ?_
      clear HC
      rintro e w6 ⟨H6, rfl, S6⟩
      have HC := Lib.hid (del_star (A := []) (B := [roI H6 g Z ((0 + chkN n + 2) + 2 + 2)]) S6 (by unfold chkN; omega) i j)
      rw [HX.out.2.2.1, HX.out.2.2.2.2.2.2.2] at HC
      clear S6
      go_wp2_with fail
      refine HC.out.mono ?_
      clear HC
      rintro e w7 ⟨H7, rfl, S7⟩
      have HC := Lib.hid (del_star (A := []) (B := [roI H6 g Z ((0 + chkN n + 2) + 2 + 2)]) S7 (by unfold chkN; omega) (k - (j - i)) (m - (j - i)))
      rw [HX.out.2.2.2.1, HX.out.2.2.2.2.2.1] at HC
      clear S7
      go_wp2_with fail
      refine HC.out.mono ?_
      clear HC
      rintro e w8 ⟨H8, rfl, S8⟩
      have HC := Lib.hid (len_star (A := [roI H8 g2 Z ((0 + chkN n + 2) + 2 + 2)]) (B := []) S8)
      rw [HZ.out.1] at HC
      clear S8
      go_wp2_with fail
      refine HC.out.mono ?_
      clear HC
      rintro e w9 ⟨H9, rfl, S9⟩
      have HB1 := Lib.hid (show betR Z 0 z = 0 ∧ cutR Z 0 z = Z from by rw [← HZ.out.1]; exact ⟨betR_all Z, cutR_all Z⟩)
      obtain ⟨bx, hbx⟩ : ∃ x, w9.heap.size = x := ⟨_, rfl⟩
      have HC := Lib.hid (slice_star (A := [roI H8 g2 Z ((0 + chkN n + 2) + 2 + 2)]) (B := []) S9 (0) (z))
      rw [HB1.out.1] at HC
      clear S9
      go_wp2_with fail
      refine HC.out.mono ?_
      clear HC
      rintro e w10 ⟨H10, ux, rfl, S10⟩
      obtain ⟨vx, hvx⟩ : ∃ x, cutR Z (0) (z) = x := ⟨_, rfl⟩
      rw [hvx, hbx] at S10
      clear hbx
      obtain ⟨Ax, cx, rfl, hccx, -, -, -⟩ := own_shape (show w10.ownsRow bx 21 1 ux vx.length (vx.map r32) from S10.all _ (List.mem_cons_self))
      obtain ⟨nx, hnx⟩ : ∃ x, vx.length = x := ⟨_, rfl⟩
      have HVx := Lib.hid (And.intro hvx (And.intro hnx (hnx ▸ hccx)))
      rw [hnx] at S10 ⊢
      clear hvx hnx hccx
      have S10 : Star w [ruI (.slice Ax nx cx) bx vx, roI H8 g2 Z ((0 + chkN n + 2) + 2 + 2), roI H10 g Z ((0 + chkN n + 2) + 2 + 2)] w10 := S10
      obtain rfl : Z = vx := by rw [← HVx.out.1]; exact HB1.out.2.symm
      have HC := Lib.hid (len_star (A := [ruI (.slice Ax nx cx) bx Z]) (B := [roI H10 g Z ((0 + chkN n + 2) + 2 + 2)]) S10)
      rw [HZ.out.1] at HC
      clear S10
      go_wp2_with fail
      refine HC.out.mono ?_
      clear HC
      rintro e w11 ⟨H11, rfl, S11⟩
      obtain ⟨byy, hbyy⟩ : ∃ x, w11.heap.size = x := ⟨_, rfl⟩
      have HC := Lib.hid (slice_star (A := [ruI (.slice Ax nx cx) bx Z]) (B := [roI H10 g Z ((0 + chkN n + 2) + 2 + 2)]) S11 (0) (z))
      rw [HB1.out.1] at HC
      clear S11
      go_wp2_with fail
      refine HC.out.mono ?_
      clear HC
      rintro e w12 ⟨H12, uy, rfl, S12⟩
      obtain ⟨vy, hvy⟩ : ∃ x, cutR Z (0) (z) = x := ⟨_, rfl⟩
      rw [hvy, hbyy] at S12
      clear hbyy
      obtain ⟨Ay, cy, rfl, hccy, -, -, -⟩ := own_shape (show w12.ownsRow byy 21 1 uy vy.length (vy.map r32) from S12.all _ (List.mem_cons_self))
      obtain ⟨ny, hny⟩ : ∃ x, vy.length = x := ⟨_, rfl⟩
      have HVy := Lib.hid (And.intro hvy (And.intro hny (hny ▸ hccy)))
      rw [hny] at S12 ⊢
      clear hvy hny hccy
      have S12 : Star w [ruI (.slice Ay ny cy) byy vy, ruI (.slice Ax nx cx) bx Z, roI H12 g2 Z ((0 + chkN n + 2) + 2 + 2), roI H10 g Z ((0 + chkN n + 2) + 2 + 2)] w12 := S12
      obtain rfl : Z = vy := by rw [← HVy.out.1]; exact HB1.out.2.symm
      obtain ⟨hx1, hx2, hx3⟩ := ru_sees S12 (A := Ax) (n := nx) (c := cx) (b := bx) (R := Z) (by simp)
      obtain ⟨hy1, hy2, hy3⟩ := ru_sees S12 (A := Ay) (n := ny) (c := cy) (b := byy) (R := Z) (by simp)
      have hnx : nx = z := by rw [← hx2]; exact HZ.out.1
      have hny : ny = z := by rw [← hy2]; exact HZ.out.1
      subst hnx
      subst hny
      have HC := Lib.hid (same_star S12 hx1 hy1 (c := cx) (c2 := cy) (by omega) (by omega))
      rw [show (Z == Z) = true from by simp] at HC
      clear S12 hx1 hx2 hx3 hy1 hy2 hy3
      go_wp2_with fail
      refine HC.out.mono ?_
      clear HC
      rintro e wb0 ⟨rfl, Sb⟩
      have HB := Lib.hid Sb
      clear Sb
      go_wp2_with fail
      refine (known_any _).mono ?_
      rintro e wz ⟨rfl, hbz⟩
      have HBz := Lib.hid (HB.out.below.trans (hbz.mono HB.out.below.size))
      clear hbz
      go_wp2_with fail
      go_ret
      exact ⟨rfl, HBz.out⟩

end Go.Proofs.Ytmfkdaannjibfaa
