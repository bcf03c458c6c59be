/-
  The walk of RopeEither.
-/
import Derived.Test.YtmfkdaannjibfaaBdP
namespace Go.Proofs.Ytmfkdaannjibfaa
open Go.RowKit

set_option maxRecDepth 100000 in
set_option maxHeartbeats 4000000 in
theorem either_law (A Aa Ab : Option Addr) (n na nb c ca cb : Nat) (l a b : List Int) (i j : Int) (w : World) (hs : Sees w w.heap.size 1 A n (l.map r32)) (hc : n ≤ c) (hn : (n : Int) ≤ 9223372036854775807)
    (hsa : Sees w w.heap.size 1 Aa na (a.map r32)) (hca : na ≤ ca) (hna : (na : Int) ≤ 9223372036854775807) (hsb : Sees w w.heap.size 1 Ab nb (b.map r32)) (hcb : nb ≤ cb) (hnb : (nb : Int) ≤ 9223372036854775807) :
    Calls Try.prog 4 #[.slice A n c, .slice Aa na ca, .slice Ab nb cb, .int .i64 i, .int .i64 j] w fun e w' => e = .returned (.bool true) ∧ Below w.heap.size w w' := by
  have hl : l.length = n := by have := hs.1; simp at this; omega
  have hla : a.length = na := by have := hsa.1; simp at this; omega
  have hlb : b.length = nb := by have := hsb.1; simp at this; omega
  have HS := Lib.hid (And.intro hs (And.intro hc hl))
  have HSa := Lib.hid (And.intro hsa (And.intro hca hla))
  have HSb := Lib.hid (And.intro hsb (And.intro hcb hlb))
  have S0 := Star.nil_ w
  clear hs hc hl hsa hca hla hsb hcb hlb
  have hcase : (1000 : Int) < n ∨ (¬ (1000 : Int) < n ∧ (300 : Int) < na) ∨ (¬ (1000 : Int) < n ∧ ¬ (300 : Int) < na ∧ (300 : Int) < nb) ∨ (¬ (1000 : Int) < n ∧ ¬ (300 : Int) < na ∧ ¬ (300 : Int) < nb) := by omega
  rcases hcase with h1 | ⟨h1, h2⟩ | ⟨h1, h2, h3⟩ | ⟨h1, h2, h3⟩
  · go_enter Try.func4, Try.ntmps4
    have HB := Lib.hid S0
    clear S0
    go_wp2_with fail
    refine (known_any _).mono ?_
    rintro e wz ⟨rfl, hbz⟩
    have HBz := Lib.hid (HB.out.below.trans (hbz.mono HB.out.below.size))
    clear hbz
    go_wp2_with fail
    go_ret
    exact ⟨rfl, HBz.out⟩
  · go_enter Try.func4, Try.ntmps4
    have HB := Lib.hid S0
    clear S0
    go_wp2_with fail
    refine (known_any _).mono ?_
    rintro e wz ⟨rfl, hbz⟩
    have HBz := Lib.hid (HB.out.below.trans (hbz.mono HB.out.below.size))
    clear hbz
    go_wp2_with fail
    go_ret
    exact ⟨rfl, HBz.out⟩
  · go_enter Try.func4, Try.ntmps4
    have HB := Lib.hid S0
    clear S0
    go_wp2_with fail
    refine (known_any _).mono ?_
    rintro e wz ⟨rfl, hbz⟩
    have HBz := Lib.hid (HB.out.below.trans (hbz.mono HB.out.below.size))
    clear hbz
    go_wp2_with fail
    go_ret
    exact ⟨rfl, HBz.out⟩
  · have hn2 : n ≤ 1000 := by omega
    have hna2 : na ≤ 300 := by omega
    have hnb2 : nb ≤ 300 := by omega
    have HC := Lib.hid (newR_star S0)
    clear S0
    go_enter Try.func4, Try.ntmps4
    go_wp2_with fail
    refine HC.out.mono ?_
    clear HC
    rintro e w1 ⟨g, rfl, S1⟩
    have HC := Lib.hid (newR_star S1)
    clear S1
    go_wp2_with fail
    refine HC.out.mono ?_
    clear HC
    rintro e w2 ⟨g2, rfl, S2⟩
    have HC := Lib.hid (ins_star (A := [roI (fun k => k = g2) g2 [] 0]) (B := []) S2 (arg_sees S2 HS.out.1) HS.out.2.1 (by omega) (by unfold chkN; omega) 0)
    clear S2
    rcases ins_nil l with ⟨e1, e2, -⟩ | ⟨e1, -, -⟩
    rotate_left
    · rw [e1] at HC
      clear e1
      go_wp2_with fail
      refine HC.out.mono ?_
      clear HC
      rintro e w3 ⟨H3, rfl, S3⟩
      have HB := Lib.hid S3
      clear S3
      go_wp2_with fail
      refine (known_any _).mono ?_
      rintro e wz ⟨rfl, hbz⟩
      have HBz := Lib.hid (HB.out.below.trans (hbz.mono HB.out.below.size))
      clear hbz
      go_wp2_with fail
      go_ret
      exact ⟨rfl, HBz.out⟩
    have HE := Lib.hid (And.intro e1 e2)
    rw [e1, e2] at HC
    clear e1 e2
    go_wp2_with fail
    refine HC.out.mono ?_
    clear HC
    rintro e w3 ⟨H3, rfl, S3⟩
    have HC := Lib.hid (ins_star (A := []) S3 (arg_sees S3 HS.out.1) HS.out.2.1 (by omega) (by unfold chkN; omega) 0)
    rw [HE.out.1, HE.out.2] at HC
    clear S3
    go_wp2_with fail
    refine HC.out.mono ?_
    clear HC HE
    rintro e w4 ⟨H4, rfl, S4⟩
    have hcase : i < 0 ∨ (¬ i < 0 ∧ j < i) ∨ (¬ i < 0 ∧ ¬ j < i ∧ (n : Int) < j) ∨ (¬ i < 0 ∧ ¬ j < i ∧ ¬ (n : Int) < j) := by omega
    rcases hcase with h1 | ⟨h1, h2⟩ | ⟨h1, h2, h3⟩ | ⟨h1, h2, h3⟩
    · have HB := Lib.hid S4
      clear S4
      go_wp2_with fail
      refine (known_any _).mono ?_
      rintro e wz ⟨rfl, hbz⟩
      have HBz := Lib.hid (HB.out.below.trans (hbz.mono HB.out.below.size))
      clear hbz
      go_wp2_with fail
      go_ret
      exact ⟨rfl, HBz.out⟩
    · have HB := Lib.hid S4
      clear S4
      go_wp2_with fail
      refine (known_any _).mono ?_
      rintro e wz ⟨rfl, hbz⟩
      have HBz := Lib.hid (HB.out.below.trans (hbz.mono HB.out.below.size))
      clear hbz
      go_wp2_with fail
      go_ret
      exact ⟨rfl, HBz.out⟩
    · have HB := Lib.hid S4
      clear S4
      go_wp2_with fail
      refine (known_any _).mono ?_
      rintro e wz ⟨rfl, hbz⟩
      have HBz := Lib.hid (HB.out.below.trans (hbz.mono HB.out.below.size))
      clear hbz
      go_wp2_with fail
      go_ret
      exact ⟨rfl, HBz.out⟩
    · have hR : l.length = n := HS.out.2.2
      have hRa : a.length = na := HSa.out.2.2
      have hRb : b.length = nb := HSb.out.2.2
      rcases all_or b with hb | hb
      rotate_left
      · have HX := Lib.hid (insE_bad (R := l) (i := j) hb)
        have HC := Lib.hid (ins_star (A := [roI H4 g2 l (0 + chkN n + 2)]) S4 (arg_sees S4 HSb.out.1) HSb.out.2.1 (by omega) (by unfold chkN; omega) (j))
        rw [HX.out] at HC
        clear S4 hb hR hRa hRb
        go_wp2_with fail
        refine HC.out.mono ?_
        clear HC
        rintro e w5 ⟨H5, rfl, S5⟩
        have HB := Lib.hid S5
        clear S5
        go_wp2_with fail
        refine (known_any _).mono ?_
        rintro e wz ⟨rfl, hbz⟩
        have HBz := Lib.hid (HB.out.below.trans (hbz.mono HB.out.below.size))
        clear hbz
        go_wp2_with fail
        go_ret
        exact ⟨rfl, HBz.out⟩
      rcases all_or a with ha | ha
      rotate_left
      · have HX := Lib.hid (And.intro (insE_good (R := l) (i := j) (by omega) (by omega) hb) (fun R => insE_bad (R := R) (i := i) ha))
        have HC := Lib.hid (ins_star (A := [roI H4 g2 l (0 + chkN n + 2)]) S4 (arg_sees S4 HSb.out.1) HSb.out.2.1 (by omega) (by unfold chkN; omega) (j))
        rw [HX.out.1] at HC
        clear S4 hb ha hR hRa hRb
        go_wp2_with fail
        refine HC.out.mono ?_
        clear HC
        rintro e w5 ⟨H5, rfl, S5⟩
        have HC := Lib.hid (ins_star (A := [roI H4 g2 l (0 + chkN n + 2)]) S5 (arg_sees S5 HSa.out.1) HSa.out.2.1 (by omega) (by unfold chkN; omega) (i))
        rw [HX.out.2 _] at HC
        clear S5
        go_wp2_with fail
        refine HC.out.mono ?_
        clear HC
        rintro e w6 ⟨H6, rfl, S6⟩
        have HB := Lib.hid S6
        clear S6
        go_wp2_with fail
        refine (known_any _).mono ?_
        rintro e wz ⟨rfl, hbz⟩
        have HBz := Lib.hid (HB.out.below.trans (hbz.mono HB.out.below.size))
        clear hbz
        go_wp2_with fail
        go_ret
        exact ⟨rfl, HBz.out⟩
      obtain ⟨R1, R2, Z, x1, x2, x3, x4, x5, x6, x7, x8, x9⟩ := ins_two (l := l) (i := i) (j := j) (by omega) (by omega) (by omega) ha hb
      rw [hRa] at x7 x8
      have HX := Lib.hid (And.intro x1 (And.intro x2 (And.intro x3 (And.intro x4 (And.intro x5 (And.intro x6 (And.intro x7 x8)))))))
      obtain ⟨z, hz⟩ : ∃ x, Z.length = x := ⟨_, rfl⟩
      rw [hz, hR, hRa, hRb] at x9
      have HZ := Lib.hid hz
      have hzz : (z : Int) ≤ 2000 := by omega
      have gw1 : IntKind.i64.wrap (j + (na : Int)) = j + na := IntWalk.i64_in _ (by omega)
      clear x1 x2 x3 x4 x5 x6 x7 x8 x9 hz hR hRa hRb ha hb
      have HC := Lib.hid (ins_star (A := [roI H4 g2 l (0 + chkN n + 2)]) (B := []) S4 (arg_sees S4 HSb.out.1) HSb.out.2.1 (by omega) (by unfold chkN; omega) (j))
      rw [HX.out.1, HX.out.2.1] at HC
      clear S4
      go_wp2_with fail
      refine HC.out.mono ?_
      clear HC
      rintro e w5 ⟨H5, rfl, S5⟩
      have HC := Lib.hid (ins_star (A := [roI H4 g2 l (0 + chkN n + 2)]) (B := []) S5 (arg_sees S5 HSa.out.1) HSa.out.2.1 (by omega) (by unfold chkN; omega) (i))
      rw [HX.out.2.2.1, HX.out.2.2.2.1] at HC
      clear S5
      go_wp2_with fail
      refine HC.out.mono ?_
      clear HC
      rintro e w6 ⟨H6, rfl, S6⟩
      have HC := Lib.hid (ins_star (A := []) (B := [roI H6 g Z ((0 + chkN n + 2) + chkN nb + 2 + chkN na + 2)]) S6 (arg_sees S6 HSa.out.1) HSa.out.2.1 (by omega) (by unfold chkN; omega) (i))
      rw [HX.out.2.2.2.2.1, HX.out.2.2.2.2.2.1] at HC
      clear S6
      go_wp2_with fail
      refine HC.out.mono ?_
      clear HC
      rintro e w7 ⟨H7, rfl, S7⟩
      have HC := Lib.hid (ins_star (A := []) (B := [roI H6 g Z ((0 + chkN n + 2) + chkN nb + 2 + chkN na + 2)]) S7 (arg_sees S7 HSb.out.1) HSb.out.2.1 (by omega) (by unfold chkN; omega) (j + (na : Int)))
      rw [HX.out.2.2.2.2.2.2.1, HX.out.2.2.2.2.2.2.2] at HC
      clear S7
      go_wp2_with fail
      refine HC.out.mono ?_
      clear HC
      rintro e w8 ⟨H8, rfl, S8⟩
      have HC := Lib.hid (len_star (A := [roI H8 g2 Z ((0 + chkN n + 2) + chkN na + 2 + chkN nb + 2)]) (B := []) S8)
      rw [HZ.out] at HC
      clear S8
      go_wp2_with fail
      refine HC.out.mono ?_
      clear HC
      rintro e w9 ⟨H9, rfl, S9⟩
      have HB1 := Lib.hid (show betR Z 0 z = 0 ∧ cutR Z 0 z = Z from by rw [← HZ.out]; exact ⟨betR_all Z, cutR_all Z⟩)
      obtain ⟨bx, hbx⟩ : ∃ x, w9.heap.size = x := ⟨_, rfl⟩
      have HC := Lib.hid (slice_star (A := [roI H8 g2 Z ((0 + chkN n + 2) + chkN na + 2 + chkN nb + 2)]) (B := []) S9 (0) (z))
      rw [HB1.out.1] at HC
      clear S9
      go_wp2_with fail
      refine HC.out.mono ?_
      clear HC
      rintro e w10 ⟨H10, ux, rfl, S10⟩
      obtain ⟨vx, hvx⟩ : ∃ x, cutR Z (0) (z) = x := ⟨_, rfl⟩
      rw [hvx, hbx] at S10
      clear hbx
      obtain ⟨Ax, cx, rfl, hccx, -, -, -⟩ := own_shape (show w10.ownsRow bx 21 1 ux vx.length (vx.map r32) from S10.all _ (List.mem_cons_self))
      obtain ⟨nx, hnx⟩ : ∃ x, vx.length = x := ⟨_, rfl⟩
      have HVx := Lib.hid (And.intro hvx (And.intro hnx (hnx ▸ hccx)))
      rw [hnx] at S10 ⊢
      clear hvx hnx hccx
      have S10 : Star w [ruI (.slice Ax nx cx) bx vx, roI H8 g2 Z ((0 + chkN n + 2) + chkN na + 2 + chkN nb + 2), roI H10 g Z ((0 + chkN n + 2) + chkN nb + 2 + chkN na + 2)] w10 := S10
      obtain rfl : Z = vx := by rw [← HVx.out.1]; exact HB1.out.2.symm
      have HC := Lib.hid (len_star (A := [ruI (.slice Ax nx cx) bx Z]) (B := [roI H10 g Z ((0 + chkN n + 2) + chkN nb + 2 + chkN na + 2)]) S10)
      rw [HZ.out] at HC
      clear S10
      go_wp2_with fail
      refine HC.out.mono ?_
      clear HC
      rintro e w11 ⟨H11, rfl, S11⟩
      obtain ⟨byy, hbyy⟩ : ∃ x, w11.heap.size = x := ⟨_, rfl⟩
      have HC := Lib.hid (slice_star (A := [ruI (.slice Ax nx cx) bx Z]) (B := [roI H10 g Z ((0 + chkN n + 2) + chkN nb + 2 + chkN na + 2)]) S11 (0) (z))
      rw [HB1.out.1] at HC
      clear S11
      go_wp2_with fail
      refine HC.out.mono ?_
      clear HC
      rintro e w12 ⟨H12, uy, rfl, S12⟩
      obtain ⟨vy, hvy⟩ : ∃ x, cutR Z (0) (z) = x := ⟨_, rfl⟩
      rw [hvy, hbyy] at S12
      clear hbyy
      obtain ⟨Ay, cy, rfl, hccy, -, -, -⟩ := own_shape (show w12.ownsRow byy 21 1 uy vy.length (vy.map r32) from S12.all _ (List.mem_cons_self))
      obtain ⟨ny, hny⟩ : ∃ x, vy.length = x := ⟨_, rfl⟩
      have HVy := Lib.hid (And.intro hvy (And.intro hny (hny ▸ hccy)))
      rw [hny] at S12 ⊢
      clear hvy hny hccy
      have S12 : Star w [ruI (.slice Ay ny cy) byy vy, ruI (.slice Ax nx cx) bx Z, roI H12 g2 Z ((0 + chkN n + 2) + chkN na + 2 + chkN nb + 2), roI H10 g Z ((0 + chkN n + 2) + chkN nb + 2 + chkN na + 2)] w12 := S12
      obtain rfl : Z = vy := by rw [← HVy.out.1]; exact HB1.out.2.symm
      obtain ⟨hx1, hx2, hx3⟩ := ru_sees S12 (A := Ax) (n := nx) (c := cx) (b := bx) (R := Z) (by simp)
      obtain ⟨hy1, hy2, hy3⟩ := ru_sees S12 (A := Ay) (n := ny) (c := cy) (b := byy) (R := Z) (by simp)
      have hnx : nx = z := by rw [← hx2]; exact HZ.out
      have hny : ny = z := by rw [← hy2]; exact HZ.out
      subst hny
      subst hnx
      have HC := Lib.hid (same_star S12 hx1 hy1 (c := cx) (c2 := cy) (by omega) (by omega))
      rw [show (Z == Z) = true from by simp] at HC
      clear S12 hx1 hx2 hx3 hy1 hy2 hy3
      go_wp2_with fail
      refine HC.out.mono ?_
      clear HC
      rintro e w13 ⟨rfl, S13⟩
      have HC := Lib.hid (newlines_star (A := [ruI (.slice Ay nx cy) byy Z, ruI (.slice Ax nx cx) bx Z, roI H12 g2 Z ((0 + chkN n + 2) + chkN na + 2 + chkN nb + 2)]) (B := []) S13)
      clear S13
      go_wp2_with fail
      refine HC.out.mono ?_
      clear HC
      rintro e w14 ⟨H14, rfl, S14⟩
      have HC := Lib.hid (newlines_star (A := [ruI (.slice Ay nx cy) byy Z, ruI (.slice Ax nx cx) bx Z]) (B := [roI H14 g Z ((0 + chkN n + 2) + chkN nb + 2 + chkN na + 2)]) S14)
      clear S14
      go_wp2_with fail
      refine HC.out.mono ?_
      clear HC
      rintro e w15 ⟨H15, rfl, S15⟩
      have HB := Lib.hid S15
      clear S15
      go_wp2_with fail
      refine (known_any _).mono ?_
      rintro e wz ⟨rfl, hbz⟩
      have HBz := Lib.hid (HB.out.below.trans (hbz.mono HB.out.below.size))
      clear hbz
      go_wp2_with fail
      go_ret
      exact ⟨rfl, HBz.out⟩

end Go.Proofs.Ytmfkdaannjibfaa
