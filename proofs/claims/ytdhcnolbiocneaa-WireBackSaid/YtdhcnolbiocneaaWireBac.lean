/-
  The walk of the law WireBack.
-/
import Derived.Test.YtdhcnolbiocneaaWireMos
namespace Go.Proofs.Ytdhcnolbiocneaa
open Go.RowKit

theorem uintAt_in (v : Nat) (hv : v < 18446744073709551616) (L pre rest : List UInt8) (k : Nat) (hL : L = pre ++ (form 9 v ++ rest)) (hk : k = pre.length) : uintAt L (k : Int) = (v, k + (form 9 v).length, 0) := by
  subst hL hk
  exact uintAt_form v hv pre rest

set_option maxRecDepth 100000 in
set_option maxHeartbeats 2000000 in
theorem back_big (A : Option Addr) (n c : Nat) (A1 : Option Addr) (n1 c1 : Nat) (A2 : Option Addr) (n2 c2 : Nat) (x i : Int) (w : World) (hn : 2000 < n ∨ 2000 < n1 ∨ 2000 < n2) :
    Calls Try.prog 8 #[.slice A n c, .slice A1 n1 c1, .slice A2 n2 c2, .int .u64 x, .int .i64 i] w fun e w' => e = .returned (.bool true) ∧ Below w.heap.size w w' := by
  have hh : ((2000 : Int) < n) ∨ ((n : Int) ≤ 2000 ∧ (2000 : Int) < n1) ∨ ((n : Int) ≤ 2000 ∧ (n1 : Int) ≤ 2000 ∧ (2000 : Int) < n2) := by omega
  clear hn
  rcases hh with h | ⟨h, h'⟩ | ⟨h, h', h''⟩
  all_goals
    go_enter Try.func8, Try.ntmps8
    go_wp2_with (go_at_call 9; refine (known_any _).mono ?_; rintro e w1 ⟨rfl, hb1⟩)
    go_ret
    exact ⟨rfl, hb1⟩

set_option maxRecDepth 100000 in
set_option maxHeartbeats 4000000 in
theorem back_any (A : Option Addr) (n c : Nat) (l : List UInt8) (A1 : Option Addr) (n1 c1 : Nat) (l1 : List UInt8) (A2 : Option Addr) (n2 c2 : Nat) (l2 : List UInt8) (x : Nat) (i : Int) (w : World)
    (h : Sees w w.heap.size 1 A n (bvs l)) (hl : l.length = n) (h1 : Sees w w.heap.size 1 A1 n1 (bvs l1)) (hl1 : l1.length = n1) (h2 : Sees w w.heap.size 1 A2 n2 (bvs l2)) (hl2 : l2.length = n2)
    (hx : x < 18446744073709551616) (hi0 : -9223372036854775808 ≤ i) (hi1 : i ≤ 9223372036854775807) :
    Calls Try.prog 8 #[.slice A n c, .slice A1 n1 c1, .slice A2 n2 c2, .int .u64 x, .int .i64 i] w fun e w' => e = .returned (.bool true) ∧ Below w.heap.size w w' := by
  by_cases hbig : 2000 < n ∨ 2000 < n1 ∨ 2000 < n2
  · exact back_big A n c A1 n1 c1 A2 n2 c2 x i w hbig
  · obtain ⟨i0, ii0, iz0, iz1, iz2⟩ := info_parts byte_info
    have g1 : (n : Int) ≤ 2000 := by omega
    have g2 : (n1 : Int) ≤ 2000 := by omega
    have g3 : (n2 : Int) ≤ 2000 := by omega
    have hz := zig_lt i hi0 hi1
    obtain ⟨L, hL⟩ : ∃ L, L = l ++ form 9 x ++ form 9 (zigN i) ++ form 9 n1 ++ l1 ++ l2 := ⟨_, rfl⟩
    obtain ⟨k1, hk1⟩ : ∃ k, (form 9 x).length = k := ⟨_, rfl⟩
    obtain ⟨k2, hk2⟩ : ∃ k, (form 9 (zigN i)).length = k := ⟨_, rfl⟩
    obtain ⟨k3, hk3⟩ : ∃ k, (form 9 n1).length = k := ⟨_, rfl⟩
    have f1 := form_le 9 x
    have f2 := form_le 9 (zigN i)
    have f3 := form_le 9 n1
    rw [hk1] at f1
    rw [hk2] at f2
    rw [hk3] at f3
    have U1 := Lib.hid (uintAt_in x hx L l (form 9 (zigN i) ++ form 9 n1 ++ l1 ++ l2) n (by rw [hL]; simp) hl.symm)
    rw [hk1] at U1
    have U2 := Lib.hid (uintAt_in (zigN i) hz L (l ++ form 9 x) (form 9 n1 ++ l1 ++ l2) (n + k1) (by rw [hL]; simp) (by simp [hl, hk1]))
    rw [hk2] at U2
    have U3 := Lib.hid (uintAt_in n1 (by omega) L (l ++ form 9 x ++ form 9 (zigN i)) (l1 ++ l2) (n + k1 + k2) (by rw [hL]; simp) (by simp [hl, hk1, hk2]; omega))
    rw [hk3] at U3
    have D3 : ((L.drop (n + k1 + k2 + k3)).take n1) = l1 := by
      have e : L = (l ++ form 9 x ++ form 9 (zigN i) ++ form 9 n1) ++ (l1 ++ l2) := by rw [hL]; simp
      rw [e, List.drop_left' (by simp [hl, hk1, hk2, hk3]; omega), ← hl1, List.take_left]
    have D := Lib.hid D3
    have HL := Lib.hid hL
    have K1 := Lib.hid hk1
    have K2 := Lib.hid hk2
    have K3 := Lib.hid hk3
    have HZ := Lib.hid (zag_zig i)
    have Z := Lib.hid hz
    have X := Lib.hid hx
    have I0 := Lib.hid hi0
    have I1 := Lib.hid hi1
    clear hbig hL hk1 hk2 hk3 hz D3 hl hl1 hl2 hx hi0 hi1
    go_enter Try.func8, Try.ntmps8
    go_wp2_with fail
    refine (appendUint_any A n c (bvs l) (x : Int) (by omega) (by have := X.out; omega) _ h (bvs_one _) (by omega)).mono ?_
    rintro e w1 ⟨v1, rfl, ho1, hb1, hn1⟩
    rw [Int.toNat_natCast, K1.out, ← bvs_append] at ho1
    obtain ⟨B1, d1, rfl, hc1, _⟩ := own_shape ho1
    have hs1 := Sees.of_own ho1
    have hz1 := hb1.size
    clear ho1 hn1
    go_wp2_with fail
    refine (appendInt_any B1 (n + k1) d1 _ i I0.out I1.out _ hs1 (bvs_one _) (by omega)).mono ?_
    rintro e w2 ⟨v2, rfl, ho2, hb2, hn2⟩
    rw [K2.out, ← bvs_append] at ho2
    obtain ⟨B2, d2, rfl, hc2, _⟩ := own_shape ho2
    have hs2 := Sees.of_own ho2
    have hbel2 := hb1.trans (hb2.mono hz1)
    have hz2 := hbel2.size
    clear ho2 hn2 hb1 hb2 hs1 hz1
    go_wp2_with fail
    refine (appendBytes_any B2 (n + k1 + k2) d2 _ A1 n1 c1 (bvs l1) _ hs2 (bvs_one _) (by omega) ((h1.below hbel2 (Nat.le_refl _)).up hz2) (bvs_one _) (by omega)).mono ?_
    rintro e w3 ⟨v3, rfl, ho3, hb3⟩
    rw [K3.out, ← bvs_append, ← bvs_append] at ho3
    have hbel3 := hbel2.trans (hb3.mono hz2)
    have hz3 := hbel3.size
    have ho3' := own_lower ho3 hz2
    clear hb3 hbel2 hs2 ho3 hz2
    go_wp2_with (
      at_builtin
      refine wpList_append_sees _ rfl _ _ _ rfl w.heap.size 5 i0 _ 1 1 Try.underlying22 ii0 iz0 iz1 iz2 rfl (by omega) v3 (n + k1 + k2 + k3 + n1) _ rfl
        ho3' w.heap.size A2 n2 c2 (bvs l2) rfl (h2.below hbel3 (Nat.le_refl _)) (bvs_one _) (by simp only [maxLen]; omega) (by omega) hz3 ?_
      intro v4 w4 ho4 hg4 hat4 hnil4
      rw [← bvs_append, ← HL.out] at ho4
      have hbel4 := hbel3.grown hg4 hz3 (fun k hk => (ho3'.lt k hk).1)
      obtain ⟨B4, d4, rfl, hc4, _⟩ := own_shape ho4
      have hs4 := Sees.of_own ho4
      have hz4 := hbel4.size
      clear ho4 hg4 hat4 hnil4)
    refine (uint_any B4 (n + k1 + k2 + k3 + n1 + n2) d4 (n : Int) L w4 _ hs4 hc4 (by omega)).mono ?_
    rintro e w5 ⟨rfl, rfl⟩
    rw [U1.out]
    unfold trip
    go_wp2_with fail
    have V2 := U2.out
    rw [Int.natCast_add] at V2
    refine (int_any B4 (n + k1 + k2 + k3 + n1 + n2) d4 _ L w4 _ hs4 hc4 (by omega) _ _ _ V2 Z.out).mono ?_
    rintro e w5 ⟨rfl, rfl⟩
    rw [HZ.out]
    clear V2
    go_wp2_with fail
    have V3 := U3.out
    rw [Int.natCast_add, Int.natCast_add] at V3
    refine (bytes_ok B4 (n + k1 + k2 + k3 + n1 + n2) d4 _ (n1 : Int) L w4 hs4 hc4 (by omega) n1 (n + k1 + k2 + k3) (by omega) (by omega) V3 (by omega)).mono ?_
    rintro e w5 ⟨y, rfl, ho5, hb5⟩
    rw [D.out] at ho5
    obtain ⟨B5, d5, rfl, hc5, _⟩ := own_shape ho5
    have hcy := run_str (P := Try.prog) (c := d5) Try.underlying22 Try.underlying5 Try.underlying9 (Sees.of_own ho5)
    have hcx := run_str (P := Try.prog) (c := c1) Try.underlying22 Try.underlying5 Try.underlying9 ((h1.below hbel4 (Nat.le_refl _)).below hb5 hz4)
    have hs5 := hs4.below hb5 (Nat.le_refl _)
    have hz45 := hb5.size
    have hbel5 := hbel4.trans (hb5.mono hz4)
    have hz5 := hbel5.size
    clear V3 ho5 hb5 hs4 hbel4 hz4 hbel3 hz3 ho3'
    go_wp2_with fail
    refine (appendUint_any none 0 0 [] (n1 : Int) (by omega) (by omega) _ (Sees.nil_ _ _ _ _) (by simp) (by omega)).mono ?_
    rintro e w6 ⟨v6, rfl, ho6, hb6, hn6⟩
    rw [Int.toNat_natCast, K3.out, Nat.zero_add] at ho6
    obtain ⟨B6, d6, rfl, _⟩ := own_shape ho6
    have hs6 := hs5.below hb6 hz45
    have hbel6 := hbel5.trans (hb6.mono hz5)
    have hz6 := hbel6.size
    clear ho6 hn6 hb6 hs5 hcy hcx hbel5 hz5
    go_wp2_with fail
    have V4 := U3.out
    rw [Int.natCast_add, Int.natCast_add] at V4
    refine (bytes_bad B4 (n + k1 + k2 + k3 + n1 + n2) d4 _ ((n1 : Int) - 1) L w6 _ hs6 hc4 (by omega) n1 (n + k1 + k2 + k3) (by omega) (by omega) V4 (by omega)).mono ?_
    rintro e w7 ⟨rfl, rfl⟩
    unfold bytesNo
    clear V4 hs6
    go_wp2_with (go_at_call 9; refine (known_any _).mono ?_; rintro e w7 ⟨rfl, hb7⟩)
    go_ret
    exact ⟨rfl, hbel6.trans (hb7.mono hz6)⟩

theorem wireBack_any (A : Option Addr) (n c : Nat) (l : List UInt8) (A1 : Option Addr) (n1 c1 : Nat) (l1 : List UInt8) (A2 : Option Addr) (n2 c2 : Nat) (l2 : List UInt8) (x i : Int) (w : World)
    (h : Sees w w.heap.size 1 A n (bvs l)) (hl : l.length = n) (h1 : Sees w w.heap.size 1 A1 n1 (bvs l1)) (hl1 : l1.length = n1) (h2 : Sees w w.heap.size 1 A2 n2 (bvs l2)) (hl2 : l2.length = n2)
    (hx0 : 0 ≤ x) (hx : x < 18446744073709551616) (hi0 : -9223372036854775808 ≤ i) (hi1 : i ≤ 9223372036854775807) :
    Calls Try.prog 8 #[.slice A n c, .slice A1 n1 c1, .slice A2 n2 c2, .int .u64 x, .int .i64 i] w fun e w' => e = .returned (.bool true) ∧ Below w.heap.size w w' := by
  obtain ⟨x, rfl⟩ := Int.eq_ofNat_of_zero_le hx0
  exact back_any A n c l A1 n1 c1 l1 A2 n2 c2 l2 x i w h hl h1 hl1 h2 hl2 (by omega) hi0 hi1
end Go.Proofs.Ytdhcnolbiocneaa
