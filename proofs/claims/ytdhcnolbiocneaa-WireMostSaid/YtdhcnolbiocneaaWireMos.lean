/-
  The walk of the law WireMost.
-/
import Derived.Test.YtdhcnolbiocneaaWireC
namespace Go.Proofs.Ytdhcnolbiocneaa
open Go.RowKit

theorem uintAt_form (v : Nat) (hv : v < 18446744073709551616) (pre rest : List UInt8) : uintAt (pre ++ (form 9 v ++ rest)) (pre.length : Int) = (v, pre.length + (form 9 v).length, 0) := by
  unfold uintAt
  rw [if_neg (by simp only [List.length_append]; omega), Int.toNat_natCast, List.drop_left, rd_form0 v hv rest]
  simp

theorem uintAt_form0 (v : Nat) (hv : v < 18446744073709551616) (rest : List UInt8) : uintAt (form 9 v ++ rest) 0 = (v, (form 9 v).length, 0) := by
  have := uintAt_form v hv [] rest
  simpa using this

set_option maxRecDepth 100000 in
set_option maxHeartbeats 2000000 in
theorem most_any (A : Option Addr) (n c : Nat) (l : List UInt8) (most : Int) (w : World) (h : Sees w w.heap.size 1 A n (bvs l)) (hl : l.length = n) (hm : most ≤ 9223372036854775807) :
    Calls Try.prog 6 #[.slice A n c, .int .i64 most] w fun e w' => e = .returned (.bool true) ∧ Below w.heap.size w w' := by
  by_cases hn : 2000 < n
  · have hnI : (2000 : Int) < n := by omega
    go_enter Try.func6, Try.ntmps6
    go_wp2_with (go_at_call 9; refine (known_any _).mono ?_; rintro e w1 ⟨rfl, hb1⟩)
    go_ret
    exact ⟨rfl, hb1⟩
  · have hnI : ¬ (2000 : Int) < n := by omega
    have H1 := Lib.hid (fun w1 (hb : Below w.heap.size w w1) => appendBytes_any none 0 0 [] A n c (bvs l) w1 (Sees.nil_ _ _ _ _) (by simp) (by omega) ((h.below hb (Nat.le_refl _)).up hb.size) (bvs_one _) (by omega))
    have hf1 := form_le 9 n
    obtain ⟨k, hk⟩ : ∃ k, (form 9 n).length = k := ⟨_, rfl⟩
    have hu := uintAt_form0 n (by omega) l
    rw [hk] at hf1 hu
    have HK := Lib.hid hk; clear hk
    have HU := Lib.hid hu; clear hu
    have HL := Lib.hid hl; clear hl
    by_cases hmn : (n : Int) ≤ most
    · go_enter Try.func6, Try.ntmps6
      go_wp2_with fail
      refine (H1.out _ (Below.refl _ _)).mono ?_
      rintro e w1 ⟨v1, rfl, ho1, hb1⟩
      rw [HK.out, Nat.zero_add, List.nil_append, ← bvs_append] at ho1
      obtain ⟨A1, c1, rfl, hc1, _⟩ := own_shape ho1
      have hs1 := Sees.of_own ho1
      have hz1 := hb1.size
      have hsx := h.below hb1 (Nat.le_refl _)
      clear ho1
      go_wp2_with fail
      refine (bytes_ok A1 (k + n) c1 0 most (form 9 n ++ l) w1 hs1 hc1 (by omega) n k (by omega) hm HU.out hmn).mono ?_
      rintro e w2 ⟨y, rfl, ho2, hb2⟩
      rw [← HK.out, List.drop_left, List.take_of_length_le (by rw [HL.out]; omega)] at ho2
      obtain ⟨A2, c2, rfl, _⟩ := own_shape ho2
      have hcy := run_str (P := Try.prog) (c := c2) Try.underlying22 Try.underlying5 Try.underlying9 (Sees.of_own ho2)
      have hcx := run_str (P := Try.prog) (c := c) Try.underlying22 Try.underlying5 Try.underlying9 (hsx.below hb2 hz1)
      have hbel : Below w.heap.size w w2 := hb1.trans (hb2.mono hz1)
      have hz2 := hbel.size
      clear ho2 hb2 hb1 hsx hs1 hm
      go_wp2_with (go_at_call 9; refine (known_any _).mono ?_; rintro e w3 ⟨rfl, hb3⟩)
      go_ret
      exact ⟨rfl, hbel.trans (hb3.mono hz2)⟩
    · have hmn' : ¬ (n : Int) ≤ most := hmn
      go_enter Try.func6, Try.ntmps6
      go_wp2_with fail
      refine (H1.out _ (Below.refl _ _)).mono ?_
      rintro e w1 ⟨v1, rfl, ho1, hb1⟩
      rw [HK.out, Nat.zero_add, List.nil_append, ← bvs_append] at ho1
      obtain ⟨A1, c1, rfl, hc1, _⟩ := own_shape ho1
      have hs1 := Sees.of_own ho1
      have hz1 := hb1.size
      clear ho1
      go_wp2_with fail
      refine (bytes_bad A1 (k + n) c1 0 most (form 9 n ++ l) w1 _ hs1 hc1 (by omega) n k (by omega) hm HU.out (by omega)).mono ?_
      rintro e w2 ⟨rfl, rfl⟩
      unfold bytesNo
      clear hm
      go_wp2_with (go_at_call 9; refine (known_any _).mono ?_; rintro e w3 ⟨rfl, hb3⟩)
      go_ret
      exact ⟨rfl, hb1.trans (hb3.mono hz1)⟩
end Go.Proofs.Ytdhcnolbiocneaa
