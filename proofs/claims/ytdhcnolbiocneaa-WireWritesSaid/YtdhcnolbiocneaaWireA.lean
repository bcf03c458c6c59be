/-
  The walks of slices.Clone at []byte, wire.AppendUint, wire.zig, wire.zag, wire.AppendInt, wire.AppendBytes.
-/
import Derived.Test.YtdhcnolbiocneaaRows
import Derived.Test.YtdhcnolbiocneaaWords
import Derived.Test.YtdhcnolbiocneaaWirePlain
namespace Go.Proofs.Ytdhcnolbiocneaa
open Go.RowKit

theorem byte_info : (Try.prog.info? 5).map (fun i => (i.zero, i.size, i.bytes)) = some (some (.int .u8 0), 1, 1) := by kernel_rfl

set_option maxHeartbeats 400000 in
theorem clone_some (ad : Addr) (n c : Nat) (xs : List Value) (w : World) (h : Sees w w.heap.size 1 (some ad) n xs) (h1 : ∀ u ∈ xs, u.oneCell' = true) (hn : n ≤ 1000000000000) :
    Calls Try.prog 22 #[.slice (some ad) n c] w fun e w' => ∃ v, e = .returned v ∧ w'.ownsRow w.heap.size 5 1 v n xs ∧ Below w.heap.size w w' ∧ v ≠ .slice none 0 0 := by
  obtain ⟨i0, hi0, hz0, hz1, hz2⟩ := info_parts byte_info
  have heq := fun (w : World) => Lib.run_eql_slice_nil (P := Try.prog) w 22 5 (some ad) n c 0 0 Try.underlying22
  go_enter Try.func22, Try.ntmps22
  go_wp2_with (
    at_builtin
    refine wpList_append_sees _ rfl (.tmp 5) (.tmp 6) _ rfl w.heap.size 5 i0 _ 1 1 Try.underlying22 hi0 hz0 hz1 hz2 rfl (by omega) (.slice (some ⟨w.heap.size, 0, none⟩) 0 0) 0 [] rfl
      (World.ownsRow_made w #[] 0 (Nat.le_refl _) (Nat.zero_le _) rfl) w.heap.size (some ad) n c xs rfl (h.alloc (Nat.le_refl _) _) h1 (by simp only [maxLen]; omega) (by omega) (by simp) ?_
    intro v1 w1 hown hg hat hnil)
  go_ret
  refine ⟨v1, rfl, by simpa using hown, ((Below.refl w.heap.size w).alloc (Nat.le_refl _) _).grown hg (by simp) (by intro k hk; simp [Value.ownBlock] at hk; omega), fun e => ?_⟩
  have := (hnil.1 e).1
  cases this

set_option maxHeartbeats 400000 in
theorem clone_none (n c : Nat) (w : World) :
    Calls Try.prog 22 #[.slice none n c] w fun e w' => e = .returned (.slice none 0 0) ∧ w = w' := by
  have heq := fun (w : World) => Lib.run_eql_slice_nil (P := Try.prog) w 22 5 none n c 0 0 Try.underlying22
  go_enter Try.func22, Try.ntmps22
  go_wp2
  go_ret
  exact ⟨rfl, rfl⟩

/-- slices.Clone at []byte: a row of its own that holds the same cells; nil just of nil. -/
theorem clone_any (A : Option Addr) (n c : Nat) (xs : List Value) (w : World) (h : Sees w w.heap.size 1 A n xs) (h1 : ∀ u ∈ xs, u.oneCell' = true) (hn : n ≤ 1000000000000) :
    Calls Try.prog 22 #[.slice A n c] w fun e w' => ∃ v, e = .returned v ∧ w'.ownsRow w.heap.size 5 1 v n xs ∧ Below w.heap.size w w' ∧ (v = .slice none 0 0 ↔ A = none) := by
  cases A with
  | none =>
    have hn0 : n = 0 := by
      rcases Nat.eq_zero_or_pos n with h0 | h0
      · exact h0
      · obtain ⟨_, _, h, _⟩ := h.2 h0
        cases h
    subst hn0
    have hx : xs = [] := List.eq_nil_of_length_eq_zero (by simpa using h.1)
    subst hx
    refine (clone_none 0 c w).mono ?_
    rintro e w' ⟨rfl, rfl⟩
    exact ⟨_, rfl, World.ownsRow_nil _ _ _ _, Below.refl _ _, by simp⟩
  | some ad =>
    refine (clone_some ad n c xs w h h1 hn).mono ?_
    rintro e w' ⟨v, rfl, ho, hb, hv⟩
    exact ⟨v, rfl, ho, hb, by simp [hv]⟩

theorem or128 (y : Nat) : Value.int .u8 (bits BinOp.or IntKind.u8 ((y : Int) % 256) 128) = bv (UInt8.ofNat (y % 128 + 128)) := by
  have h1 : ((y : Int) % 256) = ((y % 256 : Nat) : Int) := by omega
  have h2 : (128 : Int) = ((128 : Nat) : Int) := rfl
  rw [h1, h2, u8_or_nat _ _ (by omega) (by omega)]
  unfold bv
  rw [toNat_low (by omega)]
  congr 2
  have h3 : y % 256 = y % 256 / 128 * 128 + y % 128 := by omega
  have h4 : y % 256 / 128 = 0 ∨ y % 256 / 128 = 1 := by omega
  have h5 : 128 ||| y % 128 = 128 + y % 128 := nat_join 7 128 (y % 128) (by decide) (by omega)
  rcases h4 with h4 | h4
  · rw [show y % 256 = y % 128 by omega, Nat.or_comm, h5]; omega
  · have h6 : y % 256 = 128 ||| y % 128 := by rw [h5]; omega
    rw [h6, Nat.or_comm, ← Nat.or_assoc, Nat.or_self, h5]; omega

set_option maxHeartbeats 1000000 in
/-- wire.AppendUint: the form stands behind what was there, in memory of its own. -/
theorem appendUint_any (A : Option Addr) (n c : Nat) (xs : List Value) (x : Int) (hx0 : 0 ≤ x) (hx : x < 18446744073709551616) (w : World) (h : Sees w w.heap.size 1 A n xs) (h1 : ∀ u ∈ xs, u.oneCell' = true) (hn : n ≤ 500000000000) :
    Calls Try.prog 11 #[.slice A n c, .int .u64 x] w fun e w' => ∃ v, e = .returned v ∧ w'.ownsRow w.heap.size 5 1 v (n + (form 9 x.toNat).length) (xs ++ bvs (form 9 x.toNat)) ∧ Below w.heap.size w w' ∧ v ≠ .slice none 0 0 := by
  obtain ⟨x, rfl⟩ := Int.eq_ofNat_of_zero_le hx0
  rw [Int.toNat_natCast]
  have hxn : x < 18446744073709551616 := by omega
  clear hx hx0
  obtain ⟨i0, hi0, hz0, hz1, hz2⟩ := info_parts byte_info
  go_enter Try.func11, Try.ntmps11
  go_wp2_with (go_at_call 22; refine (clone_any A n c xs _ h h1 (by omega)).mono ?_; rintro e w' ⟨v, rfl, ho, hb, hv⟩)
  go_loopw [0, 1] (fun v i wr => ∃ (k y : Nat) (pre : List UInt8), k ≤ 9 ∧ y < 2 ^ (64 - 7 * k) ∧ pre.length = k ∧ pre ++ form (9 - k) y = form 9 x ∧ i = .int .u64 y ∧
     wr.ownsRow w.heap.size 5 1 v (n + k) (xs ++ bvs pre) ∧ Below w.heap.size w wr) (fun _ i _ => (intOf i).toNat)
  case atStart => exact ⟨0, x, [], by omega, by simpa using hxn, rfl, rfl, rfl, by simpa [bvs] using ho, hb⟩
  case round =>
    obtain ⟨k, y, pre, hk, hy, hp, hform, rfl, hown, hbel⟩ := hrel
    have hy2 : y < 18446744073709551616 := Nat.lt_of_lt_of_le hy (Nat.pow_le_pow_right (n := 2) (by omega) (by omega : 64 - 7 * k ≤ 64))
    have HF := Lib.hid hform; clear hform
    have HP := Lib.hid hp; clear hp
    have HY := Lib.hid hy; clear hy
    have hsz := hbel.size
    clear hb ho hv
    by_cases hlt : 127 < y
    · go_wp2_with (
        at_builtin
        refine wpList_append_sees _ rfl (.tmp 11) (.tmp 15) _ rfl w.heap.size 5 i0 _ 1 1 Try.underlying22 hi0 hz0 hz1 hz2 rfl (by omega) _ (n + k) (xs ++ bvs pre) rfl
          (hown.alloc _) _ _ 1 1 _ rfl (Sees.one _ _ _) (by intro u hu; simp at hu; subst hu; rfl) (by simp only [maxLen]; omega) (by omega) (by simp; omega) ?_
        intro v1 w1 hown1 hg hat hnil)
      go_roundw
      case rel =>
        have hk9 : k < 9 := by
          rcases Nat.lt_or_ge k 9 with h9 | h9
          · exact h9
          · have := HY.out; rw [show k = 9 by omega] at this; simp at this; omega
        refine ⟨k + 1, y / 128, pre ++ [UInt8.ofNat (y % 128 + 128)], by omega, ?_, ?_, ?_, ?_, ?_, ?_⟩
        · have := HY.out
          have hpw : 2 ^ (64 - 7 * k) = 128 * 2 ^ (64 - 7 * (k + 1)) := by rw [show 64 - 7 * k = 7 + (64 - 7 * (k + 1)) by omega, Nat.pow_add]
          omega
        · simp [HP.out]
        · have := HF.out
          rw [show 9 - k = 9 - (k + 1) + 1 by omega, form, if_neg (by omega)] at this
          simpa using this
        · simp
        · rw [bvs_append, ← List.append_assoc]
          have h8 := or128 y
          unfold bv at h8
          simpa [bvs, bv, h8, Nat.add_assoc] using hown1
        · exact (hbel.alloc hsz _).grown hg (by simp; omega) (fun k hk => (hown.lt k hk).1)
      case measure => simp [intOf]; omega
    · go_wp2_with (
        at_builtin
        refine wpList_append_sees _ rfl (.tmp 17) (.tmp 20) _ rfl w.heap.size 5 i0 _ 1 1 Try.underlying22 hi0 hz0 hz1 hz2 rfl (by omega) _ (n + k) (xs ++ bvs pre) rfl
          (hown.alloc _) _ _ 1 1 _ rfl (Sees.one _ _ _) (by intro u hu; simp at hu; subst hu; rfl) (by simp only [maxLen]; omega) (by omega) (by simp; omega) ?_
        intro v1 w1 hown1 hg hat hnil)
      go_ret
      have hlast : form (9 - k) y = [UInt8.ofNat y] := by
        cases hc : 9 - k with
        | zero => rfl
        | succ m => rw [form, if_pos (by omega)]
      have hfl : form 9 x = pre ++ [UInt8.ofNat y] := by rw [← hlast]; exact HF.out.symm
      have hyv : (y : Int) = ((UInt8.ofNat y).toNat : Int) := by rw [toNat_low (by omega)]
      refine ⟨v1, rfl, ?_, (hbel.alloc hsz _).grown hg (by simp; omega) (fun k hk => (hown.lt k hk).1), fun e => ?_⟩
      · rw [hfl, bvs_append, ← List.append_assoc, List.length_append, HP.out, List.length_singleton]
        rw [hyv] at hown1
        exact hown1
      · have := (hnil.1 e).2
        omega
set_option maxHeartbeats 400000 in
theorem zig_any (i : Int) (h0 : -9223372036854775808 ≤ i) (h1 : i ≤ 9223372036854775807) (w : World) :
    Calls Try.prog 23 #[.int .i64 i] w fun e w' => e = .returned (.int .u64 (zigN i)) ∧ w = w' := by
  have H := Lib.hid (zig_bits i h0 h1)
  go_enter Try.func23, Try.ntmps23
  go_wp2
  go_ret
  refine ⟨?_, rfl⟩
  rw [← H.out]
  rfl

set_option maxHeartbeats 400000 in
theorem zag_any (n : Int) (hn0 : 0 ≤ n) (hn : n < 18446744073709551616) (w : World) :
    Calls Try.prog 24 #[.int .u64 n] w fun e w' => e = .returned (.int .i64 (zagN n.toNat)) ∧ w = w' := by
  obtain ⟨n, rfl⟩ := Int.eq_ofNat_of_zero_le hn0
  rw [Int.toNat_natCast]
  have h0 : n < 18446744073709551616 := by omega
  clear hn hn0
  have H := Lib.hid (zag_bits n h0)
  go_enter Try.func24, Try.ntmps24
  go_wp2
  go_ret
  refine ⟨?_, rfl⟩
  rw [← H.out]
  rfl

set_option maxHeartbeats 400000 in
/-- wire.AppendInt. -/
theorem appendInt_any (A : Option Addr) (n c : Nat) (xs : List Value) (i : Int) (hi0 : -9223372036854775808 ≤ i) (hi1 : i ≤ 9223372036854775807) (w : World) (h : Sees w w.heap.size 1 A n xs) (h1 : ∀ u ∈ xs, u.oneCell' = true) (hn : n ≤ 500000000000) :
    Calls Try.prog 12 #[.slice A n c, .int .i64 i] w fun e w' => ∃ v, e = .returned v ∧ w'.ownsRow w.heap.size 5 1 v (n + (form 9 (zigN i)).length) (xs ++ bvs (form 9 (zigN i))) ∧ Below w.heap.size w w' ∧ v ≠ .slice none 0 0 := by
  have hz := zig_lt i hi0 hi1
  have H := Lib.hid (zig_any i hi0 hi1)
  have H2 := Lib.hid (fun (w : World) (h : Sees w w.heap.size 1 A n xs) => appendUint_any A n c xs (zigN i : Nat) (by omega) (by omega) w h h1 hn)
  clear hz hi0 hi1
  go_enter Try.func12, Try.ntmps12
  go_wp2_with (first
    | (go_at_call 23; refine (H.out _).mono ?_; rintro e w' ⟨rfl, rfl⟩)
    | (go_at_call 11; refine (H2.out _ h).mono ?_; rintro e w' ⟨v, rfl, ho, hb, hv⟩))
  go_ret
  rw [Int.toNat_natCast] at ho
  exact ⟨v, rfl, ho, hb, hv⟩

set_option maxHeartbeats 400000 in
/-- wire.AppendBytes. -/
theorem appendBytes_any (A : Option Addr) (n c : Nat) (xs : List Value) (A2 : Option Addr) (m c2 : Nat) (ys : List Value) (w : World) (h : Sees w w.heap.size 1 A n xs) (h1 : ∀ u ∈ xs, u.oneCell' = true) (hn : n ≤ 500000000000)
    (h2 : Sees w w.heap.size 1 A2 m ys) (h3 : ∀ u ∈ ys, u.oneCell' = true) (hm : m ≤ 500000000000) :
    Calls Try.prog 13 #[.slice A n c, .slice A2 m c2] w fun e w' => ∃ v, e = .returned v ∧ w'.ownsRow w.heap.size 5 1 v (n + (form 9 m).length + m) (xs ++ bvs (form 9 m) ++ ys) ∧ Below w.heap.size w w' := by
  obtain ⟨i0, hi0, hz0, hz1, hz2⟩ := info_parts byte_info
  have H2 := Lib.hid (fun (w : World) (h : Sees w w.heap.size 1 A n xs) => appendUint_any A n c xs (m : Int) (by omega) (by omega) w h h1 hn)
  have hfl := form_le 9 m
  have hI : (m : Int) ≤ 500000000000 := by omega
  go_enter Try.func13, Try.ntmps13
  go_wp2_with (first
    | (go_at_call 11; refine (H2.out _ h).mono ?_; rintro e w' ⟨v, rfl, ho, hb, hv⟩; rw [Int.toNat_natCast] at ho)
    | (at_builtin
       refine wpList_append_sees _ rfl _ _ _ rfl w.heap.size 5 i0 _ 1 1 Try.underlying22 hi0 hz0 hz1 hz2 rfl (by omega) v (n + (form 9 m).length) (xs ++ bvs (form 9 m)) rfl
          ho w.heap.size A2 m c2 ys rfl (h2.below hb (Nat.le_refl _)) h3 (by simp only [maxLen]; omega) (by omega) hb.size ?_
       intro v1 w1 hown1 hg hat hnil))
  go_ret
  exact ⟨v1, rfl, hown1, hb.grown hg hb.size (fun k hk => (ho.lt k hk).1)⟩

end Go.Proofs.Ytdhcnolbiocneaa
