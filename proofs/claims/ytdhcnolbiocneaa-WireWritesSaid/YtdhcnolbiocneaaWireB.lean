/-
  The walks of wire.Uint, wire.Int, wire.Bytes.
-/
import Derived.Test.YtdhcnolbiocneaaWireA
namespace Go.Proofs.Ytdhcnolbiocneaa
open Go.RowKit

set_option maxHeartbeats 400000 in
theorem uint_range (A : Option Addr) (n c : Nat) (at_ : Int) (w : World) (h : at_ < 0 ∨ (n : Int) < at_) :
    Calls Try.prog 10 #[.slice A n c, .int .i64 at_] w fun e w' => e = .returned (.tuple #[.int .u64 0, .int .i64 0, .int .i64 5]) ∧ w = w' := by
  rcases h with h | h
  · go_enter Try.func10, Try.ntmps10
    go_wp2
    go_ret3
    exact ⟨rfl, rfl⟩
  · have h0 : ¬ at_ < 0 := by omega
    go_enter Try.func10, Try.ntmps10
    go_wp2
    go_ret3
    exact ⟨rfl, rfl⟩

theorem or_shift (nn i x : Nat) (hn : nn < 2 ^ (7 * i)) (hx : x * 2 ^ (7 * i) < 18446744073709551616) (hnn : nn < 18446744073709551616) :
    bits BinOp.or IntKind.u64 (nn : Int) (IntKind.u64.wrap ((x : Int) * 2 ^ (7 * i))) = ((nn + x * 2 ^ (7 * i) : Nat) : Int) := by
  have e1 : (x : Int) * 2 ^ (7 * i) = ((x * 2 ^ (7 * i) : Nat) : Int) := by
    rw [Int.natCast_mul, Int.natCast_pow]; rfl
  rw [e1, wrap_u64, Int.emod_eq_of_lt (by omega) (by omega), u64_or_nat _ _ hnn hx, Nat.or_comm, nat_join (7 * i) _ _ (Nat.mul_mod_left _ _) hn, Nat.add_comm]

theorem or_shift9 (nn x : Nat) (hn : nn < 2 ^ (7 * 9)) (hx : x ≤ 1) :
    bits BinOp.or IntKind.u64 (nn : Int) ((x : Int) * 9223372036854775808) = ((nn + x * 2 ^ (7 * 9) : Nat) : Int) := by
  have h9 : (2 : Nat) ^ (7 * 9) = 9223372036854775808 := by decide
  rw [← or_shift nn 9 x hn (by rw [h9]; omega) (by omega), wrap_u64]
  have e2 : (2 : Int) ^ (7 * 9) = 9223372036854775808 := by decide
  rw [e2, Int.emod_eq_of_lt (by omega) (by omega)]

theorem or_zero9 (nn x : Nat) (hn : nn < 2 ^ (7 * 0)) (hx : x < 256) : bits BinOp.or IntKind.u64 (nn : Int) (x : Int) = ((nn + x * 2 ^ (7 * 0) : Nat) : Int) := by
  obtain rfl : nn = 0 := by simpa using hn
  rw [u64_or_nat _ _ (by omega) (by omega)]
  simp

theorem and127 (x : UInt8) : bits BinOp.and IntKind.u8 (x.toNat : Int) 127 = ((x.toNat % 128 : Nat) : Int) := by
  have := u8_and_nat x.toNat 127 x.toNat_lt (by omega)
  rw [nat_mask7] at this
  exact this

theorem pow_i (i : Nat) (hi : i ≤ 8) : 2 ^ (7 * i) ≤ 72057594037927936 := Nat.pow_le_pow_right (n := 2) (by omega) (by omega : 7 * i ≤ 56)

theorem next_lt (nn i x : Nat) (hn : nn < 2 ^ (7 * i)) : nn + x % 128 * 2 ^ (7 * i) < 2 ^ (7 * (i + 1)) := by
  have hp : 2 ^ (7 * (i + 1)) = 128 * 2 ^ (7 * i) := by rw [show 7 * (i + 1) = 7 + 7 * i by omega, Nat.pow_add]
  have hm : x % 128 * 2 ^ (7 * i) ≤ 127 * 2 ^ (7 * i) := Nat.mul_le_mul_right _ (by omega)
  omega

/-- What wire.Uint answers where 'rd' says (v, d, e). -/
def uintAns (at_ v d e : Nat) : Value := .tuple #[.int .u64 v, .int .i64 (if e = 0 then ((at_ + d : Nat) : Int) else 0), .int .i64 e]

set_option maxRecDepth 100000 in
set_option maxHeartbeats 1000000 in
theorem uint_in (A : Option Addr) (n c at_ : Nat) (l : List UInt8) (w : World) (B : Nat) (h : Sees w B 1 A n (bvs l)) (hat : at_ ≤ n) (hnc : n ≤ c) (hn : n ≤ 1000000000000) (v d e : Nat) (hr : rd 0 0 (l.drop at_) = (v, d, e)) :
    Calls Try.prog 10 #[.slice A n c, .int .i64 at_] w fun en w' => en = .returned (uintAns at_ v d e) ∧ w = w' := by
  have hl : l.length = n := by have := h.1; rw [bvs_length] at this; omega
  have HR := Lib.hid hr; clear hr
  have HL := Lib.hid hl; clear hl
  have hcut := h.cut hat hnc
  have hatI : (at_ : Int) ≤ n := by omega
  have hatC : (at_ : Int) ≤ c := by omega
  have hnI : (n : Int) ≤ 1000000000000 := by omega
  obtain ⟨A', hA'⟩ : ∃ A', (if c = at_ then A else Option.map (fun x => x.add at_) A) = A' := ⟨_, rfl⟩
  rw [hA', bvs_drop] at hcut
  go_enter Try.func10, Try.ntmps10
  go_wp2_with fail
  go_loop [4, 21] (fun m k => ∃ (i nn : Nat), i ≤ n - at_ ∧ i ≤ 9 ∧ nn < 2 ^ (7 * i) ∧ rd i nn (l.drop (at_ + i)) = (v, d, e) ∧ m = .int .u64 nn ∧ k = .int .i64 i) (fun _ k => n - at_ - (intOf k).toNat)
  case atStart => exact ⟨0, 0, by omega, by omega, by simp, HR.out, rfl, rfl⟩
  case round =>
    obtain ⟨i, nn, hi, hi9, hnn, hrd, rfl, rfl⟩ := hrel
    have HN := Lib.hid hnn; clear hnn
    by_cases hlt : i < n - at_
    · obtain ⟨b, o, hAe, hb, hcell⟩ := hcut.2 (by omega)
      have hj : at_ + i < l.length := by have := HL.out; omega
      have hjd : i < (l.drop at_).length := by rw [List.length_drop]; omega
      have hc := hcell i _ (bvs_get hjd)
      rw [List.getElem_drop] at hc
      rw [List.drop_eq_getElem_cons hj] at hrd
      obtain ⟨x, hx⟩ : ∃ x, l[at_ + i] = x := ⟨_, rfl⟩
      rw [hx] at hrd hc
      have hx256 := x.toNat_lt
      have hxI : (x.toNat : Int) < 256 := by have h256 : x.toNat < 256 := hx256; omega
      have HX := Lib.hid hx; clear hx hx256
      have HC := Lib.hid hcell; clear hcell
      have HRD := Lib.hid hrd; clear hrd
      subst hAe
      by_cases h9 : i = 9
      · subst h9
        have h9b : (((9 : Nat) : Int) == 9) = true := rfl
        clear HX HL HR hi9
        by_cases h1 : 1 < x.toNat
        · have h1I : 1 < (x.toNat : Int) := by omega
          go_wp2_with fail
          go_ret3
          have hh := HRD.out
          rw [rd, if_pos (.inl ⟨rfl, h1⟩)] at hh
          simp only [Prod.mk.injEq] at hh
          obtain ⟨rfl, rfl, rfl⟩ := hh
          exact ⟨rfl, rfl⟩
        · have h1I : (x.toNat : Int) ≤ 1 := by omega
          by_cases h0 : x.toNat = 0
          · have h0b : ((x.toNat : Int) == 0) = true := by simp [h0]
            have H0 := Lib.hid h0; clear h0
            go_wp2_with fail
            go_ret3
            have hh := HRD.out
            rw [rd, if_pos (.inr ⟨by omega, H0.out⟩)] at hh
            simp only [Prod.mk.injEq] at hh
            obtain ⟨rfl, rfl, rfl⟩ := hh
            exact ⟨rfl, rfl⟩
          · have h0b : ((x.toNat : Int) == 0) = false := by simp; omega
            have hxe : x.toNat = 1 := by omega
            have HXE := Lib.hid hxe; clear hxe
            have HV := Lib.hid (or_shift9 nn x.toNat HN.out (by omega))
            go_wp2_with fail
            go_ret3
            have hh := HRD.out
            rw [rd, if_neg (by omega), if_pos (by omega)] at hh
            simp only [Prod.mk.injEq] at hh
            obtain ⟨rfl, rfl, rfl⟩ := hh
            refine ⟨?_, rfl⟩
            unfold uintAns
            rw [← HV.out]
            simp [Int.add_assoc]
      · have h9b : ((i : Int) == 9) = false := by simp; omega
        clear HX HL HR
        have hi8 : i ≤ 8 := by omega
        clear h9
        have hpi := pow_i i hi8
        have hnb : nn < 72057594037927936 := Nat.lt_of_lt_of_le HN.out hpi
        have hx256 : x.toNat < 256 := by omega
        have hmul : x.toNat * 2 ^ (7 * i) ≤ 255 * 72057594037927936 := Nat.mul_le_mul (by omega) hpi
        have HV := Lib.hid (or_shift nn i x.toNat HN.out (by omega) (by omega))
        have hmul2 : x.toNat % 128 * 2 ^ (7 * i) ≤ 127 * 72057594037927936 := Nat.mul_le_mul (by omega) hpi
        have HV2 := Lib.hid (or_shift nn i (x.toNat % 128) HN.out (by omega) (by omega))
        clear hpi hmul hmul2 hnb
        by_cases h0 : 0 < i ∧ x.toNat = 0
        · obtain ⟨h00, h01⟩ := h0
          have h0b : ((x.toNat : Int) == 0) = true := by simp [h01]
          have H0 := Lib.hid h01; clear h01
          go_wp2_with fail
          go_ret3
          have hh := HRD.out
          rw [rd, if_pos (.inr ⟨h00, H0.out⟩)] at hh
          simp only [Prod.mk.injEq] at hh
          obtain ⟨rfl, rfl, rfl⟩ := hh
          exact ⟨rfl, rfl⟩
        · by_cases h128 : x.toNat < 128
          · have hxI2 : (x.toNat : Int) < 128 := by omega
            by_cases hz : 0 < i
            · have h1b : ((x.toNat : Int) == 0) = false := by simp; omega
              go_wp2_with fail
              go_ret3
              have hh := HRD.out
              rw [rd, if_neg (by omega), if_pos h128] at hh
              simp only [Prod.mk.injEq] at hh
              obtain ⟨rfl, rfl, rfl⟩ := hh
              refine ⟨?_, rfl⟩
              unfold uintAns
              rw [← HV.out]
              simp [Int.add_assoc]
            · obtain rfl : i = 0 := by omega
              rw [Nat.add_zero] at hc
              have HV0 := Lib.hid (or_zero9 nn x.toNat HN.out (by omega))
              go_wp2_with fail
              go_ret3
              have hh := HRD.out
              rw [rd, if_neg (by omega), if_pos h128] at hh
              simp only [Prod.mk.injEq] at hh
              obtain ⟨rfl, rfl, rfl⟩ := hh
              refine ⟨?_, rfl⟩
              unfold uintAns
              rw [← HV0.out]
              simp
          · have hxI2 : 128 ≤ (x.toNat : Int) := by omega
            have h1b : ((x.toNat : Int) == 0) = false := by simp; omega
            have h127 := and127 x
            clear h128 h0
            by_cases hz : 0 < i
            · go_wp2_with fail
              go_round
              case rel =>
                have hh := HRD.out
                rw [rd, if_neg (by omega), if_neg (by omega)] at hh
                refine ⟨i + 1, nn + x.toNat % 128 * 2 ^ (7 * i), by omega, by omega, next_lt nn i x.toNat HN.out, by rw [← Nat.add_assoc]; exact hh, ?_, by go_num⟩
                have hv2 := HV2.out
                rw [Int.natCast_emod] at hv2
                exact congrArg (Value.int IntKind.u64) hv2
              case measure => simp [intOf]; omega
            · obtain rfl : i = 0 := by omega
              rw [Nat.add_zero] at hc
              go_wp2_with fail
              go_round
              case rel =>
                have hh := HRD.out
                rw [rd, if_neg (by omega), if_neg (by omega)] at hh
                refine ⟨0 + 1, nn + x.toNat % 128 * 2 ^ (7 * 0), by omega, by omega, next_lt nn 0 x.toNat HN.out, by rw [← Nat.add_assoc]; exact hh, ?_, by go_num⟩
                have hv2 := or_zero9 nn (x.toNat % 128) HN.out (by omega)
                rw [Int.natCast_emod] at hv2
                exact congrArg (Value.int IntKind.u64) hv2
              case measure => simp [intOf]; omega
    · have hdr : rd i nn (l.drop (at_ + i)) = (0, 0, 3) := by
        have := HL.out
        rw [List.drop_of_length_le (by omega)]; rfl
      rw [hdr] at hrd
      simp only [Prod.mk.injEq] at hrd
      obtain ⟨rfl, rfl, rfl⟩ := hrd
      clear hdr
      go_wp2_with fail
      go_ret3
      exact ⟨rfl, rfl⟩
/-- The error's number and the rest of wire.Uint's answer, at any place. -/
def uintAt (l : List UInt8) (at_ : Int) : Nat × Nat × Nat :=
  if at_ < 0 ∨ (l.length : Int) < at_ then (0, 0, 5) else
    match rd 0 0 (l.drop at_.toNat) with
    | (v, d, e) => (v, if e = 0 then at_.toNat + d else 0, e)

def trip (r : Nat × Nat × Nat) : Value := .tuple #[.int .u64 r.1, .int .i64 r.2.1, .int .i64 r.2.2]

theorem uint_any (A : Option Addr) (n c : Nat) (at_ : Int) (l : List UInt8) (w : World) (B : Nat) (h : Sees w B 1 A n (bvs l)) (hnc : n ≤ c) (hn : n ≤ 1000000000000) :
    Calls Try.prog 10 #[.slice A n c, .int .i64 at_] w fun en w' => en = .returned (trip (uintAt l at_)) ∧ w = w' := by
  have hl : l.length = n := by have := h.1; rw [bvs_length] at this; omega
  by_cases ho : at_ < 0 ∨ (n : Int) < at_
  · refine (uint_range A n c at_ w ho).mono ?_
    rintro e w' ⟨rfl, rfl⟩
    refine ⟨?_, rfl⟩
    rw [uintAt, hl, if_pos ho]
    rfl
  · obtain ⟨k, rfl⟩ := Int.eq_ofNat_of_zero_le (show 0 ≤ at_ by omega)
    refine (uint_in A n c k l w B h (by omega) hnc hn _ _ _ rfl).mono ?_
    rintro e w' ⟨rfl, rfl⟩
    refine ⟨?_, rfl⟩
    rw [uintAt, hl, if_neg ho, Int.toNat_natCast]
    unfold uintAns trip
    split <;> simp_all

set_option maxHeartbeats 400000 in
/-- wire.Int. -/
theorem int_any (A : Option Addr) (n c : Nat) (at_ : Int) (l : List UInt8) (w : World) (B : Nat) (h : Sees w B 1 A n (bvs l)) (hnc : n ≤ c) (hn : n ≤ 1000000000000) (v d e : Nat) (hu : uintAt l at_ = (v, d, e)) (hv : v < 18446744073709551616) :
    Calls Try.prog 19 #[.slice A n c, .int .i64 at_] w fun en w' => en = .returned (.tuple #[.int .i64 (zagN v), .int .i64 d, .int .i64 e]) ∧ w = w' := by
  have H := Lib.hid (uint_any A n c at_ l w B h hnc hn)
  rw [hu] at H
  have HZ := Lib.hid (fun w => zag_any (v : Int) (by omega) (by omega) w)
  rw [Int.toNat_natCast] at HZ
  clear hu hv
  go_enter Try.func19, Try.ntmps19
  go_wp2_with (first
    | (go_at_call 10; refine H.out.mono ?_; rintro en w' ⟨rfl, rfl⟩; unfold trip)
    | (go_at_call 24; refine (HZ.out _).mono ?_; rintro en w' ⟨rfl, rfl⟩))
  go_ret3
  exact ⟨rfl, rfl⟩
end Go.Proofs.Ytdhcnolbiocneaa
