/-
  The walks of the document's own forms: rubricref02.Form, Whole, Back.
-/
import Derived.Test.YtdhcnolbiocneaaWireC
import Derived.BigQuiet
import Derived.Deep.QuietTactic
namespace Go.Proofs.Ytdhcnolbiocneaa
open Go.RowKit

theorem ret_u64 {a b : Int} (h : a = b) : Ending.returned (.int .u64 a) = .returned (.int .u64 b) := by rw [h]
theorem ret_i64 {a b : Int} (h : a = b) : Ending.returned (.int .i64 a) = .returned (.int .i64 b) := by rw [h]

set_option maxHeartbeats 400000 in
theorem whole_any (i : Int) (h0 : -9223372036854775808 ≤ i) (h1 : i ≤ 9223372036854775807) (w : World) :
    Calls Try.prog 15 #[.int .i64 i] w fun e w' => e = .returned (.int .u64 (zigN i)) ∧ w = w' := by
  by_cases hi : 0 ≤ i
  · go_enter Try.func15, Try.ntmps15
    go_wp2
    go_ret
    exact ⟨ret_u64 (by unfold zigN; rw [if_pos hi]; omega), rfl⟩
  · go_enter Try.func15, Try.ntmps15
    go_wp2
    go_ret
    exact ⟨ret_u64 (by unfold zigN; rw [if_neg (by omega)]; omega), rfl⟩

set_option maxHeartbeats 400000 in
theorem back2_any (n : Nat) (hn : n < 18446744073709551616) (w : World) :
    Calls Try.prog 20 #[.int .u64 n] w fun e w' => e = .returned (.int .i64 (zagN n)) ∧ w = w' := by
  by_cases hi : n % 2 = 0
  · have hb : (((n : Int) % 2) == 0) = true := by simp; omega
    go_enter Try.func20, Try.ntmps20
    go_wp2
    go_ret
    exact ⟨ret_i64 (by unfold zagN; rw [if_pos hi]; omega), rfl⟩
  · have hb : (((n : Int) % 2) == 0) = false := by simp; omega
    go_enter Try.func20, Try.ntmps20
    go_wp2
    go_ret
    exact ⟨ret_i64 (by unfold zagN; rw [if_neg hi]; omega), rfl⟩

set_option maxHeartbeats 1000000 in
theorem form_any (x : Nat) (hxn : x < 18446744073709551616) (w : World) :
    Calls Try.prog 14 #[.int .u64 x] w fun e w' => ∃ v, e = .returned v ∧ w'.ownsRow w.heap.size 5 1 v (form 9 x).length (bvs (form 9 x)) ∧ Below w.heap.size w w' := by
  obtain ⟨i0, hi0, hz0, hz1, hz2⟩ := info_parts byte_info
  go_enter Try.func14, Try.ntmps14
  go_wp2_with fail
  go_loopw [0, 3] (fun i v wr => ∃ (k y : Nat) (pre : List UInt8), k ≤ 9 ∧ y < 2 ^ (64 - 7 * k) ∧ pre.length = k ∧ pre ++ form (9 - k) y = form 9 x ∧ i = .int .u64 y ∧
     wr.ownsRow w.heap.size 5 1 v k (bvs pre) ∧ Below w.heap.size w wr) (fun i _ _ => (intOf i).toNat)
  case atStart => exact ⟨0, x, [], by omega, by simpa using hxn, rfl, rfl, rfl, World.ownsRow_nil _ _ _ _, Below.refl _ _⟩
  case round =>
    obtain ⟨k, y, pre, hk, hy, hp, hform, rfl, hown, hbel⟩ := hrel
    have hy2 : y < 18446744073709551616 := Nat.lt_of_lt_of_le hy (Nat.pow_le_pow_right (n := 2) (by omega) (by omega : 64 - 7 * k ≤ 64))
    have HF := Lib.hid hform; clear hform
    have HP := Lib.hid hp; clear hp
    have HY := Lib.hid hy; clear hy
    have hsz := hbel.size
    by_cases hlt : 127 < y
    · have hq : (((y : Int) / 128) == 0) = false := by simp; omega
      go_wp2_with (
        at_builtin
        refine wpList_append_sees _ rfl _ _ _ rfl w.heap.size 5 i0 _ 1 1 Try.underlying22 hi0 hz0 hz1 hz2 rfl (by omega) _ k (bvs pre) rfl
          (hown.alloc _) _ _ 1 1 _ rfl (Sees.one _ _ _) (by intro u hu; simp at hu; subst hu; rfl) (by simp only [maxLen]; omega) (by omega) (by simp; omega) ?_
        intro v1 w1 hown1 hg hat hnil)
      go_roundw
      case rel =>
        have hk9 : k < 9 := by
          rcases Nat.lt_or_ge k 9 with h9 | h9
          · exact h9
          · have := HY.out; rw [show k = 9 by omega] at this; simp at this; omega
        refine ⟨k + 1, y / 128, pre ++ [UInt8.ofNat (y % 128 + 128)], by omega, ?_, ?_, ?_, ?_, ?_, ?_⟩
        · have := HY.out
          have hpw : 2 ^ (64 - 7 * k) = 128 * 2 ^ (64 - 7 * (k + 1)) := by rw [show 64 - 7 * k = 7 + (64 - 7 * (k + 1)) by omega, Nat.pow_add]
          omega
        · simp [HP.out]
        · have := HF.out
          rw [show 9 - k = 9 - (k + 1) + 1 by omega, form, if_neg (by omega)] at this
          simpa using this
        · simp
        · rw [bvs_append]
          have h8 : bvs [UInt8.ofNat (y % 128 + 128)] = [Value.int .u8 ((y : Int) % 128 + 128)] := by
            simp only [bvs, bv, List.map_cons, List.map_nil]
            rw [toNat_low (by omega)]
            congr 2
          rw [h8]
          exact hown1
        · exact (hbel.alloc hsz _).grown hg (by simp; omega) (fun k hk => (hown.lt k hk).1)
      case measure => simp [intOf]; omega
    · have hq : (((y : Int) / 128) == 0) = true := by simp; omega
      go_wp2_with (
        at_builtin
        refine wpList_append_sees _ rfl _ _ _ rfl w.heap.size 5 i0 _ 1 1 Try.underlying22 hi0 hz0 hz1 hz2 rfl (by omega) _ k (bvs pre) rfl
          (hown.alloc _) _ _ 1 1 _ rfl (Sees.one _ _ _) (by intro u hu; simp at hu; subst hu; rfl) (by simp only [maxLen]; omega) (by omega) (by simp; omega) ?_
        intro v1 w1 hown1 hg hat hnil)
      go_ret
      have hlast : form (9 - k) y = [UInt8.ofNat y] := by
        cases hc : 9 - k with
        | zero => rfl
        | succ m => rw [form, if_pos (by omega)]
      have hfl : form 9 x = pre ++ [UInt8.ofNat y] := by rw [← hlast]; exact HF.out.symm
      refine ⟨v1, rfl, ?_, (hbel.alloc hsz _).grown hg (by simp; omega) (fun k hk => (hown.lt k hk).1)⟩
      rw [hfl, bvs_append, List.length_append, HP.out, List.length_singleton]
      have h8 : bvs [UInt8.ofNat y] = [Value.int .u8 ((y : Int) % 128)] := by
        simp only [bvs, bv, List.map_cons, List.map_nil]
        rw [toNat_low (by omega)]
        congr 2
        omega
      rw [h8]
      exact hown1

set_option maxRecDepth 100000 in
set_option maxHeartbeats 1000000 in
theorem uint2_range (A : Option Addr) (n c : Nat) (at_ : Int) (w : World) (h : at_ < 0 ∨ (n : Int) < at_) :
    Calls Try.prog 18 #[.slice A n c, .int .i64 at_] w fun e w' => e = .returned (.tuple #[.int .u64 0, .int .i64 0, .int .i64 5]) ∧ w = w' := by
  rcases h with h | h
  · go_enter Try.func18, Try.ntmps18
    go_wp2
    go_ret3
    exact ⟨rfl, rfl⟩
  · have h0 : ¬ at_ < 0 := by omega
    go_enter Try.func18, Try.ntmps18
    go_wp2
    go_ret3
    exact ⟨rfl, rfl⟩

theorem acc_wrap (nn x sc : Nat) : IntKind.u64.wrap ((nn : Int) + IntKind.u64.wrap ((x : Int) % 128 * sc)) = (((nn + x % 128 * sc) % 18446744073709551616 : Nat) : Int) := by
  have e1 : (x : Int) % 128 * sc = ((x % 128 * sc : Nat) : Int) := by rw [Int.natCast_mul, Int.natCast_emod]; rfl
  rw [wrap_u64, wrap_u64, e1]
  omega

theorem acc_val (pre : List UInt8) (x : UInt8) (i : Nat) (hi : pre.length = i) (nn sc : Nat) (hn : nn = val pre % 18446744073709551616) (hs : sc = 128 ^ i % 18446744073709551616) :
    (nn + x.toNat % 128 * sc) % 18446744073709551616 = val (pre ++ [x]) % 18446744073709551616 := by
  rw [val_snoc, hn, hs, hi]
  simp only [Nat.add_mod, Nat.mul_mod, Nat.mod_mod]

theorem sc_wrap (i sc : Nat) (hs : sc = 128 ^ i % 18446744073709551616) : IntKind.u64.wrap ((sc : Int) * 128) = ((128 ^ (i + 1) % 18446744073709551616 : Nat) : Int) := by
  rw [wrap_u64, Nat.pow_succ, hs]
  omega

theorem take_next (l : List UInt8) (i : Nat) (h : i < l.length) : l.take (i + 1) = l.take i ++ [l[i]] := by
  rw [List.take_succ_eq_append_getElem h]

set_option maxRecDepth 100000 in
set_option maxHeartbeats 2000000 in
theorem uint2_in (A : Option Addr) (n c at_ : Nat) (l : List UInt8) (w : World) (h : Sees w w.heap.size 1 A n (bvs l)) (hat : at_ ≤ n) (hnc : n ≤ c) (hn : n ≤ 1000000000000) (v d e : Nat) (hr : rd 0 0 (l.drop at_) = (v, d, e)) :
    Calls Try.prog 18 #[.slice A n c, .int .i64 at_] w fun en w' => en = .returned (uintAns at_ v d e) ∧ Below w.heap.size w w' := by
  have hl : l.length = n := by have := h.1; rw [bvs_length] at this; omega
  have HR := Lib.hid hr; clear hr
  have HL := Lib.hid hl; clear hl
  have hatI : (at_ : Int) ≤ n := by omega
  have hnI : (n : Int) ≤ 1000000000000 := by omega
  go_enter Try.func18, Try.ntmps18
  go_wp2_with fail
  go_loop [7, 8, 9] (fun m s k => ∃ (i nn sc : Nat), i ≤ n - at_ ∧ i ≤ 10 ∧ nn = val ((l.drop at_).take i) % 18446744073709551616 ∧ sc = 128 ^ i % 18446744073709551616 ∧ (∀ j (h : j < (l.drop at_).length), j < i → 128 ≤ ((l.drop at_)[j]).toNat) ∧ m = .int .u64 nn ∧ s = .int .u64 sc ∧ k = .int .i64 i) (fun _ _ k => 10 - (intOf k).toNat)
  case atStart => exact ⟨0, 0, 1, by omega, by omega, by simp [val], by simp, fun j _ hj => by omega, rfl, rfl, rfl⟩
  case round =>
    obtain ⟨i, nn, sc, hi, hi10, hnn, hsc, hall, rfl, rfl, rfl⟩ := hrel
    have HN := Lib.hid hnn; clear hnn
    have HS := Lib.hid hsc; clear hsc
    have HA := Lib.hid hall; clear hall
    by_cases hlt : i < 10 ∧ i < n - at_
    · obtain ⟨hlt1, hlt2⟩ := hlt
      obtain ⟨b, o, hAe, hb, hcell⟩ := h.2 (by omega)
      subst hAe
      have hj : at_ + i < l.length := by have := HL.out; omega
      have hc := hcell (at_ + i) _ (bvs_get hj)
      have hjd : i < (l.drop at_).length := by rw [List.length_drop]; omega
      obtain ⟨x, hx⟩ : ∃ x, l[at_ + i] = x := ⟨_, rfl⟩
      have hxd : (l.drop at_)[i] = x := by rw [List.getElem_drop]; exact hx
      rw [hx] at hc
      have hx256 : (x.toNat : Int) < 256 := by have h256 : x.toNat < 256 := x.toNat_lt; omega
      have HX := Lib.hid hx; clear hx
      have HXD := Lib.hid hxd; clear hxd
      have HC := Lib.hid hcell; clear hcell
      have HH := Lib.hid h; clear h
      have hI1 : (i : Int) < 10 := by omega
      have hI2 : (at_ : Int) + i < n := by omega
      have hscI : (sc : Int) < 18446744073709551616 := by have := HS.out; omega
      have HSC := Lib.hid hscI; clear hscI
      have hlen : ((l.drop at_).take i).length = i := by rw [List.length_take]; omega
      have hval := acc_val ((l.drop at_).take i) x i hlen nn sc HN.out HS.out
      have htk := take_next (l.drop at_) i hjd
      rw [HXD.out] at htk
      rw [← htk] at hval
      have hacc := acc_wrap nn x.toNat sc
      rw [hval] at hacc
      have HW := Lib.hid hacc
      have HSW := Lib.hid (sc_wrap i sc HS.out)
      obtain ⟨nv, hnv⟩ : ∃ nv, val ((l.drop at_).take (i + 1)) % 18446744073709551616 = nv := ⟨_, rfl⟩
      rw [hnv] at HW
      have hnvlt : nv < 18446744073709551616 := by rw [← hnv]; exact Nat.mod_lt _ (by omega)
      have HNV := Lib.hid hnv
      have HNL := Lib.hid hnvlt
      clear hnv hnvlt hacc hval htk hlen
      by_cases h128 : x.toNat < 128
      · have hxI : (x.toNat : Int) < 128 := by omega
        have hst := rd_stop (l.drop at_) i hlt1 hjd HA.out (by rw [HXD.out]; exact h128)
        rw [HR.out, HNV.out] at hst
        have HST := Lib.hid hst; clear hst
        have hne : ¬ c = at_ := by omega
        have hs1 := HH.out.mid (k := at_) (m := i + 1) (cap := c) (by omega) hnc
        rw [if_neg hne, bvs_mid] at hs1
        simp only [Option.map_some, Addr.add_lit] at hs1
        have HS1 := Lib.hid hs1; clear hs1
        have hciI : (at_ : Int) + i + 1 ≤ c := by omega
        clear h128
        go_wp2_with fail
        rw [HW.out]
        refine (form_any nv HNL.out _).mono ?_
        rintro e w1 ⟨v1, rfl, ho1, hb1⟩
        obtain ⟨kf, hkf⟩ : ∃ kf, (form 9 nv).length = kf := ⟨_, rfl⟩
        rw [hkf] at ho1
        have HKF := Lib.hid hkf; clear hkf
        obtain ⟨A1, c1, rfl, _⟩ := own_shape ho1
        have hcf := fun q => run_str (P := Try.prog) (c := c1) Try.underlying22 Try.underlying5 Try.underlying9 ((Sees.of_own ho1).drewN q)
        have hcg := fun q => run_str (P := Try.prog) (c := c - at_) Try.underlying22 Try.underlying5 Try.underlying9 ((HS1.out.below hb1 (Nat.le_refl _)).drewN q)
        clear ho1
        have hst := HST.out
        by_cases hq : form 9 nv = (l.drop at_).take (i + 1)
        · rw [if_pos hq] at hst
          simp only [Prod.mk.injEq] at hst
          obtain ⟨rfl, rfl, rfl⟩ := hst
          rw [hq] at hcf
          have HQ := Lib.hid hq; clear hq
          go_wp2_with fail
          have s1 : IntKind.i64.wrap ((at_ : Int) + i) = (at_ : Int) + i := IntWalk.i64_in _ (by omega)
          have s2 : IntKind.i64.wrap ((at_ : Int) + i + 1) = (at_ : Int) + i + 1 := IntWalk.i64_in _ (by omega)
          have s3 : (at_ : Int) ≤ (at_ : Int) + i + 1 := by omega
          have s4 : ((at_ : Int) + i + 1).toNat = at_ + i + 1 := by omega
          have s5 : at_ + i + 1 - at_ = i + 1 := by omega
          go_quiet (fail)
          go_wp2_with fail
          go_ret3
          refine ⟨?_, below_drewN hb1 _⟩
          unfold uintAns
          simp [Int.add_assoc]
        · rw [if_neg hq] at hst
          simp only [Prod.mk.injEq] at hst
          obtain ⟨rfl, rfl, rfl⟩ := hst
          have hq2 : (form 9 nv == (l.drop at_).take (i + 1)) = false := by simpa using hq
          go_wp2_with fail
          have s1 : IntKind.i64.wrap ((at_ : Int) + i) = (at_ : Int) + i := IntWalk.i64_in _ (by omega)
          have s2 : IntKind.i64.wrap ((at_ : Int) + i + 1) = (at_ : Int) + i + 1 := IntWalk.i64_in _ (by omega)
          have s3 : (at_ : Int) ≤ (at_ : Int) + i + 1 := by omega
          have s4 : ((at_ : Int) + i + 1).toNat = at_ + i + 1 := by omega
          have s5 : at_ + i + 1 - at_ = i + 1 := by omega
          go_quiet (fail)
          go_wp2_with fail
          go_ret3
          exact ⟨rfl, below_drewN hb1 _⟩
      · have hxI : ¬ (x.toNat : Int) < 128 := by omega
        have HX8 := Lib.hid h128; clear h128
        go_wp2_with fail
        go_round
        case rel =>
          refine ⟨i + 1, nv, 128 ^ (i + 1) % 18446744073709551616, by omega, by omega, HNV.out.symm, rfl, ?_, ?_, ?_, by go_num⟩
          · intro j hj hji
            by_cases hjj : j < i
            · exact HA.out j hj hjj
            · obtain rfl : j = i := by omega
              rw [HXD.out]
              have := HX8.out
              omega
          · rw [← HW.out]
          · rw [← HSW.out]
        case measure => simp [intOf]; omega
    · have hlt' : ¬ ((i : Int) < 10) ∨ ((i : Int) < 10 ∧ ¬ (at_ : Int) + i < n) := by omega
      have hnone : rd 0 0 (l.drop at_) = (0, 0, 3) := rd_none _ (fun j h hj => HA.out j h (by rw [List.length_drop, HL.out] at h; omega))
      have hh := HR.out
      rw [hnone] at hh
      simp only [Prod.mk.injEq] at hh
      obtain ⟨rfl, rfl, rfl⟩ := hh
      clear hlt
      rcases hlt' with h1 | ⟨h1, h2⟩
      all_goals
        go_wp2_with fail
        go_ret3
        exact ⟨rfl, Below.refl _ _⟩
theorem uint2_any (A : Option Addr) (n c : Nat) (at_ : Int) (l : List UInt8) (w : World) (h : Sees w w.heap.size 1 A n (bvs l)) (hnc : n ≤ c) (hn : n ≤ 1000000000000) :
    Calls Try.prog 18 #[.slice A n c, .int .i64 at_] w fun en w' => en = .returned (trip (uintAt l at_)) ∧ Below w.heap.size w w' := by
  have hl : l.length = n := by have := h.1; rw [bvs_length] at this; omega
  by_cases ho : at_ < 0 ∨ (n : Int) < at_
  · refine (uint2_range A n c at_ w ho).mono ?_
    rintro e w' ⟨rfl, rfl⟩
    refine ⟨?_, Below.refl _ _⟩
    rw [uintAt, hl, if_pos ho]
    rfl
  · obtain ⟨k, rfl⟩ := Int.eq_ofNat_of_zero_le (show 0 ≤ at_ by omega)
    refine (uint2_in A n c k l w h (by omega) hnc hn _ _ _ rfl).mono ?_
    rintro e w' ⟨rfl, hb⟩
    refine ⟨?_, hb⟩
    rw [uintAt, hl, if_neg ho, Int.toNat_natCast]
    unfold uintAns trip
    split <;> simp_all

theorem uintAt_facts (l : List UInt8) (at_ : Int) (v d e : Nat) (h : uintAt l at_ = (v, d, e)) : v < 18446744073709551616 ∧ (e = 0 → d ≤ l.length) ∧ (e ≠ 0 → v = 0 ∧ d = 0) := by
  unfold uintAt at h
  by_cases ho : at_ < 0 ∨ (l.length : Int) < at_
  · rw [if_pos ho] at h
    simp only [Prod.mk.injEq] at h
    obtain ⟨rfl, rfl, rfl⟩ := h
    exact ⟨by omega, fun h => by omega, fun _ => ⟨rfl, rfl⟩⟩
  · rw [if_neg ho] at h
    obtain ⟨k, rfl⟩ := Int.eq_ofNat_of_zero_le (show 0 ≤ at_ by omega)
    rw [Int.toNat_natCast] at h
    obtain ⟨v', d', e', hr⟩ : ∃ v d e, rd 0 0 (l.drop k) = (v, d, e) := ⟨_, _, _, rfl⟩
    simp only [hr, Prod.mk.injEq] at h
    obtain ⟨rfl, rfl, rfl⟩ := h
    by_cases he : e' = 0
    · subst he
      obtain ⟨g1, g2, g3, g4, g5⟩ := rd_only0 _ _ _ hr
      rw [List.length_drop] at g2
      refine ⟨g4, fun _ => ?_, fun h => absurd rfl h⟩
      rw [if_pos rfl]
      omega
    · have := rd_fail (l.drop k) 0 0
      rw [hr] at this
      rcases this with h0 | h0
      · exact absurd h0 he
      · simp only [Prod.mk.injEq] at h0
        obtain ⟨rfl, rfl, rfl⟩ := h0
        exact ⟨by omega, fun h => absurd h he, fun _ => ⟨rfl, by simp⟩⟩

set_option maxHeartbeats 400000 in
theorem bytes2_err (A : Option Addr) (n c : Nat) (at_ most : Int) (l : List UInt8) (w : World) (h : Sees w w.heap.size 1 A n (bvs l)) (hnc : n ≤ c) (hn : n ≤ 1000000000000) (v d e : Nat) (hu : uintAt l at_ = (v, d, e)) (he : e ≠ 0) :
    Calls Try.prog 21 #[.slice A n c, .int .i64 at_, .int .i64 most] w fun en w' => en = .returned (bytesNo e) ∧ Below w.heap.size w w' := by
  have H := Lib.hid (uint2_any A n c at_ l w h hnc hn)
  rw [hu] at H
  have heb2 : ((e : Int) == 0) = false := by simp; omega
  clear hu
  go_enter Try.func21, Try.ntmps21
  go_wp2_with (go_at_call 18; refine H.out.mono ?_; rintro en w' ⟨rfl, hb⟩; unfold trip)
  go_ret3
  exact ⟨rfl, hb⟩

set_option maxHeartbeats 1000000 in
theorem bytes2_bad (A : Option Addr) (n c : Nat) (at_ most : Int) (l : List UInt8) (w : World) (h : Sees w w.heap.size 1 A n (bvs l)) (hnc : n ≤ c) (hn : n ≤ 1000000000000) (v d : Nat) (hd : d ≤ n)
    (hm : most ≤ 9223372036854775807) (hu : uintAt l at_ = (v, d, 0)) (hb : most < 0 ∨ most < (v : Int) ∨ n - d < v) :
    Calls Try.prog 21 #[.slice A n c, .int .i64 at_, .int .i64 most] w fun en w' => en = .returned (bytesNo 3) ∧ Below w.heap.size w w' := by
  have H := Lib.hid (uint2_any A n c at_ l w h hnc hn)
  rw [hu] at H
  clear hu
  have hnI : (n : Int) ≤ 1000000000000 := by omega
  have hdI : (d : Int) ≤ n := by omega
  by_cases h1 : most < 0
  · clear hb hm
    go_enter Try.func21, Try.ntmps21
    go_wp2_with (go_at_call 18; refine H.out.mono ?_; rintro en w' ⟨rfl, hb⟩; unfold trip)
    go_ret3
    exact ⟨rfl, hb⟩
  · obtain ⟨m, rfl⟩ := Int.eq_ofNat_of_zero_le (show 0 ≤ most by omega)
    have h1' : decide ((m : Int) < 0) = false := by simp
    by_cases h2 : (m : Int) < v
    · have hmm := u64_of m (by omega)
      clear hb hm
      go_enter Try.func21, Try.ntmps21
      go_wp2_with (go_at_call 18; refine H.out.mono ?_; rintro en w' ⟨rfl, hb⟩; unfold trip)
      go_ret3
      exact ⟨rfl, hb⟩
    · have h3 : n - d < v := by omega
      have h3I : (n : Int) - d < v := by omega
      have h2I : ¬ (m : Int) < v := h2
      have hmm := u64_of m (by omega)
      clear hb hm
      go_enter Try.func21, Try.ntmps21
      go_wp2_with (go_at_call 18; refine H.out.mono ?_; rintro en w' ⟨rfl, hb⟩; unfold trip)
      go_ret3
      exact ⟨rfl, hb⟩

set_option maxHeartbeats 1000000 in
theorem bytes2_ok (A : Option Addr) (n c : Nat) (at_ most : Int) (l : List UInt8) (w : World) (h : Sees w w.heap.size 1 A n (bvs l)) (hnc : n ≤ c) (hn : n ≤ 1000000000000) (v d : Nat) (hd : d + v ≤ n)
    (hm : most ≤ 9223372036854775807) (hu : uintAt l at_ = (v, d, 0)) (hmost : (v : Int) ≤ most) :
    Calls Try.prog 21 #[.slice A n c, .int .i64 at_, .int .i64 most] w fun en w' => ∃ x, en = .returned (.tuple #[x, .int .i64 ((d + v : Nat) : Int), .int .i64 0]) ∧
      w'.ownsRow w.heap.size 5 1 x v (bvs ((l.drop d).take v)) ∧ Below w.heap.size w w' := by
  obtain ⟨i0, hi0, hz0, hz1, hz2⟩ := info_parts byte_info
  have H := Lib.hid (uint2_any A n c at_ l w h hnc hn)
  rw [hu] at H
  clear hu
  have hnI : (n : Int) ≤ 1000000000000 := by omega
  have hdI : (d : Int) + v ≤ n := by omega
  obtain ⟨m, rfl⟩ := Int.eq_ofNat_of_zero_le (show 0 ≤ most by omega)
  have hmm := u64_of m (by omega)
  have hcut := h.mid (k := d) (m := v) (cap := c) hd hnc
  obtain ⟨A', hA'⟩ : ∃ A', (if c = d then A else Option.map (fun x => x.add d) A) = A' := ⟨_, rfl⟩
  rw [hA', bvs_mid] at hcut
  have hncI : (n : Int) ≤ c := by omega
  have s5 : d + v - d = v := by omega
  have s6 : ((d : Int) + v).toNat = d + v := by omega
  clear hm
  go_enter Try.func21, Try.ntmps21
  go_wp2_with (first
    | (go_at_call 18; refine H.out.mono ?_; rintro en w' ⟨rfl, hb⟩; unfold trip)
    | (at_builtin
       refine wpList_append_sees _ rfl _ _ _ rfl w.heap.size 5 i0 _ 1 1 Try.underlying22 hi0 hz0 hz1 hz2 rfl (by omega) _ 0 [] rfl
          (own_lower (World.ownsRow_made w' #[] 0 (Nat.le_refl _) (Nat.zero_le _) rfl) hb.size) w.heap.size A' v _ (bvs ((l.drop d).take v)) rfl ((hcut.below hb (Nat.le_refl _)).alloc hb.size _) (bvs_one _) (by simp only [maxLen]; omega) (by omega) (by have := hb.size; simp; omega) ?_
       intro v1 w1 hown1 hg hat hnil))
  go_ret3
  rw [Nat.zero_add, List.nil_append] at hown1
  refine ⟨v1, rfl, hown1, (hb.alloc hb.size _).grown hg (by have := hb.size; simp; omega) (fun k hk => ?_)⟩
  have hk2 : some w'.heap.size = some k := hk
  have hk3 := Option.some.inj hk2
  have := hb.size
  omega
end Go.Proofs.Ytdhcnolbiocneaa
