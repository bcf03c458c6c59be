/-
  The walk of the law WireReads.
-/
import Derived.Test.YtdhcnolbiocneaaWireRef
namespace Go.Proofs.Ytdhcnolbiocneaa
open Go.RowKit

set_option maxHeartbeats 1000000 in
theorem reads_big (A : Option Addr) (n c : Nat) (at_ most : Int) (w : World) (hn : (2000 : Int) < n) :
    Calls Try.prog 7 #[.slice A n c, .int .i64 at_, .int .i64 most] w fun e w' => e = .returned (.bool true) ∧ Below w.heap.size w w' := by
  go_enter Try.func7, Try.ntmps7
  go_wp2_with (go_at_call 9; refine (known_any _).mono ?_; rintro e w1 ⟨rfl, hb1⟩)
  go_ret
  exact ⟨rfl, hb1⟩

set_option maxRecDepth 100000 in
set_option maxHeartbeats 4000000 in
theorem reads_ok (A : Option Addr) (n c : Nat) (l : List UInt8) (at_ most : Int) (w : World) (h : Sees w w.heap.size 1 A n (bvs l)) (hl : l.length = n) (hnc : n ≤ c) (hn : n ≤ 2000) (hm : most ≤ 9223372036854775807)
    (v d : Nat) (hu : uintAt l at_ = (v, d, 0)) (hv : v < 18446744073709551616) (_hdn : d ≤ n) (hmv : (v : Int) ≤ most) (hvn : d + v ≤ n) :
    Calls Try.prog 7 #[.slice A n c, .int .i64 at_, .int .i64 most] w fun e w' => e = .returned (.bool true) ∧ Below w.heap.size w w' := by
  obtain ⟨i0, hi0, hz0, hz1, hz2⟩ := info_parts byte_info
  have hnI : (n : Int) ≤ 2000 := by omega
  have HU := Lib.hid hu; clear hu
  have HL := Lib.hid hl; clear hl
  go_enter Try.func7, Try.ntmps7
  go_wp2_with (
    at_builtin
    refine wpList_append_sees _ rfl _ _ _ rfl w.heap.size 5 i0 _ 1 1 Try.underlying22 hi0 hz0 hz1 hz2 rfl (by omega) _ 0 [] rfl
       (World.ownsRow_made w #[] 0 (Nat.le_refl _) (Nat.zero_le _) rfl) w.heap.size A n c (bvs l) rfl (h.alloc (Nat.le_refl _) _) (bvs_one _) (by simp only [maxLen]; omega) (by omega) (by simp) ?_
    intro v1 w1 ho1 hg1 hat1 hnil1
    rw [Nat.zero_add, List.nil_append] at ho1
    have hb1 : Below w.heap.size w w1 := ((Below.refl w.heap.size w).alloc (Nat.le_refl _) _).grown hg1 (by simp) (fun k hk => by have hk3 := Option.some.inj (show some w.heap.size = some k from hk); omega)
    obtain ⟨A1, c1, rfl, hc1, _⟩ := own_shape ho1
    clear hg1 hat1 hnil1)
  have hs1 := Sees.of_own ho1
  refine (uint_any A1 n c1 at_ l w1 _ hs1 hc1 (by omega)).mono ?_
  rintro e w2 ⟨rfl, rfl⟩
  rw [HU.out]
  unfold trip
  go_wp2_with fail
  refine (uint2_any A n c at_ l w1 ((h.below hb1 (Nat.le_refl _)).up hb1.size) hnc (by omega)).mono ?_
  rintro e w2 ⟨rfl, hb2⟩
  rw [HU.out]
  unfold trip
  have hs2 := hs1.below hb2 (Nat.le_refl _)
  have hbel2 := hb1.trans (hb2.mono hb1.size)
  have ho2 := own_below ho1 hb2 (fun g hg => (ho1.lt g hg).2)
  have hz2' := hb2.size
  have hblk : ∀ g, (Value.slice A1 n c1).ownBlock = some g → g < w2.heap.size := fun g hg => by have := (ho1.lt g hg).2; omega
  have hs2up := hs2.up hz2'
  have hz02 := hbel2.size
  clear hb1 hb2 ho1 hs1
  go_wp2_with fail
  refine (int_any A1 n c1 at_ l w2 _ hs2 hc1 (by omega) v d 0 HU.out hv).mono ?_
  rintro e w3 ⟨rfl, rfl⟩
  go_wp2_with fail
  refine (back2_any v hv w2).mono ?_
  rintro e w3 ⟨rfl, rfl⟩
  go_wp2_with fail
  refine (bytes_ok A1 n c1 at_ most l w2 hs2up hc1 (by omega) v d hvn hm HU.out hmv).mono ?_
  rintro e w3 ⟨x, rfl, ho3, hb3⟩
  have hbel3 := hbel2.trans (hb3.mono hz02)
  have hz3 := hbel3.size
  have hz23 := hb3.size
  have ho2' := own_below ho2 hb3 (fun g hg => (ho2.lt g hg).2)
  have hneb : ∀ g, x.ownBlock = some g → w2.heap.size ≤ g := fun g hg => (ho3.lt g hg).1
  obtain ⟨A3, c3, rfl, hc3, _⟩ := own_shape ho3
  have hsb3 := h.below hbel3 (Nat.le_refl _)
  clear hb3 hbel2
  go_wp2_with fail
  refine (bytes2_ok A n c at_ most l w3 (hsb3.up hz3) hnc (by omega) v d hvn hm HU.out hmv).mono ?_
  rintro e w4 ⟨y, rfl, ho4, hb4⟩
  obtain ⟨A4, c4, rfl, _⟩ := own_shape ho4
  have hbel4 := hbel3.trans (hb4.mono hz3)
  have hz4 := hbel4.size
  have ho3' := own_below ho3 hb4 (fun g hg => (ho3.lt g hg).2)
  have ho24 := own_below ho2' hb4 (fun g hg => (ho2'.lt g hg).2)
  have hcx := run_str (P := Try.prog) (c := c3) Try.underlying22 Try.underlying5 Try.underlying9 (Sees.of_own ho3')
  have hcy := run_str (P := Try.prog) (c := c4) Try.underlying22 Try.underlying5 Try.underlying9 (Sees.of_own ho4)
  have hcin := run_str (P := Try.prog) (c := c1) Try.underlying22 Try.underlying5 Try.underlying9 (Sees.of_own ho24)
  have hcb := run_str (P := Try.prog) (c := c) Try.underlying22 Try.underlying5 Try.underlying9 (h.below hbel4 (Nat.le_refl _))
  have hvI : (v : Int) ≤ 2000 := by omega
  have HM := Lib.hid hm
  have HV := Lib.hid hv
  clear ho4 hb4 hbel3 ho3 ho2' hsb3 hs2 hs2up hm hv ho2
  go_wp2_with fail
  clear hcx hcy hcin hcb
  go_loopw [121] (fun k wr => ∃ (i : Nat) (zs : List UInt8), i ≤ v ∧ k = .int .i64 i ∧ wr.ownsRow w2.heap.size 5 1 (.slice A3 v c3) v (bvs zs) ∧ wr.ownsRow w.heap.size 5 1 (.slice A1 n c1) n (bvs l) ∧ Below w.heap.size w wr) (fun k _ => v - (intOf k).toNat)
  case atStart => exact ⟨0, _, by omega, rfl, ho3', ho24, hbel4⟩
  case round =>
    obtain ⟨i, zs, hi, rfl, hor, hor2, hb⟩ := hrel
    clear ho3' ho24 hbel4
    have hBr := hb.size
    by_cases hlt : i < v
    · have hl3 : zs.length = v := by have := hor.1; rw [bvs_length] at this; omega
      obtain ⟨g3, hA3⟩ : ∃ g3, A3 = some ⟨g3, 0, none⟩ := by
        obtain ⟨A', c', he, _, _, hn0, hs0⟩ := own_shape hor
        injection he with he1 he2 he3
        subst he1
        cases A3 with
        | none => have := (hn0 rfl).1; omega
        | some ad =>
          obtain ⟨g, rfl, _⟩ := hs0 ad rfl
          exact ⟨g, rfl⟩
      subst hA3
      have hg3 := (hor.lt g3 rfl).1
      have hcell := hor.cellAt i (by omega)
      rw [bvs_get (by omega)] at hcell
      have hfz := hor.frozenAt i
      have hst := hor.stored i (bv (zs[i]'(by omega) + 1))
      rw [bvs_set] at hst
      obtain ⟨z, hz⟩ : ∃ z, zs[i]'(by omega) = z := ⟨_, rfl⟩
      rw [hz] at hcell hst
      have hup := byte_up z
      unfold bv at hup
      have hz256 : (z.toNat : Int) < 256 := by have := z.toNat_lt; omega
      clear hz hl3
      have HST := Lib.hid hst; clear hst
      go_wp2_with fail
      go_roundw
      case rel =>
        have hst := HST.out
        have hup2 := byte_up z
        unfold bv at hst hup2
        rw [← hup2] at hst
        refine ⟨i + 1, zs.set i (z + 1), by omega, by go_num, hst.1, hor2.kept hst.2 (.inr ?_), hb.grown hst.2 hBr (fun k hk => by simp at hk; omega)⟩
        intro he
        have := hblk g3 he
        omega
      case measure => simp [intOf]; omega
    · obtain rfl : i = v := by omega
      have hcin := run_str (P := Try.prog) (c := c1) Try.underlying22 Try.underlying5 Try.underlying9 (Sees.of_own hor2)
      have hcb := run_str (P := Try.prog) (c := c) Try.underlying22 Try.underlying5 Try.underlying9 (h.below hb (Nat.le_refl _))
      clear hor hor2
      go_wp2_with (go_at_call 9; refine (known_any _).mono ?_; rintro e w5 ⟨rfl, hb5⟩)
      go_ret
      exact ⟨rfl, hb.trans (hb5.mono hBr)⟩
set_option maxRecDepth 100000 in
set_option maxHeartbeats 4000000 in
theorem reads_err (A : Option Addr) (n c : Nat) (l : List UInt8) (at_ most : Int) (w : World) (h : Sees w w.heap.size 1 A n (bvs l)) (hl : l.length = n) (hnc : n ≤ c) (hn : n ≤ 2000) (hm : most ≤ 9223372036854775807)
    (v d e0 : Nat) (hu : uintAt l at_ = (v, d, e0)) (hv : v < 18446744073709551616) (he : e0 ≠ 0) :
    Calls Try.prog 7 #[.slice A n c, .int .i64 at_, .int .i64 most] w fun e w' => e = .returned (.bool true) ∧ Below w.heap.size w w' := by
  obtain ⟨i0, hi0, hz0, hz1, hz2⟩ := info_parts byte_info
  have hnI : (n : Int) ≤ 2000 := by omega
  have HU := Lib.hid hu; clear hu
  have HL := Lib.hid hl; clear hl
  go_enter Try.func7, Try.ntmps7
  go_wp2_with (
    at_builtin
    refine wpList_append_sees _ rfl _ _ _ rfl w.heap.size 5 i0 _ 1 1 Try.underlying22 hi0 hz0 hz1 hz2 rfl (by omega) _ 0 [] rfl
       (World.ownsRow_made w #[] 0 (Nat.le_refl _) (Nat.zero_le _) rfl) w.heap.size A n c (bvs l) rfl (h.alloc (Nat.le_refl _) _) (bvs_one _) (by simp only [maxLen]; omega) (by omega) (by simp) ?_
    intro v1 w1 ho1 hg1 hat1 hnil1
    rw [Nat.zero_add, List.nil_append] at ho1
    have hb1 : Below w.heap.size w w1 := ((Below.refl w.heap.size w).alloc (Nat.le_refl _) _).grown hg1 (by simp) (fun k hk => by have hk3 := Option.some.inj (show some w.heap.size = some k from hk); omega)
    obtain ⟨A1, c1, rfl, hc1, _⟩ := own_shape ho1
    clear hg1 hat1 hnil1)
  have hs1 := Sees.of_own ho1
  refine (uint_any A1 n c1 at_ l w1 _ hs1 hc1 (by omega)).mono ?_
  rintro e w2 ⟨rfl, rfl⟩
  rw [HU.out]
  unfold trip
  go_wp2_with fail
  refine (uint2_any A n c at_ l w1 ((h.below hb1 (Nat.le_refl _)).up hb1.size) hnc (by omega)).mono ?_
  rintro e w2 ⟨rfl, hb2⟩
  rw [HU.out]
  unfold trip
  have hs2 := hs1.below hb2 (Nat.le_refl _)
  have hbel2 := hb1.trans (hb2.mono hb1.size)
  have ho2 := own_below ho1 hb2 (fun g hg => (ho1.lt g hg).2)
  have hz2' := hb2.size
  have hblk : ∀ g, (Value.slice A1 n c1).ownBlock = some g → g < w2.heap.size := fun g hg => by have := (ho1.lt g hg).2; omega
  have hs2up := hs2.up hz2'
  have hz02 := hbel2.size
  clear hb1 hb2 ho1 hs1
  go_wp2_with fail
  refine (int_any A1 n c1 at_ l w2 _ hs2 hc1 (by omega) v d e0 HU.out hv).mono ?_
  rintro e w3 ⟨rfl, rfl⟩
  go_wp2_with fail
  refine (back2_any v hv w2).mono ?_
  rintro e w3 ⟨rfl, rfl⟩
  go_wp2_with fail
  refine (bytes_err A1 n c1 at_ most l w2 _ hs2up hc1 (by omega) v d e0 HU.out he).mono ?_
  rintro e w3 ⟨rfl, rfl⟩
  unfold bytesNo
  go_wp2_with fail
  refine (bytes2_err A n c at_ most l w2 ((h.below hbel2 (Nat.le_refl _)).up hz02) hnc (by omega) v d e0 HU.out he).mono ?_
  rintro e w4 ⟨rfl, hb4⟩
  unfold bytesNo
  have hbel4 := hbel2.trans (hb4.mono hz02)
  have hz4 := hbel4.size
  have ho24 := own_below ho2 hb4 (fun g hg => (ho2.lt g hg).2)
  have hc0 := run_str (P := Try.prog) (w := w4) (c := 0) Try.underlying22 Try.underlying5 Try.underlying9 (l := []) (Sees.nil_ w4 0 1 none)
  have hcin := run_str (P := Try.prog) (c := c1) Try.underlying22 Try.underlying5 Try.underlying9 (Sees.of_own ho24)
  have hcb := run_str (P := Try.prog) (c := c) Try.underlying22 Try.underlying5 Try.underlying9 (h.below hbel4 (Nat.le_refl _))
  have HM := Lib.hid hm
  have HV := Lib.hid hv
  clear hb4 hs2 hs2up hm hv ho2 ho24
  go_wp2_with fail
  go_loop [121] (fun k => k = .int .i64 0) (fun _ => 0)
  case atStart => rfl
  case round =>
    subst hrel
    go_wp2_with (go_at_call 9; refine (known_any _).mono ?_; rintro e w5 ⟨rfl, hb5⟩)
    go_ret
    exact ⟨rfl, hbel4.trans (hb5.mono hz4)⟩

set_option maxRecDepth 100000 in
set_option maxHeartbeats 4000000 in
theorem reads_bad (A : Option Addr) (n c : Nat) (l : List UInt8) (at_ most : Int) (w : World) (h : Sees w w.heap.size 1 A n (bvs l)) (hl : l.length = n) (hnc : n ≤ c) (hn : n ≤ 2000) (hm : most ≤ 9223372036854775807)
    (v d : Nat) (hu : uintAt l at_ = (v, d, 0)) (hv : v < 18446744073709551616) (hdn : d ≤ n) (hbad : most < 0 ∨ most < (v : Int) ∨ n - d < v) :
    Calls Try.prog 7 #[.slice A n c, .int .i64 at_, .int .i64 most] w fun e w' => e = .returned (.bool true) ∧ Below w.heap.size w w' := by
  obtain ⟨i0, hi0, hz0, hz1, hz2⟩ := info_parts byte_info
  have hnI : (n : Int) ≤ 2000 := by omega
  have HU := Lib.hid hu; clear hu
  have HL := Lib.hid hl; clear hl
  go_enter Try.func7, Try.ntmps7
  go_wp2_with (
    at_builtin
    refine wpList_append_sees _ rfl _ _ _ rfl w.heap.size 5 i0 _ 1 1 Try.underlying22 hi0 hz0 hz1 hz2 rfl (by omega) _ 0 [] rfl
       (World.ownsRow_made w #[] 0 (Nat.le_refl _) (Nat.zero_le _) rfl) w.heap.size A n c (bvs l) rfl (h.alloc (Nat.le_refl _) _) (bvs_one _) (by simp only [maxLen]; omega) (by omega) (by simp) ?_
    intro v1 w1 ho1 hg1 hat1 hnil1
    rw [Nat.zero_add, List.nil_append] at ho1
    have hb1 : Below w.heap.size w w1 := ((Below.refl w.heap.size w).alloc (Nat.le_refl _) _).grown hg1 (by simp) (fun k hk => by have hk3 := Option.some.inj (show some w.heap.size = some k from hk); omega)
    obtain ⟨A1, c1, rfl, hc1, _⟩ := own_shape ho1
    clear hg1 hat1 hnil1)
  have hs1 := Sees.of_own ho1
  refine (uint_any A1 n c1 at_ l w1 _ hs1 hc1 (by omega)).mono ?_
  rintro e w2 ⟨rfl, rfl⟩
  rw [HU.out]
  unfold trip
  go_wp2_with fail
  refine (uint2_any A n c at_ l w1 ((h.below hb1 (Nat.le_refl _)).up hb1.size) hnc (by omega)).mono ?_
  rintro e w2 ⟨rfl, hb2⟩
  rw [HU.out]
  unfold trip
  have hs2 := hs1.below hb2 (Nat.le_refl _)
  have hbel2 := hb1.trans (hb2.mono hb1.size)
  have ho2 := own_below ho1 hb2 (fun g hg => (ho1.lt g hg).2)
  have hz2' := hb2.size
  have hblk : ∀ g, (Value.slice A1 n c1).ownBlock = some g → g < w2.heap.size := fun g hg => by have := (ho1.lt g hg).2; omega
  have hs2up := hs2.up hz2'
  have hz02 := hbel2.size
  clear hb1 hb2 ho1 hs1
  go_wp2_with fail
  refine (int_any A1 n c1 at_ l w2 _ hs2 hc1 (by omega) v d 0 HU.out hv).mono ?_
  rintro e w3 ⟨rfl, rfl⟩
  go_wp2_with fail
  refine (back2_any v hv w2).mono ?_
  rintro e w3 ⟨rfl, rfl⟩
  go_wp2_with fail
  refine (bytes_bad A1 n c1 at_ most l w2 _ hs2up hc1 (by omega) v d hdn hm HU.out hbad).mono ?_
  rintro e w3 ⟨rfl, rfl⟩
  unfold bytesNo
  go_wp2_with fail
  refine (bytes2_bad A n c at_ most l w2 ((h.below hbel2 (Nat.le_refl _)).up hz02) hnc (by omega) v d hdn hm HU.out hbad).mono ?_
  rintro e w4 ⟨rfl, hb4⟩
  unfold bytesNo
  have hbel4 := hbel2.trans (hb4.mono hz02)
  have hz4 := hbel4.size
  have ho24 := own_below ho2 hb4 (fun g hg => (ho2.lt g hg).2)
  have hc0 := run_str (P := Try.prog) (w := w4) (c := 0) Try.underlying22 Try.underlying5 Try.underlying9 (l := []) (Sees.nil_ w4 0 1 none)
  have hcin := run_str (P := Try.prog) (c := c1) Try.underlying22 Try.underlying5 Try.underlying9 (Sees.of_own ho24)
  have hcb := run_str (P := Try.prog) (c := c) Try.underlying22 Try.underlying5 Try.underlying9 (h.below hbel4 (Nat.le_refl _))
  have HM := Lib.hid hm
  have HV := Lib.hid hv
  clear hb4 hs2 hs2up hm hv ho2 ho24
  go_wp2_with fail
  go_loop [121] (fun k => k = .int .i64 0) (fun _ => 0)
  case atStart => rfl
  case round =>
    subst hrel
    go_wp2_with (go_at_call 9; refine (known_any _).mono ?_; rintro e w5 ⟨rfl, hb5⟩)
    go_ret
    exact ⟨rfl, hbel4.trans (hb5.mono hz4)⟩

theorem wireReads_any (A : Option Addr) (n c : Nat) (l : List UInt8) (at_ most : Int) (w : World) (h : Sees w w.heap.size 1 A n (bvs l)) (hl : l.length = n) (hnc : n ≤ c) (hm : most ≤ 9223372036854775807) :
    Calls Try.prog 7 #[.slice A n c, .int .i64 at_, .int .i64 most] w fun e w' => e = .returned (.bool true) ∧ Below w.heap.size w w' := by
  by_cases hn : 2000 < n
  · exact reads_big A n c at_ most w (by omega)
  · obtain ⟨v, d, e, hu⟩ : ∃ v d e, uintAt l at_ = (v, d, e) := ⟨_, _, _, rfl⟩
    obtain ⟨f1, f2, _⟩ := uintAt_facts l at_ v d e hu
    by_cases he : e = 0
    · subst he
      have hd := f2 rfl
      by_cases hb : most < 0 ∨ most < (v : Int) ∨ n - d < v
      · exact reads_bad A n c l at_ most w h hl hnc (by omega) hm v d hu f1 (by omega) hb
      · exact reads_ok A n c l at_ most w h hl hnc (by omega) hm v d hu f1 (by omega) (by omega) (by omega)
    · exact reads_err A n c l at_ most w h hl hnc (by omega) hm v d e hu f1 he

end Go.Proofs.Ytdhcnolbiocneaa
