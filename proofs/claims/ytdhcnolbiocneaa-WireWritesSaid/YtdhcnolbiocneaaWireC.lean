/-
  The walk of wire.Bytes, and of the law's own helpers known and own.
-/
import Derived.Test.YtdhcnolbiocneaaWireB
namespace Go.Proofs.Ytdhcnolbiocneaa
open Go.RowKit

def bytesNo (d : Nat) : Value := .tuple #[.slice none 0 0, .int .i64 0, .int .i64 d]

set_option maxHeartbeats 400000 in
theorem bytes_err (A : Option Addr) (n c : Nat) (at_ most : Int) (l : List UInt8) (w : World) (B : Nat) (h : Sees w B 1 A n (bvs l)) (hnc : n ≤ c) (hn : n ≤ 1000000000000) (v d e : Nat) (hu : uintAt l at_ = (v, d, e)) (he : e ≠ 0) :
    Calls Try.prog 17 #[.slice A n c, .int .i64 at_, .int .i64 most] w fun en w' => en = .returned (bytesNo e) ∧ w = w' := by
  have H := Lib.hid (uint_any A n c at_ l w B h hnc hn)
  rw [hu] at H
  have heb : (!((e : Int) == 0)) = true := by simp; omega
  have heb2 : ((e : Int) == 0) = false := by simp; omega
  clear hu
  go_enter Try.func17, Try.ntmps17
  go_wp2_with (go_at_call 10; refine H.out.mono ?_; rintro en w' ⟨rfl, rfl⟩; unfold trip)
  go_ret3
  exact ⟨rfl, rfl⟩

theorem u64_of (k : Nat) (h : k ≤ 9223372036854775807) : IntKind.u64.wrap (k : Int) = (k : Int) := by rw [wrap_u64]; omega

set_option maxHeartbeats 1000000 in
theorem bytes_bad (A : Option Addr) (n c : Nat) (at_ most : Int) (l : List UInt8) (w : World) (B : Nat) (h : Sees w B 1 A n (bvs l)) (hnc : n ≤ c) (hn : n ≤ 1000000000000) (v d : Nat) (hd : d ≤ n)
    (hm : most ≤ 9223372036854775807) (hu : uintAt l at_ = (v, d, 0)) (hb : most < 0 ∨ most < (v : Int) ∨ n - d < v) :
    Calls Try.prog 17 #[.slice A n c, .int .i64 at_, .int .i64 most] w fun en w' => en = .returned (bytesNo 3) ∧ w = w' := by
  have H := Lib.hid (uint_any A n c at_ l w B h hnc hn)
  rw [hu] at H
  clear hu
  have hnI : (n : Int) ≤ 1000000000000 := by omega
  have hdI : (d : Int) ≤ n := by omega
  by_cases h1 : most < 0
  · clear hb hm
    go_enter Try.func17, Try.ntmps17
    go_wp2_with (go_at_call 10; refine H.out.mono ?_; rintro en w' ⟨rfl, rfl⟩; unfold trip)
    go_ret3
    exact ⟨rfl, rfl⟩
  · obtain ⟨m, rfl⟩ := Int.eq_ofNat_of_zero_le (show 0 ≤ most by omega)
    have h1' : decide ((m : Int) < 0) = false := by simp
    by_cases h2 : (m : Int) < v
    · have hmm := u64_of m (by omega)
      clear hb hm
      go_enter Try.func17, Try.ntmps17
      go_wp2_with (go_at_call 10; refine H.out.mono ?_; rintro en w' ⟨rfl, rfl⟩; unfold trip)
      go_ret3
      exact ⟨rfl, rfl⟩
    · have h3 : n - d < v := by omega
      have h3I : (n : Int) - d < v := by omega
      have h2I : ¬ (m : Int) < v := h2
      have hmm := u64_of m (by omega)
      clear hb hm
      go_enter Try.func17, Try.ntmps17
      go_wp2_with (go_at_call 10; refine H.out.mono ?_; rintro en w' ⟨rfl, rfl⟩; unfold trip)
      go_ret3
      exact ⟨rfl, rfl⟩
set_option maxHeartbeats 1000000 in
theorem bytes_ok (A : Option Addr) (n c : Nat) (at_ most : Int) (l : List UInt8) (w : World) (h : Sees w w.heap.size 1 A n (bvs l)) (hnc : n ≤ c) (hn : n ≤ 1000000000000) (v d : Nat) (hd : d + v ≤ n)
    (hm : most ≤ 9223372036854775807) (hu : uintAt l at_ = (v, d, 0)) (hmost : (v : Int) ≤ most) :
    Calls Try.prog 17 #[.slice A n c, .int .i64 at_, .int .i64 most] w fun en w' => ∃ x, en = .returned (.tuple #[x, .int .i64 ((d + v : Nat) : Int), .int .i64 0]) ∧
      w'.ownsRow w.heap.size 5 1 x v (bvs ((l.drop d).take v)) ∧ Below w.heap.size w w' := by
  have H := Lib.hid (uint_any A n c at_ l w w.heap.size h hnc hn)
  rw [hu] at H
  clear hu
  have hnI : (n : Int) ≤ 1000000000000 := by omega
  have hdI : (d : Int) + v ≤ n := by omega
  obtain ⟨m, rfl⟩ := Int.eq_ofNat_of_zero_le (show 0 ≤ most by omega)
  have hmm := u64_of m (by omega)
  have hcut := h.mid (k := d) (m := v) (cap := c) hd hnc
  obtain ⟨A', hA'⟩ : ∃ A', (if c = d then A else Option.map (fun x => x.add d) A) = A' := ⟨_, rfl⟩
  rw [hA', bvs_mid] at hcut
  have HC := Lib.hid (fun c' => clone_any A' v c' _ w hcut (bvs_one _) (by omega))
  have hncI : (n : Int) ≤ c := by omega
  clear hm hcut
  go_enter Try.func17, Try.ntmps17
  go_wp2_with (first
    | (go_at_call 10; refine H.out.mono ?_; rintro en w' ⟨rfl, rfl⟩; unfold trip)
    | (go_at_call 22; refine (HC.out _).mono ?_; rintro en w' ⟨x, rfl, ho, hb, hx⟩))
  go_ret3
  exact ⟨x, rfl, ho, hb⟩
set_option maxRecDepth 100000 in
set_option maxHeartbeats 400000 in
/-- The law's own known: it answers true. -/
theorem known_any (w : World) : Calls Try.prog 9 #[] w fun e w' => e = .returned (.bool true) ∧ Below w.heap.size w w' := by
  have kc := fun (w : World) (C : Array Value) (n c : Nat) => Lib.run_convert_bytes_const (P := Try.prog) w 22 5 C n c Try.underlying22 Try.underlying5
  go_enter Try.func9, Try.ntmps9
  go_wp2_with fail
  refine (uint_any _ 2 2 0 [172, 2] _ _ (Sees.lit w (bvs [172, 2]) 5) (by omega) (by omega)).mono ?_
  rintro e w1 ⟨rfl, hw1⟩
  have hb1 : Below w.heap.size w w1 := by rw [← hw1]; exact (Below.refl _ _).alloc (Nat.le_refl _) _
  clear hw1
  have hz1 := hb1.size
  rw [show trip (uintAt [172, 2] 0) = .tuple #[.int .u64 300, .int .i64 2, .int .i64 0] from rfl]
  go_wp2_with fail
  refine (uint_any _ 2 2 0 [128, 0] _ _ (Sees.lit w1 (bvs [128, 0]) 5) (by omega) (by omega)).mono ?_
  rintro e w2 ⟨rfl, hw2⟩
  have hb2 : Below w.heap.size w w2 := by rw [← hw2]; exact hb1.alloc hz1 _
  clear hw2
  have hz2 := hb2.size
  rw [show trip (uintAt [128, 0] 0) = .tuple #[.int .u64 0, .int .i64 0, .int .i64 3] from rfl]
  go_wp2_with fail
  refine (bytes_ok _ 4 4 0 2 [2, 97, 98, 99] _ ((Sees.lit w2 (bvs [2, 97, 98, 99]) 5 (4, 5)).up (by simp)) (by omega) (by omega) 2 1 (by omega) (by omega) rfl (by omega)).mono ?_
  rintro e w3 ⟨x, rfl, ho3, hb3⟩
  obtain ⟨A3, c3, rfl, _⟩ := own_shape ho3
  have hs3 := Sees.of_own ho3
  clear ho3
  have hbel3 : Below w.heap.size w w3 := (hb2.alloc hz2 _).trans (hb3.mono (by simp; omega))
  have hz3 := hbel3.size
  clear hb3 hb1 hb2 hz1 hz2
  go_wp2_with fail
  refine (appendUint_any none 0 0 [] 300 (by omega) (by omega) _ (Sees.nil_ _ _ _ _) (by simp) (by omega)).mono ?_
  rintro e w4 ⟨v4, rfl, ho4, hb4, hn4⟩
  rw [show form 9 (300 : Int).toNat = [172, 2] from by decide] at ho4
  obtain ⟨A4, c4, rfl, _⟩ := own_shape ho4
  have hs4 := Sees.of_own ho4
  have hs34 := hs3.below hb4 (Nat.le_refl _)
  have hbel4 := hbel3.trans (hb4.mono hz3)
  have hb4' := hb4.size
  clear ho4 hn4 hs3 hb4
  go_wp2_with (refine wpList_str rfl _ 22 _ _ rfl Try.underlying22 Try.underlying5 Try.underlying9 (l := [172, 2]) rfl hs4 ?_)
  refine (appendInt_any none 0 0 [] (-1) (by omega) (by omega) _ (Sees.nil_ _ _ _ _) (by simp) (by omega)).mono ?_
  rintro e w5 ⟨v5, rfl, ho5, hb5, hn5⟩
  rw [show form 9 (zigN (-1)) = [1] from by decide] at ho5
  obtain ⟨A5, c5, rfl, _⟩ := own_shape ho5
  have hs5 : Sees w5 w5.heap.size 1 A5 1 (bvs [1]) := Sees.of_own ho5
  have hs35 := hs34.below hb5 hb4'
  have hbel5 := hbel4.trans (hb5.mono hbel4.size)
  clear ho5 hn5 hs34 hb5 hbel4 hb4' hs4
  have hc5 := run_str (c := c5) Try.underlying22 Try.underlying5 Try.underlying9 (l := [1]) hs5
  have hc3 := run_str (c := c3) Try.underlying22 Try.underlying5 Try.underlying9 (l := [97, 98]) hs35
  go_wp2_with fail
  go_ret
  exact ⟨rfl, hbel5⟩

theorem bvs_set (l : List UInt8) (i : Nat) (x : UInt8) : (bvs l).set i (bv x) = bvs (l.set i x) := by simp [bvs, List.map_set]

theorem byte_up (x : UInt8) : Value.int .u8 (((x.toNat : Int) + 1) % 256) = bv (x + 1) := by
  unfold bv
  rw [UInt8.toNat_add]
  simp

/-- What the end of own needs behind its append. -/
theorem own_end {w wr w1 : World} {B g c i m c2 : Nat} {A2 : Option Addr} {zs ys : List UInt8} {v1 : Value}
    (hor : wr.ownsRow B 5 1 (.slice (some ⟨g, 0, none⟩) i c) i (bvs zs)) (hor2 : wr.ownsRow B 5 1 (.slice A2 m c2) m (bvs ys)) (hb : Below B w wr) (hBr : B ≤ wr.heap.size) (hgB : B ≤ g)
    (hne : (Value.slice A2 m c2).ownBlock ≠ some g) (hown1 : w1.ownsRow B 5 1 v1 (i + 1) (bvs zs ++ [.int .u8 99])) (hg : (wr.alloc (.cells #[Value.int .u8 99] 5)).grownBy w1 (some g))
    (hat : v1.ownBlock = some g ∨ v1.ownBlock = some (wr.alloc (.cells #[Value.int .u8 99] 5)).heap.size) :
    ∃ g1 c1, v1 = .slice (some ⟨g1, 0, none⟩) (i + 1) c1 ∧ w1.cell? ⟨g1, i, none⟩ = some (.int .u8 99) ∧ w1.frozen? ⟨g1, i, none⟩ = false ∧ Below B w (w1.setCell ⟨g1, i, none⟩ (.int .u8 100)) ∧
      (convert 22 9 (.slice A2 m c2)).run Try.prog (w1.setCell ⟨g1, i, none⟩ (.int .u8 100)) = .ok (.string ⟨ys.toArray⟩) (w1.setCell ⟨g1, i, none⟩ (.int .u8 100)) := by
  have hor3 := (hor2.alloc (.cells #[Value.int .u8 99] 5)).kept hg (.inr hne)
  have hb1 : Below B w w1 := (hb.alloc hBr _).grown hg (by simp; omega) (fun k hk => by simp at hk; omega)
  have hne1 : (Value.slice A2 m c2).ownBlock ≠ v1.ownBlock := by
    rcases hat with h | h
    · rw [h]; exact hne
    · rw [h]
      intro he
      have := (hor2.lt _ he).2
      simp at this
      omega
  obtain ⟨g1, c1, rfl⟩ : ∃ g1 c1, v1 = .slice (some ⟨g1, 0, none⟩) (i + 1) c1 := by
    obtain ⟨A1, c1, rfl, hnc1, hcm1, hA0, hA1⟩ := own_shape hown1
    cases A1 with
    | none => have := (hA0 rfl).1; omega
    | some ad =>
      obtain ⟨g1, rfl, _⟩ := hA1 ad rfl
      exact ⟨g1, c1, rfl⟩
  have hl : zs.length = i := by have := hor.1; rw [bvs_length] at this; omega
  have hcell := hown1.cellAt i (by omega)
  rw [List.getElem?_append_right (by rw [bvs_length]; omega), bvs_length, hl, Nat.sub_self] at hcell
  simp only [List.getElem?_cons_zero] at hcell
  have hfz := hown1.frozenAt i
  have hst := hown1.stored i (.int .u8 100)
  have hg1B := (hown1.lt g1 rfl).1
  have hor4 := hor3.kept hst.2 (.inr hne1)
  have hb4 := hb1.grown hst.2 (Nat.le_trans hBr (by have := hg.size; simp at this; omega)) (fun k hk => by simp at hk; omega)
  exact ⟨g1, c1, rfl, hcell, hfz, hb4, run_str Try.underlying22 Try.underlying5 Try.underlying9 (Sees.of_own hor4)⟩

set_option maxHeartbeats 1000000 in
/-- The law's own own: b is written over, and what was made behind it stays. -/
theorem own_any (g n c : Nat) (xs : List UInt8) (v2 : Value) (m : Nat) (ys : List UInt8) (w : World) (B : Nat) (ho : w.ownsRow B 5 1 (.slice (some ⟨g, 0, none⟩) n c) n (bvs xs)) (ho2 : w.ownsRow B 5 1 v2 m (bvs ys)) (hne : v2.ownBlock ≠ some g) (hn : n ≤ 1000000) (hB : B ≤ w.heap.size) :
    Calls Try.prog 16 #[.slice (some ⟨g, 0, none⟩) n c, v2] w fun e w' => e = .returned (.bool true) ∧ Below B w w' := by
  obtain ⟨i0, hi0, hz0, hz1, hz2⟩ := info_parts byte_info
  obtain ⟨A2, c2, rfl, _⟩ := own_shape ho2
  have hs2 := Sees.of_own ho2
  have hgB : B ≤ g := (ho.lt g rfl).1
  have hnI : (n : Int) ≤ 1000000 := by omega
  go_enter Try.func16, Try.ntmps16
  go_wp2_with (refine wpList_str rfl _ 22 _ _ rfl Try.underlying22 Try.underlying5 Try.underlying9 (l := ys) rfl hs2 ?_)
  go_loopw [11] (fun k wr => ∃ (i : Nat) (zs : List UInt8), i ≤ n ∧ k = .int .i64 i ∧ wr.ownsRow B 5 1 (.slice (some ⟨g, 0, none⟩) n c) n (bvs zs) ∧ wr.ownsRow B 5 1 (.slice A2 m c2) m (bvs ys) ∧ Below B w wr ∧ B ≤ wr.heap.size) (fun k _ => n - (intOf k).toNat)
  case atStart => exact ⟨0, xs, by omega, rfl, ho, ho2, Below.refl _ _, hB⟩
  case round =>
    obtain ⟨i, zs, hi, rfl, hor, hor2, hb, hBr⟩ := hrel
    clear ho ho2 hs2
    by_cases hlt : i < n
    · have hl : zs.length = n := by have := hor.1; rw [bvs_length] at this; omega
      have hcell := hor.cellAt i (by omega)
      rw [bvs_get (by omega)] at hcell
      have hfz := hor.frozenAt i
      have hst := hor.stored i (bv (zs[i]'(by omega) + 1))
      rw [bvs_set] at hst
      obtain ⟨z, hz⟩ : ∃ z, zs[i]'(by omega) = z := ⟨_, rfl⟩
      rw [hz] at hcell hst
      have hup := byte_up z
      unfold bv at hup
      have hz256 : (z.toNat : Int) < 256 := by have := z.toNat_lt; omega
      clear hz hl
      have HST := Lib.hid hst; clear hst
      go_wp2_with fail
      go_roundw
      case rel =>
        have hst := HST.out
        have hup2 := byte_up z
        unfold bv at hst hup2
        rw [← hup2] at hst
        refine ⟨i + 1, zs.set i (z + 1), by omega, by go_num, hst.1, hor2.kept hst.2 (.inr hne), ?_, ?_⟩
        · exact hb.grown hst.2 hBr (fun k hk => by simp at hk; omega)
        · have := hst.2.size
          omega
      case measure => simp [intOf]; omega
    · obtain rfl : i = n := by omega
      have hs2 := Sees.of_own hor2
      go_wp2_with (
        at_builtin
        refine wpList_append_sees _ rfl _ _ _ rfl B 5 i0 _ 1 1 Try.underlying22 hi0 hz0 hz1 hz2 rfl (by omega) _ i (bvs zs) rfl
          (hor.alloc _) _ _ 1 1 _ rfl (Sees.one _ _ _) (by intro u hu; simp at hu; subst hu; rfl) (by simp only [maxLen]; omega) (by omega) (by simp; omega) ?_
        intro v1 w1 hown1 hg hat hnil
        obtain ⟨g1, c1, rfl, hcell, hfz, hb4, hcv⟩ := own_end hor hor2 hb hBr hgB hne hown1 hg hat
        clear hnil hat hg hown1)
      go_ret
      exact ⟨by simp, hb4⟩
end Go.Proofs.Ytdhcnolbiocneaa
