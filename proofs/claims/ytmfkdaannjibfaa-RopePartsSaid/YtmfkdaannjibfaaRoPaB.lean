/-
  The walk of RopeParts.
-/
import Derived.Test.YtmfkdaannjibfaaBdP
namespace Go.Proofs.Ytmfkdaannjibfaa
open Go.RowKit

set_option maxRecDepth 100000 in
set_option maxHeartbeats 4000000 in
theorem parts_law (A : Option Addr) (n c : Nat) (l : List Int) (i j k : Int) (w : World) (hs : Sees w w.heap.size 1 A n (l.map r32)) (hc : n ≤ c) (hn : (n : Int) ≤ 9223372036854775807) (hi : -9223372036854775808 ≤ i ∧ i ≤ 9223372036854775807) (hj : -9223372036854775808 ≤ j ∧ j ≤ 9223372036854775807) (hk : -9223372036854775808 ≤ k ∧ k ≤ 9223372036854775807) :
    Calls Try.prog 5 #[.slice A n c, .int .i64 i, .int .i64 j, .int .i64 k] w fun e w' => e = .returned (.bool true) ∧ Below w.heap.size w w' := by
  obtain ⟨i0, ii0, iz0, iz1, iz2⟩ := info_parts r32_info
  have hl : l.length = n := by have := hs.1; simp at this; omega
  have HS := Lib.hid (And.intro hs (And.intro hc (And.intro hl (And.intro hi (And.intro hj hk)))))
  have S0 := Star.nil_ w
  clear hs hc hl hi hj hk
  by_cases hbig : (2000 : Int) < n
  · go_enter Try.func5, Try.ntmps5
    have HB := Lib.hid S0
    clear S0
    go_wp2_with fail
    refine (known_any _).mono ?_
    rintro e wz ⟨rfl, hbz⟩
    have HBz := Lib.hid (HB.out.below.trans (hbz.mono HB.out.below.size))
    clear hbz
    go_wp2_with fail
    go_ret
    exact ⟨rfl, HBz.out⟩
  · have hn2 : n ≤ 2000 := by omega
    have HC := Lib.hid (newR_star S0)
    clear S0
    go_enter Try.func5, Try.ntmps5
    go_wp2_with fail
    refine HC.out.mono ?_
    clear HC
    rintro e w1 ⟨g, rfl, S1⟩
    have HC := Lib.hid (ins_star (A := []) (B := []) S1 (arg_sees S1 HS.out.1) HS.out.2.1 (by omega) (by unfold chkN; omega) 0)
    clear S1
    have HE := ins_nil l
    obtain ⟨E, hE⟩ : ∃ x, insE [] 0 l = x := ⟨_, rfl⟩
    obtain ⟨R, hR⟩ : ∃ x, insR [] 0 l = x := ⟨_, rfl⟩
    rw [hE, hR] at HC
    rw [hE, hR] at HE
    clear hE hR
    go_wp2_with fail
    refine HC.out.mono ?_
    clear HC
    rintro e w2 ⟨H2, rfl, S2⟩
    have hcase : E = 3 ∨ (E = 0 ∧ i < 0) ∨ (E = 0 ∧ ¬ i < 0 ∧ j < i) ∨ (E = 0 ∧ ¬ i < 0 ∧ ¬ j < i ∧ k < j) ∨ (E = 0 ∧ ¬ i < 0 ∧ ¬ j < i ∧ ¬ k < j ∧ (n : Int) < k) ∨ (E = 0 ∧ R = l ∧ ¬ i < 0 ∧ ¬ j < i ∧ ¬ k < j ∧ ¬ (n : Int) < k) := by
      rcases HE with ⟨e1, e2, -⟩ | ⟨e1, -, -⟩
      · subst e1 e2
        by_cases h1 : i < 0
        · exact .inr (.inl ⟨rfl, h1⟩)
        · by_cases h2 : j < i
          · exact .inr (.inr (.inl ⟨rfl, h1, h2⟩))
          · by_cases h3 : k < j
            · exact .inr (.inr (.inr (.inl ⟨rfl, h1, h2, h3⟩)))
            · by_cases h4 : (n : Int) < k
              · exact .inr (.inr (.inr (.inr (.inl ⟨rfl, h1, h2, h3, h4⟩))))
              · exact .inr (.inr (.inr (.inr (.inr ⟨rfl, rfl, h1, h2, h3, h4⟩))))
      · exact .inl e1
    clear HE
    rcases hcase with rfl | ⟨rfl, h1⟩ | ⟨rfl, h1, h2⟩ | ⟨rfl, h1, h2, h3⟩ | ⟨rfl, h1, h2, h3, h4⟩ | ⟨rfl, rfl, h1, h2, h3, h4⟩
    · have HB := Lib.hid S2
      clear S2
      go_wp2_with fail
      refine (known_any _).mono ?_
      rintro e wz ⟨rfl, hbz⟩
      have HBz := Lib.hid (HB.out.below.trans (hbz.mono HB.out.below.size))
      clear hbz
      go_wp2_with fail
      go_ret
      exact ⟨rfl, HBz.out⟩
    · have HB := Lib.hid S2
      clear S2
      go_wp2_with fail
      refine (known_any _).mono ?_
      rintro e wz ⟨rfl, hbz⟩
      have HBz := Lib.hid (HB.out.below.trans (hbz.mono HB.out.below.size))
      clear hbz
      go_wp2_with fail
      go_ret
      exact ⟨rfl, HBz.out⟩
    · have HB := Lib.hid S2
      clear S2
      go_wp2_with fail
      refine (known_any _).mono ?_
      rintro e wz ⟨rfl, hbz⟩
      have HBz := Lib.hid (HB.out.below.trans (hbz.mono HB.out.below.size))
      clear hbz
      go_wp2_with fail
      go_ret
      exact ⟨rfl, HBz.out⟩
    · have HB := Lib.hid S2
      clear S2
      go_wp2_with fail
      refine (known_any _).mono ?_
      rintro e wz ⟨rfl, hbz⟩
      have HBz := Lib.hid (HB.out.below.trans (hbz.mono HB.out.below.size))
      clear hbz
      go_wp2_with fail
      go_ret
      exact ⟨rfl, HBz.out⟩
    · have HB := Lib.hid S2
      clear S2
      go_wp2_with fail
      refine (known_any _).mono ?_
      rintro e wz ⟨rfl, hbz⟩
      have HBz := Lib.hid (HB.out.below.trans (hbz.mono HB.out.below.size))
      clear hbz
      go_wp2_with fail
      go_ret
      exact ⟨rfl, HBz.out⟩
    · have hR : R.length = n := HS.out.2.2.1
      have HIJ := Lib.hid (show (0 ≤ i ∧ i ≤ j ∧ j ≤ k ∧ k ≤ R.length) from by rw [hR]; omega)
      have HRn := Lib.hid hR
      clear hR
      obtain ⟨ba, hba⟩ : ∃ x, w2.heap.size = x := ⟨_, rfl⟩
      have HC := Lib.hid (slice_star (A := []) (B := []) S2 (i) (j))
      rw [betR_pos (R := R) (i := i) (j := j) (by have := HIJ.out; omega) (by have := HIJ.out; omega) (by have := HIJ.out; omega)] at HC
      clear S2
      go_wp2_with fail
      refine HC.out.mono ?_
      clear HC
      rintro e w3 ⟨H3, ua, rfl, S3⟩
      obtain ⟨va, hva⟩ : ∃ x, cutR R (i) (j) = x := ⟨_, rfl⟩
      rw [hva, hba] at S3
      clear hba
      obtain ⟨Aa, ca, rfl, hcca, -, -, -⟩ := own_shape (show w3.ownsRow ba 21 1 ua va.length (va.map r32) from S3.all _ (List.mem_cons_self))
      obtain ⟨na, hna⟩ : ∃ x, va.length = x := ⟨_, rfl⟩
      have HVa := Lib.hid (And.intro hva (And.intro hna (hna ▸ hcca)))
      rw [hna] at S3 ⊢
      clear hva hna hcca
      have S3 : Star w [ruI (.slice Aa na ca) ba va, roI H3 g R (0 + chkN n + 2)] w3 := S3
      obtain ⟨bb, hbb⟩ : ∃ x, w3.heap.size = x := ⟨_, rfl⟩
      have HC := Lib.hid (slice_star (A := [ruI (.slice Aa na ca) ba va]) (B := []) S3 (j) (k))
      rw [betR_pos (R := R) (i := j) (j := k) (by have := HIJ.out; omega) (by have := HIJ.out; omega) (by have := HIJ.out; omega)] at HC
      clear S3
      go_wp2_with fail
      refine HC.out.mono ?_
      clear HC
      rintro e w4 ⟨H4, ub, rfl, S4⟩
      obtain ⟨vb, hvb⟩ : ∃ x, cutR R (j) (k) = x := ⟨_, rfl⟩
      rw [hvb, hbb] at S4
      clear hbb
      obtain ⟨Ab, cb, rfl, hccb, -, -, -⟩ := own_shape (show w4.ownsRow bb 21 1 ub vb.length (vb.map r32) from S4.all _ (List.mem_cons_self))
      obtain ⟨nb, hnb⟩ : ∃ x, vb.length = x := ⟨_, rfl⟩
      have HVb := Lib.hid (And.intro hvb (And.intro hnb (hnb ▸ hccb)))
      rw [hnb] at S4 ⊢
      clear hvb hnb hccb
      have S4 : Star w [ruI (.slice Ab nb cb) bb vb, ruI (.slice Aa na ca) ba va, roI H4 g R (0 + chkN n + 2)] w4 := S4
      obtain ⟨bd, hbd⟩ : ∃ x, w4.heap.size = x := ⟨_, rfl⟩
      have HC := Lib.hid (slice_star (A := [ruI (.slice Ab nb cb) bb vb, ruI (.slice Aa na ca) ba va]) (B := []) S4 (i) (k))
      rw [betR_pos (R := R) (i := i) (j := k) (by have := HIJ.out; omega) (by have := HIJ.out; omega) (by have := HIJ.out; omega)] at HC
      clear S4
      go_wp2_with fail
      refine HC.out.mono ?_
      clear HC
      rintro e w5 ⟨H5, ud, rfl, S5⟩
      obtain ⟨vd, hvd⟩ : ∃ x, cutR R (i) (k) = x := ⟨_, rfl⟩
      rw [hvd, hbd] at S5
      clear hbd
      obtain ⟨Ad, cd, rfl, hccd, -, -, -⟩ := own_shape (show w5.ownsRow bd 21 1 ud vd.length (vd.map r32) from S5.all _ (List.mem_cons_self))
      obtain ⟨nd, hnd⟩ : ∃ x, vd.length = x := ⟨_, rfl⟩
      have HVd := Lib.hid (And.intro hvd (And.intro hnd (hnd ▸ hccd)))
      rw [hnd] at S5 ⊢
      clear hvd hnd hccd
      have S5 : Star w [ruI (.slice Ad nd cd) bd vd, ruI (.slice Ab nb cb) bb vb, ruI (.slice Aa na ca) ba va, roI H5 g R (0 + chkN n + 2)] w5 := S5
      have HC := Lib.hid (line_star (A := [ruI (.slice Ad nd cd) bd vd, ruI (.slice Ab nb cb) bb vb, ruI (.slice Aa na ca) ba va]) (B := []) S5 i)
      rw [lineV_pos (R := R) (i := i) (by have := HIJ.out; omega) (by have := HIJ.out; omega)] at HC
      clear S5
      go_wp2_with fail
      refine HC.out.mono ?_
      clear HC
      rintro e w6 ⟨H6, rfl, S6⟩
      have HC := Lib.hid (line_star (A := [ruI (.slice Ad nd cd) bd vd, ruI (.slice Ab nb cb) bb vb, ruI (.slice Aa na ca) ba va]) (B := []) S6 k)
      rw [lineV_pos (R := R) (i := k) (by have := HIJ.out; omega) (by have := HIJ.out; omega)] at HC
      clear S6
      go_wp2_with fail
      refine HC.out.mono ?_
      clear HC
      rintro e w7 ⟨H7, rfl, S7⟩
      obtain ⟨p, hp⟩ : ∃ x, nls (R.take i.toNat) = x := ⟨_, rfl⟩
      obtain ⟨q, hq⟩ : ∃ x, nls (R.take k.toNat) = x := ⟨_, rfl⟩
      have HD := Lib.hid (show nls vd = q - p ∧ va ++ vb = vd ∧ nd ≤ 2000 ∧ 0 ≤ p ∧ p ≤ 2000 ∧ 0 ≤ q ∧ q ≤ 2000 from by
        have hx := HIJ.out
        rw [← HVa.out.1, ← HVb.out.1, ← HVd.out.1, ← HVd.out.2.1, ← HVd.out.1, nls_cut hx.1 (by omega) hx.2.2.2, hp, hq]
        have hp1 := nls_le (R.take i.toNat)
        have hq1 := nls_le (R.take k.toNat)
        have hRn := HRn.out
        have := List.length_take_le i.toNat R
        have := List.length_take_le k.toNat R
        rw [List.length_take] at hp1 hq1
        refine ⟨rfl, cutR_parts hx.1 hx.2.1 hx.2.2.1 hx.2.2.2, ?_, by omega, by omega, by omega, by omega⟩
        rw [cutR_pos hx.1 (by omega) hx.2.2.2, List.length_drop, List.length_take]
        omega)
      obtain ⟨hsd, hld, -⟩ := ru_sees S7 (A := Ad) (n := nd) (c := cd) (b := bd) (R := vd) (by simp)
      have HSD := Lib.hid hsd
      have hnd : (nd : Int) ≤ 2000 := by have := HD.out; omega
      have HLD := Lib.hid hld
      have HN := Lib.hid S7
      rw [hp, hq]
      clear S7 hsd hld hp hq
      go_wp2_with fail
      go_loop [20, 88] (fun vl vm => ∃ m : Nat, m ≤ nd ∧ vm = .int .i64 m ∧ vl = .int .i64 (nls (vd.take m))) (fun _ vm => nd - (intOf vm).toNat)
      case atStart => exact ⟨0, Nat.zero_le _, rfl, rfl⟩
      case round =>
        obtain ⟨m, hm, rfl, rfl⟩ := hrel
        by_cases hlt : m < nd
        · obtain ⟨x, hx⟩ : ∃ x, vd[m]? = some x := ⟨_, List.getElem?_eq_getElem (by rw [HLD.out]; exact hlt)⟩
          have hltI : (m : Int) < nd := by omega
          obtain ⟨bb, f, rfl, hbb, hcell⟩ := HSD.out.2 (by omega)
          have hcx := hcell m (.int .i32 x) (by rw [List.getElem?_map, hx]; rfl)
          have e1 := nls_take_succ hx
          have hb1 := nls_le (vd.take m)
          rw [List.length_take] at hb1
          obtain ⟨z, hz⟩ : ∃ z, nls (vd.take m) = z := ⟨_, rfl⟩
          rw [hz] at e1 hb1 ⊢
          have HE1 := Lib.hid e1
          have g1 : IntKind.i64.wrap (z + 1) = z + 1 := IntWalk.i64_in _ (by omega)
          have g2 : IntKind.i64.wrap ((m : Int) + 1) = (m : Int) + 1 := IntWalk.i64_in _ (by omega)
          clear hcell hx e1 hz hb1
          by_cases hx10 : x = 10
          · have hxb : (x == 10) = true := by simp [hx10]
            go_wp2_with fail
            go_round
            case rel => exact ⟨m + 1, by omega, by go_num, by rw [HE1.out, if_pos hx10]⟩
            case measure => simp [intOf]; omega
          · have hxb : (x == 10) = false := by simp [hx10]
            go_wp2_with fail
            go_round
            case rel => exact ⟨m + 1, by omega, by go_num, by rw [HE1.out, if_neg hx10, Int.add_zero]⟩
            case measure => simp [intOf]; omega
        · obtain rfl : m = nd := by omega
          have hall : nls (vd.take m) = q - p := by rw [← HD.out.1, List.take_of_length_le (by rw [HLD.out]; exact Nat.le_refl _)]
          rw [hall]
          have hpq := HD.out.2.2.2
          have g3 : IntKind.i64.wrap (q - p) = q - p := IntWalk.i64_in _ (by omega)
          obtain ⟨z, hz⟩ : ∃ z, q - p = z := ⟨_, rfl⟩
          have HZ := Lib.hid (And.intro hz hall)
          replace g3 : IntKind.i64.wrap (q - p) = z := g3.trans hz
          rw [hz]
          clear hall hpq hz
          obtain ⟨b8, hb8⟩ : ∃ x, w7.heap.size = x := ⟨_, rfl⟩
          obtain ⟨w8, hw8⟩ : ∃ x, w7.alloc (.cells #[] 21) = x := ⟨_, rfl⟩
          have hB8 : Below b8 w7 w8 := by rw [← hw8, ← hb8]; exact (Below.refl _ _).alloc (Nat.le_refl _) _
          have hO8 : w8.ownsRow b8 21 1 (.slice (some ⟨b8, 0, none⟩) 0 0) 0 [] := by rw [← hw8, ← hb8]; exact own_zero1 w7 21
          obtain ⟨ha1, ha2, ha3⟩ := ru_sees HN.out (A := Aa) (n := na) (c := ca) (b := ba) (R := va) (by simp)
          obtain ⟨hb1, hb2, hb3⟩ := ru_sees HN.out (A := Ab) (n := nb) (c := cb) (b := bb) (R := vb) (by simp)
          rw [hb8] at ha1 hb1
          have hsz : na + nb ≤ 2000 := by rw [← ha2, ← hb2, ← List.length_append, HD.out.2.1, HLD.out]; exact HD.out.2.2.1
          have HA := Lib.hid (And.intro (ha1.below hB8 (Nat.le_refl _)) (And.intro hO8 (And.intro hB8 hb1)))
          have HE7 := Lib.hid hb8
          have h8 : b8 ≤ w8.heap.size := by rw [← hb8]; exact hb8 ▸ hB8.size
          clear hB8 hO8 ha1 hb1 ha2 hb2 ha3 hb3
          go_wp2_with (first
            | (refine append_seesG (by rfl) (.tmp 116) (.tmp 117) 26 rfl b8 21 i0 _ 1 4 Try.underlying26 ii0 iz0 iz1 iz2 rfl (by omega) _ 0 [] rfl HA.out.2.1 b8 _ na _ _ rfl HA.out.1 (r32_one _) (by simp only [maxLen]; omega) (by omega) h8 ?_
               intro v9 w9 hown9 hg9 hat9
               rw [Nat.zero_add, List.nil_append] at hown9
               have HA9 := Lib.hid (show w9.ownsRow b8 21 1 v9 na (va.map r32) ∧ Below b8 w7 w9 from ⟨hown9, HA.out.2.2.1.grown hg9 h8 (fun k hk => own_base HA.out.2.1 hk)⟩)
               have h9 : b8 ≤ w9.heap.size := Nat.le_trans h8 hg9.size
               have HS9 := Lib.hid (HA.out.2.2.2.below HA9.out.2 (Nat.le_refl _))
               obtain ⟨A9, c9, rfl, -, -, -, -⟩ := own_shape hown9
               clear hown9 hg9 hat9)
            | (refine append_seesG (by rfl) (.tmp 118) (.tmp 119) 26 rfl b8 21 i0 _ 1 4 Try.underlying26 ii0 iz0 iz1 iz2 rfl (by omega) _ na _ rfl HA9.out.1 b8 _ nb _ _ rfl HS9.out (r32_one _) (by simp only [maxLen]; omega) (by omega) h9 ?_
               intro va0 wa0 howna hga hata
               have HAa := Lib.hid (show wa0.ownsRow b8 21 1 va0 (na + nb) (va.map r32 ++ vb.map r32) ∧ Below b8 w7 wa0 from ⟨howna, HA9.out.2.grown hga h9 (fun k hk => own_base HA9.out.1 hk)⟩)
               obtain ⟨Aa0, ca0, rfl, -, -, -, -⟩ := own_shape howna
               clear howna hga hata))
          have hS9 := HN.out.later (w' := wa0) (HE7.out ▸ HAa.out.2)
          obtain ⟨hd1, hd2, hd3⟩ := ru_sees hS9 (A := Ad) (n := m) (c := cd) (b := bd) (R := vd) (by simp)
          have hown : Sees wa0 wa0.heap.size 1 Aa0 (na + nb) ((va ++ vb).map r32) := by rw [List.map_append]; exact Sees.of_own HAa.out.1
          have HC := Lib.hid (same_star hS9 hown hd1 (c := ca0) (c2 := cd) (by omega) (by omega))
          rw [HD.out.2.1, show (vd == vd) = true from by simp] at HC
          clear hS9 hd1 hd2 hd3 hown
          go_wp2_with fail
          refine HC.out.mono ?_
          clear HC
          rintro e wb0 ⟨rfl, Sb⟩
          have HB := Lib.hid Sb
          clear Sb
          go_wp2_with fail
          refine (known_any _).mono ?_
          rintro e wz ⟨rfl, hbz⟩
          have HBz := Lib.hid (HB.out.below.trans (hbz.mono HB.out.below.size))
          clear hbz
          go_wp2_with fail
          go_ret
          exact ⟨rfl, HBz.out⟩

end Go.Proofs.Ytmfkdaannjibfaa
