/-
  The walk of rubriclaw11.SpansParts.
-/
import Derived.Test.YtbioomilnjikpaaSpLa
namespace Go.Proofs.Ytbioomilnjikpaa
open Go.RowKit

/-- Where a span of the part stands, At tells its number. -/
theorem at_part {X : List Th} {i j : Int} (hoX : ∀ x ∈ X, okT x) (h0 : 0 ≤ i) (h1 : i ≤ j) (h2 : j ≤ sumT X) {q : Nat} {x : Th} (hx : (overT X i j)[q]? = some x) {r : Int} (hr0 : 0 ≤ r) (hr : r < x.n) :
    atV X (i + sumT ((overT X i j).take q) + r) = .tuple #[.int .i64 x.id, .int .i64 0] ∧ 0 ≤ i + sumT ((overT X i j).take q) + r ∧ i + sumT ((overT X i j).take q) + r < j := by
  have hov := overT_ok X i j hoX
  have hsum := overT_sum X i j hoX (by omega)
  have hok : ∀ y ∈ (overT X i j).take q, okT y := fun y hy => (hov.1 y (List.mem_of_mem_take hy)).1
  have hs0 := sumT_nonneg hok
  have hsp : overT X i j = (overT X i j).take q ++ x :: (overT X i j).drop (q + 1) := by
    have h3 := List.getElem?_eq_some_iff.1 hx
    rw [← h3.2, ← List.drop_eq_getElem_cons h3.1, List.take_append_drop]
  have hs2 := sumT_nonneg (l := (overT X i j).drop (q + 1)) (fun y hy => (hov.1 y (List.mem_of_mem_drop hy)).1)
  have hs1 : sumT (overT X i j) = sumT ((overT X i j).take q) + (sizeT x + sumT ((overT X i j).drop (q + 1))) := by rw [← sumT.eq_2, ← sumT_append, ← hsp]
  have hnum := nums_over X i j hoX
  have hl1 := nums_len _ hok
  have hlx := nums_len X hoX
  generalize sumT ((overT X i j).take q) = s at *
  unfold sizeT at hs1
  have hlt : i + s + r < j := by omega
  refine ⟨?_, by omega, hlt⟩
  have hf := nums_find X (i + s + r) hoX (by omega)
  have hget : (nums X)[(i + s + r).toNat]? = some x.id := by
    have e1 : (nums (overT X i j))[(s + r).toNat]? = some x.id := by
      rw [hsp, nums_append, nums_cons, List.getElem?_append_right (by omega), List.getElem?_append_left (by rw [List.length_replicate]; omega), List.getElem?_replicate, if_pos (by omega)]
    rw [hnum, List.getElem?_drop, List.getElem?_take] at e1
    split at e1
    · rw [← e1]; congr 1; omega
    · cases e1
  rw [hget] at hf
  unfold atV
  cases hc : findT X (i + s + r) with
  | none => rw [hc] at hf; cases hf
  | some p => rw [hc] at hf; simp only [Option.map_some, Option.some.injEq] at hf; show Value.tuple #[.int .i64 p.1.id, .int .i64 0] = _; rw [hf]

set_option maxRecDepth 100000 in
set_option maxHeartbeats 16000000 in
theorem parts_law (A : Option Addr) (n c : Nat) (ops : List OpS) (i j : Int) (w : World) (hs : Sees w w.heap.size 6 A n (ops.flatMap OpS.cells)) (hl : ops.length = n) (hm : n ≤ maxLen) (hok : ∀ o ∈ ops, o.Ok w) (hi : -9223372036854775808 ≤ i ∧ i ≤ 9223372036854775807) (hj : -9223372036854775808 ≤ j ∧ j ≤ 9223372036854775807) :
    Calls Try.prog 3 #[.slice A n c, .int .i64 i, .int .i64 j] w fun e w' => e = .returned (.bool true) ∧ Below w.heap.size w w' := by
  unfold maxLen at hm
  have HS := Lib.hid hs
  have HO := Lib.hid (And.intro hl hok)
  have HIJ := Lib.hid (And.intro hi hj)
  clear hs hok hl hi hj
  go_enter Try.func3, Try.ntmps3
  go_wp2_with fail
  refine (newL_any w w (Below.refl _ _)).mono ?_
  rintro e w1 ⟨g, rfl, hg1⟩
  have HG := Lib.hid hg1
  clear hg1
  by_cases hn : 40 < n
  · have hnI : (40 : Int) < n := by omega
    go_wp2_with fail
    refine (known_any _).mono ?_
    rintro e w2 ⟨rfl, hb2⟩
    have HB := Lib.hid (HG.out.b.trans (hb2.mono HG.out.b.size))
    clear hb2
    go_wp2_with fail
    go_ret
    exact ⟨rfl, HB.out⟩
  · have hnI : (n : Int) ≤ 40 := by omega
    go_wp2_with fail
    go_loopw [31] (fun v31 wr => ∃ (k : Nat) (X : List Th), k ≤ n ∧ v31 = .int .i64 k ∧ SpL w g (102 * k) X wr) (fun v31 _ => n - (intOf v31).toNat)
    case atStart => exact ⟨0, [], Nat.zero_le _, rfl, HG.out⟩
    case round =>
      obtain ⟨k, X, hk, rfl, hX⟩ := hrel
      by_cases hlt : k < n
      · have hkI : (k : Int) < n := by omega
        obtain ⟨o, ho⟩ : ∃ o, ops[k]? = some o := ⟨_, List.getElem?_eq_getElem (by rw [HO.out.1]; exact hlt)⟩
        have HOk := Lib.hid (HO.out.2 o (List.mem_of_getElem? ho))
        obtain ⟨b, f, rfl, hbl, c1, c2, c3, -, -, -⟩ := op_at HS.out ho
        have d1 := (hX.b.cell (p := ⟨b, f + k * 6 + 1, none⟩) hbl).trans c1
        have d2 := (hX.b.cell (p := ⟨b, f + k * 6 + 2, none⟩) hbl).trans c2
        have d3 := (hX.b.cell (p := ⟨b, f + k * 6 + 3, none⟩) hbl).trans c3
        have HXk := Lib.hid hX
        obtain ⟨ok, oi, oj, oA, olen, ocap, ob, op, ol⟩ := o
        dsimp only at d1 d2 d3
        clear c1 c2 c3 ho hX
        by_cases hle : olen ≤ 100
        · have hleI : (olen : Int) ≤ 100 := by omega
          have HSp := Lib.hid (spliceO_any (HXk.out.below ((Below.refl _ _).drew)) HOk.out hle (by omega))
          dsimp only at HSp
          go_wp2_with fail
          go_still_tail 16, (by kernel_rfl)
          change wpList _ _ _ _ _ wr.drew
          go_wp2_with fail
          refine HSp.out.mono ?_
          rintro e w2 ⟨rfl, hX2⟩
          have HX2 := Lib.hid hX2
          clear hX2 d1 d2 d3 HSp
          go_wp2_with fail
          go_roundw
          case rel => exact ⟨k + 1, _, by omega, by go_num, by rw [Nat.mul_succ]; exact HX2.out⟩
          case measure => simp [intOf]; omega
        · have hleI : (100 : Int) < olen := by omega
          go_wp2_with fail
          go_roundw
          case rel => exact ⟨k + 1, X, by omega, by go_num, HXk.out.more (by omega)⟩
          case measure => simp [intOf]; omega
      · obtain rfl : k = n := by omega
        have HXn := Lib.hid hX
        clear hX
        have HOv := Lib.hid (overL_any HXn.out i j)
        have hbe := betE_or X i j
        obtain ⟨be, hbe'⟩ : ∃ x, betE X i j = x := ⟨_, rfl⟩
        have HBE := Lib.hid hbe'
        rw [hbe'] at HOv hbe
        clear hbe'
        go_wp2_with fail
        refine HOv.out.mono ?_
        clear HOv
        rintro e w2 ⟨v, xs, rfl, hO, hx0, hx5⟩
        rcases hbe with rfl | rfl
        · obtain rfl := hx0 rfl
          obtain ⟨i0, i1, i2⟩ := betE_zero HBE.out
          have hok := hO.spL.okX
          by_cases h3000 : 3000 < j - i
          · have HO2 := Lib.hid hO
            clear hO hx0 hx5
            have g1 : IntKind.i64.wrap (j - i) = j - i := IntWalk.i64_in _ (by omega)
            go_wp2_with fail
            refine (known_any _).mono ?_
            rintro e w3 ⟨rfl, hb3⟩
            have HB := Lib.hid (HO2.out.spL.b.trans (hb3.mono HO2.out.spL.b.size))
            clear hb3
            go_wp2_with fail
            go_ret
            exact ⟨rfl, HB.out⟩
          · have hji : j - i ≤ 3000 := by omega
            have g1 : IntKind.i64.wrap (j - i) = j - i := IntWalk.i64_in _ (by omega)
            obtain ⟨Av, cv, rfl, hcv, hmv⟩ := hO.own.shape
            have HAP := Lib.hid (fun (q : Nat) (x : Th) (hx : (overT X i j)[q]? = some x) (r : Int) (hr0 : 0 ≤ r) (hr : r < x.n) => at_part hok.1 i0 i1 i2 hx hr0 hr)
            have HSM := Lib.hid (overT_sum X i j hok.1 (by omega))
            have HPO := Lib.hid (overT_ok X i j hok.1)
            have HZ := Lib.hid hok.2.2
            have hj1 : j ≤ 536870912 := by omega
            obtain ⟨P, hP⟩ : ∃ x, overT X i j = x := ⟨_, rfl⟩
            rw [hP] at hO HAP HSM HPO hcv ⊢
            obtain ⟨nP, hnP⟩ : ∃ x, P.length = x := ⟨_, rfl⟩
            have HNP := Lib.hid hnP
            rw [hnP] at hO hcv ⊢
            have HO2 := Lib.hid hO
            have hnPI : (nP : Int) ≤ 100000 := by
              have h1 := hO.own.1
              obtain ⟨H, N, hS, -⟩ := hO
              have h2 := hS.ob.okX.2.1
              have h3 := HPO.out.2
              omega
            clear hO hx0 hx5 hok hP hnP h3000
            go_wp2_with fail
            go_loopw [11, 78] (fun v11 v78 wr => ∃ q : Nat, q ≤ nP ∧ v78 = .int .i64 q ∧ v11 = .int .i64 (i + sumT (P.take q)) ∧ OwnL w g (102 * k) X (.slice Av nP cv) P wr) (fun _ v78 _ => nP - (intOf v78).toNat)
            case atStart => exact ⟨0, Nat.zero_le _, rfl, by rw [List.take_zero, sumT]; simp, HO2.out⟩
            case round =>
              obtain ⟨q, hq, rfl, rfl, hOq⟩ := hrel
              by_cases hltq : q < nP
              · have hqI : (q : Int) < nP := by omega
                obtain ⟨x, hx⟩ : ∃ x, P[q]? = some x := ⟨_, List.getElem?_eq_getElem (by rw [HNP.out]; exact hltq)⟩
                have hap := HAP.out q x hx
                have hxp := (HPO.out.1 x (List.mem_of_getElem? hx))
                have hstep : sumT (P.take (q + 1)) = sumT (P.take q) + x.n := by rw [take_snoc' hx, sumT_append]; show _ + sumT [x] = _; rw [sumT, sumT]; unfold sizeT; omega
                obtain ⟨a, ha⟩ : ∃ a, i + sumT (P.take q) = a := ⟨_, rfl⟩
                have HST := Lib.hid (show i + sumT (P.take (q + 1)) = a + x.n by rw [hstep, ← ha]; omega)
                rw [ha] at hap ⊢
                have HAPq := Lib.hid hap
                obtain ⟨-, bP, rfl, hbP, hbPl, hrP, -⟩ := hOq.own.thing hx
                have HRx := Lib.hid hrP
                obtain ⟨bx, hbx⟩ : ∃ v, wr.heap.size = v := ⟨_, rfl⟩
                obtain ⟨wx, hwx⟩ : ∃ v, wr.alloc (.cells (encT x).toArray 34) = v := ⟨_, rfl⟩
                have hK := hOq.new (.cells (encT x).toArray 34)
                rw [hwx, hbx] at hK
                have HK := Lib.hid hK
                have HE := Lib.hid (And.intro hwx hbx)
                obtain ⟨xn, xi⟩ := x
                have hxn0 : 0 < xn := hxp.2
                have hxn1 : xn ≤ 1000000000 := hxp.1.2
                have c0 : wx.cell? ⟨bx, 0, none⟩ = some (.int .i64 xn) := by rw [cell_of_row wx bx 0 _ _ _ hK.blk]; rfl
                have ha0 : 0 ≤ a ∧ a < j := by have := hap 0 (Int.le_refl 0) hxn0; omega
                obtain ⟨ha1, ha2⟩ := ha0
                clear hx hap hxp hstep ha hrP hbx hwx hK hOq hltq
                go_wp2_with (first
                  | (refine wpList_load_mid rfl 34 (.tmp 80) rfl bP (q * 2) rfl (encT ⟨xn, xi⟩) _ HRx.out Try.underlying34 rfl (thing_info _) ?_)
                  | (refine wpList_store_row rfl 34 (.tmp 13) (.tmp 81) rfl wr.heap.size (encT ⟨xn, xi⟩).toArray rfl rfl 34 _ (heap_alloc_new wr _) (by rw [List.size_toArray]; exact thing_info _) (by rfl) (all_oneCell_toArray (encT_one _)) ?_; rw [alloc_setRow, HE.out.1, HE.out.2]))
                clear c0
                go_loopw [11, 84] (fun v11 v84 wz => ∃ r : Int, 0 ≤ r ∧ r ≤ xn ∧ v84 = .int .i64 r ∧ v11 = .int .i64 (a + r) ∧ OwnK w g (102 * k) X (.slice (some ⟨bP, 0, none⟩) nP cv) P bx (.cells (encT ⟨xn, xi⟩).toArray 34) wz) (fun _ v84 _ => (xn - intOf v84).toNat)
                case atStart => exact ⟨0, Int.le_refl 0, by omega, rfl, by simp, HK.out⟩
                case round =>
                  obtain ⟨r, hr0, hr1, rfl, rfl, hKr⟩ := hrel
                  by_cases hrl : r < xn
                  · have hat := HAPq.out r hr0 hrl
                    obtain ⟨hat1, hat2, hat3⟩ := hat
                    have HAt := Lib.hid (atK_any hKr (a + r) (by omega))
                    rw [hat1] at HAt
                    have g2 : IntKind.i64.wrap (a + r + 1) = a + r + 1 := IntWalk.i64_in _ (by omega)
                    have g3 : IntKind.i64.wrap (r + 1) = r + 1 := IntWalk.i64_in _ (by omega)
                    clear hKr hat1
                    go_wp2_with fail
                    refine HAt.out.mono ?_
                    rintro e wy ⟨rfl, hKy⟩
                    have HKy := Lib.hid hKy
                    have c1 : wy.cell? ⟨bx, 1, none⟩ = some (.int .i64 xi) := by rw [cell_of_row wy bx 1 _ _ _ hKy.blk]; rfl
                    clear hKy HAt
                    dsimp only
                    go_wp2_with fail
                    go_roundw
                    case rel => exact ⟨r + 1, by omega, by omega, rfl, by congr 1; omega, HKy.out⟩
                    case measure => simp [intOf]; omega
                  · obtain rfl : r = xn := by omega
                    have HKr := Lib.hid hKr.ownL
                    clear hKr
                    go_wp2_with fail
                    go_roundw
                    case rel => exact ⟨q + 1, by omega, by go_num, by rw [HST.out], HKr.out⟩
                    case measure => simp [intOf]; omega
              · obtain rfl : q = nP := by omega
                have hta : i + sumT (P.take q) = j := by
                  rw [List.take_of_length_le (by rw [HNP.out]; exact Nat.le_refl _), HSM.out]; have := HZ.out; omega
                rw [hta]
                have HOq := Lib.hid hOq
                clear hta hOq
                go_wp2_with fail
                refine (known_any _).mono ?_
                rintro e w3 ⟨rfl, hb3⟩
                have HB := Lib.hid (HOq.out.spL.b.trans (hb3.mono HOq.out.spL.b.size))
                clear hb3
                go_wp2_with fail
                go_ret
                exact ⟨rfl, HB.out⟩
        · have HO2 := Lib.hid hO
          clear hO hx0 hx5
          go_wp2_with fail
          refine (known_any _).mono ?_
          rintro e w3 ⟨rfl, hb3⟩
          have HB := Lib.hid (HO2.out.spL.b.trans (hb3.mono HO2.out.spL.b.size))
          clear hb3
          go_wp2_with fail
          go_ret
          exact ⟨rfl, HB.out⟩

end Go.Proofs.Ytbioomilnjikpaa
