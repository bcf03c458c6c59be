/-
  avl.Tree: Replace.
-/
import Derived.Test.YtbioomilnjikpaaSpY3
namespace Go.Proofs.Ytbioomilnjikpaa
open Go.RowKit

theorem things_of {A A' : Tr} {p : Nat} {x : Th} (h : A'.nodes = A.nodes ++ [(p, x)]) : A'.things = A.things ++ [x] := things_snoc h

set_option maxRecDepth 100000 in
set_option maxHeartbeats 8000000 in
theorem replace_any {w : World} {G : Nat → Prop} {gT N : Nat} {X : List Th} (h : TreeX w G gT X N) {B c : Nat} {A : Option Addr} {l : List Th} (hl : Sees w B 2 A l.length (rowT l)) (hB : B ≤ w.heap.size) (_ : l.length ≤ c) (hoff : 0 < l.length → ∀ b o, A = some ⟨b, o, none⟩ → ¬ G b) (hlo : ∀ x ∈ l, okT x)
    {i j : Int} (h0 : 0 ≤ i) (h1 : i ≤ j) (h2 : j ≤ sumT X) (hX : sumT X ≤ 1000000000) (hs : sumT X - (j - i) + sumT l ≤ 1000000000) (hN : N ≤ 79998) (hR : (replT X i j l).length ≤ 80000) (hln : l.length ≤ 100000) :
    Calls Try.prog 26 #[.pointer (some ⟨gT, 0, none⟩), .int .i64 i, .int .i64 j, .slice A l.length c] w fun e w' => ∃ G', (∃ v, e = .returned v) ∧ TreeX w' G' gT (replT X i j l) (max (N + 2) (replT X i j l).length) ∧ Grow G w w' G' := by
  obtain ⟨i0, ii0, iz0, iz1, iz2⟩ := info_parts thing_info4
  obtain ⟨F, gA, T, s, fr, hG, hS, rfl, hsN⟩ := h
  have hokX : ∀ x ∈ T.things, okT x := fun x hx => by obtain ⟨q, hq, e⟩ := List.mem_map.1 hx; exact e ▸ hS.ok.ok q hq
  have HF := Lib.hid (repl_facts hokX hlo h0 h1 h2 hs)
  have HG := Lib.hid hG
  have H2 := Lib.hid hS.two
  have hcR := hS.tw.cR
  have HFL := Lib.hid hS.tw.ar.lt
  have HGT := Lib.hid hS.tw.lt
  have HL := Lib.hid (fun (F' : Nat → Prop) (w1 : World) (hg : Grow F w w1 F') => (show Sees w1 B 2 A l.length (rowT l) from ⟨hl.1, fun hn => by
    obtain ⟨b, o, hA, hb, hcl⟩ := hl.2 hn
    refine ⟨b, o, hA, hb, fun q u hu => ?_⟩
    have hq := hcl q u hu
    have hbF : ¬ F b := fun hF => hoff hn b o hA ((hG b).2 (.inl hF))
    have he := hg.step.block b (by omega) hbF
    exact (World.cell?_of_block (w := w) (a := ⟨b, o + q, none⟩) he).trans hq⟩))
  have HLO := Lib.hid (And.intro hlo hs)
  have HRL := Lib.hid hR
  obtain ⟨nl, hnl⟩ : ∃ n, l.length = n := ⟨_, rfl⟩
  have HNL := Lib.hid hnl
  rw [hnl] at HL hln ⊢
  have h0' : (nl : Int) ≤ 100000 := by omega
  have g1 : IntKind.i64.wrap (j - i) = j - i := IntWalk.i64_in _ (by omega)
  have h3 : i ≤ 1000000000 := by omega
  have h4 : j - i ≤ 1000000000 := by omega
  obtain ⟨root, hroot⟩ : ∃ x, T.rt = x := ⟨_, rfl⟩
  have HRT := Lib.hid hroot
  have H2 : Hid (Two w F gT gA root .nil T s fr) := by rw [hroot] at H2; exact H2
  rw [hroot] at hcR
  clear hS hokX hG hl hlo hs hR hnl hroot hoff
  go_enter Try.func26, Try.ntmps26
  go_wp2_with fail
  have HS1 := Lib.hid (split_two H2.out (by omega) i (by omega) (by omega))
  rw [HRT.out] at HS1
  refine HS1.out.mono ?_
  clear HS1
  rintro e w1 ⟨F1, fr1, s1, TA, TR, rfl, hT1, ha1, hr1, hl1, hg1⟩
  have hsl1 : s1.length < 90000 := by omega
  have HS2 := Lib.hid (split_two hT1.two hsl1 (j - i) (by omega) (by omega))
  have Q1 := Lib.hid (And.intro ha1 (And.intro hr1 (And.intro hl1 hg1)))
  clear hT1 ha1 hr1 hl1 hg1 hsl1
  go_wp2_with fail
  refine HS2.out.mono ?_
  clear HS2
  rintro e w2 ⟨F2, fr2, s2, TG, TB, rfl, hT2, hgo2, hb2, hl2, hg2⟩
  have HD := Lib.hid (drop_three hT2)
  have Q2 := Lib.hid (And.intro (show TA.things = (splitT T.things i).1 from Q1.out.1) (And.intro (show TB.things = (splitT (splitT T.things i).2 (j - i)).2 by rw [hb2, Q1.out.2.1]) (And.intro (show s2.length ≤ N + 2 by have := Q1.out.2.2.1; omega) (Q1.out.2.2.2.trans hg2))))
  clear hT2 hgo2 hb2 hl2 hg2
  go_wp2_with fail
  refine HD.out.mono ?_
  clear HD
  rintro e w3 ⟨F3, fr3, s3, ⟨v3, rfl⟩, hT3, hl3, hg3⟩
  have Q3 := Lib.hid (And.intro hT3 (And.intro (show s3.length ≤ N + 2 by have := Q2.out.2.2.1; omega) (Q2.out.2.2.2.trans hg3)))
  clear hT3 hl3 hg3
  go_upto_if 42 with fail
  obtain ⟨XA, hXA⟩ : ∃ x, (splitT T.things i).1 = x := ⟨_, rfl⟩
  obtain ⟨XB, hXB⟩ : ∃ x, (splitT (splitT T.things i).2 (j - i)).2 = x := ⟨_, rfl⟩
  obtain ⟨n, hn⟩ : ∃ n, N + 2 = n := ⟨_, rfl⟩
  have HXX := Lib.hid (And.intro hXA (And.intro hXB hn))
  rw [hXA, hXB] at Q2
  rw [hn] at Q3
  clear hXA hXB hn
  go_cut [8, 12, 13, 14] from 41 to 55 (fun v8 v12 _ _ wz => St1 w F gT gA root XA TB n v8 v12 wz)
  case first =>
    by_cases hA : TA.rt = -1
    · have e := Tr.rt_nil hA
      have HP := Lib.hid (show St1 w F gT gA root XA TB n (.int .i64 TA.rt) (.slice none 0 0) w3 from by
        have e2 : XA = [] := by rw [← Q2.out.1, e]; rfl
        exact ⟨F3, s3, fr3, TA, rfl, Q3.out.1, by rw [e, e2]; rfl, by rw [e2]; exact ⟨rfl, .inl ⟨rfl, rfl⟩⟩, Off.nil_ _, Q3.out.2.1, Q3.out.2.2⟩)
      have hne : ((TA.rt : Int) != -1) = false := by simp [hA]
      clear hA e
      go_wp2_with fail
      go_meet
      case rel => exact HP.out
    · have hne : ((TA.rt : Int) == -1) = false := by simpa using hA
      have HLa := Lib.hid (last_two Q3.out.1 hA)
      have hne2 : ((TA.rt : Int) != -1) = true := by simpa using hA
      clear hA
      go_wp2_with fail
      refine HLa.out.mono ?_
      clear HLa
      rintro e w4 ⟨s4, A4, p, x, rfl, hT4, hn4, hl4, hg4⟩
      have HPk := Lib.hid (pick_two hT4)
      have Q4 := Lib.hid (And.intro hn4 (And.intro hl4 hg4))
      clear hT4 hn4 hl4 hg4
      go_wp2_with fail
      refine HPk.out.mono ?_
      clear HPk
      rintro e w5 ⟨rfl, F5, fr5, s5, hT5, hl5, hg5⟩
      have G5 := Lib.hid (Q3.out.2.2.trans (Q4.out.2.2.trans hg5))
      have L5 := Lib.hid (show s5.length ≤ n by have h1 := Q4.out.2.1; have h2 := Q3.out.2.1; omega)
      have T5 := Lib.hid hT5
      have HXA := Lib.hid (show XA = A4.things ++ [x] by rw [← Q2.out.1]; exact things_snoc Q4.out.1)
      clear hT5 hl5 hg5
      obtain ⟨bz, hbz⟩ : ∃ v, w5.heap.size = v := ⟨_, rfl⟩
      obtain ⟨wa, hwa⟩ : ∃ v, w5.alloc (.cells (encT x).toArray 34) = v := ⟨_, rfl⟩
      have Ba := Lib.hid (show Below w5.heap.size w5 wa by rw [← hwa]; exact (Below.refl _ _).alloc (Nat.le_refl _) _)
      have Sa := Lib.hid (show Sees wa (bz + 1) 2 (some ⟨bz, 0, none⟩) 1 (rowT [x]) from Sees.things (by rw [rowT_one, ← hwa, ← hbz]; exact heap_alloc_new _ _))
      have HR := Lib.hid (run_things x w5)
      rw [hwa, hbz] at HR
      clear hwa hbz

      go_wp2_with (first
        | (refine wpList_known _ rfl (v := .slice (some ⟨bz, 0, none⟩) 1 1) (w' := wa) (exec_slice1 26 (.tmp 53) rfl (.agg (encT x).toArray) rfl HR.out) ?_)
        | (at_builtin
           refine wpList_append_sees _ rfl _ _ _ rfl w.heap.size 34 i0 _ 2 16 Try.underlying26 ii0 iz0 iz1 iz2 rfl (by omega) _ 0 [] rfl ⟨rfl, .inl ⟨rfl, rfl⟩⟩ (bz + 1) _ 1 1 (rowT [x]) rfl Sa.out (rowT_oneCell _) (by simp only [maxLen]; omega) (by omega) (Nat.le_trans G5.out.step.size Ba.out.size) ?_
           intro v6 w6 hown6 hg6 hat6 hnil6
           have HP := Lib.hid (show St1 w F gT gA root XA TB n (.int .i64 A4.rt) v6 w6 from by
             have hTa := T5.out.below Ba.out
             have hFl := hTa.base.tw.ar.lt
             have hr : ∀ k, (Value.slice none 0 0).ownBlock = some k → False := fun k hk => by cases hk
             refine ⟨F5, s5, fr5, A4, rfl, hTa.step (grown_step hg6) (fun k _ e => hr k e) (fun e => hr _ e), by rw [HXA.out, last_snoc.2], by rw [HXA.out, last_snoc.1]; exact hown6, ?_, L5.out, Grow.row (G5.out.to Ba.out) hg6 (fun k hk => absurd hk (fun e => hr k e))⟩
             exact Off.at (v := .slice none 0 0) (Off.nil_ _) (fun k hk => hFl k hk) hat6)
           clear hown6 hg6 hat6 hnil6))
      go_meet
      case rel => exact HP.out
  case rest =>
    obtain ⟨F4, s4, fr4, A0, rfl, hT4, hA0, hown4, hoff4, hl4, hg4⟩ := hcut
    obtain ⟨Y0, hY0⟩ : ∃ x, XA.getLast?.toList = x := ⟨_, rfl⟩
    rw [hY0] at hown4
    have hy0 : Y0.length ≤ 1 := by rw [← hY0]; cases XA.getLast? <;> simp
    have HY0 := Lib.hid hY0
    obtain ⟨A12, c12, rfl, hc12, hm12⟩ := hown4.shape
    obtain ⟨n0, hn0⟩ : ∃ n, Y0.length = n := ⟨_, rfl⟩
    have HN0 := Lib.hid hn0
    have hO : wc.ownsRow w.heap.size 34 2 (.slice A12 n0 c12) n0 (rowT Y0) := by have h1 := hown4; unfold OwnT at h1; rw [hn0] at h1; exact h1
    rw [hn0] at hy0 hc12 hoff4 ⊢
    have O4 := Lib.hid (And.intro hO hoff4)
    have T4 := Lib.hid (And.intro hT4 (And.intro hA0 (And.intro hl4 hg4)))
    clear hO hY0 hown4 hn0 hT4 hA0 hoff4 hl4 hg4 Q3
    go_upto_if 60 with (
      at_builtin
      refine wpList_append_sees _ rfl _ _ _ rfl w.heap.size 34 i0 _ 2 16 Try.underlying26 ii0 iz0 iz1 iz2 rfl (by omega) _ n0 (rowT Y0) rfl O4.out.1 B _ nl c (rowT l) rfl (HL.out F4 wc T4.out.2.2.2) (rowT_oneCell _) (by simp only [maxLen]; omega) (by omega) T4.out.2.2.2.step.size ?_
      intro v6 w6 hown6 hg6 hat6 hnil6
      have C6 := Lib.hid (And.intro hown6 (And.intro hg6 hat6))
      clear hown6 hg6 hat6 hnil6)
    have hFl4 := T4.out.1.base.tw.ar.lt
    have T6 := Lib.hid (show Two w6 F4 gT gA root A0 TB s4 fr4 from T4.out.1.step (grown_step C6.out.2.1) (fun k hF e => O4.out.2 k e hF) (fun e => by have h1 := own_base O4.out.1 e; have h2 := HGT.out; omega))
    have G6 := Lib.hid (Grow.row T4.out.2.2.2 C6.out.2.1 (fun k e => own_base O4.out.1 e))
    have O6 := Lib.hid (show OwnT w6 w.heap.size v6 (Y0 ++ l) ∧ Off v6 F4 from ⟨by unfold OwnT; rw [rowT_append, List.length_append, HN0.out, HNL.out]; exact C6.out.1, O4.out.2.at hFl4 C6.out.2.2⟩)
    clear C6 hFl4 O4
    obtain ⟨Y, hY⟩ : ∃ x, Y0 ++ l = x := ⟨_, rfl⟩
    have HY := Lib.hid hY
    have hyl : Y.length ≤ 100001 := by rw [← hY, List.length_append, HN0.out, HNL.out]; omega
    rw [hY] at O6
    clear hY
    obtain ⟨A6, c6, rfl, hc6, hm6⟩ := O6.out.1.shape
    obtain ⟨ny, hny⟩ : ∃ n, Y.length = n := ⟨_, rfl⟩
    have HNY := Lib.hid hny
    rw [hny] at hyl hc6 O6 ⊢
    have O6r := Lib.hid (show w6.ownsRow w.heap.size 34 2 (.slice A6 ny c6) ny (rowT Y) by have h1 := O6.out.1; unfold OwnT at h1; rw [HNY.out] at h1; exact h1)
    clear hny
    go_cut [11, 12, 15, 16] from 59 to 73 (fun v11 v12 _ _ wz => St2 w F gT gA root A0 XB Y n v11 v12 wz)
    case first =>
      by_cases hB : TB.rt = -1
      · have e := Tr.rt_nil hB
        have HP := Lib.hid (show St2 w F gT gA root A0 XB Y n (.int .i64 TB.rt) (.slice A6 ny c6) w6 from by
          have e2 : XB = [] := by rw [← Q2.out.2.1, e]; rfl
          exact ⟨F4, s4, fr4, TB, rfl, T6.out, by rw [e, e2]; rfl, by rw [e2]; simpa using O6.out.1, T4.out.2.2.1, G6.out⟩)
        have hne : ((TB.rt : Int) != -1) = false := by simp [hB]
        clear hB e
        go_wp2_with fail
        go_meet
        case rel => exact HP.out
      · have hne : ((TB.rt : Int) == -1) = false := by simpa using hB
        have HLa := Lib.hid (first_two T6.out hB)
        have hne2 : ((TB.rt : Int) != -1) = true := by simpa using hB
        clear hB
        go_wp2_with fail
        refine HLa.out.mono ?_
        clear HLa
        rintro e w7 ⟨s7, B7, p, x, rfl, hT7, hn7, hl7, hg7⟩
        have HPk := Lib.hid (pick_two hT7)
        have Q7 := Lib.hid (And.intro hn7 (And.intro hl7 hg7))
        clear hT7 hn7 hl7 hg7
        go_wp2_with fail
        refine HPk.out.mono ?_
        clear HPk
        rintro e w8 ⟨rfl, F8, fr8, s8, hT8, hl8, hg8⟩
        have G8 := Lib.hid (G6.out.trans (Q7.out.2.2.trans hg8))
        have L8 := Lib.hid (show s8.length ≤ n by have h1 := Q7.out.2.1; have h2 := T4.out.2.2.1; omega)
        have T8 := Lib.hid hT8
        have HXB := Lib.hid (show XB = x :: B7.things by rw [← Q2.out.2.1]; exact things_cons Q7.out.1)
        have hO8 : w8.ownsRow w.heap.size 34 2 (.slice A6 ny c6) ny (rowT Y) := own_step (own_step O6r.out Q7.out.2.2.step O6.out.2) hg8.step O6.out.2
        have hoff8 : Off (.slice A6 ny c6) F8 := O6.out.2.grow (Q7.out.2.2.trans hg8) (fun k hk => own_lt O6.out.1 hk)
        have O8 := Lib.hid (And.intro hO8 hoff8)
        clear hT8 hl8 hg8 hO8 hoff8
        obtain ⟨bz, hbz⟩ : ∃ v, w8.heap.size = v := ⟨_, rfl⟩
        obtain ⟨wa, hwa⟩ : ∃ v, w8.alloc (.cells (encT x).toArray 34) = v := ⟨_, rfl⟩
        have Ba := Lib.hid (show Below w8.heap.size w8 wa by rw [← hwa]; exact (Below.refl _ _).alloc (Nat.le_refl _) _)
        have Sa := Lib.hid (show Sees wa (bz + 1) 2 (some ⟨bz, 0, none⟩) 1 (rowT [x]) from Sees.things (by rw [rowT_one, ← hwa, ← hbz]; exact heap_alloc_new _ _))
        have HR := Lib.hid (run_things x w8)
        rw [hwa, hbz] at HR
        clear hwa hbz
        have Oa := Lib.hid (show wa.ownsRow w.heap.size 34 2 (.slice A6 ny c6) ny (rowT Y) from own_later O8.out.1 Ba.out)
        go_wp2_with (first
          | (refine wpList_known _ rfl (v := .slice (some ⟨bz, 0, none⟩) 1 1) (w' := wa) (exec_slice1 26 (.tmp 71) rfl (.agg (encT x).toArray) rfl HR.out) ?_)
          | (at_builtin
             refine wpList_append_sees _ rfl _ _ _ rfl w.heap.size 34 i0 _ 2 16 Try.underlying26 ii0 iz0 iz1 iz2 rfl (by omega) _ ny (rowT Y) rfl Oa.out (bz + 1) _ 1 1 (rowT [x]) rfl Sa.out (rowT_oneCell _) (by simp only [maxLen]; omega) (by omega) (Nat.le_trans G8.out.step.size Ba.out.size) ?_
             intro v9 w9 hown9 hg9 hat9 hnil9
             have HP := Lib.hid (show St2 w F gT gA root A0 XB Y n (.int .i64 B7.rt) v9 w9 from by
               have hTa := T8.out.below Ba.out
               refine ⟨F8, s8, fr8, B7, rfl, hTa.step (grown_step hg9) (fun k hF e => O8.out.2 k e hF) (fun e => by have h1 := own_base Oa.out e; have h2 := HGT.out; omega), by rw [HXB.out]; rfl, ?_, L8.out, Grow.row (G8.out.to Ba.out) hg9 (fun k hk => own_base Oa.out hk)⟩
               rw [HXB.out]
               show OwnT w9 w.heap.size v9 (Y ++ [x])
               unfold OwnT
               rw [rowT_append, List.length_append, HNY.out]
               exact hown9)
             clear hown9 hg9 hat9 hnil9))
        go_meet
        case rel => exact HP.out
    case rest =>
      obtain ⟨F7, s7, fr7, B', rfl, hT7, hB7, hown7, hl7, hg7⟩ := hcut
      obtain ⟨X0, hX0⟩ : ∃ x, XA.dropLast = x := ⟨_, rfl⟩
      have hmid : midT T.things i j l = Y ++ XB.head?.toList := by unfold midT; rw [HXX.out.1, HXX.out.2.1, HY0.out, HY.out]
      have hrep : replT T.things i j l = X0 ++ meldL (Y ++ XB.head?.toList) ++ XB.tail := by rw [replT_eq, hmid, HXX.out.1, HXX.out.2.1, hX0]
      have hF := HF.out
      rw [hmid, HXX.out.1, HXX.out.2.1, hX0] at hF
      have HRP := Lib.hid hrep
      obtain ⟨Z, hZ⟩ : ∃ x, Y ++ XB.head?.toList = x := ⟨_, rfl⟩
      rw [hZ] at hown7 hF HRP
      have hzl : Z.length ≤ 200000 := by have h1 := hF.2.2.1; rw [HNL.out] at h1; omega
      have hA0 := T4.out.2.1
      rw [hX0] at hA0
      have T7 := Lib.hid (And.intro hT7 (And.intro hA0 (And.intro hB7 (And.intro hl7 hg7))))
      obtain ⟨AZ, cZ, rfl, hcZ, hmZ⟩ := hown7.shape
      have HML := Lib.hid (melded_any hT7.base.tw (Sees.of_own hown7) (Nat.le_refl _) hcZ hF.1 hF.2.1 hzl)
      have HZF := Lib.hid hF
      obtain ⟨nz, hnz⟩ : ∃ n, Z.length = n := ⟨_, rfl⟩
      rw [hnz] at HML ⊢
      clear hmid hrep hF hX0 hZ hown7 hA0 hT7 hB7 hl7 hg7 hcZ hnz T6 G6 O6 O6r T4 HF Q2
      go_wp2_with fail
      refine HML.out.mono ?_
      clear HML
      rintro e w10 ⟨vM, rfl, hM, hb10⟩
      obtain ⟨AM, cM, rfl, hcM, hmM⟩ := hM.shape
      obtain ⟨M, hMe⟩ : ∃ x, meldL Z = x := ⟨_, rfl⟩
      rw [hMe] at hM hcM HZF HRP ⊢
      obtain ⟨nm, hnm⟩ : ∃ n, M.length = n := ⟨_, rfl⟩
      have HNM := Lib.hid hnm
      rw [hnm] at hM hcM ⊢
      have hnm2 : nm ≤ 80000 := by have h1 := HRL.out; rw [HRP.out, List.length_append, List.length_append, hnm] at h1; omega
      have hnmI : (nm : Int) ≤ 80000 := by omega
      obtain ⟨B0, hB0⟩ : ∃ x, wc.heap.size = x := ⟨_, rfl⟩
      rw [hB0] at hM
      have HST := Lib.hid (show St3 w F gT gA root X0 B' M n (.slice AM nm cM) B0 0 (.int .i64 A0.rt) w10 from
        ⟨F7, s7, fr7, A0, rfl, T7.out.1.below hb10, by rw [T7.out.2.1, List.take_zero, List.append_nil], hM, fun k hk hF => by have h1 := T7.out.1.base.tw.ar.lt k hF; have h2 := own_base hM hk; omega, by have := T7.out.2.2.2.1; omega, T7.out.2.2.2.2.to hb10⟩)
      have HB7 := Lib.hid T7.out.2.2.1
      clear hM hb10 hMe hnm hB0 T7
      go_wp2_with fail
      go_loopw [8, 78] (fun v8 v78 wr => ∃ (k : Nat) (u : Value), k ≤ nm ∧ u = v8 ∧ v78 = .int .i64 k ∧ St3 w F gT gA root X0 B' M n (.slice AM nm cM) B0 k u wr) (fun _ v78 _ => nm - (intOf v78).toNat)
      case atStart => exact ⟨0, _, Nat.zero_le _, rfl, rfl, HST.out⟩
      case round =>
        obtain ⟨k, v8, hk, rfl, rfl, F', s', fr', A', rfl, hT, hA, hM, hO, hl, hg⟩ := hrel
        by_cases hlt : k < nm
        · have hkI : (k : Int) < nm := by omega
          obtain ⟨x, hx⟩ : ∃ x, M[k]? = some x := ⟨_, List.getElem?_eq_getElem (by rw [HNM.out]; exact hlt)⟩
          have hmem : x ∈ M := List.mem_of_getElem? hx
          have hTK : M.take (k + 1) = M.take k ++ [x] := by rw [List.take_add_one, hx]; rfl
          have hsplit : M = M.take k ++ x :: M.drop (k + 1) := by
            have h1 := (List.getElem?_eq_some_iff.1 hx)
            rw [← h1.2, ← List.drop_eq_getElem_cons h1.1, List.take_append_drop]
          have hZF := HZF.out
          have hsn := sumT_nonneg (l := M.drop (k + 1)) (fun y hy => hZF.2.2.2.1 y (List.mem_of_mem_drop hy))
          have hsM : sumT M = sumT (M.take k) + (sizeT x + sumT (M.drop (k + 1))) := by rw [← sumT.eq_2, ← sumT_append, ← hsplit]
          have hle : s'.length < 90000 := by
            have h1 := HRL.out
            rw [HRP.out, List.length_append, List.length_append, HNM.out] at h1
            have h2 : A'.nodes.length = X0.length + k := by rw [← Tr.things_len, hA, List.length_append, List.length_take, HNM.out]; omega
            have h3 : B'.nodes.length = XB.tail.length := by rw [← Tr.things_len, HB7.out]
            have h4 := HXX.out.2.2
            omega
          have HX := Lib.hid (show okT x ∧ sumT A'.things + sumT B'.things + sizeT x ≤ 100000000000 ∧ s'.length < 90000 from ⟨hZF.2.2.2.1 x hmem, by
            rw [hA, HB7.out, sumT_append]
            have h5 := hZF.2.2.2.2.1
            have h6 := HLO.out.2
            omega, hle⟩)
          obtain ⟨-, bm, rfl, hbm, hbl, hrm, -⟩ := hM.thing hx
          obtain ⟨bx, hbx⟩ : ∃ v, wr.heap.size = v := ⟨_, rfl⟩
          obtain ⟨w2, hw2⟩ : ∃ v, wr.alloc (.cells (encT x).toArray 34) = v := ⟨_, rfl⟩
          have B2 : Below wr.heap.size wr w2 := by rw [← hw2]; exact (Below.refl _ _).alloc (Nat.le_refl _) _
          have F2 := Lib.hid (show w2.heap[bx]? = some (.cells (encT x).toArray 34) by rw [← hw2, ← hbx]; exact heap_alloc_new wr _)
          have C2 := Lib.hid (hT.below B2)
          have HBX := Lib.hid (show ¬ F' bx from fun hF => by have := hT.base.tw.ar.lt _ hF; omega)
          have HM2 := Lib.hid (And.intro (OwnT.later hM B2) hO)
          have HA := Lib.hid (And.intro hA (And.intro hl (hg.to B2)))
          have HTK := Lib.hid hTK
          have HE := Lib.hid (And.intro hw2 hbx)
          have HRx := Lib.hid hrm
          clear hx hmem hTK hsplit hZF hsn hsM hle hbx hw2 B2 hT hA hM hO hl hg hrm
          go_upto_region 14 with (first
            | (refine wpList_load_mid rfl 34 (.tmp 80) rfl bm (k * 2) rfl (encT x) _ HRx.out Try.underlying34 rfl (thing_info x) ?_)
            | (refine wpList_store_row rfl 34 (.tmp 18) (.tmp 81) rfl wr.heap.size (encT x).toArray rfl rfl 34 _ (heap_alloc_new wr _) (by rw [List.size_toArray]; exact thing_info _) (by rfl) (all_oneCell_toArray (encT_one _)) ?_; rw [alloc_setRow, HE.out.1, HE.out.2]))
          refine wp_region_held_drew (S := fun w' => w'.cell? ⟨gT, 3, none⟩ = some (.pointer (some ⟨gA, 0, none⟩)) ∧ w'.heap[bx]? = some (.cells (encT x).toArray 34)) (by kernel_rfl) ⟨C2.out.base.tw.cN, F2.out⟩ (fun hHeld => ?_)
          try dsimp only at hHeld
          refine take_at (i := 0) (v := ?_) (some 82) rfl rfl (by kernel_rfl) (by kernel_rfl) (by kernel_rfl) (fun _ _ _ h => h) hHeld (by rfl) (fun wS hSw => ?_) ?_
          rotate_left
          · try dsimp only at hSw
            go_simp
            try with_reducible rfl
          try simp only [Act.put, List.setIfInBounds_toArray, List.set_cons_zero, List.set_cons_succ]
          refine take_at (i := 1) (v := ?_) (some 83) rfl rfl (by kernel_rfl) (by kernel_rfl) (by kernel_rfl) (fun _ _ _ h => h) hHeld (by rfl) (fun wS hSw => ?_) ?_
          rotate_left
          · try dsimp only at hSw
            go_simp
            try with_reducible rfl
          try simp only [Act.put, List.setIfInBounds_toArray, List.set_cons_zero, List.set_cons_succ]
          refine take_at (i := 2) (v := ?_) (some 84) rfl rfl (by kernel_rfl) (by kernel_rfl) (by kernel_rfl) (fun _ _ _ h => h) hHeld (by rfl) (fun wS hSw => ?_) ?_
          rotate_left
          · try dsimp only at hSw
            go_simp
            try with_reducible rfl
          try simp only [Act.put, List.setIfInBounds_toArray, List.set_cons_zero, List.set_cons_succ]
          refine take_at (i := 3) (v := ?_) (some 85) rfl rfl (by kernel_rfl) (by kernel_rfl) (by kernel_rfl) (fun _ _ _ h => h) hHeld (by rfl) (fun wS hSw => ?_) ?_
          rotate_left
          · try dsimp only at hSw
            go_simp
            try with_reducible rfl
          try simp only [Act.put, List.setIfInBounds_toArray, List.set_cons_zero, List.set_cons_succ]
          refine take_at (i := 4) (v := ?_) (some 86) rfl rfl (by kernel_rfl) (by kernel_rfl) (by kernel_rfl) (fun _ _ _ h => h) hHeld (by rfl) (fun wS hSw => ?_) ?_
          rotate_left
          · try dsimp only at hSw
            go_simp
            try with_reducible rfl
          try simp only [Act.put, List.setIfInBounds_toArray, List.set_cons_zero, List.set_cons_succ]
          refine take_at (i := 5) (v := ?_) (some 87) rfl rfl (by kernel_rfl) (by kernel_rfl) (by kernel_rfl) (fun _ _ _ h => h) hHeld (by rfl) (fun wS hSw => ?_) ?_
          rotate_left
          · have hS1 := hSw.1
            try dsimp only at hSw
            go_simp
            try with_reducible rfl
          try simp only [Act.put, List.setIfInBounds_toArray, List.set_cons_zero, List.set_cons_succ]
          refine take_at (i := 6) (v := ?_) (some 88) rfl rfl (by kernel_rfl) (by kernel_rfl) (by kernel_rfl) (fun _ _ _ h => h) hHeld (by rfl) (fun wS hSw => ?_) ?_
          rotate_left
          · refine exec_load_row 34 (.tmp 18) ?_ bx ?_ 34 (encT x).toArray (0, 0) _ hSw.2 Try.underlying34 rfl (by rw [List.size_toArray]; exact thing_info _) <;> rfl
          try simp only [Act.put, List.setIfInBounds_toArray, List.set_cons_zero, List.set_cons_succ]
          refine take_at (i := 7) (v := ?_) (some 89) rfl rfl (by kernel_rfl) (by kernel_rfl) (by kernel_rfl) (fun _ _ _ h => h) hHeld (by rfl) (fun wS hSw => ?_) ?_
          rotate_left
          · refine exec_build1 80 0 (.tmp 88) ?_ (.agg (encT x).toArray) ?_ (mkN x 0 0 0 0 0).C.toArray (built_node _) <;> rfl
          try simp only [Act.put, List.setIfInBounds_toArray, List.set_cons_zero, List.set_cons_succ]
          refine wpAnyH_ready (rs := [8]) (by kernel_rfl) (by simp) ?_
          refine AllReadyH.cons rfl (fun K hK => ?_) AllReadyH.nil
          simp only [List.getElem_toArray, List.getElem_cons_succ, List.getElem_cons_zero]
          go_simp
          refine (show Calls Try.prog 47 #[.pointer (some ⟨gA, 0, none⟩), .agg (mkN x 0 0 0 0 0).C.toArray] w2.drew _ from take_two (C2.out.below (Below.refl _ _).drew) x HX.out.1 HX.out.2.1 HX.out.2.2).mono ?_
          rintro e w3 ⟨F3, fr3, s3, p, rfl, hT3, hl3, hg3⟩
          have hbx : ¬ F' bx := HBX.out
          have hH3 : w3.cell? ⟨gT, 3, none⟩ = some (.pointer (some ⟨gA, 0, none⟩)) ∧ w3.heap[bx]? = some (.cells (encT x).toArray 34) := ⟨hT3.base.tw.cN, (hg3.step.block bx (Array.getElem?_eq_some_iff.1 hHeld.2).1 hbx).trans hHeld.2⟩
          have C3 := Lib.hid (And.intro hT3 (And.intro hl3 (And.intro ((Grow.of_below (Below.refl w2.heap.size w2).drew).trans hg3) (show OwnT w3 B0 (.slice (some ⟨bm, 0, none⟩) nm cM) M from own_step (show OwnT w2.drew B0 (.slice (some ⟨bm, 0, none⟩) nm cM) M from HM2.out.1) hg3.step HM2.out.2))))
          clear hT3 hl3 hg3 hbx
          try dsimp only
          have hOld := hHeld
          refine hK.out _ _ hH3 (fun _ => ?_)
          clear hK K
          refine wpAnyH_mono (S2 := fun w' => w'.cell? ⟨gT, 3, none⟩ = some (.pointer (some ⟨gA, 0, none⟩)) ∧ w'.heap[bx]? = some (.cells (encT x).toArray 34)) (fun _ h => h) _ _ _ _ ?_
          clear hHeld
          have hHeld := hH3
          clear hOld
          try simp only [Act.put, List.setIfInBounds_toArray, List.set_cons_zero, List.set_cons_succ]
          refine wpAnyH_ready (rs := [9]) (by kernel_rfl) (by simp) ?_
          refine AllReadyH.cons rfl (fun K hK => ?_) AllReadyH.nil
          simp only [List.getElem_toArray, List.getElem_cons_succ, List.getElem_cons_zero]
          go_simp
          refine (join_two C3.out.1).mono ?_
          rintro e w4 ⟨s4, A4, rfl, hT4, hn4, hl4, hg4⟩
          have hoff3 : Off (.slice (some ⟨bm, 0, none⟩) nm cM) F3 := HM2.out.2.grow C3.out.2.2.1 (fun k hk => own_lt HM2.out.1 hk)
          have hbx3 : ¬ F3 bx := fun hF => by
            rcases C3.out.2.2.1.new bx hF with e | e
            · exact HBX.out e
            · exact absurd (Array.getElem?_eq_some_iff.1 F2.out).1 (by omega)
          have hH4 : w4.cell? ⟨gT, 3, none⟩ = some (.pointer (some ⟨gA, 0, none⟩)) ∧ w4.heap[bx]? = some (.cells (encT x).toArray 34) := ⟨hT4.base.tw.cN, (hg4.step.block bx (Array.getElem?_eq_some_iff.1 hHeld.2).1 hbx3).trans hHeld.2⟩
          have C4 := Lib.hid (show St3 w F gT gA root X0 B' M n (.slice (some ⟨bm, 0, none⟩) nm cM) B0 (k + 1) (.int .i64 A4.rt) w4 from ⟨F3, s4, fr3, A4, rfl, hT4, by rw [things_of hn4, HA.out.1, HTK.out, List.append_assoc], own_step C3.out.2.2.2 hg4.step hoff3, hoff3, by rw [hl4, hn4, List.length_append, List.length_singleton]; have h1 := C3.out.2.1; have h2 := HA.out.2.1; omega, HA.out.2.2.trans (C3.out.2.2.1.trans hg4)⟩)
          clear hT4 hn4 hl4 hg4 hoff3 hbx3
          try dsimp only
          have hOld := hHeld
          refine hK.out _ _ hH4 (fun _ => ?_)
          clear hK K
          refine wpAnyH_mono (S2 := fun w' => w'.cell? ⟨gT, 3, none⟩ = some (.pointer (some ⟨gA, 0, none⟩)) ∧ w'.heap[bx]? = some (.cells (encT x).toArray 34)) (fun _ h => h) _ _ _ _ ?_
          clear hHeld
          have hHeld := hH4
          clear hOld
          try simp only [Act.put, List.setIfInBounds_toArray, List.set_cons_zero, List.set_cons_succ]
          refine take_at (i := 10) (v := ?_) (some 8) rfl rfl (by kernel_rfl) (by kernel_rfl) (by kernel_rfl) (fun _ _ _ h => h) hHeld (by rfl) (fun wS hSw => ?_) ?_
          rotate_left
          · try dsimp only at hSw
            go_simp
            try with_reducible rfl
          try simp only [Act.put, List.setIfInBounds_toArray, List.set_cons_zero, List.set_cons_succ]
          refine wpAnyH_done (by kernel_rfl) ?_ _
          clear hHeld hH4
          go_wp2_with fail
          go_roundw
          case rel => exact ⟨k + 1, _, by omega, rfl, by go_num, C4.out⟩
          case measure => simp [intOf]; omega
        · obtain rfl : k = nm := by omega
          have HCo := Lib.hid (concat_two hT)
          have HE3 := Lib.hid (And.intro hA (And.intro hl hg))
          clear hT hA hM hO hl hg
          go_wp2_with fail
          refine HCo.out.mono ?_
          clear HCo
          rintro e w5 ⟨s5, T5, rfl, hT5, hH5, hok5, hlv5, hth5, hl5, hg5⟩
          have hcR5 := hT5.cR
          have hfz5 := frozen_of_row w5 gT 4 _ _ hT5.blk
          have HT5 := Lib.hid (show TreeS (w5.setCell ⟨gT, 4, none⟩ (.int .i64 T5.rt)) F' gT gA T5 s5 fr' from ⟨hT5.setRoot _, hH5, hok5, hlv5⟩)
          have HFin := Lib.hid (And.intro hth5 (And.intro hl5 (HE3.out.2.2.trans hg5)))
          clear hT5 hH5 hok5 hlv5 hth5 hl5 hg5
          go_wp2_with fail
          go_end0
          have hgr := HFin.out.2.2
          refine ⟨fun q => F' q ∨ q = gT, ⟨_, rfl⟩, ⟨F', gA, T5, s5, fr', fun _ => Iff.rfl, HT5.out, ?_, ?_⟩, ⟨?_, fun q hq => ?_⟩⟩
          · rw [HFin.out.1, HE3.out.1, HB7.out, HRP.out, List.take_of_length_le (by rw [HNM.out]; exact Nat.le_refl _)]
          · have h1 := HE3.out.2.1
            rw [HFin.out.2.1, HRP.out, List.length_append, List.length_append]
            have h2 : A'.nodes.length = X0.length + M.length := by rw [← Tr.things_len, HE3.out.1, List.length_append, List.take_of_length_le (by rw [HNM.out]; exact Nat.le_refl _)]
            have h3 : B'.nodes.length = XB.tail.length := by rw [← Tr.things_len, HB7.out]
            have h4 := HXX.out.2.2
            omega
          · exact (hgr.step.mono (G := G) (fun q _ hq => (HG.out q).2 (.inl hq))).setCell (p := ⟨gT, 4, none⟩) (.inl ((HG.out gT).2 (.inr rfl))) _
          · rcases hq with hq | hq
            · rcases hgr.new q hq with e | e
              · exact .inl ((HG.out q).2 (.inl e))
              · exact .inr e
            · exact .inl ((HG.out q).2 (.inr hq))

end Go.Proofs.Ytbioomilnjikpaa
