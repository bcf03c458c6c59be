/-
  patch.Apply: a set with a patch on it.
-/
import Derived.Test.YtpaelbhljgdenaaPaW
import Derived.Test.YtpaelbhljgdenaaPaAt
import Derived.Deep.LoopGhost
import Derived.WalkMore
namespace Go.Proofs.Ytpaelbhljgdenaa
open Go.RowKit

theorem run_attr1 (x : At) (w : World) : (Instr.buildSlice 38 1 #[(0, .agg x.cells.toArray)]).run Try.prog w = .ok (.slice (some ⟨w.heap.size, 0, none⟩) 1 1) (w.alloc (.cells x.cells.toArray 72)) := by
  kernel_rfl
theorem built_attr (k : Int) (v : Vl) : Try.prog.built 72 [(0, .int .i64 k), (1, .agg v.cells.toArray)] = some (At.cells ⟨k, v⟩).toArray := by kernel_rfl
/-- A new block of one struct, as a slice. -/
theorem Sees.one_blk {α : Type} (enc : α → List Value) (C : Nat) (hC : ∀ x, (enc x).length = C) {w : World} {b : Nat} {x : α} {t : TypeId} (h : w.heap[b]? = some (.cells (enc x).toArray t)) : Sees w (b + 1) C (some ⟨b, 0, none⟩) 1 ([x].flatMap enc) := by
  have e : [x].flatMap enc = enc x := by simp
  rw [e]
  exact ⟨by rw [hC, Nat.one_mul], fun _ => ⟨b, 0, rfl, by omega, fun j u hu => by rw [cell_of_row w b _ _ _ _ h, Nat.zero_add]; simpa using hu⟩⟩
/-- 'k of them on', of structs. -/
theorem Sees.cutN {w : World} {B C n : Nat} {A : Option Addr} {xs : List Value} {k cap : Nat} (h : Sees w B C A n xs) (hk : k ≤ n) (hc : n ≤ cap) :
    Sees w B C (if cap = k then A else A.map (·.add (k * C))) (n - k) (xs.drop (k * C)) := by
  refine ⟨by rw [List.length_drop, h.1, Nat.sub_mul], fun hn => ?_⟩
  obtain ⟨b, o, rfl, hb, hcell⟩ := h.2 (by omega)
  rw [if_neg (by omega)]
  refine ⟨b, o + k * C, by simp only [Option.map_some, Addr.add_lit], hb, fun j u hu => ?_⟩
  rw [Nat.add_assoc]
  exact hcell _ u (by rw [← hu, List.getElem?_drop])
theorem rowA_drop (l : List At) : ∀ k, (rowA l).drop (k * 5) = rowA (l.drop k) := by
  induction l with
  | nil => intro k; simp [rowA]
  | cons a l ih =>
    intro k
    cases k with
    | zero => simp
    | succ k =>
      rw [List.drop_succ_cons, ← ih k]
      show (a.cells ++ rowA l).drop _ = _
      rw [show (k + 1) * 5 = a.cells.length + k * 5 by show _ = 5 + _; omega, List.drop_append, List.drop_of_length_le (Nat.le_add_right _ _), List.nil_append, Nat.add_sub_cancel_left]

theorem apply_lt {S : List At} {i : Nat} {a : At} {c : Ch} {p : List Ch} (h : S[i]? = some a) (hk : a.key < c.key) : applyP (S.drop i) (c :: p) = a :: applyP (S.drop (i + 1)) (c :: p) := by
  obtain ⟨hi, e⟩ := List.getElem?_eq_some_iff.1 h
  rw [List.drop_eq_getElem_cons hi, e]
  unfold applyP
  rw [List.takeWhile_cons_of_pos (by simpa using hk), List.dropWhile_cons_of_pos (by simpa using hk)]
  rfl
theorem apply_eq {S : List At} {i : Nat} {a : At} {c : Ch} {p : List Ch} (h : S[i]? = some a) (hk : a.key = c.key) : applyP (S.drop i) (c :: p) = putC c ++ applyP (S.drop (i + 1)) p := by
  obtain ⟨hi, e⟩ := List.getElem?_eq_some_iff.1 h
  rw [List.drop_eq_getElem_cons hi, e]
  unfold applyP
  rw [List.takeWhile_cons_of_neg (by simp; omega), List.dropWhile_cons_of_neg (by simp; omega), List.nil_append]
  show _ ++ applyP (if a.key = c.key then _ else _) p = _
  rw [if_pos hk]
  cases p <;> rfl
theorem apply_gt' {S : List At} {i : Nat} {a : At} {c : Ch} {p : List Ch} (h : S[i]? = some a) (hk : c.key < a.key) : applyP (S.drop i) (c :: p) = putC c ++ applyP (S.drop i) p := by
  obtain ⟨hi, e⟩ := List.getElem?_eq_some_iff.1 h
  rw [List.drop_eq_getElem_cons hi, e]
  rw [applyP, List.takeWhile_cons_of_neg (by simp; omega), List.dropWhile_cons_of_neg (by simp; omega), List.nil_append]
  show _ ++ applyP (if a.key = c.key then _ else _) p = _
  rw [if_neg (by omega)]
theorem apply_end {S : List At} {i : Nat} {c : Ch} {p : List Ch} (h : S.length ≤ i) : applyP (S.drop i) (c :: p) = putC c ++ applyP (S.drop i) p := by
  rw [List.drop_of_length_le h, applyP]
  rfl
theorem apply_len : ∀ (p : List Ch) (S : List At), (applyP S p).length ≤ S.length + p.length
  | [], S => by simp [applyP]
  | c :: p, S => by
    have h1 := apply_len p (dropK c.key (S.dropWhile fun a => decide (a.key < c.key)))
    have h2 := (dropK_sub c.key (S.dropWhile fun a => decide (a.key < c.key))).length_le
    have h3 : (S.takeWhile fun a => decide (a.key < c.key)).length + (S.dropWhile fun a => decide (a.key < c.key)).length = S.length := by rw [← List.length_append, List.takeWhile_append_dropWhile]
    have h4 : (putC c).length ≤ 1 := by unfold putC; split <;> simp
    unfold applyP
    rw [List.length_append, List.length_append, List.length_cons]
    omega

/-- Where the walk stands: what has been put, what is left. -/
def ApI (w : World) (S : List At) (R : List At) (i : Nat) (p : List Ch) (O : List At) (v : Value) (wr : World) : Prop :=
  i ≤ S.length ∧ OwnA wr w.heap.size v O ∧ Below w.heap.size w wr ∧ O ++ applyP (S.drop i) p = R

set_option maxRecDepth 100000 in
set_option maxHeartbeats 8000000 in
theorem apply_any {w : World} {B B' cS cP : Nat} {A A' : Option Addr} {S : List At} {p : List Ch} (hS : Sees w B 5 A S.length (rowA S)) (hP : Sees w B' 6 A' p.length (rowC p)) (hB : B ≤ w.heap.size) (hB' : B' ≤ w.heap.size) (hcS : S.length ≤ cS) (hn : S.length ≤ 100000) (hm : p.length ≤ 100000) :
    Calls Try.prog 28 #[.slice A S.length cS, .slice A' p.length cP] w fun e w' => ∃ v, e = .returned v ∧ OwnA w' w.heap.size v (applyP S p) ∧ Below w.heap.size w w' := by
  obtain ⟨i0, ii0, iz0, iz1, iz2⟩ := info_parts attr_info
  have HS := Lib.hid (fun (w1 : World) (hb : Below w.heap.size w w1) => hS.below hb hB)
  have HP := Lib.hid (fun (w1 : World) (hb : Below w.heap.size w w1) => hP.below hb hB')
  have HLn := Lib.hid (apply_len p S)
  obtain ⟨R, hR⟩ : ∃ R, applyP S p = R := ⟨_, rfl⟩
  have HR0 := Lib.hid hR
  rw [hR] at HLn ⊢
  obtain ⟨nS, hnS⟩ : ∃ n, S.length = n := ⟨_, rfl⟩
  obtain ⟨nP, hnP⟩ : ∃ n, p.length = n := ⟨_, rfl⟩
  have HNS := Lib.hid hnS
  have HNP := Lib.hid hnP
  rw [hnS] at HS HLn hn hcS ⊢
  rw [hnP] at HP HLn hm ⊢
  have h0 : (nS : Int) ≤ 100000 := by omega
  have h1 : (nP : Int) ≤ 100000 := by omega
  clear hS hP hR hnS hnP
  go_enter Try.func28, Try.ntmps28
  go_wp2
  go_step3
  go_wp2
  go_step3
  go_wp2
  go_loopg [5, 6, 11] nP (fun g v5 v6 v11 wr => ∃ (k i : Nat) (O : List At) (v : Value), k + g = nP ∧ v = v5 ∧ v6 = .int .i64 i ∧ v11 = .int .i64 k ∧ ApI w S R i (p.drop k) O v wr)
  case atStart => exact ⟨0, 0, [], _, Nat.zero_add _, rfl, rfl, rfl, Nat.zero_le _, ⟨rfl, .inl ⟨rfl, rfl⟩⟩, Below.refl _ _, by rw [List.drop_zero, List.drop_zero, List.nil_append]; exact HR0.out⟩
  case round =>
    obtain ⟨k, i, O, v5, hk, rfl, rfl, rfl, hi, hown, hbel, hrest⟩ := hrel
    have hOl : O.length ≤ nS + nP := by have h1 := HLn.out; rw [← hrest, List.length_append] at h1; omega
    have hi' : i ≤ nS := by rw [← HNS.out]; exact hi
    cases gk with
    | zero =>
      obtain rfl : k = nP := by omega
      have hkz : ¬ ((k : Int) < (k : Int)) := by omega
      have hdr : p.drop k = [] := by rw [List.drop_of_length_le (by rw [HNP.out]; exact Nat.le_refl _)]
      rw [hdr] at hrest
      have hOl2 : O.length ≤ 200000 := by omega
      obtain ⟨nO, hnO⟩ : ∃ n, O.length = n := ⟨_, rfl⟩
      have O5 := Lib.hid (show wr.ownsRow w.heap.size 72 5 v5 nO (rowA O) by have h := hown; unfold OwnA at h; rw [hnO] at h; exact h)
      have SC := Lib.hid (show Sees wr B 5 (if cS = i then A else A.map (·.add (i * 5))) (nS - i) (rowA (S.drop i)) from by rw [← rowA_drop]; exact (HS.out wr hbel).cutN hi' hcS)
      have HF := Lib.hid (And.intro hbel (And.intro hrest hnO))
      have hiI : (i : Int) ≤ nS := by omega
      have hicI : (i : Int) ≤ cS := by omega
      rw [hnO] at hOl2
      clear hown hbel hrest hOl hi hdr hnO
      go_wp2_with (
        at_builtin
        refine wpList_append_sees _ rfl _ _ _ rfl w.heap.size 72 i0 _ 5 48 Try.underlying38 ii0 iz0 iz1 iz2 rfl (by omega) _ nO (rowA O) rfl O5.out B _ (nS - i) _ (rowA (S.drop i)) rfl SC.out (rowA_oneCell _) (by simp only [maxLen]; omega) (by omega) HF.out.1.size ?_
        intro v6 w6 hown6 hg6 hat6 hnil6
        have R6 := Lib.hid (show OwnA w6 w.heap.size v6 R ∧ Below w.heap.size w w6 from ⟨by unfold OwnA; have h := HF.out.2.1; rw [show applyP (S.drop i) [] = S.drop i by cases S.drop i <;> rfl] at h; rw [← h, rowA_append, List.length_append, HF.out.2.2, List.length_drop, HNS.out]; exact hown6, HF.out.1.grown hg6 HF.out.1.size (fun g hg => own_base O5.out hg)⟩)
        clear hown6 hg6 hat6 hnil6)
      all_goals
        try rw [Exit.noGoto_ret]
        go_ret
        exact ⟨_, rfl, R6.out.1, R6.out.2⟩
    | succ g =>
      have hlt : k < nP := by omega
      have hkI : (k : Int) < nP := by omega
      obtain ⟨ch, hch⟩ : ∃ c, p[k]? = some c := ⟨_, List.getElem?_eq_getElem (by rw [HNP.out]; exact hlt)⟩
      have hdr : p.drop k = ch :: p.drop (k + 1) := by obtain ⟨h, e⟩ := List.getElem?_eq_some_iff.1 hch; rw [List.drop_eq_getElem_cons h, e]
      rw [hdr] at hrest
      obtain ⟨-, bp, op, rfl, -, hrp⟩ := (HP.out wr hbel).elem Ch.cells 6 (fun _ => rfl) hch
      obtain ⟨P', hP'⟩ : ∃ P', p.drop (k + 1) = P' := ⟨_, rfl⟩
      have HPP := Lib.hid hP'
      rw [hP'] at hrest
      obtain ⟨bx, hbx⟩ : ∃ v, wr.heap.size = v := ⟨_, rfl⟩
      obtain ⟨w2, hw2⟩ : ∃ v, wr.alloc (.cells ch.cells.toArray 46) = v := ⟨_, rfl⟩
      have B2 : Below wr.heap.size wr w2 := by rw [← hw2]; exact (Below.refl _ _).alloc (Nat.le_refl _) _
      have X2 := Lib.hid (show w2.heap[bx]? = some (.cells ch.cells.toArray 46) by rw [← hw2, ← hbx]; exact heap_alloc_new wr _)
      have I2 := Lib.hid (show ApI w S R i (ch :: P') O v5 w2 from ⟨hi, own_later hown B2, hbel.trans (B2.mono hbel.size), hrest⟩)
      have HE := Lib.hid (And.intro hw2 hbx)
      have HRp := Lib.hid hrp
      clear hi hown hbel hrest hOl hi' hch hdr hP' hbx hw2 B2 hrp
      have hiS : i ≤ nS := by have h := I2.out.1; rw [HNS.out] at h; exact h
      go_wp2_with (first
        | (refine wpList_load_mid rfl 46 (.tmp 13) rfl bp (op + k * 6) rfl ch.cells _ HRp.out Try.underlying46 rfl (ch_infoL ch) ?_)
        | (refine wpList_store_row rfl 46 (.tmp 8) (.tmp 14) rfl wr.heap.size ch.cells.toArray rfl rfl 46 _ (heap_alloc_new wr _) (ch_infoA ch) (by rfl) (all_oneCell_toArray ch.one) ?_; rw [alloc_setRow, HE.out.1, HE.out.2]))
      dsimp only [Act.put]
      go_loopg [5, 6] (nS - i) (fun g2 v5 v6 wi => ∃ (i : Nat) (O : List At) (v : Value), i + g2 = nS ∧ v = v5 ∧ v6 = .int .i64 i ∧ ApI w S R i (ch :: P') O v wi ∧ wi.heap[bx]? = some (.cells ch.cells.toArray 46))
      case atStart => exact ⟨i, O, _, by omega, rfl, rfl, I2.out, X2.out⟩
      case round =>
        clear X2 I2 HRp HE hiS O i v5
        rename World => wi
        obtain ⟨i, O, v5, hig, rfl, rfl, hI, hX⟩ := hrel
        have c0 : wi.cell? ⟨bx, 0, none⟩ = some (.int .i64 ch.key) := by rw [cell_of_row wi bx 0 _ _ _ hX]; rfl
        have c1 : wi.cell? ⟨bx, 1, none⟩ = some (.bool ch.gone) := by rw [cell_of_row wi bx 1 _ _ _ hX]; rfl
        have hOl : O.length ≤ 200000 := by have h1 := HLn.out; rw [← hI.2.2.2, List.length_append] at h1; omega
        obtain ⟨nO, hnO⟩ : ∃ n, O.length = n := ⟨_, rfl⟩
        have HNO := Lib.hid hnO
        rw [hnO] at hOl
        have HI := Lib.hid hI
        have HX := Lib.hid hX
        clear hI hX hnO
        cases gk with
        | zero =>
          obtain rfl : i = nS := by omega
          have hiz : ¬ ((i : Int) < (i : Int)) := by omega
          have HEnd := Lib.hid (apply_end (S := S) (i := i) (c := ch) (p := P') (by rw [HNS.out]; exact Nat.le_refl _))
          cases hcg : ch.gone with
          | true =>
            rw [hcg] at c1
            have HT := Lib.hid (show ApI w S R i P' O v5 wi from ⟨HI.out.1, HI.out.2.1, HI.out.2.2.1, by have h := HI.out.2.2.2; rw [HEnd.out] at h; unfold putC at h; rw [hcg] at h; exact h⟩)
            clear hcg
            go_wp2_with fail
            go_roundg g
            case measure => omega
            case rel => exact ⟨k + 1, i, O, _, by omega, rfl, rfl, by go_num, by rw [HPP.out]; exact HT.out⟩
          | false =>
            rw [hcg] at c1
            have HT := Lib.hid (show (O ++ [ch.at_]) ++ applyP (S.drop i) P' = R by have h := HI.out.2.2.2; rw [HEnd.out] at h; unfold putC at h; rw [hcg] at h; rw [List.append_assoc]; exact h)
            clear hcg
            have HVx := Lib.hid (show wi.rangeAt bx 2 ch.v.cells from fun j v hv => by rw [cell_of_row wi bx (2 + j) _ _ _ HX.out]; simpa [Ch.cells, Nat.add_comm] using hv)
            obtain ⟨bz, hbz⟩ : ∃ v, wi.heap.size = v := ⟨_, rfl⟩
            obtain ⟨wa, hwa⟩ : ∃ v, wi.alloc (.cells (ch.at_).cells.toArray 72) = v := ⟨_, rfl⟩
            have Ba := Lib.hid (show Below wi.heap.size wi wa by rw [← hwa]; exact (Below.refl _ _).alloc (Nat.le_refl _) _)
            have Sa := Lib.hid (show Sees wa (bz + 1) 5 (some ⟨bz, 0, none⟩) 1 (rowA [ch.at_]) from Sees.one_blk At.cells 5 (fun _ => rfl) (by rw [← hwa, ← hbz]; exact heap_alloc_new _ _))
            have HR := Lib.hid (run_attr1 (ch.at_) wi)
            rw [hwa, hbz] at HR
            have Oa := Lib.hid (show wa.ownsRow w.heap.size 72 5 v5 nO (rowA O) from by have h := own_later (HI.out.2.1) Ba.out; unfold OwnA at h; rw [HNO.out] at h; exact h)
            have Ka := Lib.hid ((HI.out.2.2.1).trans (Ba.out.mono (HI.out.2.2.1).size))
            have Xa := Lib.hid (show wa.heap[bx]? = some (.cells ch.cells.toArray 46) from heap_later HX.out Ba.out)
            clear hwa hbz
            go_wp2_with (first
              | (refine wpList_load_mid rfl 44 (.tmp 65) rfl bx 2 rfl ch.v.cells _ HVx.out Try.underlying44 rfl (val_infoL ch.v) ?_)
              | (refine wpList_known _ rfl (exec_build2 72 0 1 (.tmp 64) (.tmp 66) rfl (.int .i64 ch.key) (.agg ch.v.cells.toArray) rfl rfl _ (built_attr ch.key ch.v)) ?_)
              | (refine wpList_known _ rfl (v := .slice (some ⟨bz, 0, none⟩) 1 1) (w' := wa) (exec_slice1 38 (.tmp 67) rfl (.agg (ch.at_).cells.toArray) rfl HR.out) ?_)
              | (at_builtin
                 refine wpList_append_sees _ rfl _ _ _ rfl w.heap.size 72 i0 _ 5 48 Try.underlying38 ii0 iz0 iz1 iz2 rfl (by omega) _ nO (rowA O) rfl Oa.out (bz + 1) _ 1 1 (rowA [ch.at_]) rfl Sa.out (rowA_oneCell _) (by simp only [maxLen]; omega) (by omega) Ka.out.size ?_
                 intro v6 w6 hown6 hg6 hat6 hnil6
                 have R6 := Lib.hid (show OwnA w6 w.heap.size v6 (O ++ [ch.at_]) ∧ Below w.heap.size w w6 ∧ w6.heap[bx]? = some (.cells ch.cells.toArray 46) from ⟨by unfold OwnA; rw [rowA_append, List.length_append, HNO.out]; exact hown6, Ka.out.grown hg6 Ka.out.size (fun g hg => own_base Oa.out hg), (hg6.block bx (Array.getElem?_eq_some_iff.1 Xa.out).1 (fun e => own_row_blk Oa.out Xa.out (by decide) e.symm)).trans Xa.out⟩)
                 clear hown6 hg6 hat6 hnil6))
            go_roundg g
            case measure => omega
            case rel => exact ⟨k + 1, i, O ++ [ch.at_], _, by omega, rfl, rfl, by go_num, HI.out.1, R6.out.1, R6.out.2.1, by rw [HPP.out]; exact HT.out⟩
        | succ g2 =>
          have hlt2 : i < nS := by omega
          have hiI : (i : Int) < nS := by omega
          obtain ⟨a, ha⟩ : ∃ a, S[i]? = some a := ⟨_, List.getElem?_eq_getElem (by rw [HNS.out]; exact hlt2)⟩
          obtain ⟨-, bs, os, rfl, -, hrs⟩ := (HS.out wi HI.out.2.2.1).elem At.cells 5 (fun _ => rfl) ha
          have cs : wi.cell? ⟨bs, os + i * 5, none⟩ = some (.int .i64 a.key) := hrs 0 _ rfl
          have HRs := Lib.hid hrs
          have HA := Lib.hid ha
          clear ha hrs
          by_cases hab : a.key < ch.key
          · have HT := Lib.hid (show (O ++ [a]) ++ applyP (S.drop (i + 1)) (ch :: P') = R by have h := HI.out.2.2.2; rw [apply_lt HA.out hab] at h; rw [List.append_assoc]; exact h)
            go_wp2_with fail
            go_quiet (fail)
            obtain ⟨wq, hwq⟩ : ∃ v, wi.drewN nq = v := ⟨_, rfl⟩
            have IQ := Lib.hid (show ApI w S R i (ch :: P') O v5 wq by rw [← hwq]; exact ⟨HI.out.1, HI.out.2.1, below_drewN HI.out.2.2.1 nq, HI.out.2.2.2⟩)
            have XQ := Lib.hid (show wq.heap[bx]? = some (.cells ch.cells.toArray 46) by rw [← hwq]; exact HX.out)
            have RQ := Lib.hid (show wq.rangeAt bs (os + i * 5) a.cells by rw [← hwq]; exact HRs.out)
            have c0q : wq.cell? ⟨bx, 0, none⟩ = some (.int .i64 ch.key) := by rw [cell_of_row wq bx 0 _ _ _ XQ.out]; rfl
            have c1q : wq.cell? ⟨bx, 1, none⟩ = some (.bool ch.gone) := by rw [cell_of_row wq bx 1 _ _ _ XQ.out]; rfl
            have csq : wq.cell? ⟨bs, os + i * 5, none⟩ = some (.int .i64 a.key) := RQ.out 0 _ rfl
            rw [hwq]
            clear hwq c0 c1 cs
            obtain ⟨bz, hbz⟩ : ∃ v, wq.heap.size = v := ⟨_, rfl⟩
            obtain ⟨wa, hwa⟩ : ∃ v, wq.alloc (.cells (a).cells.toArray 72) = v := ⟨_, rfl⟩
            have Ba := Lib.hid (show Below wq.heap.size wq wa by rw [← hwa]; exact (Below.refl _ _).alloc (Nat.le_refl _) _)
            have Sa := Lib.hid (show Sees wa (bz + 1) 5 (some ⟨bz, 0, none⟩) 1 (rowA [a]) from Sees.one_blk At.cells 5 (fun _ => rfl) (by rw [← hwa, ← hbz]; exact heap_alloc_new _ _))
            have HR := Lib.hid (run_attr1 (a) wq)
            rw [hwa, hbz] at HR
            have Oa := Lib.hid (show wa.ownsRow w.heap.size 72 5 v5 nO (rowA O) from by have h := own_later (IQ.out.2.1) Ba.out; unfold OwnA at h; rw [HNO.out] at h; exact h)
            have Ka := Lib.hid ((IQ.out.2.2.1).trans (Ba.out.mono (IQ.out.2.2.1).size))
            have Xa := Lib.hid (show wa.heap[bx]? = some (.cells ch.cells.toArray 46) from heap_later XQ.out Ba.out)
            clear hwa hbz
            go_wp2_with (first
              | (refine wpList_load_mid rfl 72 (.tmp 33) rfl bs (os + i * 5) rfl a.cells _ RQ.out Try.underlying72 rfl (attr_infoL a) ?_)
              | (refine wpList_known _ rfl (v := .slice (some ⟨bz, 0, none⟩) 1 1) (w' := wa) (exec_slice1 38 (.tmp 34) rfl (.agg (a).cells.toArray) rfl HR.out) ?_)
              | (at_builtin
                 refine wpList_append_sees _ rfl _ _ _ rfl w.heap.size 72 i0 _ 5 48 Try.underlying38 ii0 iz0 iz1 iz2 rfl (by omega) _ nO (rowA O) rfl Oa.out (bz + 1) _ 1 1 (rowA [a]) rfl Sa.out (rowA_oneCell _) (by simp only [maxLen]; omega) (by omega) Ka.out.size ?_
                 intro v6 w6 hown6 hg6 hat6 hnil6
                 have R6 := Lib.hid (show OwnA w6 w.heap.size v6 (O ++ [a]) ∧ Below w.heap.size w w6 ∧ w6.heap[bx]? = some (.cells ch.cells.toArray 46) from ⟨by unfold OwnA; rw [rowA_append, List.length_append, HNO.out]; exact hown6, Ka.out.grown hg6 Ka.out.size (fun g hg => own_base Oa.out hg), (hg6.block bx (Array.getElem?_eq_some_iff.1 Xa.out).1 (fun e => own_row_blk Oa.out Xa.out (by decide) e.symm)).trans Xa.out⟩)
                 clear hown6 hg6 hat6 hnil6))
            go_roundg g2
            case measure => omega
            case rel => exact ⟨i + 1, O ++ [a], _, by omega, rfl, by go_num, ⟨by rw [HNS.out]; omega, R6.out.1, R6.out.2.1, HT.out⟩, R6.out.2.2⟩
          · by_cases hae : a.key = ch.key
            · have hd1 : decide (a.key < ch.key) = false := by simpa using hab
              have hd2 : (a.key == ch.key) = true := by simp [hae]
              have HEq := Lib.hid (apply_eq (p := P') HA.out hae)
              clear hae
              go_wp2_with fail
              go_quiet (fail)
              obtain ⟨wq, hwq⟩ : ∃ v, wi.drewN nq = v := ⟨_, rfl⟩
              have IQ := Lib.hid (show ApI w S R i (ch :: P') O v5 wq by rw [← hwq]; exact ⟨HI.out.1, HI.out.2.1, below_drewN HI.out.2.2.1 nq, HI.out.2.2.2⟩)
              have XQ := Lib.hid (show wq.heap[bx]? = some (.cells ch.cells.toArray 46) by rw [← hwq]; exact HX.out)
              have RQ := Lib.hid (show wq.rangeAt bs (os + i * 5) a.cells by rw [← hwq]; exact HRs.out)
              have c0q : wq.cell? ⟨bx, 0, none⟩ = some (.int .i64 ch.key) := by rw [cell_of_row wq bx 0 _ _ _ XQ.out]; rfl
              have c1q : wq.cell? ⟨bx, 1, none⟩ = some (.bool ch.gone) := by rw [cell_of_row wq bx 1 _ _ _ XQ.out]; rfl
              have csq : wq.cell? ⟨bs, os + i * 5, none⟩ = some (.int .i64 a.key) := RQ.out 0 _ rfl
              rw [hwq]
              clear hwq c0 c1 cs
              go_wp2_with fail
              go_quiet (fail)
              obtain ⟨wz, hwz⟩ : ∃ v, wq.drewN nq = v := ⟨_, rfl⟩
              have IZ := Lib.hid (show ApI w S R i (ch :: P') O v5 wz by rw [← hwz]; exact ⟨IQ.out.1, IQ.out.2.1, below_drewN IQ.out.2.2.1 _, IQ.out.2.2.2⟩)
              have XZ := Lib.hid (show wz.heap[bx]? = some (.cells ch.cells.toArray 46) by rw [← hwz]; exact XQ.out)
              have c1z : wz.cell? ⟨bx, 1, none⟩ = some (.bool ch.gone) := by rw [cell_of_row wz bx 1 _ _ _ XZ.out]; rfl
              have c0z : wz.cell? ⟨bx, 0, none⟩ = some (.int .i64 ch.key) := by rw [cell_of_row wz bx 0 _ _ _ XZ.out]; rfl
              rw [hwz]
              clear hwz c0q c1q csq
              cases hcg : ch.gone with
              | true =>
                rw [hcg] at c1z
                have HT := Lib.hid (show ApI w S R (i + 1) P' O v5 wz from ⟨by rw [HNS.out]; omega, IZ.out.2.1, IZ.out.2.2.1, by have h := IZ.out.2.2.2; rw [HEq.out] at h; unfold putC at h; rw [hcg] at h; exact h⟩)
                clear hcg
                go_wp2_with fail
                go_roundg g
                case measure => omega
                case rel => exact ⟨k + 1, i + 1, O, _, by omega, rfl, by go_num, by go_num, by rw [HPP.out]; exact HT.out⟩
              | false =>
                rw [hcg] at c1z
                have HT := Lib.hid (show (O ++ [ch.at_]) ++ applyP (S.drop (i + 1)) P' = R by have h := IZ.out.2.2.2; rw [HEq.out] at h; unfold putC at h; rw [hcg] at h; rw [List.append_assoc]; exact h)
                clear hcg
                have HVx := Lib.hid (show wz.rangeAt bx 2 ch.v.cells from fun j v hv => by rw [cell_of_row wz bx (2 + j) _ _ _ XZ.out]; simpa [Ch.cells, Nat.add_comm] using hv)
                obtain ⟨bz, hbz⟩ : ∃ v, wz.heap.size = v := ⟨_, rfl⟩
                obtain ⟨wa, hwa⟩ : ∃ v, wz.alloc (.cells (ch.at_).cells.toArray 72) = v := ⟨_, rfl⟩
                have Ba := Lib.hid (show Below wz.heap.size wz wa by rw [← hwa]; exact (Below.refl _ _).alloc (Nat.le_refl _) _)
                have Sa := Lib.hid (show Sees wa (bz + 1) 5 (some ⟨bz, 0, none⟩) 1 (rowA [ch.at_]) from Sees.one_blk At.cells 5 (fun _ => rfl) (by rw [← hwa, ← hbz]; exact heap_alloc_new _ _))
                have HR := Lib.hid (run_attr1 (ch.at_) wz)
                rw [hwa, hbz] at HR
                have Oa := Lib.hid (show wa.ownsRow w.heap.size 72 5 v5 nO (rowA O) from by have h := own_later (IZ.out.2.1) Ba.out; unfold OwnA at h; rw [HNO.out] at h; exact h)
                have Ka := Lib.hid ((IZ.out.2.2.1).trans (Ba.out.mono (IZ.out.2.2.1).size))
                have Xa := Lib.hid (show wa.heap[bx]? = some (.cells ch.cells.toArray 46) from heap_later XZ.out Ba.out)
                clear hwa hbz
                go_wp2_with (first
                  | (refine wpList_load_mid rfl 44 (.tmp 54) rfl bx 2 rfl ch.v.cells _ HVx.out Try.underlying44 rfl (val_infoL ch.v) ?_)
                  | (refine wpList_known _ rfl (exec_build2 72 0 1 (.tmp 53) (.tmp 55) rfl (.int .i64 ch.key) (.agg ch.v.cells.toArray) rfl rfl _ (built_attr ch.key ch.v)) ?_)
                  | (refine wpList_known _ rfl (v := .slice (some ⟨bz, 0, none⟩) 1 1) (w' := wa) (exec_slice1 38 (.tmp 56) rfl (.agg (ch.at_).cells.toArray) rfl HR.out) ?_)
                  | (at_builtin
                     refine wpList_append_sees _ rfl _ _ _ rfl w.heap.size 72 i0 _ 5 48 Try.underlying38 ii0 iz0 iz1 iz2 rfl (by omega) _ nO (rowA O) rfl Oa.out (bz + 1) _ 1 1 (rowA [ch.at_]) rfl Sa.out (rowA_oneCell _) (by simp only [maxLen]; omega) (by omega) Ka.out.size ?_
                     intro v6 w6 hown6 hg6 hat6 hnil6
                     have R6 := Lib.hid (show OwnA w6 w.heap.size v6 (O ++ [ch.at_]) ∧ Below w.heap.size w w6 ∧ w6.heap[bx]? = some (.cells ch.cells.toArray 46) from ⟨by unfold OwnA; rw [rowA_append, List.length_append, HNO.out]; exact hown6, Ka.out.grown hg6 Ka.out.size (fun g hg => own_base Oa.out hg), (hg6.block bx (Array.getElem?_eq_some_iff.1 Xa.out).1 (fun e => own_row_blk Oa.out Xa.out (by decide) e.symm)).trans Xa.out⟩)
                     clear hown6 hg6 hat6 hnil6))
                go_roundg g
                case measure => omega
                case rel => exact ⟨k + 1, i + 1, O ++ [ch.at_], _, by omega, rfl, by go_num, by go_num, by rw [HNS.out]; omega, R6.out.1, R6.out.2.1, by rw [HPP.out]; exact HT.out⟩
            · have hd1 : decide (a.key < ch.key) = false := by simpa using hab
              have hd2 : (a.key == ch.key) = false := by simp [hae]
              have HEq := Lib.hid (apply_gt' (p := P') HA.out (show ch.key < a.key by omega))
              clear hae
              go_wp2_with fail
              go_quiet (fail)
              obtain ⟨wq, hwq⟩ : ∃ v, wi.drewN nq = v := ⟨_, rfl⟩
              have IQ := Lib.hid (show ApI w S R i (ch :: P') O v5 wq by rw [← hwq]; exact ⟨HI.out.1, HI.out.2.1, below_drewN HI.out.2.2.1 nq, HI.out.2.2.2⟩)
              have XQ := Lib.hid (show wq.heap[bx]? = some (.cells ch.cells.toArray 46) by rw [← hwq]; exact HX.out)
              have RQ := Lib.hid (show wq.rangeAt bs (os + i * 5) a.cells by rw [← hwq]; exact HRs.out)
              have c0q : wq.cell? ⟨bx, 0, none⟩ = some (.int .i64 ch.key) := by rw [cell_of_row wq bx 0 _ _ _ XQ.out]; rfl
              have c1q : wq.cell? ⟨bx, 1, none⟩ = some (.bool ch.gone) := by rw [cell_of_row wq bx 1 _ _ _ XQ.out]; rfl
              have csq : wq.cell? ⟨bs, os + i * 5, none⟩ = some (.int .i64 a.key) := RQ.out 0 _ rfl
              rw [hwq]
              clear hwq c0 c1 cs
              go_wp2_with fail
              go_quiet (fail)
              obtain ⟨wz, hwz⟩ : ∃ v, wq.drewN nq = v := ⟨_, rfl⟩
              have IZ := Lib.hid (show ApI w S R i (ch :: P') O v5 wz by rw [← hwz]; exact ⟨IQ.out.1, IQ.out.2.1, below_drewN IQ.out.2.2.1 _, IQ.out.2.2.2⟩)
              have XZ := Lib.hid (show wz.heap[bx]? = some (.cells ch.cells.toArray 46) by rw [← hwz]; exact XQ.out)
              have c1z : wz.cell? ⟨bx, 1, none⟩ = some (.bool ch.gone) := by rw [cell_of_row wz bx 1 _ _ _ XZ.out]; rfl
              have c0z : wz.cell? ⟨bx, 0, none⟩ = some (.int .i64 ch.key) := by rw [cell_of_row wz bx 0 _ _ _ XZ.out]; rfl
              rw [hwz]
              clear hwz c0q c1q csq
              cases hcg : ch.gone with
              | true =>
                rw [hcg] at c1z
                have HT := Lib.hid (show ApI w S R (i) P' O v5 wz from ⟨by rw [HNS.out]; omega, IZ.out.2.1, IZ.out.2.2.1, by have h := IZ.out.2.2.2; rw [HEq.out] at h; unfold putC at h; rw [hcg] at h; exact h⟩)
                clear hcg
                go_wp2_with fail
                go_roundg g
                case measure => omega
                case rel => exact ⟨k + 1, i, O, _, by omega, rfl, by go_num, by go_num, by rw [HPP.out]; exact HT.out⟩
              | false =>
                rw [hcg] at c1z
                have HT := Lib.hid (show (O ++ [ch.at_]) ++ applyP (S.drop (i)) P' = R by have h := IZ.out.2.2.2; rw [HEq.out] at h; unfold putC at h; rw [hcg] at h; rw [List.append_assoc]; exact h)
                clear hcg
                have HVx := Lib.hid (show wz.rangeAt bx 2 ch.v.cells from fun j v hv => by rw [cell_of_row wz bx (2 + j) _ _ _ XZ.out]; simpa [Ch.cells, Nat.add_comm] using hv)
                obtain ⟨bz, hbz⟩ : ∃ v, wz.heap.size = v := ⟨_, rfl⟩
                obtain ⟨wa, hwa⟩ : ∃ v, wz.alloc (.cells (ch.at_).cells.toArray 72) = v := ⟨_, rfl⟩
                have Ba := Lib.hid (show Below wz.heap.size wz wa by rw [← hwa]; exact (Below.refl _ _).alloc (Nat.le_refl _) _)
                have Sa := Lib.hid (show Sees wa (bz + 1) 5 (some ⟨bz, 0, none⟩) 1 (rowA [ch.at_]) from Sees.one_blk At.cells 5 (fun _ => rfl) (by rw [← hwa, ← hbz]; exact heap_alloc_new _ _))
                have HR := Lib.hid (run_attr1 (ch.at_) wz)
                rw [hwa, hbz] at HR
                have Oa := Lib.hid (show wa.ownsRow w.heap.size 72 5 v5 nO (rowA O) from by have h := own_later (IZ.out.2.1) Ba.out; unfold OwnA at h; rw [HNO.out] at h; exact h)
                have Ka := Lib.hid ((IZ.out.2.2.1).trans (Ba.out.mono (IZ.out.2.2.1).size))
                have Xa := Lib.hid (show wa.heap[bx]? = some (.cells ch.cells.toArray 46) from heap_later XZ.out Ba.out)
                clear hwa hbz
                go_wp2_with (first
                  | (refine wpList_load_mid rfl 44 (.tmp 54) rfl bx 2 rfl ch.v.cells _ HVx.out Try.underlying44 rfl (val_infoL ch.v) ?_)
                  | (refine wpList_known _ rfl (exec_build2 72 0 1 (.tmp 53) (.tmp 55) rfl (.int .i64 ch.key) (.agg ch.v.cells.toArray) rfl rfl _ (built_attr ch.key ch.v)) ?_)
                  | (refine wpList_known _ rfl (v := .slice (some ⟨bz, 0, none⟩) 1 1) (w' := wa) (exec_slice1 38 (.tmp 56) rfl (.agg (ch.at_).cells.toArray) rfl HR.out) ?_)
                  | (at_builtin
                     refine wpList_append_sees _ rfl _ _ _ rfl w.heap.size 72 i0 _ 5 48 Try.underlying38 ii0 iz0 iz1 iz2 rfl (by omega) _ nO (rowA O) rfl Oa.out (bz + 1) _ 1 1 (rowA [ch.at_]) rfl Sa.out (rowA_oneCell _) (by simp only [maxLen]; omega) (by omega) Ka.out.size ?_
                     intro v6 w6 hown6 hg6 hat6 hnil6
                     have R6 := Lib.hid (show OwnA w6 w.heap.size v6 (O ++ [ch.at_]) ∧ Below w.heap.size w w6 ∧ w6.heap[bx]? = some (.cells ch.cells.toArray 46) from ⟨by unfold OwnA; rw [rowA_append, List.length_append, HNO.out]; exact hown6, Ka.out.grown hg6 Ka.out.size (fun g hg => own_base Oa.out hg), (hg6.block bx (Array.getElem?_eq_some_iff.1 Xa.out).1 (fun e => own_row_blk Oa.out Xa.out (by decide) e.symm)).trans Xa.out⟩)
                     clear hown6 hg6 hat6 hnil6))
                go_roundg g
                case measure => omega
                case rel => exact ⟨k + 1, i, O ++ [ch.at_], _, by omega, rfl, by go_num, by go_num, by rw [HNS.out]; omega, R6.out.1, R6.out.2.1, by rw [HPP.out]; exact HT.out⟩

end Go.Proofs.Ytpaelbhljgdenaa
