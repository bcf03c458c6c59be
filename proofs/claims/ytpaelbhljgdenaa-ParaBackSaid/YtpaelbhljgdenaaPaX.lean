/-
  avl.Tree: melded, of things that are of size one and never melded.
-/
import Derived.Test.YtpaelbhljgdenaaPaW
import Derived.Deep.RegionLaw
import Derived.Deep.DeepCutAuto
import Derived.Deep.CutRange
import Derived.Deep.QuietTactic
import Derived.BigQuiet
namespace Go.Proofs.Ytpaelbhljgdenaa
open Go.RowKit

theorem meldStep_app (O : List Th) (x : Th) : meldStep O x = O ++ [x] := by
  unfold meldStep
  rw [if_neg (by unfold sizeT; decide)]
  split
  · rfl
  · rw [if_neg (by unfold meldB; decide)]
theorem meldF_id : ∀ (l O : List Th), l.foldl meldStep O = O ++ l
  | [], O => by simp
  | x :: l, O => by rw [List.foldl_cons, meldStep_app, meldF_id l, List.append_assoc]; rfl
theorem meldL_id (l : List Th) : meldL l = l := by rw [meldL, meldF_id]; rfl
theorem sumT_len (l : List Th) : sumT l = l.length := by
  induction l with
  | nil => rfl
  | cons x l ih => rw [sumT, ih, List.length_cons]; unfold sizeT; omega

theorem thing_cell {w : World} {b o : Nat} {t : Th} (h : w.rangeAt b o (encT t)) : w.cell? ⟨b, o, none⟩ = some (.slice t.A t.n t.c) := by
  have h0 := h 0 _ rfl
  rwa [Nat.add_zero] at h0
theorem run_thing1 (x : Th) (w : World) : (Instr.buildSlice 23 1 #[(0, .slice x.A x.n x.c)]).run Try.prog w = .ok (.slice (some ⟨w.heap.size, 0, none⟩) 1 1) (w.alloc (.cells (encT x).toArray 38)) := run_things x w

set_option maxRecDepth 100000 in
set_option maxHeartbeats 8000000 in
theorem melded_any {w : World} {F : Nat → Prop} {gT gA : Nat} {root : Int} {s : List (Option Nd)} {fr : List Nat} (h : TreeW w F gT gA root s fr) {B c : Nat} {A : Option Addr} {l : List Th} (hl : Sees w B 1 A l.length (rowT l)) (hB : B ≤ w.heap.size) (hc : l.length ≤ c) (_ : ∀ x ∈ l, okT x) (_ : sumT l ≤ 1000000000) (hn : l.length ≤ 200000) :
    Calls Try.prog 45 #[.pointer (some ⟨gT, 0, none⟩), .slice A l.length c] w fun e w' => ∃ v, e = .returned v ∧ OwnT w' w.heap.size v (meldL l) ∧ Below w.heap.size w w' := by
  obtain ⟨i0, ii0, iz0, iz1, iz2⟩ := info_parts thing_info4
  have HW := Lib.hid (fun (w1 : World) (hb : Below w.heap.size w w1) => h.below hb)
  have HL := Lib.hid (fun (w1 : World) (hb : Below w.heap.size w w1) => hl.below hb hB)
  obtain ⟨nl, hnl⟩ : ∃ n, l.length = n := ⟨_, rfl⟩
  have HN := Lib.hid hnl
  rw [hnl] at HL hn hc ⊢
  rw [meldL_id]
  have h0 : (nl : Int) ≤ 200000 := by omega
  clear h hl hnl
  go_enter Try.func45, Try.ntmps45
  go_wp2_with fail
  go_loopw [4, 14] (fun v4 v14 wr => ∃ (k : Nat) (v : Value), k ≤ nl ∧ v = v4 ∧ v14 = .int .i64 k ∧ OwnT wr w.heap.size v (l.take k) ∧ Below w.heap.size w wr) (fun _ v14 _ => nl - (intOf v14).toNat)
  case atStart => exact ⟨0, _, Nat.zero_le _, rfl, rfl, ⟨rfl, .inl ⟨rfl, rfl⟩⟩, Below.refl _ _⟩
  case round =>
    obtain ⟨k, v4, hk, rfl, rfl, hown, hbel⟩ := hrel
    by_cases hlt : k < nl
    · have hkI : (k : Int) < nl := by omega
      obtain ⟨x, hx⟩ : ∃ x, l[k]? = some x := ⟨_, List.getElem?_eq_getElem (by rw [HN.out]; exact hlt)⟩
      obtain ⟨-, b, o, rfl, hbB, hr⟩ := (HL.out wr hbel).thing hx
      have HTK := Lib.hid (show l.take (k + 1) = l.take k ++ [x] by rw [List.take_add_one, hx]; rfl)
      rw [Nat.mul_one] at hr
      have hcx := thing_cell hr
      obtain ⟨A4, c4, rfl, hc4, hm4⟩ := hown.shape
      have hlk : (l.take k).length = k := by rw [List.length_take, HN.out]; omega
      rw [hlk] at hc4 hown ⊢
      have HLK := Lib.hid hlk
      have hcM := (HW.out wr hbel).cM
      have HM := Lib.hid (fun w1 => measure_same x w1)
      have HO := Lib.hid (And.intro hown hbel)
      clear hx hr hown hbel hlk
      go_wp2_with fail
      refine (HM.out _).mono ?_
      rintro e w1 ⟨rfl, rfl⟩
      rcases Nat.eq_zero_or_pos k with hk0 | hk0
      · obtain rfl : 0 = k := hk0.symm
        clear hcx hcM hk
        obtain ⟨bz, hbz⟩ : ∃ v, wr.heap.size = v := ⟨_, rfl⟩
        obtain ⟨wa, hwa⟩ : ∃ v, wr.alloc (.cells (encT x).toArray 38) = v := ⟨_, rfl⟩
        have Ba : Below wr.heap.size wr wa := by rw [← hwa]; exact (Below.refl _ _).alloc (Nat.le_refl _) _
        have Ka := Lib.hid (HO.out.2.trans (Ba.mono HO.out.2.size))
        have Oa := Lib.hid (show OwnT wa w.heap.size (.slice A4 0 c4) (l.take 0) from OwnT.later HO.out.1 Ba)
        have Sa := Lib.hid (show Sees wa (bz + 1) 1 (some ⟨bz, 0, none⟩) 1 (rowT [x]) from Sees.things (by rw [rowT_one, ← hwa, ← hbz]; exact heap_alloc_new _ _))
        have HE := Lib.hid (show wr.alloc (.cells #[.slice x.A x.n x.c] 38) = wa ∧ wr.heap.size = bz from ⟨hwa, hbz⟩)
        clear hwa hbz Ba
        go_wp2_with (
             at_builtin
             rw [HE.out.1, HE.out.2]
             refine wpList_append_sees _ rfl _ _ _ rfl w.heap.size 38 i0 _ 1 24 Try.underlying23 ii0 iz0 iz1 iz2 rfl (by omega) _ 0 (rowT (l.take 0)) rfl (by have h1 := Oa.out; unfold OwnT at h1; rw [HLK.out] at h1; exact h1) (bz + 1) _ 1 1 (rowT [x]) rfl Sa.out (rowT_oneCell _) (by simp only [maxLen]; omega) (by omega) Ka.out.size ?_
             intro v5 w5 hown5 hg5 hat5 hnil5
             have K5 := Lib.hid (Ka.out.grown hg5 Ka.out.size (fun g hg => own_base Oa.out hg))
             have O5 := Lib.hid (show OwnT w5 w.heap.size v5 (l.take 0 ++ [x]) by unfold OwnT; rw [rowT_append, List.length_append, HLK.out]; exact hown5)
             clear hown5 hg5 hat5 hnil5)
        go_roundw
        case rel => exact ⟨0 + 1, _, by omega, rfl, by go_num, by rw [HTK.out]; exact O5.out, K5.out⟩
        case measure => simp [intOf]; omega
      · obtain ⟨m, rfl⟩ : ∃ m, k = m + 1 := ⟨k - 1, by omega⟩
        obtain ⟨y, hy⟩ : ∃ y, (l.take (m + 1))[m]? = some y := ⟨_, List.getElem?_eq_getElem (by rw [HLK.out]; omega)⟩
        obtain ⟨-, b4, rfl, -, -, hr4, -⟩ := HO.out.1.thing hy
        rw [Nat.mul_one] at hr4
        have HCY := Lib.hid (show wr.drew.cell? ⟨b4, m, none⟩ = some (.slice y.A y.n y.c) from thing_cell hr4)
        have HCD := Lib.hid (show wr.drew.cell? ⟨gT, 2, none⟩ = some (.func (.func 39) #[] #[]) from (HW.out wr HO.out.2).cD)
        have HD := Lib.hid (fun (z : Th) w1 => meld_same y z w1)
        have hmI : (m : Int) < (m : Int) + 1 := by omega
        clear hcx hcM hk hy hr4
        go_wp2_with fail
        refine wp_region_held_drew (S := fun w' => w'.cell? ⟨gT, 2, none⟩ = some (.func (.func 39) #[] #[]) ∧ w'.cell? ⟨b4, m, none⟩ = some (.slice y.A y.n y.c)) (by kernel_rfl) ⟨HCD.out, HCY.out⟩ (fun hHeld => ?_)
        try dsimp only at hHeld
        refine take_at (i := 0) (v := ?_) (some 36) rfl rfl (by kernel_rfl) (by kernel_rfl) (by kernel_rfl) (fun _ _ _ h => h) hHeld (by rfl) (fun wS hSw => ?_) ?_
        rotate_left
        · try dsimp only at hSw
          go_simp
          try with_reducible rfl
        try simp only [Act.put, List.setIfInBounds_toArray, List.set_cons_zero, List.set_cons_succ]
        refine take_at (i := 1) (v := ?_) (some 37) rfl rfl (by kernel_rfl) (by kernel_rfl) (by kernel_rfl) (fun _ _ _ h => h) hHeld (by rfl) (fun wS hSw => ?_) ?_
        rotate_left
        · try dsimp only at hSw
          go_simp
          try with_reducible rfl
        try simp only [Act.put, List.setIfInBounds_toArray, List.set_cons_zero, List.set_cons_succ]
        refine take_at (i := 2) (v := ?_) (some 38) rfl rfl (by kernel_rfl) (by kernel_rfl) (by kernel_rfl) (fun _ _ _ h => h) hHeld (by rfl) (fun wS hSw => ?_) ?_
        rotate_left
        · try dsimp only at hSw
          go_simp
          try with_reducible rfl
        try simp only [Act.put, List.setIfInBounds_toArray, List.set_cons_zero, List.set_cons_succ]
        refine take_at (i := 3) (v := ?_) (some 39) rfl rfl (by kernel_rfl) (by kernel_rfl) (by kernel_rfl) (fun _ _ _ h => h) hHeld (by rfl) (fun wS hSw => ?_) ?_
        rotate_left
        · try dsimp only at hSw
          go_simp
          try with_reducible rfl
        try simp only [Act.put, List.setIfInBounds_toArray, List.set_cons_zero, List.set_cons_succ]
        refine take_at (i := 4) (v := ?_) (some 40) rfl rfl (by kernel_rfl) (by kernel_rfl) (by kernel_rfl) (fun _ _ _ h => h) hHeld (by rfl) (fun wS hSw => ?_) ?_
        rotate_left
        · have hS1 := hSw.1
          try dsimp only at hSw
          go_simp
          try with_reducible rfl
        try simp only [Act.put, List.setIfInBounds_toArray, List.set_cons_zero, List.set_cons_succ]
        refine take_at (i := 5) (v := ?_) (some 41) rfl rfl (by kernel_rfl) (by kernel_rfl) (by kernel_rfl) (fun _ _ _ h => h) hHeld (by rfl) (fun wS hSw => ?_) ?_
        rotate_left
        · try dsimp only at hSw
          go_simp
          try with_reducible rfl
        try simp only [Act.put, List.setIfInBounds_toArray, List.set_cons_zero, List.set_cons_succ]
        refine take_at (i := 6) (v := ?_) (some 42) rfl rfl (by kernel_rfl) (by kernel_rfl) (by kernel_rfl) (fun _ _ _ h => h) hHeld (by rfl) (fun wS hSw => ?_) ?_
        rotate_left
        · try dsimp only at hSw
          go_simp
          try with_reducible rfl
        try simp only [Act.put, List.setIfInBounds_toArray, List.set_cons_zero, List.set_cons_succ]
        refine take_at (i := 7) (v := ?_) (some 43) rfl rfl (by kernel_rfl) (by kernel_rfl) (by kernel_rfl) (fun _ _ _ h => h) hHeld (by rfl) (fun wS hSw => ?_) ?_
        rotate_left
        · try dsimp only at hSw
          go_simp
          try with_reducible rfl
        try simp only [Act.put, List.setIfInBounds_toArray, List.set_cons_zero, List.set_cons_succ]
        refine take_at (i := 8) (v := ?_) (some 44) rfl rfl (by kernel_rfl) (by kernel_rfl) (by kernel_rfl) (fun _ _ _ h => h) hHeld (by rfl) (fun wS hSw => ?_) ?_
        rotate_left
        · have hS1 := hSw.2
          try dsimp only at hSw
          go_simp
          try with_reducible rfl
        try simp only [Act.put, List.setIfInBounds_toArray, List.set_cons_zero, List.set_cons_succ]
        refine take_at (i := 9) (v := ?_) (some 45) rfl rfl (by kernel_rfl) (by kernel_rfl) (by kernel_rfl) (fun _ _ _ h => h) hHeld (by rfl) (fun wS hSw => ?_) ?_
        rotate_left
        · try dsimp only at hSw
          go_simp
          try with_reducible rfl
        try simp only [Act.put, List.setIfInBounds_toArray, List.set_cons_zero, List.set_cons_succ]
        refine wpAnyH_ready (rs := [10]) (by kernel_rfl) (by simp) ?_
        refine AllReadyH.cons rfl (fun K hK => ?_) AllReadyH.nil
        simp only [List.getElem_toArray, List.getElem_cons_succ, List.getElem_cons_zero]
        go_simp
        refine (HD.out _ _).mono ?_
        rintro e w3 ⟨rfl, hw3⟩
        have hH3 : w3.cell? ⟨gT, 2, none⟩ = some (.func (.func 39) #[] #[]) ∧ w3.cell? ⟨b4, m, none⟩ = some (.slice y.A y.n y.c) := by rw [← hw3]; exact hHeld
        have HW3 := Lib.hid hw3
        clear hw3
        try dsimp only
        have hOld := hHeld
        refine hK.out _ _ hH3 (fun _ => ?_)
        clear hK K
        refine wpAnyH_mono (S2 := fun w' => w'.cell? ⟨gT, 2, none⟩ = some (.func (.func 39) #[] #[]) ∧ w'.cell? ⟨b4, m, none⟩ = some (.slice y.A y.n y.c)) (fun _ h => h) _ _ _ _ ?_
        clear hHeld
        have hHeld := hH3
        clear hOld
        try simp only [Act.put, List.setIfInBounds_toArray, List.set_cons_zero, List.set_cons_succ]
        refine take_at (i := 11) (v := ?_) (some 35) rfl rfl (by kernel_rfl) (by kernel_rfl) (by kernel_rfl) (fun _ _ _ h => h) hHeld (by rfl) (fun wS hSw => ?_) ?_
        rotate_left
        · try dsimp only at hSw
          go_simp
          try with_reducible rfl
        try simp only [Act.put, List.setIfInBounds_toArray, List.set_cons_zero, List.set_cons_succ]
        refine take_at (i := 12) (v := ?_) (some 47) rfl rfl (by kernel_rfl) (by kernel_rfl) (by kernel_rfl) (fun _ _ _ h => h) hHeld (by rfl) (fun wS hSw => ?_) ?_
        rotate_left
        · try dsimp only at hSw
          go_simp
          try with_reducible rfl
        try simp only [Act.put, List.setIfInBounds_toArray, List.set_cons_zero, List.set_cons_succ]
        refine take_at (i := 13) (v := ?_) (some 48) rfl rfl (by kernel_rfl) (by kernel_rfl) (by kernel_rfl) (fun _ _ _ h => h) hHeld (by rfl) (fun wS hSw => ?_) ?_
        rotate_left
        · try dsimp only at hSw
          go_simp
          try with_reducible rfl
        try simp only [Act.put, List.setIfInBounds_toArray, List.set_cons_zero, List.set_cons_succ]
        refine take_at (i := 14) (v := ?_) (some 10) rfl rfl (by kernel_rfl) (by kernel_rfl) (by kernel_rfl) (fun _ _ _ h => h) hHeld (by rfl) (fun wS hSw => ?_) ?_
        rotate_left
        · try dsimp only at hSw
          go_simp
          try with_reducible rfl
        try simp only [Act.put, List.setIfInBounds_toArray, List.set_cons_zero, List.set_cons_succ]
        refine take_at (i := 15) (v := ?_) (some 11) rfl rfl (by kernel_rfl) (by kernel_rfl) (by kernel_rfl) (fun _ _ _ h => h) hHeld (by rfl) (fun wS hSw => ?_) ?_
        rotate_left
        · try dsimp only at hSw
          go_simp
          try with_reducible rfl
        try simp only [Act.put, List.setIfInBounds_toArray, List.set_cons_zero, List.set_cons_succ]
        refine wpAnyH_done (by kernel_rfl) ?_ _
        have HO3 := Lib.hid (show OwnT w3 w.heap.size (.slice (some ⟨b4, 0, none⟩) (m + 1) c4) (l.take (m + 1)) ∧ Below w.heap.size w w3 by rw [← HW3.out]; exact ⟨HO.out.1, HO.out.2.drew⟩)
        clear hHeld
        try dsimp only
        obtain ⟨bz, hbz⟩ : ∃ v, w3.heap.size = v := ⟨_, rfl⟩
        obtain ⟨wa, hwa⟩ : ∃ v, w3.alloc (.cells (encT x).toArray 38) = v := ⟨_, rfl⟩
        have Ba : Below w3.heap.size w3 wa := by rw [← hwa]; exact (Below.refl _ _).alloc (Nat.le_refl _) _
        have Ka := Lib.hid (HO3.out.2.trans (Ba.mono HO3.out.2.size))
        have Oa := Lib.hid (show OwnT wa w.heap.size (.slice (some ⟨b4, 0, none⟩) (m + 1) c4) (l.take (m + 1)) from OwnT.later HO3.out.1 Ba)
        have Sa := Lib.hid (show Sees wa (bz + 1) 1 (some ⟨bz, 0, none⟩) 1 (rowT [x]) from Sees.things (by rw [rowT_one, ← hwa, ← hbz]; exact heap_alloc_new _ _))
        have HE := Lib.hid (show w3.alloc (.cells #[.slice x.A x.n x.c] 38) = wa ∧ w3.heap.size = bz from ⟨hwa, hbz⟩)
        clear hwa hbz Ba
        go_wp2_with (
             at_builtin
             rw [HE.out.1, HE.out.2]
             refine wpList_append_sees _ rfl _ _ _ rfl w.heap.size 38 i0 _ 1 24 Try.underlying23 ii0 iz0 iz1 iz2 rfl (by omega) _ (m + 1) (rowT (l.take (m + 1))) rfl (by have h1 := Oa.out; unfold OwnT at h1; rw [HLK.out] at h1; exact h1) (bz + 1) _ 1 1 (rowT [x]) rfl Sa.out (rowT_oneCell _) (by simp only [maxLen]; omega) (by omega) Ka.out.size ?_
             intro v5 w5 hown5 hg5 hat5 hnil5
             have K5 := Lib.hid (Ka.out.grown hg5 Ka.out.size (fun g hg => own_base Oa.out hg))
             have O5 := Lib.hid (show OwnT w5 w.heap.size v5 (l.take (m + 1) ++ [x]) by unfold OwnT; rw [rowT_append, List.length_append, HLK.out]; exact hown5)
             clear hown5 hg5 hat5 hnil5)
        go_roundw
        case rel => exact ⟨m + 1 + 1, _, by omega, rfl, by go_num, by rw [HTK.out]; exact O5.out, K5.out⟩
        case measure => simp [intOf]; omega
    · obtain rfl : k = nl := by omega
      have HTA := Lib.hid (show l.take k = l by rw [List.take_of_length_le (by rw [HN.out]; exact Nat.le_refl _)])
      have HOW := Lib.hid (And.intro hown hbel)
      clear hown hbel
      go_wp2_with fail
      go_ret
      exact ⟨_, rfl, by have h1 := HOW.out.1; rw [HTA.out] at h1; exact h1, HOW.out.2⟩

end Go.Proofs.Ytpaelbhljgdenaa
