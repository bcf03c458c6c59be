/-
  The walk of rubriclaw08.ArenaKeeps.
-/
import Derived.Test.YteelmlhknfbjdaaArenaP
import Derived.Test.YteelmlhknfbjdaaOpen
namespace Go.Proofs.Yteelmlhknfbjdaa
open Go.RowKit Go.Maps

theorem ops_get (l : List OpR) (k j : Nat) (hj : j < 3) : (l.flatMap OpR.cells)[k * 3 + j]? = (l[k]?).bind fun o => o.cells[j]? := by
  induction l generalizing k with
  | nil => simp
  | cons o l ih =>
    have h3 : o.cells.length = 3 := rfl
    rw [List.flatMap_cons]
    cases k with
    | zero => rw [List.getElem?_append_left (by omega)]; simp
    | succ k =>
      rw [List.getElem?_append_right (by omega), h3, show (k + 1) * 3 + j - 3 = k * 3 + j by omega, ih k]
      simp

theorem nextOf_le {α : Type} {s : List (Option α)} {fr : List Nat} (hok : ArOk s fr) : nextOf s fr ≤ s.length := by
  rcases List.eq_nil_or_concat fr with rfl | ⟨fr, j, rfl⟩
  · simp [nextOf]
  · have hs : s[j]? = some none := (hok.iff j).1 (by simp)
    have hl := (List.getElem?_eq_some_iff.1 hs).1
    have hn : nextOf s (fr.concat j) = j := by simp [nextOf]
    omega

theorem zero64 (w : World) : (zeroValue 2).run Try.prog w = .ok (.int .i64 0) w := by kernel_rfl

set_option maxRecDepth 100000 in
set_option maxHeartbeats 4000000 in
theorem keeps_any (A : Option Addr) (m c : Nat) (l : List OpR) (w : World) (hs : Sees w w.heap.size 3 A m (l.flatMap OpR.cells)) (hl : l.length = m) (hm : m ≤ 200) (hw : ∀ o ∈ l, o.Fits) :
    Calls Try.prog 4 #[.slice A m c] w fun e w' => e = .returned (.bool true) ∧ Below w.heap.size w w' := by
  have hmm := @run_makeMap Try.prog
  have hmI : (m : Int) ≤ 200 := by omega
  have HW := Lib.hid hw
  have HL := Lib.hid hl
  clear hw hl
  go_enter Try.func4, Try.ntmps4
  go_wp2_with fail
  refine (newS_F _).mono ?_
  rintro e w1 ⟨F1, g, rfl, h1, hb1, hl1⟩
  go_wp2_with fail
  have hz1 := hb1.size
  have P0 : Play8 w.heap.size w g w1.heap.size 0 (w1.alloc (.map #[] 0)) F1 [] [] (.map []) :=
    ⟨h1.below ((Below.refl _ _).alloc (Nat.le_refl _) _), ArOk.nil_, World.ownsMap_made _ _ _ _, hz1, (fun hF => by have := h1.lt _ hF; omega), ⟨Nat.le_refl _, hb1.alloc hz1 _, hl1⟩⟩
  have Q0 : Pure8 [] [] (.map []) := ⟨Agree8.nil_, tidy_empty, rfl⟩
  obtain ⟨b, hb⟩ : ∃ b, w1.heap.size = b := ⟨_, rfl⟩
  rw [hb] at P0 ⊢
  clear h1 hl1 hz1 hb hb1
  go_loopw [34, 6] (fun v34 v6 wr => ∃ (k : Nat) (F : Nat → Prop) (s : List (Option ByteArray)) (fr : List Nat) (D : DataW Unit), k ≤ m ∧ v34 = .int .i64 k ∧ v6 = .int .i64 s.length ∧ s.length ≤ k ∧ Play8 w.heap.size w g b k wr F s fr D ∧ Pure8 s fr D) (fun v34 _ _ => m - (intOf v34).toNat)
  case atStart => exact ⟨0, F1, [], [], .map [], Nat.zero_le _, rfl, rfl, Nat.le_refl _, P0, Q0⟩
  case round =>
    clear P0 Q0
    obtain ⟨k, F, s, fr, D, hkm, rfl, rfl, hsk, R, Q⟩ := hrel
    by_cases hlt : k < m
    · obtain ⟨ab, ao, rfl, hab, hcell⟩ := hs.2 (by omega)
      obtain ⟨⟨kd, I, X⟩, ho⟩ : ∃ o, l[k]? = some o := ⟨_, List.getElem?_eq_getElem (by have := HL.out; omega)⟩
      have hf := HW.out _ (List.mem_of_getElem? ho)
      have hc0 := R.keeps.below.cell (p := ⟨ab, ao + (k * 3 + 0), none⟩) hab
      have hc1 := R.keeps.below.cell (p := ⟨ab, ao + (k * 3 + 1), none⟩) hab
      have hc2 := R.keeps.below.cell (p := ⟨ab, ao + (k * 3 + 2), none⟩) hab
      rw [hcell (k * 3 + 0) (.int .i64 kd) (by rw [ops_get l k 0 (by omega), ho]; rfl)] at hc0
      rw [hcell (k * 3 + 1) (.int .i64 I) (by rw [ops_get l k 1 (by omega), ho]; rfl)] at hc1
      rw [hcell (k * 3 + 2) (.int .i64 X) (by rw [ops_get l k 2 (by omega), ho]; rfl)] at hc2
      rw [Nat.add_zero] at hc0
      rw [← Nat.add_assoc] at hc1 hc2
      obtain ⟨wf0, wf1, wf2⟩ := hf
      clear hcell
      obtain ⟨bx, hbx⟩ : ∃ bx, wr.heap.size = bx := ⟨_, rfl⟩
      obtain ⟨wx, hwx⟩ : ∃ wx, wr.alloc (.cells #[.int .i64 kd, .int .i64 I, .int .i64 X] 40) = wx := ⟨_, rfl⟩
      have RA := R.below ((Below.refl _ wr).alloc (Nat.le_refl _) (.cells #[.int .i64 kd, .int .i64 I, .int .i64 X] 40))
      have hx1 : wx.cell? ⟨bx, 1, none⟩ = some (.int .i64 I) := by
        rw [← hwx, cell_of_row _ bx 1 _ _ _ (by rw [← hbx]; exact heap_alloc_new wr _)]; rfl
      have hx2 : wx.cell? ⟨bx, 2, none⟩ = some (.int .i64 X) := by
        rw [← hwx, cell_of_row _ bx 2 _ _ _ (by rw [← hbx]; exact heap_alloc_new wr _)]; rfl
      have hbl : bx < wx.heap.size := by rw [← hwx, ← hbx]; simp
      have hmap := RA.map
      rw [hwx] at RA
      have hFx : ¬ F bx := fun hF => by have := R.ar.lt _ hF; omega
      have HFX := Lib.hid hFx
      have hbx8 : bx ≠ b := fun e => by have := R.map.lt; omega
      have HX := Lib.hid (And.intro hbx hwx)
      clear hbx hwx hFx
      have hkI : (k : Int) < m := by omega
      go_upto_block 2 with (first
        | (at_lookup; refine wpList_lookup_own_ok_int _ rfl _ _ 38 rfl 3 2 .i64 (int_keyed Try.underlying3) Try.underlying38 Try.underlying2 (zero64 _) b k D rfl hmap _ (K8 I) rfl (keyOf_int_mk Try.underlying3 wf1) ?_; intro c1 hat1 hwc1))
      rw [HX.out.2, HX.out.1]
      clear hc0 hc1 hc2 HX hmap
      have ROK := R.ok
      clear R
      go_cut [10, 11, 12, 13] from 35 to 100 (fun _ _ _ _ wx => ∃ (F' : Nat → Prop) (s' : List (Option ByteArray)) (fr' : List Nat) (D' : DataW Unit), Play8 w.heap.size w g b (k + 1) wx F' s' fr' D' ∧ Pure8 s' fr' D' ∧ max s.length (Maps.size D') = s'.length ∧ s'.length ≤ s.length + 1)
      case first =>
        by_cases h1 : kd = 1
        · subst h1
          go_wp2_with fail
          refine (text_any X _).mono ?_
          rintro e w2 ⟨rfl, hb2⟩
          have R2 := RA.below hb2
          go_wp2_with fail
          refine (takeS_F R2.ar R2.ok (by omega) (textB X)).mono ?_
          rintro e w3 ⟨F3, rfl, ha3, hg3⟩
          have R3 := R2.arena ha3 (R2.ok.take _) hg3
          have hx2' : w3.cell? ⟨bx, 2, none⟩ = some (.int .i64 X) := ((World.cell?_of_block (w := w2) (a := ⟨bx, 2, none⟩) (hg3.step.block bx (Nat.lt_of_lt_of_le hbl hb2.size) HFX.out)).trans (hb2.cell (p := ⟨bx, 2, none⟩) hbl)).trans hx2
          obtain ⟨q1, q2, q3, q4⟩ := Q.take ROK X
          have hmap := R3.map
          have wfn : (Lit.int .i64 (nextOf s fr : Int)).wf = true := WalkArith.wf_i64 (by have := nextOf_le ROK; omega)
          have hn0 : (0 : Int) ≤ (nextOf s fr : Int) := by omega
          have R3 := Lib.hid R3
          clear ha3 hg3 hb2 R2 hx1 hx2
          go_wp2_with (first
            | (at_lookup; refine wpList_lookup_own_ok_int _ rfl _ _ 38 rfl 3 2 .i64 (int_keyed Try.underlying3) Try.underlying38 Try.underlying2 (zero64 _) b k D rfl hmap _ (K8 (nextOf s fr)) rfl (keyOf_int_mk Try.underlying3 wfn) ?_; intro c2 hat2 hwc2; rw [q2])
            | (at_mapUpdate; refine wpList_mapUpdate_own _ rfl _ _ _ 38 rfl 3 2 (int_keyed Try.underlying3) Try.underlying38 _ b k _ rfl hmap (by unfold maxLen; omega) _ _ (K8 (nextOf s fr)) rfl rfl (keyOf_int_mk Try.underlying3 wfn) _ [] (plainElem_int Try.underlying2 wf2) ?_; intro w4 hmap4 hgm4))
          go_meet
          case rel => exact ⟨F3, _, _, _, R3.out.set hmap4 hgm4, q1, q3, q4⟩
        · by_cases h2 : kd = 2
          · subst h2
            clear h1
            cases hlk : look s I with
            | none =>
              have hh := (Q.agree I).1 hlk
              have hd := del_of_not_has hh
              have HF := Lib.hid (freeS_Fno RA.ar (by omega) hlk)
              have hmap := RA.map
              rw [hh]
              go_wp2_with fail
              refine HF.out.mono ?_
              rintro e w' ⟨rfl, rfl⟩
              go_wp2_with (at_delete; refine wpList_delete_own _ rfl _ _ 38 3 rfl 2 (int_keyed Try.underlying3) Try.underlying38 _ b k D rfl hmap _ (K8 I) rfl (keyOf_int_mk Try.underlying3 wf1) ?_; intro w3 hmap3 hturn3)
              go_meet
              case rel => exact ⟨F, s, fr, D, (RA.set (hd ▸ hmap3) hturn3.grown).more (by omega), Q, by have := Q.size; omega, by omega⟩
            | some y =>
              obtain ⟨n, rfl, hn, hny⟩ := look_some hlk
              have hq : s[n]? = some (some y) := by rw [List.getElem?_eq_getElem hn, hny]
              obtain ⟨q1, q2, q3⟩ := Q.free hq
              have HF := Lib.hid (freeS_F RA.ar RA.ok (by omega) hq)
              rw [q2]
              clear hlk hny hn
              go_wp2_with fail
              refine HF.out.mono ?_
              rintro e w2 ⟨F2, rfl, ha2, hg2⟩
              have R2 := RA.arena ha2 (ROK.free hq) hg2
              have hmap := R2.map
              have hx1' : w2.cell? ⟨bx, 1, none⟩ = some (.int .i64 (n : Int)) := (World.cell?_of_block (w := wx) (a := ⟨bx, 1, none⟩) (hg2.step.block bx hbl HFX.out)).trans hx1
              have R2 := Lib.hid R2
              clear ha2 hg2 hx1 hx2
              go_wp2_with (at_delete; refine wpList_delete_own _ rfl _ _ 38 3 rfl 2 (int_keyed Try.underlying3) Try.underlying38 _ b k D rfl hmap _ (K8 n) rfl (keyOf_int_mk Try.underlying3 wf1) ?_; intro w3 hmap3 hturn3)
              go_meet
              case rel => exact ⟨F2, _, _, _, (R2.out.set hmap3 hturn3.grown).more (by omega), q1, q3, by rw [List.length_set]; omega⟩
          · by_cases h3 : kd = 3
            · subst h3
              clear h2
              cases hlk : look s I with
              | none =>
                have hh := (Q.agree I).1 hlk
                rw [hh]
                go_wp2_with fail
                refine wp_region_held_drew (S := fun w' => w'.cell? ⟨bx, 1, none⟩ = some (.int .i64 I) ∧ w'.cell? ⟨bx, 2, none⟩ = some (.int .i64 X)) (by kernel_rfl) ⟨hx1, hx2⟩ (fun hHeld => ?_)
                try dsimp only at hHeld
                refine take_at (i := 0) (v := ?_) (some 84) rfl rfl (by kernel_rfl) (by kernel_rfl) (by kernel_rfl) (fun _ _ _ h => h) hHeld (by rfl) (fun wS hSw => ?_) ?_
                rotate_left
                · try dsimp only at hSw
                  go_simp
                  try with_reducible rfl
                try simp only [Act.put, List.setIfInBounds_toArray, List.set_cons_zero, List.set_cons_succ]
                refine take_at (i := 1) (v := ?_) (some 85) rfl rfl (by kernel_rfl) (by kernel_rfl) (by kernel_rfl) (fun _ _ _ h => h) hHeld (by rfl) (fun wS hSw => ?_) ?_
                rotate_left
                · try dsimp only at hSw
                  go_simp
                  try with_reducible rfl
                try simp only [Act.put, List.setIfInBounds_toArray, List.set_cons_zero, List.set_cons_succ]
                refine take_at (i := 2) (v := ?_) (some 86) rfl rfl (by kernel_rfl) (by kernel_rfl) (by kernel_rfl) (fun _ _ _ h => h) hHeld (by rfl) (fun wS hSw => ?_) ?_
                rotate_left
                · try dsimp only at hSw
                  go_simp
                  try with_reducible rfl
                try simp only [Act.put, List.setIfInBounds_toArray, List.set_cons_zero, List.set_cons_succ]
                refine take_at (i := 3) (v := ?_) (some 87) rfl rfl (by kernel_rfl) (by kernel_rfl) (by kernel_rfl) (fun _ _ _ h => h) hHeld (by rfl) (fun wS hSw => ?_) ?_
                rotate_left
                · try dsimp only at hSw
                  go_simp
                  try with_reducible rfl
                try simp only [Act.put, List.setIfInBounds_toArray, List.set_cons_zero, List.set_cons_succ]
                refine take_at (i := 4) (v := ?_) (some 88) rfl rfl (by kernel_rfl) (by kernel_rfl) (by kernel_rfl) (fun _ _ _ h => h) hHeld (by rfl) (fun wS hSw => ?_) ?_
                rotate_left
                · try dsimp only at hSw
                  go_simp
                  try with_reducible rfl
                try simp only [Act.put, List.setIfInBounds_toArray, List.set_cons_zero, List.set_cons_succ]
                refine take_at (i := 5) (v := ?_) (some 89) rfl rfl (by kernel_rfl) (by kernel_rfl) (by kernel_rfl) (fun _ _ _ h => h) hHeld (by rfl) (fun wS hSw => ?_) ?_
                rotate_left
                · try dsimp only at hSw
                  go_simp
                  try with_reducible rfl
                try simp only [Act.put, List.setIfInBounds_toArray, List.set_cons_zero, List.set_cons_succ]
                refine take_at (i := 9) (v := ?_) (some 93) rfl rfl (by kernel_rfl) (by kernel_rfl) (by kernel_rfl) (fun _ _ _ h => h) hHeld (by rfl) (fun wS hSw => ?_) ?_
                rotate_left
                · try dsimp only at hSw
                  go_simp
                  try with_reducible rfl
                try simp only [Act.put, List.setIfInBounds_toArray, List.set_cons_zero, List.set_cons_succ]
                refine wpAnyH_ready (rs := [6]) (by kernel_rfl) (by simp) ?_
                refine AllReadyH.cons rfl (fun K hK => ?_) AllReadyH.nil
                simp only [List.getElem_toArray, List.getElem_cons_succ, List.getElem_cons_zero]
                go_simp
                refine (text_any X _).mono ?_
                rintro e w2 ⟨rfl, hb2⟩
                have R2 := (RA.drewN 1).below hb2
                have hz1 : w2.cell? ⟨bx, 1, none⟩ = some (.int .i64 I) := (hb2.cell (p := ⟨bx, 1, none⟩) hbl).trans hx1
                have hz2 : w2.cell? ⟨bx, 2, none⟩ = some (.int .i64 X) := (hb2.cell (p := ⟨bx, 2, none⟩) hbl).trans hx2
                dsimp only
                have hOld := hHeld
                refine hK.out _ _ ⟨hz1, hz2⟩ (fun _ => ?_)
                clear hK K
                refine wpAnyH_mono (S2 := fun w' => w'.cell? ⟨bx, 1, none⟩ = some (.int .i64 I) ∧ w'.cell? ⟨bx, 2, none⟩ = some (.int .i64 X)) (fun _ h => h) _ _ _ _ ?_
                clear hHeld
                have hHeld := And.intro hz1 hz2
                clear hOld
                try simp only [Act.put, List.setIfInBounds_toArray, List.set_cons_zero, List.set_cons_succ]
                refine wpAnyH_ready (rs := [7]) (by kernel_rfl) (by simp) ?_
                refine AllReadyH.cons rfl (fun K hK => ?_) AllReadyH.nil
                simp only [List.getElem_toArray, List.getElem_cons_succ, List.getElem_cons_zero]
                go_simp
                refine (putS_Fno R2.ar (by omega) (textB X) hlk).mono ?_
                rintro e w' ⟨rfl, rfl⟩
                dsimp only
                have hOld := hHeld
                refine hK.out _ _ ⟨hz1, hz2⟩ (fun _ => ?_)
                clear hK K
                refine wpAnyH_mono (S2 := fun w' => w'.cell? ⟨bx, 1, none⟩ = some (.int .i64 I) ∧ w'.cell? ⟨bx, 2, none⟩ = some (.int .i64 X)) (fun _ h => h) _ _ _ _ ?_
                clear hHeld
                have hHeld := And.intro hz1 hz2
                clear hOld
                try simp only [Act.put, List.setIfInBounds_toArray, List.set_cons_zero, List.set_cons_succ]
                refine take_at (i := 8) (v := ?_) (some 92) rfl rfl (by kernel_rfl) (by kernel_rfl) (by kernel_rfl) (fun _ _ _ h => h) hHeld (by rfl) (fun wS hSw => ?_) ?_
                rotate_left
                · try dsimp only at hSw
                  go_simp
                  try with_reducible rfl
                try simp only [Act.put, List.setIfInBounds_toArray, List.set_cons_zero, List.set_cons_succ]
                refine take_at (i := 10) (v := ?_) (some 94) rfl rfl (by kernel_rfl) (by kernel_rfl) (by kernel_rfl) (fun _ _ _ h => h) hHeld (by rfl) (fun wS hSw => ?_) ?_
                rotate_left
                · try dsimp only at hSw
                  go_simp
                  try with_reducible rfl
                try simp only [Act.put, List.setIfInBounds_toArray, List.set_cons_zero, List.set_cons_succ]
                refine wpAnyH_done (by kernel_rfl) ?_ _
                clear hHeld
                go_wp2_with fail
                go_meet
                case rel => exact ⟨F, s, fr, D, R2.more (by omega), Q, by have := Q.size; omega, by omega⟩
              | some y =>
                obtain ⟨n, rfl, hn, hny⟩ := look_some hlk
                have hq : s[n]? = some (some y) := by rw [List.getElem?_eq_getElem hn, hny]
                obtain ⟨q1, q2, q3⟩ := Q.put hq X
                rw [q2]
                clear hlk hny hn
                go_wp2_with fail
                refine wp_region_held_drew (S := fun w' => w'.cell? ⟨bx, 1, none⟩ = some (.int .i64 (n : Int)) ∧ w'.cell? ⟨bx, 2, none⟩ = some (.int .i64 X)) (by kernel_rfl) ⟨hx1, hx2⟩ (fun hHeld => ?_)
                try dsimp only at hHeld
                refine take_at (i := 0) (v := ?_) (some 84) rfl rfl (by kernel_rfl) (by kernel_rfl) (by kernel_rfl) (fun _ _ _ h => h) hHeld (by rfl) (fun wS hSw => ?_) ?_
                rotate_left
                · try dsimp only at hSw
                  go_simp
                  try with_reducible rfl
                try simp only [Act.put, List.setIfInBounds_toArray, List.set_cons_zero, List.set_cons_succ]
                refine take_at (i := 1) (v := ?_) (some 85) rfl rfl (by kernel_rfl) (by kernel_rfl) (by kernel_rfl) (fun _ _ _ h => h) hHeld (by rfl) (fun wS hSw => ?_) ?_
                rotate_left
                · try dsimp only at hSw
                  go_simp
                  try with_reducible rfl
                try simp only [Act.put, List.setIfInBounds_toArray, List.set_cons_zero, List.set_cons_succ]
                refine take_at (i := 2) (v := ?_) (some 86) rfl rfl (by kernel_rfl) (by kernel_rfl) (by kernel_rfl) (fun _ _ _ h => h) hHeld (by rfl) (fun wS hSw => ?_) ?_
                rotate_left
                · try dsimp only at hSw
                  go_simp
                  try with_reducible rfl
                try simp only [Act.put, List.setIfInBounds_toArray, List.set_cons_zero, List.set_cons_succ]
                refine take_at (i := 3) (v := ?_) (some 87) rfl rfl (by kernel_rfl) (by kernel_rfl) (by kernel_rfl) (fun _ _ _ h => h) hHeld (by rfl) (fun wS hSw => ?_) ?_
                rotate_left
                · try dsimp only at hSw
                  go_simp
                  try with_reducible rfl
                try simp only [Act.put, List.setIfInBounds_toArray, List.set_cons_zero, List.set_cons_succ]
                refine take_at (i := 4) (v := ?_) (some 88) rfl rfl (by kernel_rfl) (by kernel_rfl) (by kernel_rfl) (fun _ _ _ h => h) hHeld (by rfl) (fun wS hSw => ?_) ?_
                rotate_left
                · try dsimp only at hSw
                  go_simp
                  try with_reducible rfl
                try simp only [Act.put, List.setIfInBounds_toArray, List.set_cons_zero, List.set_cons_succ]
                refine take_at (i := 5) (v := ?_) (some 89) rfl rfl (by kernel_rfl) (by kernel_rfl) (by kernel_rfl) (fun _ _ _ h => h) hHeld (by rfl) (fun wS hSw => ?_) ?_
                rotate_left
                · try dsimp only at hSw
                  go_simp
                  try with_reducible rfl
                try simp only [Act.put, List.setIfInBounds_toArray, List.set_cons_zero, List.set_cons_succ]
                refine take_at (i := 9) (v := ?_) (some 93) rfl rfl (by kernel_rfl) (by kernel_rfl) (by kernel_rfl) (fun _ _ _ h => h) hHeld (by rfl) (fun wS hSw => ?_) ?_
                rotate_left
                · try dsimp only at hSw
                  go_simp
                  try with_reducible rfl
                try simp only [Act.put, List.setIfInBounds_toArray, List.set_cons_zero, List.set_cons_succ]
                refine wpAnyH_ready (rs := [6]) (by kernel_rfl) (by simp) ?_
                refine AllReadyH.cons rfl (fun K hK => ?_) AllReadyH.nil
                simp only [List.getElem_toArray, List.getElem_cons_succ, List.getElem_cons_zero]
                go_simp
                refine (text_any X _).mono ?_
                rintro e w2 ⟨rfl, hb2⟩
                have R2 := (RA.drewN 1).below hb2
                have hz1 : w2.cell? ⟨bx, 1, none⟩ = some (.int .i64 (n : Int)) := (hb2.cell (p := ⟨bx, 1, none⟩) hbl).trans hx1
                have hz2 : w2.cell? ⟨bx, 2, none⟩ = some (.int .i64 X) := (hb2.cell (p := ⟨bx, 2, none⟩) hbl).trans hx2
                dsimp only
                have hOld := hHeld
                refine hK.out _ _ ⟨hz1, hz2⟩ (fun _ => ?_)
                clear hK K
                refine wpAnyH_mono (S2 := fun w' => w'.cell? ⟨bx, 1, none⟩ = some (.int .i64 (n : Int)) ∧ w'.cell? ⟨bx, 2, none⟩ = some (.int .i64 X)) (fun _ h => h) _ _ _ _ ?_
                clear hHeld
                have hHeld := And.intro hz1 hz2
                clear hOld
                try simp only [Act.put, List.setIfInBounds_toArray, List.set_cons_zero, List.set_cons_succ]
                refine wpAnyH_ready (rs := [7]) (by kernel_rfl) (by simp) ?_
                refine AllReadyH.cons rfl (fun K hK => ?_) AllReadyH.nil
                simp only [List.getElem_toArray, List.getElem_cons_succ, List.getElem_cons_zero]
                go_simp
                refine (putS_F R2.ar (by omega) hq (textB X)).mono ?_
                rintro e w3 ⟨F3, rfl, ha3, hg3⟩
                have R3 := R2.arena ha3 (R2.ok.put hq _) hg3
                have hy1 : w3.cell? ⟨bx, 1, none⟩ = some (.int .i64 (n : Int)) := (World.cell?_of_block (w := w2) (a := ⟨bx, 1, none⟩) (hg3.step.block bx (Nat.lt_of_lt_of_le hbl hb2.size) HFX.out)).trans hz1
                have hy2 : w3.cell? ⟨bx, 2, none⟩ = some (.int .i64 X) := (World.cell?_of_block (w := w2) (a := ⟨bx, 2, none⟩) (hg3.step.block bx (Nat.lt_of_lt_of_le hbl hb2.size) HFX.out)).trans hz2
                have hmap := R3.map
                have R3 := Lib.hid R3
                clear ha3 hg3
                dsimp only
                have hOld := hHeld
                refine hK.out _ _ ⟨hy1, hy2⟩ (fun _ => ?_)
                clear hK K
                refine wpAnyH_mono (S2 := fun w' => w'.cell? ⟨bx, 1, none⟩ = some (.int .i64 (n : Int)) ∧ w'.cell? ⟨bx, 2, none⟩ = some (.int .i64 X)) (fun _ h => h) _ _ _ _ ?_
                clear hHeld
                have hHeld := And.intro hy1 hy2
                clear hOld
                try simp only [Act.put, List.setIfInBounds_toArray, List.set_cons_zero, List.set_cons_succ]
                refine take_at (i := 8) (v := ?_) (some 92) rfl rfl (by kernel_rfl) (by kernel_rfl) (by kernel_rfl) (fun _ _ _ h => h) hHeld (by rfl) (fun wS hSw => ?_) ?_
                rotate_left
                · try dsimp only at hSw
                  go_simp
                  try with_reducible rfl
                try simp only [Act.put, List.setIfInBounds_toArray, List.set_cons_zero, List.set_cons_succ]
                refine take_at (i := 10) (v := ?_) (some 94) rfl rfl (by kernel_rfl) (by kernel_rfl) (by kernel_rfl) (fun _ _ _ h => h) hHeld (by rfl) (fun wS hSw => ?_) ?_
                rotate_left
                · try dsimp only at hSw
                  go_simp
                  try with_reducible rfl
                try simp only [Act.put, List.setIfInBounds_toArray, List.set_cons_zero, List.set_cons_succ]
                refine wpAnyH_done (by kernel_rfl) ?_ _
                clear hHeld
                go_wp2_with (at_mapUpdate; refine wpList_mapUpdate_own _ rfl _ _ _ 38 rfl 3 2 (int_keyed Try.underlying3) Try.underlying38 _ b k _ rfl hmap (by unfold maxLen; omega) _ _ (K8 n) rfl rfl (keyOf_int_mk Try.underlying3 wf1) _ [] (plainElem_int Try.underlying2 wf2) ?_; intro w4 hmap4 hgm4)
                go_meet
                case rel => exact ⟨F3, _, _, _, R3.out.set hmap4 hgm4, q1, q3, by rw [List.length_set]; omega⟩
            · have e1 : (kd == 1) = false := by simp [h1]
              have e2 : (kd == 2) = false := by simp [h2]
              have e3 : (kd == 3) = false := by simp [h3]
              clear h1 h2 h3
              go_wp2_with fail
              go_meet
              case rel => exact ⟨F, s, fr, D, RA.more (by omega), Q, by have := Q.size; omega, by omega⟩
      case rest =>
        obtain ⟨F', s', fr', D', R', Q', hmx, hle⟩ := hcut
        have hmap := R'.map
        go_upto_region 27 with (fail)
        go_cut [6] from 101 to 104 (fun v6 wx => v6 = .int .i64 s'.length ∧ wx = wc)
        case first =>
          by_cases hc : s.length < Maps.size D'
          · have HE := Lib.hid (show Maps.size D' = s'.length by omega)
            go_wp2_with (at_len; refine wpList_len_own _ rfl _ 38 rfl 3 2 Try.underlying38 _ b _ D' rfl hmap ?_)
            go_meet
            case rel => exact ⟨by rw [HE.out], rfl⟩
          · have HE := Lib.hid (show s.length = s'.length by omega)
            go_wp2_with (at_len; refine wpList_len_own _ rfl _ 38 rfl 3 2 Try.underlying38 _ b _ D' rfl hmap ?_)
            go_meet
            case rel => exact ⟨by rw [HE.out], rfl⟩
        case rest =>
          obtain ⟨rfl, rfl⟩ := hcut
          clear hs hab hx1 hx2 hbl HFX hbx8 RA ROK Q hmx
          go_wp2_with (at_range; refine wpList_range_own _ rfl _ 38 rfl 3 2 (int_keyed Try.underlying3) Try.underlying38 _ b _ D' rfl hmap ?_; intro w5 hrg5 hg5 hs5)
          obtain ⟨r, hr⟩ : ∃ r, wc.heap.size = r := ⟨_, rfl⟩
          have hrF : ¬ F' r := fun hF => by have := R'.ar.lt _ hF; omega
          have hrb : r ≠ b := fun e => by have := R'.map.lt; omega
          have hrB : w.heap.size ≤ r := by have := R'.keeps.below.size; omega
          have R5 := R'.below (w' := w5) ⟨hg5.os, hg5.tape, hg5.output, hg5.size, fun j hj => hg5.block j hj (by simp)⟩
          rw [hr] at hrg5 ⊢
          clear hr hg5 hs5 hmap R'
          go_loopw [14] (fun _ wr => ∃ (left : Lit → Bool) (cnt : Nat), wr.ranges Try.prog 3 (plainElem Try.prog 2) b r (k + 1) D' left cnt ∧ Play8 w.heap.size w g b (k + 1) wr F' s' fr' D') (fun _ wr => wr.rangeLeft b r)
          case atStart => exact ⟨_, _, hrg5, R5⟩
          case round =>
            obtain ⟨left, cnt, hrg, R6⟩ := hrel
            clear hrg5 R5
            go_wp2_with (at_next; refine wpList_next_ranges_ii _ rfl _ rfl 3 2 .i64 .i64 (int_keyed Try.underlying3) Try.underlying3 Try.underlying2 b r (k + 1) _ _ _ rfl hrg ?_ ?_)
            · intro hc0 hl0
              have HQ := Lib.hid Q'
              have HLN := Lib.hid (lenS_F R6.ar R6.ok (by omega))
              clear hc0 hl0
              go_wp2_with fail
              refine HLN.out.mono ?_
              rintro e w' ⟨rfl, n2, rfl⟩
              rw [show ((s'.length : Int) - fr'.length) = (Maps.size D' : Int) by have := HQ.out.size; omega]
              have R7 := R6.drewN n2
              have hmap := R7.map
              have HCP := Lib.hid (capS_F R7.ar)
              go_wp2_with (at_len; refine wpList_len_own _ rfl _ 38 rfl 3 2 Try.underlying38 _ b _ D' rfl hmap ?_)
              refine HCP.out.mono ?_
              rintro e w' ⟨rfl, rfl⟩
              go_wp2_with fail
              go_roundw
              case rel => exact ⟨k + 1, F', s', fr', D', by omega, by go_num, rfl, by omega, R7, HQ.out⟩
              case measure => simp [intOf]; omega
            · intro x c w7 cnt1 hwx hwc hlx hat hrg1 hlt1 hg1 hs1 hen
              have hk := Q'.agree.at_ hat
              have R7 := R6.aside (r := r) ((grown_step hg1).mono (fun j _ e => by cases e; rfl)) hrF hrb hrB
              have HAT := Lib.hid (atS_look R7.ar (by omega) hk)
              have HM := Lib.hid (And.intro hrg.left_eq hlt1)
              clear hat hlx hk hg1 hs1 hlt1 hrg R6
              go_wp2_with fail
              refine HAT.out.mono ?_
              rintro e w' ⟨rfl, rfl⟩
              go_wp2_with fail
              refine (text_any c _).mono ?_
              rintro e w8 ⟨rfl, hb8⟩
              have hrg8 := ranges_below hrg1 hb8
              go_wp2_with fail
              go_roundw
              case rel => exact ⟨_, cnt1, hrg8, R7.below hb8⟩
              case measure => rw [hrg8.left_eq, HM.out.1]; exact HM.out.2
    · obtain rfl : k = m := by omega
      have HK := Lib.hid R.keeps
      clear hs R Q
      go_wp2_with fail
      refine (known_any _).mono ?_
      rintro e w3 ⟨rfl, hb3⟩
      go_wp2_with fail
      go_ret
      exact ⟨rfl, (HK.out.of_below hb3).below⟩
set_option maxHeartbeats 1000000 in
theorem keeps_out (A : Option Addr) (m c : Nat) (w : World) (hm : 200 < m) (hm2 : (m : Int) ≤ 9223372036854775807) :
    Calls Try.prog 4 #[.slice A m c] w fun e w' => e = .returned (.bool true) ∧ Below w.heap.size w w' := by
  have hmI : (200 : Int) < m := by omega
  go_enter Try.func4, Try.ntmps4
  go_wp2_with fail
  refine (newS_F _).mono ?_
  rintro e w1 ⟨F1, g, rfl, h1, hb1, hl1⟩
  go_wp2_with fail
  refine (known_any _).mono ?_
  rintro e w3 ⟨rfl, hb3⟩
  go_wp2_with fail
  go_ret
  exact ⟨rfl, hb1.trans (hb3.mono hb1.size)⟩

theorem keeps_law (A : Option Addr) (m c : Nat) (l : List OpR) (w : World) (hs : Sees w w.heap.size 3 A m (l.flatMap OpR.cells)) (hl : l.length = m) (hm : (m : Int) ≤ 9223372036854775807) (hw : ∀ o ∈ l, o.Fits) :
    Calls Try.prog 4 #[.slice A m c] w fun e w' => e = .returned (.bool true) ∧ Below w.heap.size w w' := by
  by_cases h : m ≤ 200
  · exact keeps_any A m c l w hs hl h hw
  · exact keeps_out A m c w (by omega) hm

end Go.Proofs.Yteelmlhknfbjdaa
