/-
  The walk of rubriclaw08.ArenaPlays.
-/
import Derived.Test.YteelmlhknfbjdaaArenaU
import Derived.Test.YteelmlhknfbjdaaArenaQ
import Derived.Deep.DeepCutAuto
import Derived.Deep.CutRange
import Derived.Deep.CutBlock
namespace Go.Proofs.Yteelmlhknfbjdaa
open Go.RowKit
attribute [local go_sem] Oper.semAt_some

set_option maxRecDepth 100000 in
theorem map_range191 (f : Nat → Value) : (List.range 191).map f = [f 0, f 1, f 2, f 3, f 4, f 5, f 6, f 7, f 8, f 9, f 10, f 11, f 12, f 13, f 14, f 15, f 16, f 17, f 18, f 19, f 20, f 21, f 22, f 23, f 24, f 25, f 26, f 27, f 28, f 29, f 30, f 31, f 32, f 33, f 34, f 35, f 36, f 37, f 38, f 39, f 40, f 41, f 42, f 43, f 44, f 45, f 46, f 47, f 48, f 49, f 50, f 51, f 52, f 53, f 54, f 55, f 56, f 57, f 58, f 59, f 60, f 61, f 62, f 63, f 64, f 65, f 66, f 67, f 68, f 69, f 70, f 71, f 72, f 73, f 74, f 75, f 76, f 77, f 78, f 79, f 80, f 81, f 82, f 83, f 84, f 85, f 86, f 87, f 88, f 89, f 90, f 91, f 92, f 93, f 94, f 95, f 96, f 97, f 98, f 99, f 100, f 101, f 102, f 103, f 104, f 105, f 106, f 107, f 108, f 109, f 110, f 111, f 112, f 113, f 114, f 115, f 116, f 117, f 118, f 119, f 120, f 121, f 122, f 123, f 124, f 125, f 126, f 127, f 128, f 129, f 130, f 131, f 132, f 133, f 134, f 135, f 136, f 137, f 138, f 139, f 140, f 141, f 142, f 143, f 144, f 145, f 146, f 147, f 148, f 149, f 150, f 151, f 152, f 153, f 154, f 155, f 156, f 157, f 158, f 159, f 160, f 161, f 162, f 163, f 164, f 165, f 166, f 167, f 168, f 169, f 170, f 171, f 172, f 173, f 174, f 175, f 176, f 177, f 178, f 179, f 180, f 181, f 182, f 183, f 184, f 185, f 186, f 187, f 188, f 189, f 190] := by
  simp [List.range, List.range.loop]

theorem lit191 (t : Array Value) (h : t.size = 191) : ∃ u : Nat → Value, t = #[u 0, u 1, u 2, u 3, u 4, u 5, u 6, u 7, u 8, u 9, u 10, u 11, u 12, u 13, u 14, u 15, u 16, u 17, u 18, u 19, u 20, u 21, u 22, u 23, u 24, u 25, u 26, u 27, u 28, u 29, u 30, u 31, u 32, u 33, u 34, u 35, u 36, u 37, u 38, u 39, u 40, u 41, u 42, u 43, u 44, u 45, u 46, u 47, u 48, u 49, u 50, u 51, u 52, u 53, u 54, u 55, u 56, u 57, u 58, u 59, u 60, u 61, u 62, u 63, u 64, u 65, u 66, u 67, u 68, u 69, u 70, u 71, u 72, u 73, u 74, u 75, u 76, u 77, u 78, u 79, u 80, u 81, u 82, u 83, u 84, u 85, u 86, u 87, u 88, u 89, u 90, u 91, u 92, u 93, u 94, u 95, u 96, u 97, u 98, u 99, u 100, u 101, u 102, u 103, u 104, u 105, u 106, u 107, u 108, u 109, u 110, u 111, u 112, u 113, u 114, u 115, u 116, u 117, u 118, u 119, u 120, u 121, u 122, u 123, u 124, u 125, u 126, u 127, u 128, u 129, u 130, u 131, u 132, u 133, u 134, u 135, u 136, u 137, u 138, u 139, u 140, u 141, u 142, u 143, u 144, u 145, u 146, u 147, u 148, u 149, u 150, u 151, u 152, u 153, u 154, u 155, u 156, u 157, u 158, u 159, u 160, u 161, u 162, u 163, u 164, u 165, u 166, u 167, u 168, u 169, u 170, u 171, u 172, u 173, u 174, u 175, u 176, u 177, u 178, u 179, u 180, u 181, u 182, u 183, u 184, u 185, u 186, u 187, u 188, u 189, u 190] ∧ ∀ i, u i = t.getD i undef := by
  refine ⟨fun i => t.getD i undef, ?_, fun _ => rfl⟩
  have e : t = ((List.range 191).map fun i => t.getD i undef).toArray := by
    apply Array.ext
    · simp [h]
    · intro i h1 h2
      simp [Array.getD, h1]
  refine e.trans ?_
  exact congrArg List.toArray (map_range191 _)

set_option maxRecDepth 100000 in
set_option maxHeartbeats 8000000 in
theorem plays_any (A : Option Addr) (m c : Nat) (l : List OpR) (w : World) (hs : Sees w w.heap.size 3 A m (l.flatMap OpR.cells)) (hl : l.length = m) (hm : m ≤ 200) (hw : ∀ o ∈ l, o.Fits) :
    Calls Try.prog 5 #[.slice A m c] w fun e w' => e = .returned (.bool true) ∧ Below w.heap.size w w' := by
  have hmI : (m : Int) ≤ 200 := by omega
  have HW := Lib.hid hw
  have HL := Lib.hid hl
  have HS := Lib.hid hs
  clear hw hl hs
  refine (callsIn_wide (n := 9)).1 ?_
  refine callsIn_of_wp_marks Try.func5 rfl trivial ?_ rfl
  refine (wpIn_wide (n := 9)).2 ?_
  refine wp_mono ?_ outM_le
  simp only [Try.ntmps5, List.size_toArray, List.length_cons, List.length_nil, Nat.reduceAdd, Nat.reduceSub, Array.replicate_succ, Array.replicate_zero, List.push_toArray, List.append_toArray, List.nil_append, List.cons_append]
  go_wp2_with fail
  obtain ⟨b2, hb2⟩ : ∃ b, w.heap.size = b := ⟨_, rfl⟩
  rw [hb2]
  refine (newI_F _).mono ?_
  rintro e w1 ⟨FA, gA, rfl, hA1, hbel1, hlA⟩
  go_wp2_with fail
  obtain ⟨gR, hgR⟩ : ∃ g, w1.heap.size = g := ⟨_, rfl⟩
  obtain ⟨bW, hbW⟩ : ∃ g, gR + 1 = g := ⟨_, rfl⟩
  obtain ⟨wL, hwL⟩ : ∃ v, (w1.alloc (.cells #[.slice none 0 0, .slice none 0 0, .slice none 0 0] 51)).alloc (.cells #[.pointer (some ⟨gR, 0, none⟩)] 47) = v := ⟨_, rfl⟩
  have P0 : PlayR w.heap.size w wL b2 bW gA gR FA (fun k => k = gR) [] [] [] [] [] := by
    have hz1 := hbel1.size
    rw [World.size_alloc] at hz1
    have hbA : Below w1.heap.size w1 wL := by rw [← hwL]; exact ((Below.refl _ _).alloc (Nat.le_refl _) _).alloc (by simp) _
    have hgL : wL.heap[gR]? = some (.cells #[.slice none 0 0, .slice none 0 0, .slice none 0 0] 51) := by rw [← hwL, ← hgR]; exact heap_alloc2_old' w1 _ _
    have hWL : wL.heap[bW]? = some (.cells #[.pointer (some ⟨gR, 0, none⟩)] 47) := by rw [← hwL, ← hbW, ← hgR]; exact heap_alloc2_new' w1 _ _
    have h2L : wL.heap[b2]? = some (.cells #[.bool false] 4) := by
      rw [hbA.block b2 (by omega), hbel1.block b2 (by simp; omega), ← hb2]
      exact heap_alloc_new w _
    refine ⟨hA1.below hbA, ⟨.slice none 0 0, .slice none 0 0, .slice none 0 0, ref_zero hgL⟩, fun k hA hR => ?_, h2L, hWL, ⟨fun hA => ?_, fun e => ?_⟩, ⟨fun hA => ?_, fun e => ?_⟩, ⟨Nat.le_refl _, by omega, by omega⟩, ?_, fun k hk => ?_, Marks.nil_ _ _, fun d hd => by cases hd⟩
    · have := hA1.lt k hA; omega
    · have := hlA _ hA; rw [World.size_alloc] at this; omega
    · have e : b2 = gR := e
      omega
    · have := hA1.lt _ hA; omega
    · have e : bW = gR := e
      omega
    · have h1 : Below w.heap.size w w1 := ((Below.refl _ w).alloc (Nat.le_refl _) _).trans (hbel1.mono (by simp))
      exact h1.trans (hbA.mono h1.size)
    · rcases hk with hk | hk
      · have := hlA _ hk; rw [World.size_alloc] at this; omega
      · have hk : k = gR := hk
        omega
  rw [hgR, hbW, hwL]
  clear hwL hgR hbW hA1 hbel1 hlA
  refine wp_loop (fun a' wr => ∃ (k : Nat) (FA FR : Nat → Prop) (s : List (Option Int)) (fr : List Nat), k ≤ m ∧ s.length ≤ k ∧ ArOk s fr ∧ PlayR w.heap.size w wr b2 bW gA gR FA FR s fr s fr a'.defers ∧ a'.tmps.size = 191 ∧ (a'.tmps.getD 0 undef = .slice A m c ∧ a'.tmps.getD 2 undef = .pointer (some ⟨b2, 0, none⟩) ∧ a'.tmps.getD 3 undef = .pointer (some ⟨gA, 0, none⟩) ∧ a'.tmps.getD 4 undef = .pointer (some ⟨bW, 0, none⟩) ∧ a'.tmps.getD 28 undef = .slice A m c ∧ a'.tmps.getD 29 undef = .int .i64 m ∧ a'.tmps.getD 30 undef = .int .i64 k)) (fun a' _ => m - (intOf (a'.tmps.getD 30 undef)).toNat) ?_ ?_
  · exact ⟨0, _, _, _, _, Nat.zero_le _, Nat.zero_le _, ArOk.nil_, P0, rfl, rfl, rfl, rfl, rfl, rfl, rfl, rfl⟩
  clear P0 FA
  rintro ⟨ts, ds⟩ wr ⟨k, FA, FR, s, fr, hkm, hsk, hok, R, hsz, hf⟩
  dsimp only at R hsz hf
  obtain ⟨u, rfl, hu⟩ := lit191 ts hsz
  simp only [← hu] at hf
  obtain ⟨f0, f2, f3, f4, f28, f29, f30⟩ := hf
  rw [f0, f2, f3, f4, f28, f29, f30]
  have HU := Lib.hid f30
  clear hu hsz f0 f2 f3 f4 f28 f29 f30
  by_cases hlt : k < m
  · obtain ⟨ab, ao, rfl, hab, hcell⟩ := HS.out.2 (by omega)
    obtain ⟨⟨kd, I, X⟩, ho⟩ : ∃ o, l[k]? = some o := ⟨_, List.getElem?_eq_getElem (by have := HL.out; omega)⟩
    obtain ⟨wf0, wf1, wf2⟩ := HW.out _ (List.mem_of_getElem? ho)
    have hc0 := R.keeps.cell (p := ⟨ab, ao + (k * 3 + 0), none⟩) hab
    have hc1 := R.keeps.cell (p := ⟨ab, ao + (k * 3 + 1), none⟩) hab
    have hc2 := R.keeps.cell (p := ⟨ab, ao + (k * 3 + 2), none⟩) hab
    rw [hcell (k * 3 + 0) (.int .i64 kd) (by rw [ops_get l k 0 (by omega), ho]; rfl)] at hc0
    rw [hcell (k * 3 + 1) (.int .i64 I) (by rw [ops_get l k 1 (by omega), ho]; rfl)] at hc1
    rw [hcell (k * 3 + 2) (.int .i64 X) (by rw [ops_get l k 2 (by omega), ho]; rfl)] at hc2
    rw [Nat.add_zero] at hc0
    rw [← Nat.add_assoc] at hc1 hc2
    clear hcell ho
    have hkI : (k : Int) < m := by omega
    obtain ⟨bx, hbx⟩ : ∃ bx, wr.heap.size = bx := ⟨_, rfl⟩
    obtain ⟨wx, hwx⟩ : ∃ wx, wr.alloc (.cells #[.int .i64 kd, .int .i64 I, .int .i64 X] 40) = wx := ⟨_, rfl⟩
    have RA := R.below ((Below.refl _ wr).alloc (Nat.le_refl _) (.cells #[.int .i64 kd, .int .i64 I, .int .i64 X] 40))
    rw [hwx] at RA
    have hx0 : wx.cell? ⟨bx, 0, none⟩ = some (.int .i64 kd) := by
      rw [← hwx, cell_of_row _ bx 0 _ _ _ (by rw [← hbx]; exact heap_alloc_new wr _)]; rfl
    have hx1 : wx.cell? ⟨bx, 1, none⟩ = some (.int .i64 I) := by
      rw [← hwx, cell_of_row _ bx 1 _ _ _ (by rw [← hbx]; exact heap_alloc_new wr _)]; rfl
    have hx2 : wx.cell? ⟨bx, 2, none⟩ = some (.int .i64 X) := by
      rw [← hwx, cell_of_row _ bx 2 _ _ _ (by rw [← hbx]; exact heap_alloc_new wr _)]; rfl
    have hbl : bx < wx.heap.size := by rw [← hwx, ← hbx]; simp
    have HFX := Lib.hid (show ¬ FA bx ∧ ¬ FR bx from ⟨fun hF => by have := R.ar.lt _ hF; omega, fun hF => by have := R.rf.lt _ hF; omega⟩)
    have hWc := R.box
    have HH := Lib.hid (has_any RA.rf (by omega) I)
    have HX := Lib.hid (And.intro hbx hwx)
    clear hbx hwx R
    cases hlk : look s I with
    | none =>
      rw [hlk] at HH
      have HH : Hid (Calls Try.prog 21 #[.pointer (some ⟨gR, 0, none⟩), .int .i64 I] wx fun e w' => e = .returned (.bool false) ∧ wx = w') := HH
      go_upto_region 8 with fail
      rw [HX.out.2, HX.out.1]
      have hWc := RA.box
      clear HX hc0 hc1 hc2
      go_wp2_with fail
      refine HH.out.mono ?_
      rintro e w' ⟨rfl, rfl⟩
      clear HH
      go_upto_block 2 with fail
      go_cut [8, 9] from 41 to 120 (fun _ _ wz => ∃ (FA' FR' : Nat → Prop) (s' : List (Option Int)) (fr' : List Nat), ArOk s' fr' ∧ s'.length ≤ k + 1 ∧ PlayR w.heap.size w wz b2 bW gA gR FA' FR' s' fr' s' fr' ds)
      case first =>
        by_cases h1 : kd = 1
        · subst h1
          go_wp2_with fail
          refine wp_region_held_drew (S := fun w' => w'.cell? ⟨bx, 2, none⟩ = some (.int .i64 X) ∧ w'.cell? ⟨bW, 0, none⟩ = some (.pointer (some ⟨gR, 0, none⟩))) (by kernel_rfl) ⟨hx2, hWc⟩ (fun hHeld => ?_)
          try dsimp only at hHeld
          refine take_at (i := 0) (v := ?_) (some 77) rfl rfl (by kernel_rfl) (by kernel_rfl) (by kernel_rfl) (fun _ _ _ h => h) hHeld (by rfl) (fun wS hSw => ?_) ?_
          rotate_left
          · try dsimp only at hSw
            obtain ⟨hS1, hS2⟩ := hSw
            go_simp
            try with_reducible rfl
          try simp only [Act.put, List.setIfInBounds_toArray, List.set_cons_zero, List.set_cons_succ]
          refine take_at (i := 1) (v := ?_) (some 78) rfl rfl (by kernel_rfl) (by kernel_rfl) (by kernel_rfl) (fun _ _ _ h => h) hHeld (by rfl) (fun wS hSw => ?_) ?_
          rotate_left
          · try dsimp only at hSw
            obtain ⟨hS1, hS2⟩ := hSw
            go_simp
            try with_reducible rfl
          try simp only [Act.put, List.setIfInBounds_toArray, List.set_cons_zero, List.set_cons_succ]
          refine take_at (i := 2) (v := ?_) (some 79) rfl rfl (by kernel_rfl) (by kernel_rfl) (by kernel_rfl) (fun _ _ _ h => h) hHeld (by rfl) (fun wS hSw => ?_) ?_
          rotate_left
          · try dsimp only at hSw
            obtain ⟨hS1, hS2⟩ := hSw
            go_simp
            try with_reducible rfl
          try simp only [Act.put, List.setIfInBounds_toArray, List.set_cons_zero, List.set_cons_succ]
          refine take_at (i := 4) (v := ?_) (some 81) rfl rfl (by kernel_rfl) (by kernel_rfl) (by kernel_rfl) (fun _ _ _ h => h) hHeld (by rfl) (fun wS hSw => ?_) ?_
          rotate_left
          · try dsimp only at hSw
            obtain ⟨hS1, hS2⟩ := hSw
            go_simp
            try with_reducible rfl
          try simp only [Act.put, List.setIfInBounds_toArray, List.set_cons_zero, List.set_cons_succ]
          refine take_at (i := 5) (v := ?_) (some 82) rfl rfl (by kernel_rfl) (by kernel_rfl) (by kernel_rfl) (fun _ _ _ h => h) hHeld (by rfl) (fun wS hSw => ?_) ?_
          rotate_left
          · try dsimp only at hSw
            obtain ⟨hS1, hS2⟩ := hSw
            go_simp
            try with_reducible rfl
          try simp only [Act.put, List.setIfInBounds_toArray, List.set_cons_zero, List.set_cons_succ]
          refine take_at (i := 6) (v := ?_) (some 83) rfl rfl (by kernel_rfl) (by kernel_rfl) (by kernel_rfl) (fun _ _ _ h => h) hHeld (by rfl) (fun wS hSw => ?_) ?_
          rotate_left
          · try dsimp only at hSw
            obtain ⟨hS1, hS2⟩ := hSw
            go_simp
            try with_reducible rfl
          try simp only [Act.put, List.setIfInBounds_toArray, List.set_cons_zero, List.set_cons_succ]
          refine wpAnyH_ready (rs := [3]) (by kernel_rfl) (by simp) ?_
          refine AllReadyH.cons rfl (fun K hK => ?_) AllReadyH.nil
          simp only [List.getElem_toArray, List.getElem_cons_succ, List.getElem_cons_zero]
          go_simp
          refine (takeI_F (RA.drewN 1).ar hok (by omega) X).mono ?_
          rintro e w2 ⟨F2, rfl, ha2, hg2⟩
          have R2 := (RA.drewN 1).arena ha2 hg2
          have hx3 : w2.cell? ⟨bx, 2, none⟩ = some (.int .i64 X) := (World.cell?_of_block (w := wx.drew) (a := ⟨bx, 2, none⟩) (hg2.step.block bx hbl HFX.out.1)).trans hx2
          have hbl2 : bx < w2.heap.size := Nat.lt_of_lt_of_le hbl hg2.step.size
          clear ha2 hg2
          refine hK.out _ _ ⟨hx3, R2.box⟩ (fun hHeld => ?_)
          clear hK K
          try simp only [Act.put, List.setIfInBounds_toArray, List.set_cons_zero, List.set_cons_succ]
          refine wpAnyH_ready (rs := [7]) (by kernel_rfl) (by simp) ?_
          refine AllReadyH.cons rfl (fun K hK => ?_) AllReadyH.nil
          simp only [List.getElem_toArray, List.getElem_cons_succ, List.getElem_cons_zero]
          go_simp
          refine (refTake_F R2.rf hok (by omega) X).mono ?_
          rintro e w3 ⟨F3, rfl, ha3, hg3⟩
          have R3 := R2.ref ha3 hg3
          have hx4 : w3.cell? ⟨bx, 2, none⟩ = some (.int .i64 X) := (World.cell?_of_block (w := w2) (a := ⟨bx, 2, none⟩) (hg3.step.block bx hbl2 HFX.out.2)).trans hx3
          clear ha3 hg3
          refine hK.out _ _ ⟨hx4, R3.box⟩ (fun hHeld => ?_)
          clear hK K
          try simp only [Act.put, List.setIfInBounds_toArray, List.set_cons_zero, List.set_cons_succ]
          refine take_at (i := 8) (v := ?_) (some 85) rfl rfl (by kernel_rfl) (by kernel_rfl) (by kernel_rfl) (fun _ _ _ h => h) hHeld (by rfl) (fun wS hSw => ?_) ?_
          rotate_left
          · try dsimp only at hSw
            obtain ⟨hS1, hS2⟩ := hSw
            go_simp
            try with_reducible rfl
          try simp only [Act.put, List.setIfInBounds_toArray, List.set_cons_zero, List.set_cons_succ]
          refine wpAnyH_done (by kernel_rfl) ?_ _
          go_wp2_with fail
          go_meet
          case rel => exact ⟨_, _, _, _, hok.take X, takeS_len hsk, R3⟩
        · by_cases h2 : kd = 2
          · subst h2
            go_wp2_with fail
            refine (freeI_Fno RA.ar (by omega) hlk).mono ?_
            rintro e w' ⟨rfl, rfl⟩
            go_wp2_with fail
            go_meet
            case rel => exact ⟨_, _, _, _, hok, by omega, RA⟩
          · by_cases h3 : kd = 3
            · subst h3
              go_wp2_with fail
              refine (putI_Fno RA.ar (by omega) X hlk).mono ?_
              rintro e w' ⟨rfl, rfl⟩
              go_wp2_with fail
              go_meet
              case rel => exact ⟨_, _, _, _, hok, by omega, RA⟩
            · go_wp2_with fail
              refine (atI_Fno RA.ar (by omega) hlk).mono ?_
              rintro e w' ⟨rfl, rfl⟩
              go_wp2_with fail
              go_quiet (fail)
              go_wp2_with fail
              go_meet
              case rel => exact ⟨_, _, _, _, hok, by omega, RA.drewN nq⟩
      case rest =>
        clear RA hx0 hx1 hx2 hWc hok HFX hbl
        obtain ⟨FA', FR', s', fr', hok, hsl, RA⟩ := hcut
        have hWc := RA.box
        obtain ⟨vx, vt, vf, h3⟩ := RA.rf
        have h30 := h3.c0
        obtain ⟨A3, c3, rfl, _⟩ := own_shape h3.x
        have hcnt := cntS_ok hok
        have HLn := Lib.hid (fun n => lenI_F (RA.ar.drewN n) hok (by omega))
        have HRl := Lib.hid (fun n => (refLen_any (RA.rf.drewN n) (by omega)).mono (fun _ _ h => And.intro h.1 h.2.symm))
        have HCp := Lib.hid (fun n => (capI_F (RA.ar.drewN n)).mono (fun _ _ h => And.intro h.1 h.2.symm))
        rw [← hcnt] at HLn
        obtain ⟨nc, hnc⟩ : ∃ n, cntS s' = n := ⟨_, rfl⟩
        rw [hnc] at HLn HRl
        obtain ⟨ns, hns⟩ : ∃ n, s'.length = n := ⟨_, rfl⟩
        rw [hns] at h30 HCp
        have hq1 : ((nc : Int) != (nc : Int)) = false := by simp
        have hq2 : ((ns : Int) != (ns : Int)) = false := by simp
        clear h3 hcnt hnc
        go_wp2_with fail
        go_quiet (first
          | (go_at_call 11; exact Calls.quiet_of (HLn.out _))
          | (go_at_call 26; exact Calls.quiet_of_same (HRl.out _))
          | (go_at_call 12; exact Calls.quiet_of_same (HCp.out _)))
        obtain ⟨w1, hw1⟩ : ∃ v, wc.drewN nq = v := ⟨_, rfl⟩
        have R1 := RA.drewN nq
        rw [hw1] at R1 ⊢
        clear RA HLn HRl HCp hq1 hq2 hw1 h30 hWc
        go_wp2_with fail
        refine (all_any _ _ (.inr ⟨_, rfl⟩)).mono ?_
        rintro e w' ⟨rfl, rfl⟩
        obtain ⟨bn, hbn⟩ : ∃ g, w1.heap.size = g := ⟨_, rfl⟩
        obtain ⟨bA, hbA⟩ : ∃ g, bn + 1 = g := ⟨_, rfl⟩
        obtain ⟨w2, hw2⟩ : ∃ v, (w1.alloc (.cells #[.int .i64 0] 3)).alloc (.cells #[.pointer (some ⟨gA, 0, none⟩)] 24) = v := ⟨_, rfl⟩
        have hB2 : Below w1.heap.size w1 w2 := by rw [← hw2]; exact ((Below.refl _ _).alloc (Nat.le_refl _) _).alloc (by simp) _
        have hz2 : w2.heap.size = w1.heap.size + 2 := by rw [← hw2]; simp
        have hn2 : w2.heap[bn]? = some (.cells #[.int .i64 ((nxP [] : Nat) : Int)] 3) := by rw [← hw2, ← hbn]; exact heap_alloc2_old' w1 _ _
        have hA2 : w2.cell? ⟨bA, 0, none⟩ = some (.pointer (some ⟨gA, 0, none⟩)) := by
          rw [cell_of_row w2 bA 0 _ _ _ (by rw [← hw2, ← hbA, ← hbn]; exact heap_alloc2_new' w1 _ _)]; rfl
        have R2 := R1.below hB2
        rw [World.size_alloc, hw2, hbn, hbA]
        have HB := Lib.hid (And.intro hbn (And.intro hbA hz2))
        have hs1 : s'.length ≤ 1000000 := by omega
        clear hw2 hbn hbA hz2
        go_wp2_with fail
        refine (wpIn_wide (n := 9)).1 ?_
        refine wpIn_rangeFunc_ownG rfl (by omega) (gf := 30) (lb := #[.pointer (some ⟨bA, 0, none⟩)]) rfl trivial (enters_of Try.func30 (by kernel_rfl) rfl)
          (all_stops_enc 8 (by omega) bA gA (fun k => k = bn) _ encP s' fr' hs1 (encP_ok hs1) w2 (fun k hk => by have := HB.out; have hk : k = bn := hk; omega) hA2 R2.ar) KeepsCells.trans KeepsCells.put (Below.refl _ _) (fun _ => rfl)
          (fun pre W => Below w1.heap.size w1 W ∧ W.heap[bn]? = some (.cells #[.int .i64 ((nxP pre : Nat) : Int)] 3)) (fun c pre _ => c = .ret ∧ ¬ (pre <+: takens 0 s'))
          (ownFrom_box (Nat.le_refl _) (by have := HB.out; omega) (by have := HB.out; omega)) (fun _ _ _ _ _ h _ _ => h) ⟨hB2, hn2⟩ ?a1false ?assignfalse ?bodyfalse ?donefalse ?stopfalse
        case assignfalse =>
          intro l x W K hK
          simp only [encP, List.zip_toArray, List.zip_cons_cons, List.zip_nil_left]
          gi_wp2
          exact hK
        case bodyfalse =>
          intro l pre x W hI hlen
          obtain ⟨hbW, hnW⟩ := hI
          obtain ⟨i, hi⟩ : ∃ i, min x.1 1000000 = i := ⟨_, rfl⟩
          have hpre := nxP_le pre
          have hiI : (i : Int) ≤ 1000000 := by omega
          have HN := Lib.hid (And.intro hi (pfx_next hs1 pre x))
          have HSN := Lib.hid (show nxP (pre ++ [x]) = i + 1 by rw [nxP_snoc, hi])
          rw [hi]
          clear hi hlen hB2 hn2 hA2 R2
          gi_wp2_with fail
          gi_loopw [] (fun wr => ∃ n : Nat, nxP pre ≤ n ∧ (n ≤ nxP pre ∨ n ≤ i) ∧ (∀ j, nxP pre ≤ j → j < n → look s' (j : Int) = none) ∧ Below w1.heap.size w1 wr ∧ wr.heap[bn]? = some (.cells #[.int .i64 (n : Int)] 3) ∧ KeepsFrom w2.heap.size W wr ∧ KeepsCells (fun k => k = bn) W wr) (fun wr => i - (intOf ((wr.cell? ⟨bn, 0, none⟩).getD undef)).toNat)
          case atStart => exact ⟨nxP pre, Nat.le_refl _, .inl (Nat.le_refl _), fun j h1 h2 => by omega, hbW, hnW, KeepsFrom.refl _ _, KeepsCells.refl _ _⟩
          case round =>
            obtain ⟨n, hn1, hn2, hno, hbr, hnr, hkf, hkc⟩ := hrel
            have hcn : wr.cell? ⟨bn, 0, none⟩ = some (.int .i64 (n : Int)) := by rw [cell_of_row wr bn 0 _ _ _ hnr]; rfl
            have hfn : wr.frozen? ⟨bn, 0, none⟩ = false := frozen_of_row wr bn 0 _ _ hnr
            have Rr := R1.below hbr
            have hWr := Rr.box
            have h2c := Rr.cell2
            have h2f := Rr.frozen2
            have HH := Lib.hid (has_any Rr.rf (by omega) (n : Int))
            have HK := Lib.hid (And.intro hno (And.intro hbr (And.intro hnr (And.intro hkf hkc))))
            have hnI : (n : Int) ≤ 1000001 := by omega
            have HZ := Lib.hid (show bn < w2.heap.size ∧ b2 < w2.heap.size ∧ w1.heap.size ≤ bn from by have := HB.out; have := R1.lows; omega)
            clear hno hbr hnr hkf hkc
            by_cases hlt : n < i
            · have hltI : (n : Int) < i := by omega
              cases hlk : look s' (n : Int) with
              | none =>
                rw [hlk] at HH
                gi_wp2_with fail
                refine ⟨trivial, ((callsIn_wide.2 HH.out).inRound l).mono ?_⟩
                rintro e w' ⟨rfl, rfl⟩
                gi_wp2_with fail
                go_roundw
                case rel =>
                  refine ⟨n + 1, by omega, by omega, fun j h1 h2 => ?_, HK.out.2.1.setCell (p := ⟨bn, 0, none⟩) HZ.out.2.2 _, (heap_setCell_same wr bn 0 _ _ _ HK.out.2.2.1).trans ?_, from_set HK.out.2.2.2.1 HZ.out.1 _, keeps_set HK.out.2.2.2.2 _⟩
                  · by_cases e : j = n
                    · subst e; exact hlk
                    · exact HK.out.1 j h1 (by omega)
                  · go_num
                case measure =>
                  rw [hcn, show World.cell? _ _ = some (.int .i64 ((n : Int) + 1)) from by rw [cell_of_row _ bn 0 _ _ _ (heap_setCell_same wr bn 0 _ _ _ HK.out.2.2.1)]; rfl]
                  simp [intOf]
                  omega
              | some y =>
                rw [hlk] at HH
                have hne : ((n : Int) != (i : Int)) = true := by simp; omega
                gi_wp2_with fail
                refine ⟨trivial, ((callsIn_wide.2 HH.out).inRound l).mono ?_⟩
                rintro e w' ⟨rfl, rfl⟩
                gi_wp2_with fail
                refine ⟨trivial, ?_⟩
                gi_wp2_with fail
                refine ⟨from_set HK.out.2.2.2.1 HZ.out.2.1 _, rfl, fun hp => ?_⟩
                obtain ⟨a1, a2, a3, a4⟩ := HN.out.2 hp
                have hii := HN.out.1
                have := a4 n hn1 (by omega)
                rw [hlk] at this
                cases this
            · have hltI : ¬ (n : Int) < i := by omega
              by_cases hni : n = i
              · subst hni
                have hne : ((n : Int) != (n : Int)) = false := by simp
                cases hlk : look s' (n : Int) with
                | none =>
                  rw [hlk] at HH
                  gi_wp2_with fail
                  refine ⟨trivial, ?_⟩
                  gi_wp2_with fail
                  refine ⟨trivial, ((callsIn_wide.2 HH.out).inRound l).mono ?_⟩
                  rintro e w' ⟨rfl, rfl⟩
                  gi_wp2_with fail
                  refine ⟨from_set HK.out.2.2.2.1 HZ.out.2.1 _, rfl, fun hp => ?_⟩
                  obtain ⟨a1, a2, a3, a4⟩ := HN.out.2 hp
                  have hii := HN.out.1
                  rw [show n = x.1 by omega, look_nat, a3] at hlk
                  cases hlk
                | some y =>
                  rw [hlk] at HH
                  obtain ⟨kk, hkk, hkl, hse⟩ := look_some hlk
                  obtain rfl : n = kk := by omega
                  obtain ⟨vx, vt, vf, h3⟩ := Rr.rf
                  obtain ⟨br, cr, rfl, hcr, _, hrc, _⟩ := row_at h3.x hkl
                  have h30 := h3.c0
                  have hck := hrc n (.int .i64 y) (by rw [List.getElem?_map, List.getElem?_eq_getElem hkl, hse]; rfl)
                  obtain ⟨ns, hns⟩ : ∃ n, s'.length = n := ⟨_, rfl⟩
                  rw [hns] at h30 hcr
                  have hkkI : (n : Int) < ns := by omega
                  have hnsI : (ns : Int) ≤ 201 := by omega
                  clear h3 hrc hkk
                  by_cases hyx : x.2 = y
                  · have hxy : (x.2 != y) = false := by simp [hyx]
                    gi_wp2_with fail
                    refine ⟨trivial, ?_⟩
                    gi_wp2_with fail
                    refine ⟨trivial, ((callsIn_wide.2 HH.out).inRound l).mono ?_⟩
                    rintro e w' ⟨rfl, rfl⟩
                    gi_wp2_with fail
                    refine ⟨from_set HK.out.2.2.2.1 HZ.out.1 _, keeps_set HK.out.2.2.2.2 _, HK.out.2.1.setCell (p := ⟨bn, 0, none⟩) HZ.out.2.2 _, (heap_setCell_same wr bn 0 _ _ _ HK.out.2.2.1).trans ?_⟩
                    rw [HSN.out]
                    go_num
                  · have hxy : (x.2 != y) = true := by simp [hyx]
                    gi_wp2_with fail
                    refine ⟨trivial, ?_⟩
                    gi_wp2_with fail
                    refine ⟨trivial, ((callsIn_wide.2 HH.out).inRound l).mono ?_⟩
                    rintro e w' ⟨rfl, rfl⟩
                    gi_wp2_with fail
                    refine ⟨from_set HK.out.2.2.2.1 HZ.out.2.1 _, rfl, fun hp => ?_⟩
                    obtain ⟨a1, a2, a3, a4⟩ := HN.out.2 hp
                    have hii := HN.out.1
                    rw [show n = x.1 by omega, look_nat, a3] at hlk
                    exact hyx (by simpa using hlk)
              · have hne : ((n : Int) != (i : Int)) = true := by simp; omega
                gi_wp2_with fail
                refine ⟨trivial, ?_⟩
                gi_wp2_with fail
                refine ⟨trivial, ?_⟩
                gi_wp2_with fail
                refine ⟨from_set HK.out.2.2.2.1 HZ.out.2.1 _, rfl, fun hp => ?_⟩
                obtain ⟨a1, a2, a3, a4⟩ := HN.out.2 hp
                have hii := HN.out.1
                omega
        case stopfalse => 
          rintro D c pre W3 hD hp ⟨rfl, hno⟩ hK3
          exact absurd hp hno
        case donefalse =>
          rintro D ys W3 hD rfl ⟨hB3, hn3⟩ hK3
          obtain ⟨he1, he2⟩ := pfx_end hs1
          obtain ⟨n0, hn0⟩ : ∃ n, nxP (takens 0 s') = n := ⟨_, rfl⟩
          rw [hn0] at hn3 he1 he2
          have HD := Lib.hid (show w1.heap.size ≤ D by have := HB.out; omega)
          have HE := Lib.hid he2
          have H3 := Lib.hid (And.intro hB3 (And.intro hK3 hn3))
          rw [hns] at he1
          have hnsI : (ns : Int) ≤ 201 := by omega
          clear hB2 hn2 hA2 R2 hB3 hn3 hK3 hD he2 hn0
          go_wp2_with fail
          go_loopw [] (fun wr => ∃ n : Nat, n0 ≤ n ∧ n ≤ ns ∧ Below w1.heap.size w1 wr ∧ wr.heap[D]? = some (.deferred (some [])) ∧ wr.heap[bn]? = some (.cells #[.int .i64 (n : Int)] 3)) (fun wr => ns - (intOf ((wr.cell? ⟨bn, 0, none⟩).getD undef)).toNat)
          case atStart => exact ⟨n0, Nat.le_refl _, he1, H3.out.1, H3.out.2.1, H3.out.2.2⟩
          case round =>
            obtain ⟨n, hn1, hn2, hbr, hDr, hnr⟩ := hrel
            have hcn : wr.cell? ⟨bn, 0, none⟩ = some (.int .i64 (n : Int)) := by rw [cell_of_row wr bn 0 _ _ _ hnr]; rfl
            have hfn : wr.frozen? ⟨bn, 0, none⟩ = false := frozen_of_row wr bn 0 _ _ hnr
            have Rr := R1.mark hbr HD.out hDr
            have hWr := Rr.box
            obtain ⟨vx, vt, vf, h3⟩ := Rr.rf
            have h30 := h3.c0
            obtain ⟨A3, c3, rfl, _⟩ := own_shape h3.x
            rw [hns] at h30
            have HH := Lib.hid (fun q => has_any (Rr.rf.drewN q) (by omega) (n : Int))
            have HK := Lib.hid (And.intro hbr (And.intro hDr hnr))
            have HZ := Lib.hid (show w1.heap.size ≤ bn ∧ D ≠ bn from by
              have h1 := HB.out
              refine ⟨by omega, fun e => ?_⟩
              subst e
              rw [hDr] at hnr
              cases hnr)
            clear hbr hDr hnr h3
            by_cases hlt : n < ns
            · have hltI : (n : Int) < ns := by omega
              have hlk := HE.out n hn1
              rw [hlk] at HH
              go_wp2_with fail
              go_quiet (fail)
              go_wp2_with fail
              refine (HH.out nq).mono ?_
              rintro e w' ⟨rfl, rfl⟩
              go_wp2_with fail
              go_roundw
              case rel =>
                refine ⟨n + 1, by omega, by omega, (below_drewN HK.out.1 nq).setCell (p := ⟨bn, 0, none⟩) HZ.out.1 _, (heap_setCell_other _ _ _ _ (by exact HZ.out.2)).trans HK.out.2.1, (heap_setCell_same (wr.drewN nq) bn 0 _ _ _ HK.out.2.2).trans ?_⟩
                go_num
              case measure =>
                rw [hcn, show World.cell? _ _ = some (.int .i64 ((n : Int) + 1)) from by rw [cell_of_row _ bn 0 _ _ _ (heap_setCell_same (wr.drewN nq) bn 0 _ _ _ HK.out.2.2)]; rfl]
                simp [intOf]
                omega
            · obtain rfl : n = ns := by omega
              have hltI : decide ((n : Int) < (n : Int)) = false := by simp
              go_wp2_with fail
              go_quiet (fail)
              go_wp2_with fail
              obtain ⟨w4, hw4⟩ : ∃ v, wr.drewN nq = v := ⟨_, rfl⟩
              have R4 := Rr.drewN nq
              rw [hw4] at R4 ⊢
              clear hw4 Rr HH HK hcn hfn hWr h30
              refine (all_any _ _ (.inr ⟨_, rfl⟩)).mono ?_
              rintro e w' ⟨rfl, rfl⟩
              obtain ⟨bB, hbB⟩ : ∃ g, w4.heap.size = g := ⟨_, rfl⟩
              obtain ⟨w5, hw5⟩ : ∃ v, w4.alloc (.cells #[.pointer (some ⟨gA, 0, none⟩)] 24) = v := ⟨_, rfl⟩
              have hB5 : Below w4.heap.size w4 w5 := by rw [← hw5]; exact (Below.refl _ _).alloc (Nat.le_refl _) _
              have hA5 : w5.cell? ⟨bB, 0, none⟩ = some (.pointer (some ⟨gA, 0, none⟩)) := by
                rw [cell_of_row w5 bB 0 _ _ _ (by rw [← hw5, ← hbB]; exact heap_alloc_new w4 _)]; rfl
              have R5 := R4.below hB5
              rw [hw5, hbB]
              clear hw5 hbB R4
              go_wp2_with fail
              refine (wpIn_wide (n := 9)).1 ?_
              refine wpIn_rangeFunc_ownG rfl (by omega) (gf := 30) (lb := #[.pointer (some ⟨bB, 0, none⟩)]) rfl trivial (enters_of Try.func30 (by kernel_rfl) rfl)
                (all_stops 8 (by omega) bB gA (fun _ => False) _ s' fr' hs1 w5 (fun _ h => h.elim) hA5 R5.ar) KeepsCells.trans KeepsCells.put (Below.refl _ _) (fun _ => rfl)
                (fun _ W => Below w5.heap.size w5 W) (fun c _ W => c = .exit 9 ∧ Below w5.heap.size w5 W)
                (ownFrom_below (Nat.le_refl _) (Nat.le_refl _)) (ownFrom_exit (Nat.le_refl _) (Nat.le_refl _)) (Below.refl _ _) ?a1Bfalse ?assignBfalse ?bodyBfalse ?doneBfalse ?stopBfalse
              case assignBfalse =>
                intro l x W K hK
                gi_wp2
                exact hK
              case bodyBfalse =>
                intro l pre x W hI _
                gi_wp2_with fail
                exact ⟨KeepsFrom.refl _ _, rfl, hI⟩
              case stopBfalse =>
                rintro D2 c pre W6 hD2 _ ⟨rfl, hb6⟩ hK6
                have R6 := R5.mark hb6 hD2 hK6
                refine (wpIn_wide (n := 9)).2 ?_
                go_wp2_with fail
                refine ⟨⟨k + 1, _, _, _, _, by omega, hsl, hok, R6, rfl, rfl, rfl, rfl, rfl, rfl, rfl, by show _ = Value.int _ _; go_num⟩, ?_⟩
                show m - (intOf (.int .i64 _)).toNat < m - (intOf (.int .i64 k)).toNat
                simp [intOf]
                omega
              case doneBfalse =>
                rintro D2 ys W6 hD2 _ hb6 hK6
                have R6 := R5.mark hb6 hD2 hK6
                go_wp2_with fail
                refine ⟨⟨k + 1, _, _, _, _, by omega, hsl, hok, R6, rfl, rfl, rfl, rfl, rfl, rfl, rfl, by show _ = Value.int _ _; go_num⟩, ?_⟩
                show m - (intOf (.int .i64 _)).toNat < m - (intOf (.int .i64 k)).toNat
                simp [intOf]
                omega
    | some y =>
      rw [hlk] at HH
      have HH : Hid (Calls Try.prog 21 #[.pointer (some ⟨gR, 0, none⟩), .int .i64 I] wx fun e w' => e = .returned (.bool true) ∧ wx = w') := HH
      go_upto_region 8 with fail
      rw [HX.out.2, HX.out.1]
      have hWc := RA.box
      clear HX hc0 hc1 hc2
      go_wp2_with fail
      refine HH.out.mono ?_
      rintro e w' ⟨rfl, rfl⟩
      clear HH
      go_upto_block 2 with fail
      go_cut [8, 9] from 41 to 120 (fun _ _ wz => ∃ (FA' FR' : Nat → Prop) (s' : List (Option Int)) (fr' : List Nat), ArOk s' fr' ∧ s'.length ≤ k + 1 ∧ PlayR w.heap.size w wz b2 bW gA gR FA' FR' s' fr' s' fr' ds)
      case first =>
        by_cases h1 : kd = 1
        · subst h1
          go_wp2_with fail
          refine wp_region_held_drew (S := fun w' => w'.cell? ⟨bx, 2, none⟩ = some (.int .i64 X) ∧ w'.cell? ⟨bW, 0, none⟩ = some (.pointer (some ⟨gR, 0, none⟩))) (by kernel_rfl) ⟨hx2, hWc⟩ (fun hHeld => ?_)
          try dsimp only at hHeld
          refine take_at (i := 0) (v := ?_) (some 77) rfl rfl (by kernel_rfl) (by kernel_rfl) (by kernel_rfl) (fun _ _ _ h => h) hHeld (by rfl) (fun wS hSw => ?_) ?_
          rotate_left
          · try dsimp only at hSw
            obtain ⟨hS1, hS2⟩ := hSw
            go_simp
            try with_reducible rfl
          try simp only [Act.put, List.setIfInBounds_toArray, List.set_cons_zero, List.set_cons_succ]
          refine take_at (i := 1) (v := ?_) (some 78) rfl rfl (by kernel_rfl) (by kernel_rfl) (by kernel_rfl) (fun _ _ _ h => h) hHeld (by rfl) (fun wS hSw => ?_) ?_
          rotate_left
          · try dsimp only at hSw
            obtain ⟨hS1, hS2⟩ := hSw
            go_simp
            try with_reducible rfl
          try simp only [Act.put, List.setIfInBounds_toArray, List.set_cons_zero, List.set_cons_succ]
          refine take_at (i := 2) (v := ?_) (some 79) rfl rfl (by kernel_rfl) (by kernel_rfl) (by kernel_rfl) (fun _ _ _ h => h) hHeld (by rfl) (fun wS hSw => ?_) ?_
          rotate_left
          · try dsimp only at hSw
            obtain ⟨hS1, hS2⟩ := hSw
            go_simp
            try with_reducible rfl
          try simp only [Act.put, List.setIfInBounds_toArray, List.set_cons_zero, List.set_cons_succ]
          refine take_at (i := 4) (v := ?_) (some 81) rfl rfl (by kernel_rfl) (by kernel_rfl) (by kernel_rfl) (fun _ _ _ h => h) hHeld (by rfl) (fun wS hSw => ?_) ?_
          rotate_left
          · try dsimp only at hSw
            obtain ⟨hS1, hS2⟩ := hSw
            go_simp
            try with_reducible rfl
          try simp only [Act.put, List.setIfInBounds_toArray, List.set_cons_zero, List.set_cons_succ]
          refine take_at (i := 5) (v := ?_) (some 82) rfl rfl (by kernel_rfl) (by kernel_rfl) (by kernel_rfl) (fun _ _ _ h => h) hHeld (by rfl) (fun wS hSw => ?_) ?_
          rotate_left
          · try dsimp only at hSw
            obtain ⟨hS1, hS2⟩ := hSw
            go_simp
            try with_reducible rfl
          try simp only [Act.put, List.setIfInBounds_toArray, List.set_cons_zero, List.set_cons_succ]
          refine take_at (i := 6) (v := ?_) (some 83) rfl rfl (by kernel_rfl) (by kernel_rfl) (by kernel_rfl) (fun _ _ _ h => h) hHeld (by rfl) (fun wS hSw => ?_) ?_
          rotate_left
          · try dsimp only at hSw
            obtain ⟨hS1, hS2⟩ := hSw
            go_simp
            try with_reducible rfl
          try simp only [Act.put, List.setIfInBounds_toArray, List.set_cons_zero, List.set_cons_succ]
          refine wpAnyH_ready (rs := [3]) (by kernel_rfl) (by simp) ?_
          refine AllReadyH.cons rfl (fun K hK => ?_) AllReadyH.nil
          simp only [List.getElem_toArray, List.getElem_cons_succ, List.getElem_cons_zero]
          go_simp
          refine (takeI_F (RA.drewN 1).ar hok (by omega) X).mono ?_
          rintro e w2 ⟨F2, rfl, ha2, hg2⟩
          have R2 := (RA.drewN 1).arena ha2 hg2
          have hx3 : w2.cell? ⟨bx, 2, none⟩ = some (.int .i64 X) := (World.cell?_of_block (w := wx.drew) (a := ⟨bx, 2, none⟩) (hg2.step.block bx hbl HFX.out.1)).trans hx2
          have hbl2 : bx < w2.heap.size := Nat.lt_of_lt_of_le hbl hg2.step.size
          clear ha2 hg2
          refine hK.out _ _ ⟨hx3, R2.box⟩ (fun hHeld => ?_)
          clear hK K
          try simp only [Act.put, List.setIfInBounds_toArray, List.set_cons_zero, List.set_cons_succ]
          refine wpAnyH_ready (rs := [7]) (by kernel_rfl) (by simp) ?_
          refine AllReadyH.cons rfl (fun K hK => ?_) AllReadyH.nil
          simp only [List.getElem_toArray, List.getElem_cons_succ, List.getElem_cons_zero]
          go_simp
          refine (refTake_F R2.rf hok (by omega) X).mono ?_
          rintro e w3 ⟨F3, rfl, ha3, hg3⟩
          have R3 := R2.ref ha3 hg3
          have hx4 : w3.cell? ⟨bx, 2, none⟩ = some (.int .i64 X) := (World.cell?_of_block (w := w2) (a := ⟨bx, 2, none⟩) (hg3.step.block bx hbl2 HFX.out.2)).trans hx3
          clear ha3 hg3
          refine hK.out _ _ ⟨hx4, R3.box⟩ (fun hHeld => ?_)
          clear hK K
          try simp only [Act.put, List.setIfInBounds_toArray, List.set_cons_zero, List.set_cons_succ]
          refine take_at (i := 8) (v := ?_) (some 85) rfl rfl (by kernel_rfl) (by kernel_rfl) (by kernel_rfl) (fun _ _ _ h => h) hHeld (by rfl) (fun wS hSw => ?_) ?_
          rotate_left
          · try dsimp only at hSw
            obtain ⟨hS1, hS2⟩ := hSw
            go_simp
            try with_reducible rfl
          try simp only [Act.put, List.setIfInBounds_toArray, List.set_cons_zero, List.set_cons_succ]
          refine wpAnyH_done (by kernel_rfl) ?_ _
          go_wp2_with fail
          go_meet
          case rel => exact ⟨_, _, _, _, hok.take X, takeS_len hsk, R3⟩
        · by_cases h2 : kd = 2
          · subst h2
            go_wp2_with fail
            obtain ⟨kk, rfl, hkl, hse⟩ := look_some hlk
            refine (freeI_F RA.ar hok (by omega) (List.getElem?_eq_some_iff.2 ⟨hkl, hse⟩)).mono ?_
            rintro e w2 ⟨F2, rfl, ha2, hg2⟩
            have R2 := RA.arena ha2 hg2
            have hx1' := (World.cell?_of_block (w := wx) (a := ⟨bx, 1, none⟩) (hg2.step.block bx hbl HFX.out.1)).trans hx1
            have hWc2 := R2.box
            have HD := Lib.hid (refDrop_F R2.rf hok (by omega) hkl)
            have HR2 := Lib.hid R2
            clear ha2 hg2 R2 RA
            go_wp2_with fail
            refine HD.out.mono ?_
            rintro e w3 ⟨F3, ⟨v3, rfl⟩, hr3, hg3⟩
            have R3 := HR2.out.ref hr3 hg3
            have hok3 := hok.free (List.getElem?_eq_some_iff.2 ⟨hkl, hse⟩)
            clear hr3 hg3 hx1' hWc2 HD
            go_wp2_with fail
            go_meet
            case rel => exact ⟨_, _, _, _, hok3, by rw [List.length_set]; omega, R3⟩
          · by_cases h3 : kd = 3
            · subst h3
              go_wp2_with fail
              obtain ⟨kk, rfl, hkl, hse⟩ := look_some hlk
              refine (putI_F RA.ar (by omega) (List.getElem?_eq_some_iff.2 ⟨hkl, hse⟩) X).mono ?_
              rintro e w2 ⟨F2, rfl, ha2, hg2⟩
              have R2 := RA.arena ha2 hg2
              have hx1' := (World.cell?_of_block (w := wx) (a := ⟨bx, 1, none⟩) (hg2.step.block bx hbl HFX.out.1)).trans hx1
              have hx2' := (World.cell?_of_block (w := wx) (a := ⟨bx, 2, none⟩) (hg2.step.block bx hbl HFX.out.1)).trans hx2
              have hWc2 := R2.box
              have HR2 := Lib.hid R2
              obtain ⟨vx, vt, vf, h3⟩ := R2.rf
              obtain ⟨br, cr, rfl, hcr, _, hrc, hrz⟩ := row_at h3.x hkl
              have h30 := h3.c0
              have hzk := hrz kk
              have hck := hrc kk _ (by rw [List.getElem?_map, List.getElem?_eq_getElem hkl]; rfl)
              have HS3 := Lib.hid h3
              obtain ⟨ns, hns⟩ : ∃ n, s.length = n := ⟨_, rfl⟩
              have HNS := Lib.hid hns
              rw [hns] at h30 hcr
              have hkkI : (kk : Int) < ns := by omega
              have hnsI : (ns : Int) ≤ 200 := by omega
              clear ha2 hg2 R2 RA h3 hns hrc hrz hx1 hx2 hWc
              go_wp2_with fail
              go_region
              have S3 := HS3.out.storeX rfl kk (.int .i64 X)
              have R3 := (HR2.out.ref (RefA.of3 (s := s.set kk (some X)) S3.1 (by simp) (by rw [List.map_set]; rfl) (by simp) (map_tB_put hkl hse) rfl rfl) S3.2).drewN 1
              have hok3 := hok.put (List.getElem?_eq_some_iff.2 ⟨hkl, hse⟩) X
              clear HS3 HR2 S3 h30 hzk hck hx1' hx2' hWc2
              go_wp2_with fail
              go_meet
              case rel => exact ⟨_, _, _, _, hok3, by rw [List.length_set]; omega, R3⟩
            · go_wp2_with fail
              obtain ⟨kk, rfl, hkl, hse⟩ := look_some hlk
              refine (atI_F RA.ar (by omega) (List.getElem?_eq_some_iff.2 ⟨hkl, hse⟩)).mono ?_
              rintro e w' ⟨rfl, rfl⟩
              obtain ⟨vx, vt, vf, h3⟩ := RA.rf
              obtain ⟨br, cr, rfl, hcr, _, hrc, hrz⟩ := row_at h3.x hkl
              have h30 := h3.c0
              have hck := hrc kk (.int .i64 y) (by rw [List.getElem?_map, List.getElem?_eq_getElem hkl, hse]; rfl)
              obtain ⟨ns, hns⟩ : ∃ n, s.length = n := ⟨_, rfl⟩
              have HNS := Lib.hid hns
              rw [hns] at h30 hcr
              have hkkI : (kk : Int) < ns := by omega
              have hnsI : (ns : Int) ≤ 200 := by omega
              have hyy : (y != y) = false := by simp
              clear h3 hns hrc hrz
              go_wp2_with fail
              go_quiet (fail)
              go_wp2_with fail
              go_meet
              case rel => exact ⟨_, _, _, _, hok, by omega, RA.drewN nq⟩
      case rest =>
        clear RA hx0 hx1 hx2 hWc hok HFX hbl
        obtain ⟨FA', FR', s', fr', hok, hsl, RA⟩ := hcut
        have hWc := RA.box
        obtain ⟨vx, vt, vf, h3⟩ := RA.rf
        have h30 := h3.c0
        obtain ⟨A3, c3, rfl, _⟩ := own_shape h3.x
        have hcnt := cntS_ok hok
        have HLn := Lib.hid (fun n => lenI_F (RA.ar.drewN n) hok (by omega))
        have HRl := Lib.hid (fun n => (refLen_any (RA.rf.drewN n) (by omega)).mono (fun _ _ h => And.intro h.1 h.2.symm))
        have HCp := Lib.hid (fun n => (capI_F (RA.ar.drewN n)).mono (fun _ _ h => And.intro h.1 h.2.symm))
        rw [← hcnt] at HLn
        obtain ⟨nc, hnc⟩ : ∃ n, cntS s' = n := ⟨_, rfl⟩
        rw [hnc] at HLn HRl
        obtain ⟨ns, hns⟩ : ∃ n, s'.length = n := ⟨_, rfl⟩
        rw [hns] at h30 HCp
        have hq1 : ((nc : Int) != (nc : Int)) = false := by simp
        have hq2 : ((ns : Int) != (ns : Int)) = false := by simp
        clear h3 hcnt hnc
        go_wp2_with fail
        go_quiet (first
          | (go_at_call 11; exact Calls.quiet_of (HLn.out _))
          | (go_at_call 26; exact Calls.quiet_of_same (HRl.out _))
          | (go_at_call 12; exact Calls.quiet_of_same (HCp.out _)))
        obtain ⟨w1, hw1⟩ : ∃ v, wc.drewN nq = v := ⟨_, rfl⟩
        have R1 := RA.drewN nq
        rw [hw1] at R1 ⊢
        clear RA HLn HRl HCp hq1 hq2 hw1 h30 hWc
        go_wp2_with fail
        refine (all_any _ _ (.inr ⟨_, rfl⟩)).mono ?_
        rintro e w' ⟨rfl, rfl⟩
        obtain ⟨bn, hbn⟩ : ∃ g, w1.heap.size = g := ⟨_, rfl⟩
        obtain ⟨bA, hbA⟩ : ∃ g, bn + 1 = g := ⟨_, rfl⟩
        obtain ⟨w2, hw2⟩ : ∃ v, (w1.alloc (.cells #[.int .i64 0] 3)).alloc (.cells #[.pointer (some ⟨gA, 0, none⟩)] 24) = v := ⟨_, rfl⟩
        have hB2 : Below w1.heap.size w1 w2 := by rw [← hw2]; exact ((Below.refl _ _).alloc (Nat.le_refl _) _).alloc (by simp) _
        have hz2 : w2.heap.size = w1.heap.size + 2 := by rw [← hw2]; simp
        have hn2 : w2.heap[bn]? = some (.cells #[.int .i64 ((nxP [] : Nat) : Int)] 3) := by rw [← hw2, ← hbn]; exact heap_alloc2_old' w1 _ _
        have hA2 : w2.cell? ⟨bA, 0, none⟩ = some (.pointer (some ⟨gA, 0, none⟩)) := by
          rw [cell_of_row w2 bA 0 _ _ _ (by rw [← hw2, ← hbA, ← hbn]; exact heap_alloc2_new' w1 _ _)]; rfl
        have R2 := R1.below hB2
        rw [World.size_alloc, hw2, hbn, hbA]
        have HB := Lib.hid (And.intro hbn (And.intro hbA hz2))
        have hs1 : s'.length ≤ 1000000 := by omega
        clear hw2 hbn hbA hz2
        go_wp2_with fail
        refine (wpIn_wide (n := 9)).1 ?_
        refine wpIn_rangeFunc_ownG rfl (by omega) (gf := 30) (lb := #[.pointer (some ⟨bA, 0, none⟩)]) rfl trivial (enters_of Try.func30 (by kernel_rfl) rfl)
          (all_stops_enc 8 (by omega) bA gA (fun k => k = bn) _ encP s' fr' hs1 (encP_ok hs1) w2 (fun k hk => by have := HB.out; have hk : k = bn := hk; omega) hA2 R2.ar) KeepsCells.trans KeepsCells.put (Below.refl _ _) (fun _ => rfl)
          (fun pre W => Below w1.heap.size w1 W ∧ W.heap[bn]? = some (.cells #[.int .i64 ((nxP pre : Nat) : Int)] 3)) (fun c pre _ => c = .ret ∧ ¬ (pre <+: takens 0 s'))
          (ownFrom_box (Nat.le_refl _) (by have := HB.out; omega) (by have := HB.out; omega)) (fun _ _ _ _ _ h _ _ => h) ⟨hB2, hn2⟩ ?a1true ?assigntrue ?bodytrue ?donetrue ?stoptrue
        case assigntrue =>
          intro l x W K hK
          simp only [encP, List.zip_toArray, List.zip_cons_cons, List.zip_nil_left]
          gi_wp2
          exact hK
        case bodytrue =>
          intro l pre x W hI hlen
          obtain ⟨hbW, hnW⟩ := hI
          obtain ⟨i, hi⟩ : ∃ i, min x.1 1000000 = i := ⟨_, rfl⟩
          have hpre := nxP_le pre
          have hiI : (i : Int) ≤ 1000000 := by omega
          have HN := Lib.hid (And.intro hi (pfx_next hs1 pre x))
          have HSN := Lib.hid (show nxP (pre ++ [x]) = i + 1 by rw [nxP_snoc, hi])
          rw [hi]
          clear hi hlen hB2 hn2 hA2 R2
          gi_wp2_with fail
          gi_loopw [] (fun wr => ∃ n : Nat, nxP pre ≤ n ∧ (n ≤ nxP pre ∨ n ≤ i) ∧ (∀ j, nxP pre ≤ j → j < n → look s' (j : Int) = none) ∧ Below w1.heap.size w1 wr ∧ wr.heap[bn]? = some (.cells #[.int .i64 (n : Int)] 3) ∧ KeepsFrom w2.heap.size W wr ∧ KeepsCells (fun k => k = bn) W wr) (fun wr => i - (intOf ((wr.cell? ⟨bn, 0, none⟩).getD undef)).toNat)
          case atStart => exact ⟨nxP pre, Nat.le_refl _, .inl (Nat.le_refl _), fun j h1 h2 => by omega, hbW, hnW, KeepsFrom.refl _ _, KeepsCells.refl _ _⟩
          case round =>
            obtain ⟨n, hn1, hn2, hno, hbr, hnr, hkf, hkc⟩ := hrel
            have hcn : wr.cell? ⟨bn, 0, none⟩ = some (.int .i64 (n : Int)) := by rw [cell_of_row wr bn 0 _ _ _ hnr]; rfl
            have hfn : wr.frozen? ⟨bn, 0, none⟩ = false := frozen_of_row wr bn 0 _ _ hnr
            have Rr := R1.below hbr
            have hWr := Rr.box
            have h2c := Rr.cell2
            have h2f := Rr.frozen2
            have HH := Lib.hid (has_any Rr.rf (by omega) (n : Int))
            have HK := Lib.hid (And.intro hno (And.intro hbr (And.intro hnr (And.intro hkf hkc))))
            have hnI : (n : Int) ≤ 1000001 := by omega
            have HZ := Lib.hid (show bn < w2.heap.size ∧ b2 < w2.heap.size ∧ w1.heap.size ≤ bn from by have := HB.out; have := R1.lows; omega)
            clear hno hbr hnr hkf hkc
            by_cases hlt : n < i
            · have hltI : (n : Int) < i := by omega
              cases hlk : look s' (n : Int) with
              | none =>
                rw [hlk] at HH
                gi_wp2_with fail
                refine ⟨trivial, ((callsIn_wide.2 HH.out).inRound l).mono ?_⟩
                rintro e w' ⟨rfl, rfl⟩
                gi_wp2_with fail
                go_roundw
                case rel =>
                  refine ⟨n + 1, by omega, by omega, fun j h1 h2 => ?_, HK.out.2.1.setCell (p := ⟨bn, 0, none⟩) HZ.out.2.2 _, (heap_setCell_same wr bn 0 _ _ _ HK.out.2.2.1).trans ?_, from_set HK.out.2.2.2.1 HZ.out.1 _, keeps_set HK.out.2.2.2.2 _⟩
                  · by_cases e : j = n
                    · subst e; exact hlk
                    · exact HK.out.1 j h1 (by omega)
                  · go_num
                case measure =>
                  rw [hcn, show World.cell? _ _ = some (.int .i64 ((n : Int) + 1)) from by rw [cell_of_row _ bn 0 _ _ _ (heap_setCell_same wr bn 0 _ _ _ HK.out.2.2.1)]; rfl]
                  simp [intOf]
                  omega
              | some y =>
                rw [hlk] at HH
                have hne : ((n : Int) != (i : Int)) = true := by simp; omega
                gi_wp2_with fail
                refine ⟨trivial, ((callsIn_wide.2 HH.out).inRound l).mono ?_⟩
                rintro e w' ⟨rfl, rfl⟩
                gi_wp2_with fail
                refine ⟨trivial, ?_⟩
                gi_wp2_with fail
                refine ⟨from_set HK.out.2.2.2.1 HZ.out.2.1 _, rfl, fun hp => ?_⟩
                obtain ⟨a1, a2, a3, a4⟩ := HN.out.2 hp
                have hii := HN.out.1
                have := a4 n hn1 (by omega)
                rw [hlk] at this
                cases this
            · have hltI : ¬ (n : Int) < i := by omega
              by_cases hni : n = i
              · subst hni
                have hne : ((n : Int) != (n : Int)) = false := by simp
                cases hlk : look s' (n : Int) with
                | none =>
                  rw [hlk] at HH
                  gi_wp2_with fail
                  refine ⟨trivial, ?_⟩
                  gi_wp2_with fail
                  refine ⟨trivial, ((callsIn_wide.2 HH.out).inRound l).mono ?_⟩
                  rintro e w' ⟨rfl, rfl⟩
                  gi_wp2_with fail
                  refine ⟨from_set HK.out.2.2.2.1 HZ.out.2.1 _, rfl, fun hp => ?_⟩
                  obtain ⟨a1, a2, a3, a4⟩ := HN.out.2 hp
                  have hii := HN.out.1
                  rw [show n = x.1 by omega, look_nat, a3] at hlk
                  cases hlk
                | some y =>
                  rw [hlk] at HH
                  obtain ⟨kk, hkk, hkl, hse⟩ := look_some hlk
                  obtain rfl : n = kk := by omega
                  obtain ⟨vx, vt, vf, h3⟩ := Rr.rf
                  obtain ⟨br, cr, rfl, hcr, _, hrc, _⟩ := row_at h3.x hkl
                  have h30 := h3.c0
                  have hck := hrc n (.int .i64 y) (by rw [List.getElem?_map, List.getElem?_eq_getElem hkl, hse]; rfl)
                  obtain ⟨ns, hns⟩ : ∃ n, s'.length = n := ⟨_, rfl⟩
                  rw [hns] at h30 hcr
                  have hkkI : (n : Int) < ns := by omega
                  have hnsI : (ns : Int) ≤ 201 := by omega
                  clear h3 hrc hkk
                  by_cases hyx : x.2 = y
                  · have hxy : (x.2 != y) = false := by simp [hyx]
                    gi_wp2_with fail
                    refine ⟨trivial, ?_⟩
                    gi_wp2_with fail
                    refine ⟨trivial, ((callsIn_wide.2 HH.out).inRound l).mono ?_⟩
                    rintro e w' ⟨rfl, rfl⟩
                    gi_wp2_with fail
                    refine ⟨from_set HK.out.2.2.2.1 HZ.out.1 _, keeps_set HK.out.2.2.2.2 _, HK.out.2.1.setCell (p := ⟨bn, 0, none⟩) HZ.out.2.2 _, (heap_setCell_same wr bn 0 _ _ _ HK.out.2.2.1).trans ?_⟩
                    rw [HSN.out]
                    go_num
                  · have hxy : (x.2 != y) = true := by simp [hyx]
                    gi_wp2_with fail
                    refine ⟨trivial, ?_⟩
                    gi_wp2_with fail
                    refine ⟨trivial, ((callsIn_wide.2 HH.out).inRound l).mono ?_⟩
                    rintro e w' ⟨rfl, rfl⟩
                    gi_wp2_with fail
                    refine ⟨from_set HK.out.2.2.2.1 HZ.out.2.1 _, rfl, fun hp => ?_⟩
                    obtain ⟨a1, a2, a3, a4⟩ := HN.out.2 hp
                    have hii := HN.out.1
                    rw [show n = x.1 by omega, look_nat, a3] at hlk
                    exact hyx (by simpa using hlk)
              · have hne : ((n : Int) != (i : Int)) = true := by simp; omega
                gi_wp2_with fail
                refine ⟨trivial, ?_⟩
                gi_wp2_with fail
                refine ⟨trivial, ?_⟩
                gi_wp2_with fail
                refine ⟨from_set HK.out.2.2.2.1 HZ.out.2.1 _, rfl, fun hp => ?_⟩
                obtain ⟨a1, a2, a3, a4⟩ := HN.out.2 hp
                have hii := HN.out.1
                omega
        case stoptrue => 
          rintro D c pre W3 hD hp ⟨rfl, hno⟩ hK3
          exact absurd hp hno
        case donetrue =>
          rintro D ys W3 hD rfl ⟨hB3, hn3⟩ hK3
          obtain ⟨he1, he2⟩ := pfx_end hs1
          obtain ⟨n0, hn0⟩ : ∃ n, nxP (takens 0 s') = n := ⟨_, rfl⟩
          rw [hn0] at hn3 he1 he2
          have HD := Lib.hid (show w1.heap.size ≤ D by have := HB.out; omega)
          have HE := Lib.hid he2
          have H3 := Lib.hid (And.intro hB3 (And.intro hK3 hn3))
          rw [hns] at he1
          have hnsI : (ns : Int) ≤ 201 := by omega
          clear hB2 hn2 hA2 R2 hB3 hn3 hK3 hD he2 hn0
          go_wp2_with fail
          go_loopw [] (fun wr => ∃ n : Nat, n0 ≤ n ∧ n ≤ ns ∧ Below w1.heap.size w1 wr ∧ wr.heap[D]? = some (.deferred (some [])) ∧ wr.heap[bn]? = some (.cells #[.int .i64 (n : Int)] 3)) (fun wr => ns - (intOf ((wr.cell? ⟨bn, 0, none⟩).getD undef)).toNat)
          case atStart => exact ⟨n0, Nat.le_refl _, he1, H3.out.1, H3.out.2.1, H3.out.2.2⟩
          case round =>
            obtain ⟨n, hn1, hn2, hbr, hDr, hnr⟩ := hrel
            have hcn : wr.cell? ⟨bn, 0, none⟩ = some (.int .i64 (n : Int)) := by rw [cell_of_row wr bn 0 _ _ _ hnr]; rfl
            have hfn : wr.frozen? ⟨bn, 0, none⟩ = false := frozen_of_row wr bn 0 _ _ hnr
            have Rr := R1.mark hbr HD.out hDr
            have hWr := Rr.box
            obtain ⟨vx, vt, vf, h3⟩ := Rr.rf
            have h30 := h3.c0
            obtain ⟨A3, c3, rfl, _⟩ := own_shape h3.x
            rw [hns] at h30
            have HH := Lib.hid (fun q => has_any (Rr.rf.drewN q) (by omega) (n : Int))
            have HK := Lib.hid (And.intro hbr (And.intro hDr hnr))
            have HZ := Lib.hid (show w1.heap.size ≤ bn ∧ D ≠ bn from by
              have h1 := HB.out
              refine ⟨by omega, fun e => ?_⟩
              subst e
              rw [hDr] at hnr
              cases hnr)
            clear hbr hDr hnr h3
            by_cases hlt : n < ns
            · have hltI : (n : Int) < ns := by omega
              have hlk := HE.out n hn1
              rw [hlk] at HH
              go_wp2_with fail
              go_quiet (fail)
              go_wp2_with fail
              refine (HH.out nq).mono ?_
              rintro e w' ⟨rfl, rfl⟩
              go_wp2_with fail
              go_roundw
              case rel =>
                refine ⟨n + 1, by omega, by omega, (below_drewN HK.out.1 nq).setCell (p := ⟨bn, 0, none⟩) HZ.out.1 _, (heap_setCell_other _ _ _ _ (by exact HZ.out.2)).trans HK.out.2.1, (heap_setCell_same (wr.drewN nq) bn 0 _ _ _ HK.out.2.2).trans ?_⟩
                go_num
              case measure =>
                rw [hcn, show World.cell? _ _ = some (.int .i64 ((n : Int) + 1)) from by rw [cell_of_row _ bn 0 _ _ _ (heap_setCell_same (wr.drewN nq) bn 0 _ _ _ HK.out.2.2)]; rfl]
                simp [intOf]
                omega
            · obtain rfl : n = ns := by omega
              have hltI : decide ((n : Int) < (n : Int)) = false := by simp
              go_wp2_with fail
              go_quiet (fail)
              go_wp2_with fail
              obtain ⟨w4, hw4⟩ : ∃ v, wr.drewN nq = v := ⟨_, rfl⟩
              have R4 := Rr.drewN nq
              rw [hw4] at R4 ⊢
              clear hw4 Rr HH HK hcn hfn hWr h30
              refine (all_any _ _ (.inr ⟨_, rfl⟩)).mono ?_
              rintro e w' ⟨rfl, rfl⟩
              obtain ⟨bB, hbB⟩ : ∃ g, w4.heap.size = g := ⟨_, rfl⟩
              obtain ⟨w5, hw5⟩ : ∃ v, w4.alloc (.cells #[.pointer (some ⟨gA, 0, none⟩)] 24) = v := ⟨_, rfl⟩
              have hB5 : Below w4.heap.size w4 w5 := by rw [← hw5]; exact (Below.refl _ _).alloc (Nat.le_refl _) _
              have hA5 : w5.cell? ⟨bB, 0, none⟩ = some (.pointer (some ⟨gA, 0, none⟩)) := by
                rw [cell_of_row w5 bB 0 _ _ _ (by rw [← hw5, ← hbB]; exact heap_alloc_new w4 _)]; rfl
              have R5 := R4.below hB5
              rw [hw5, hbB]
              clear hw5 hbB R4
              go_wp2_with fail
              refine (wpIn_wide (n := 9)).1 ?_
              refine wpIn_rangeFunc_ownG rfl (by omega) (gf := 30) (lb := #[.pointer (some ⟨bB, 0, none⟩)]) rfl trivial (enters_of Try.func30 (by kernel_rfl) rfl)
                (all_stops 8 (by omega) bB gA (fun _ => False) _ s' fr' hs1 w5 (fun _ h => h.elim) hA5 R5.ar) KeepsCells.trans KeepsCells.put (Below.refl _ _) (fun _ => rfl)
                (fun _ W => Below w5.heap.size w5 W) (fun c _ W => c = .exit 9 ∧ Below w5.heap.size w5 W)
                (ownFrom_below (Nat.le_refl _) (Nat.le_refl _)) (ownFrom_exit (Nat.le_refl _) (Nat.le_refl _)) (Below.refl _ _) ?a1Btrue ?assignBtrue ?bodyBtrue ?doneBtrue ?stopBtrue
              case assignBtrue =>
                intro l x W K hK
                gi_wp2
                exact hK
              case bodyBtrue =>
                intro l pre x W hI _
                gi_wp2_with fail
                exact ⟨KeepsFrom.refl _ _, rfl, hI⟩
              case stopBtrue =>
                rintro D2 c pre W6 hD2 _ ⟨rfl, hb6⟩ hK6
                have R6 := R5.mark hb6 hD2 hK6
                refine (wpIn_wide (n := 9)).2 ?_
                go_wp2_with fail
                refine ⟨⟨k + 1, _, _, _, _, by omega, hsl, hok, R6, rfl, rfl, rfl, rfl, rfl, rfl, rfl, by show _ = Value.int _ _; go_num⟩, ?_⟩
                show m - (intOf (.int .i64 _)).toNat < m - (intOf (.int .i64 k)).toNat
                simp [intOf]
                omega
              case doneBtrue =>
                rintro D2 ys W6 hD2 _ hb6 hK6
                have R6 := R5.mark hb6 hD2 hK6
                go_wp2_with fail
                refine ⟨⟨k + 1, _, _, _, _, by omega, hsl, hok, R6, rfl, rfl, rfl, rfl, rfl, rfl, rfl, by show _ = Value.int _ _; go_num⟩, ?_⟩
                show m - (intOf (.int .i64 _)).toNat < m - (intOf (.int .i64 k)).toNat
                simp [intOf]
                omega
  · obtain rfl : k = m := by omega
    have HR := Lib.hid R
    clear R HS HL HW
    go_wp2_with fail
    refine (known_any _).mono ?_
    rintro e w3 ⟨rfl, hb3⟩
    have R3 := HR.out.below hb3
    have h2c := R3.cell2
    have h2f := R3.frozen2
    have hsame := heap_setCell_same w3 b2 0 _ _ (.bool true) R3.c2
    have HM : Marks w.heap.size (w3.setCell ⟨b2, 0, none⟩ (.bool true)) ds := R3.mks.step (G := fun k => k = b2) ((Step.refl (fun k => k = b2) w3).setCell (p := ⟨b2, 0, none⟩) (.inl rfl) (.bool true)) (fun d hd r hr e => by
      obtain ⟨r', hr', _, hh⟩ := R3.mks.2 d hd
      rw [hr'] at hr
      injection hr with hr
      have e : r = b2 := e
      subst hr e
      rw [R3.c2] at hh
      cases hh)
    have HE := Lib.hid (And.intro (R3.keeps.setCell (p := ⟨b2, 0, none⟩) R3.low.2.1 (.bool true)) (And.intro hsame HM))
    clear hsame HM R3 hb3
    go_wp2_with fail
    refine leaves_marks _ _ HE.out.2.2 (fun w' hs => ?_)
    have hc := hs.cells.2 b2 _ HE.out.2.1 rfl (fun h => h)
    have hc5 : w'.cell? ⟨b2, 0, none⟩ = some (.bool true) := by rw [cell_of_row w' b2 0 _ _ _ hc]; rfl
    refine ⟨.bool true, ?_, rfl, HE.out.1.trans hs.below⟩
    simp [results, Try.f5, go_sem, hc5]

set_option maxRecDepth 100000 in
set_option maxHeartbeats 4000000 in
theorem plays_out (A : Option Addr) (m c : Nat) (w : World) (hm : 200 < m) (hm2 : (m : Int) ≤ 9223372036854775807) :
    Calls Try.prog 5 #[.slice A m c] w fun e w' => e = .returned (.bool true) ∧ Below w.heap.size w w' := by
  have hmI : (200 : Int) < m := by omega
  refine (callsIn_wide (n := 9)).1 ?_
  refine callsIn_of_wp_marks Try.func5 rfl trivial ?_ rfl
  refine (wpIn_wide (n := 9)).2 ?_
  refine wp_mono ?_ outM_le
  simp only [Try.ntmps5, List.size_toArray, List.length_cons, List.length_nil, Nat.reduceAdd, Nat.reduceSub, Array.replicate_succ, Array.replicate_zero, List.push_toArray, List.append_toArray, List.nil_append, List.cons_append]
  go_wp2_with fail
  obtain ⟨b2, hb2⟩ : ∃ b, w.heap.size = b := ⟨_, rfl⟩
  rw [hb2]
  refine (newI_F _).mono ?_
  rintro e w1 ⟨FA, gA, rfl, hA1, hbel1, hlA⟩
  go_wp2_with fail
  refine (known_any _).mono ?_
  rintro e w3 ⟨rfl, hb3⟩
  have hw1 : w1.heap[b2]? = some (.cells #[.bool false] 4) := by
    rw [hbel1.block b2 (by simp; omega), ← hb2]
    exact heap_alloc_new w _
  have hl1 := (Array.getElem?_eq_some_iff.1 hw1).1
  obtain ⟨wK, hwK⟩ : ∃ v, (w1.alloc (.cells #[.slice none 0 0, .slice none 0 0, .slice none 0 0] 51)).alloc (.cells #[.pointer (some ⟨w1.heap.size, 0, none⟩)] 47) = v := ⟨_, rfl⟩
  have hbK : Below w1.heap.size w1 wK := by rw [← hwK]; exact ((Below.refl _ _).alloc (Nat.le_refl _) _).alloc (by simp) _
  rw [hwK] at hb3
  have hzK := hbK.size
  have hw3 : w3.heap[b2]? = some (.cells #[.bool false] 4) := (hb3.block b2 (by omega)).trans ((hbK.block b2 hl1).trans hw1)
  have h2c : w3.cell? ⟨b2, 0, none⟩ = some (.bool false) := by rw [cell_of_row w3 b2 0 _ _ _ hw3]; rfl
  have h2f : w3.frozen? ⟨b2, 0, none⟩ = false := frozen_of_row w3 b2 0 _ _ hw3
  have hbel : Below w.heap.size w w3 := by
    have h1 : Below w.heap.size w w1 := ((Below.refl _ w).alloc (Nat.le_refl _) _).trans (hbel1.mono (by simp))
    have h2 := h1.trans (hbK.mono h1.size)
    exact h2.trans (hb3.mono h2.size)
  have HE := Lib.hid (And.intro (hbel.setCell (p := ⟨b2, 0, none⟩) (by show w.heap.size ≤ b2; omega) (.bool true)) (heap_setCell_same w3 b2 0 _ _ (.bool true) hw3))
  clear hbel hbel1 hbK hb3 hw1 hw3 hA1 hlA hwK hzK hl1
  go_wp2_with fail
  refine leaves_marks (B := w.heap.size) _ _ (Marks.nil_ _ _) (fun w' hs => ?_)
  have hc := hs.cells.2 b2 _ HE.out.2 rfl (fun h => h)
  have hc5 : w'.cell? ⟨b2, 0, none⟩ = some (.bool true) := by rw [cell_of_row w' b2 0 _ _ _ hc]; rfl
  refine ⟨.bool true, ?_, rfl, HE.out.1.trans hs.below⟩
  simp [results, Try.f5, go_sem, hc5]

theorem plays_law (A : Option Addr) (m c : Nat) (l : List OpR) (w : World) (hs : Sees w w.heap.size 3 A m (l.flatMap OpR.cells)) (hl : l.length = m) (hm : (m : Int) ≤ 9223372036854775807) (hw : ∀ o ∈ l, o.Fits) :
    Calls Try.prog 5 #[.slice A m c] w fun e w' => e = .returned (.bool true) ∧ Below w.heap.size w w' := by
  by_cases h : m ≤ 200
  · exact plays_any A m c l w hs hl h hw
  · exact plays_out A m c w (by omega) hm

end Go.Proofs.Yteelmlhknfbjdaa
