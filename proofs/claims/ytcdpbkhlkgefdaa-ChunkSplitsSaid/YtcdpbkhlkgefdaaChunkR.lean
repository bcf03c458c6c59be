/-
  The walk of rubriclaw09.ChunkLines.
-/
import Derived.Test.YtcdpbkhlkgefdaaChunkQ
namespace Go.Proofs.Ytcdpbkhlkgefdaa
open Go.RowKit

set_option maxRecDepth 100000 in
set_option maxHeartbeats 8000000 in
theorem chunkLines_any (A : Option Addr) (n c : Nat) (k0 : List Int) (w : World) (hs : Sees w w.heap.size 1 A n (k0.map r32)) (hn : n ≤ 1000) :
    Calls Try.prog 5 #[.slice A n c] w fun e w' => e = .returned (.bool true) ∧ Below w.heap.size w w' := by
  have hnI : (n : Int) ≤ 1000 := by omega
  have HO1 := Lib.hid (of_any A n c w.heap.size k0 w hs (Nat.le_refl _) hn)
  obtain ⟨l, hl⟩ : ∃ x, ofC k0 = x := ⟨_, rfl⟩
  obtain ⟨ea, hea⟩ : ∃ x, ofE k0 = x := ⟨_, rfl⟩
  have lh : l.length ≤ 32 := by rw [← hl]; exact ofC_len k0
  rw [hl, hea] at HO1
  clear hl hea hs
  have hnl := nls_le l
  have hlI : (l.length : Int) ≤ 32 := by omega
  have HNl := Lib.hid (fun w => newlines_any l w lh)
  have HNN := Lib.hid (fun w => newlineAt_any l (nls l) w lh (by omega) (by omega))
  rw [show nlV (nlGo l (nls l) 0) = .tuple #[.int .i64 0, .bool false] by rw [nlGo_none l (nls l) 0 (Int.le_refl _)]; rfl] at HNN
  have HLn := Lib.hid (fun w => len_any l w lh)
  have HAl := Lib.hid (fun w => ahead_any l (l.length : Int) w lh (by omega))
  rw [show l.take (l.length : Int).toNat = l by rw [Int.toNat_natCast, List.take_length]] at HAl
  go_enter Try.func5, Try.ntmps5
  go_wp2_with fail
  refine HO1.out.mono ?_
  rintro e w1 ⟨rfl, hb1⟩
  have K1 := Lib.hid hb1
  clear hb1
  by_cases hea : ea = 0
  · subst hea
    obtain ⟨g, hg⟩ : ∃ g, w1.heap.size = g := ⟨_, rfl⟩
    have HG := Lib.hid hg
    clear hg
    go_wp2_with (first | (refine wpList_store_row rfl 26 (.tmp 3) (.tmp 20) rfl w1.heap.size (chC l).toArray rfl rfl 26 (chC []).toArray (heap_alloc_new w1 _) (ch_info l lh) (ch_size l lh) (all_one l) ?_; rw [alloc_setRow]) | (refine load_rowG (by rfl) 26 (.tmp 3) rfl w1.heap.size rfl 26 (chC l).toArray (0, 0) _ (heap_alloc_new w1 _) Try.underlying26 rfl (ch_info l lh) ?_))
    obtain ⟨w2, hw2⟩ : ∃ v, w1.alloc (.cells (chC l).toArray 26) = v := ⟨_, rfl⟩
    have H2 := Lib.hid (show w2.heap[g]? = some (.cells (chC l).toArray 26) by rw [← hw2, ← HG.out]; exact heap_alloc_new w1 _)
    have K2 := Lib.hid (show Below w.heap.size w w2 by rw [← hw2]; exact K1.out.alloc K1.out.size _)
    rw [hw2, HG.out]
    clear hw2
    refine (HNl.out w2).mono ?_
    rintro e w3 ⟨rfl, hb3⟩
    have H3 := Lib.hid (heap_later H2.out hb3)
    have K3 := Lib.hid (K2.out.trans (hb3.mono K2.out.size))
    clear hb3
    go_wp2_with fail
    go_loopw [5, 27] (fun v5 v27 wr => ∃ (k : Nat) (p : Int), (k : Int) ≤ nls l ∧ v27 = .int .i64 k ∧ v5 = .int .i64 p ∧ -1 ≤ p ∧ p ≤ 32 ∧ (0 ≤ p → nls (l.take p.toNat) < k) ∧ wr.heap[g]? = some (.cells (chC l).toArray 26) ∧ Below w.heap.size w wr) (fun _ v27 _ => (nls l).toNat - (intOf v27).toNat)
    case atStart => exact ⟨0, -1, by omega, rfl, rfl, by omega, by omega, fun h => by omega, H3.out, K3.out⟩
    case round =>
      obtain ⟨k, p, hk, rfl, rfl, hp0, hp1, hpl, hgr, hbr⟩ := hrel
      have HGR := Lib.hid hgr
      have HBR := Lib.hid hbr
      by_cases hlt : (k : Int) < nls l
      · obtain ⟨j, e1, e2, e3⟩ := nlGo_spec l k 0 (by omega) hlt
        rw [Nat.zero_add] at e1
        have hj : j < l.length := (List.getElem?_eq_some_iff.1 e2).1
        have hpj : p < j := by
          rcases Int.lt_or_le p j with h | h
          · exact h
          · have h1 := hpl (by omega)
            have h2 := nls_mono l (i := j) (j := p.toNat) (by omega)
            omega
        have hs := nls_snoc l j 10 e2
        rw [if_pos rfl, e3] at hs
        have HN := Lib.hid (fun w => newlineAt_any l k w lh (by omega) (by omega))
        rw [show nlV (nlGo l k 0) = .tuple #[.int .i64 j, .bool true] by rw [e1]; rfl] at HN
        have HA := Lib.hid (fun w => at_yes l j 10 w lh hj e2)
        have H1 := Lib.hid (fun w => ahead_any l (j : Int) w lh (by omega))
        rw [Int.toNat_natCast, e3] at H1
        have H4 := Lib.hid (fun w => ahead_any l ((j : Int) + 1) w lh (by omega))
        rw [show ((j : Int) + 1).toNat = j + 1 by omega, hs] at H4
        have HE3 := Lib.hid e3
        have hd : decide ((j : Int) ≤ p) = false := decide_eq_false (by omega)
        have hj32 : (j : Int) < 32 := by omega
        clear hgr hbr hs e1 e2 e3 hpl
        go_wp2_with (refine load_rowG (by rfl) 26 (.tmp 3) rfl g rfl 26 (chC l).toArray (0, 0) _ HGR.out Try.underlying26 rfl (ch_info l lh) ?_)
        refine (HN.out _).mono ?_
        rintro e w4 ⟨rfl, hb4⟩
        have G4 := Lib.hid (heap_later HGR.out hb4)
        have K4 := Lib.hid (HBR.out.trans (hb4.mono HBR.out.size))
        clear hb4
        go_wp2_with (refine load_rowG (by rfl) 26 (.tmp 3) rfl g rfl 26 (chC l).toArray (0, 0) _ G4.out Try.underlying26 rfl (ch_info l lh) ?_)
        refine (HA.out _).mono ?_
        rintro e w5 ⟨rfl, hb5⟩
        have G5 := Lib.hid (heap_later G4.out hb5)
        have K5 := Lib.hid (K4.out.trans (hb5.mono K4.out.size))
        clear hb5
        go_wp2_with (refine load_rowG (by rfl) 26 (.tmp 3) rfl g rfl 26 (chC l).toArray (0, 0) _ G5.out Try.underlying26 rfl (ch_info l lh) ?_)
        refine (H1.out _).mono ?_
        rintro e w6 ⟨rfl, hb6⟩
        have G6 := Lib.hid (heap_later G5.out hb6)
        have K6 := Lib.hid (K5.out.trans (hb6.mono K5.out.size))
        clear hb6
        go_wp2_with (refine load_rowG (by rfl) 26 (.tmp 3) rfl g rfl 26 (chC l).toArray (0, 0) _ G6.out Try.underlying26 rfl (ch_info l lh) ?_)
        refine (H4.out _).mono ?_
        rintro e w7 ⟨rfl, hb7⟩
        have G7 := Lib.hid (heap_later G6.out hb7)
        have K7 := Lib.hid (K6.out.trans (hb7.mono K6.out.size))
        clear hb7
        go_wp2_with fail
        go_roundw
        case rel => exact ⟨k + 1, j, by omega, by go_num, rfl, by omega, by omega, fun _ => by rw [Int.toNat_natCast, HE3.out]; omega, G7.out, K7.out⟩
        case measure => simp [intOf]; omega
      · have hke : (k : Int) = nls l := by omega
        have hV0 : Below w.heap.size w wr.drew := hbr.drew
        clear hpl hke
        go_wp2_with fail
        refine wp_region_held_drew (S := fun w' => w'.heap[g]? = some (.cells (chC l).toArray 26)) (by kernel_rfl) hgr (fun hHeld => ?_)
        try dsimp only at hHeld
        refine take_at (i := 0) (v := ?_) (some 76) rfl rfl (by kernel_rfl) (by kernel_rfl) (by kernel_rfl) (fun _ _ _ h => h) hHeld (by rfl) (fun wS hSw => ?_) ?_
        rotate_left
        · refine exec_load_row 26 (.tmp 3) ?_ g ?_ 26 (chC l).toArray (0, 0) _ hSw Try.underlying26 rfl (ch_info l lh) <;> rfl
        try simp only [Act.put, List.setIfInBounds_toArray, List.set_cons_zero, List.set_cons_succ]
        refine take_at (i := 1) (v := ?_) (some 77) rfl rfl (by kernel_rfl) (by kernel_rfl) (by kernel_rfl) (fun _ _ _ h => h) hHeld (by rfl) (fun wS hSw => ?_) ?_
        rotate_left
        · refine exec_load_row 26 (.tmp 3) ?_ g ?_ 26 (chC l).toArray (0, 0) _ hSw Try.underlying26 rfl (ch_info l lh) <;> rfl
        try simp only [Act.put, List.setIfInBounds_toArray, List.set_cons_zero, List.set_cons_succ]
        refine wpAnyH_ready (rs := [2]) (by kernel_rfl) (by simp) ?_
        refine AllReadyH.cons rfl (fun K hK => ?_) AllReadyH.nil
        simp only [List.getElem_toArray, List.getElem_cons_succ, List.getElem_cons_zero]
        go_simp
        refine (HNl.out _).mono ?_
        rintro e v1 ⟨rfl, hv1⟩
        have hH1 := heap_later hHeld hv1
        have hV1 : Below w.heap.size w v1 := hV0.trans (hv1.mono hV0.size)
        clear hv1
        dsimp only
        have hOld := hHeld
        refine hK.out _ _ hH1 (fun _ => ?_)
        clear hK K
        refine wpAnyH_mono (S2 := fun w' => w'.heap[g]? = some (.cells (chC l).toArray 26)) (fun _ h => h) _ _ _ _ ?_
        clear hHeld
        have hHeld := hH1
        clear hOld
        try simp only [Act.put, List.setIfInBounds_toArray, List.set_cons_zero, List.set_cons_succ]
        refine wpAnyH_ready (rs := [3]) (by kernel_rfl) (by simp) ?_
        refine AllReadyH.cons rfl (fun K hK => ?_) AllReadyH.nil
        simp only [List.getElem_toArray, List.getElem_cons_succ, List.getElem_cons_zero]
        go_simp
        refine (HNN.out _).mono ?_
        rintro e v2 ⟨rfl, hv2⟩
        have hH2 := heap_later hHeld hv2
        have hV2 : Below w.heap.size w v2 := hV1.trans (hv2.mono hV1.size)
        clear hv2
        dsimp only
        have hOld := hHeld
        refine hK.out _ _ hH2 (fun _ => ?_)
        clear hK K
        refine wpAnyH_mono (S2 := fun w' => w'.heap[g]? = some (.cells (chC l).toArray 26)) (fun _ h => h) _ _ _ _ ?_
        clear hHeld
        have hHeld := hH2
        clear hOld
        try simp only [Act.put, List.setIfInBounds_toArray, List.set_cons_zero, List.set_cons_succ]
        refine take_at (i := 4) (v := ?_) (some 75) rfl rfl (by kernel_rfl) (by kernel_rfl) (by kernel_rfl) (fun _ _ _ h => h) hHeld (by rfl) (fun wS hSw => ?_) ?_
        rotate_left
        · try dsimp only at hSw
          go_simp
          try with_reducible rfl
        try simp only [Act.put, List.setIfInBounds_toArray, List.set_cons_zero, List.set_cons_succ]
        refine take_at (i := 5) (v := ?_) (some 80) rfl rfl (by kernel_rfl) (by kernel_rfl) (by kernel_rfl) (fun _ _ _ h => h) hHeld (by rfl) (fun wS hSw => ?_) ?_
        rotate_left
        · try dsimp only at hSw
          go_simp
          try with_reducible rfl
        try simp only [Act.put, List.setIfInBounds_toArray, List.set_cons_zero, List.set_cons_succ]
        refine take_at (i := 6) (v := ?_) (some 81) rfl rfl (by kernel_rfl) (by kernel_rfl) (by kernel_rfl) (fun _ _ _ h => h) hHeld (by rfl) (fun wS hSw => ?_) ?_
        rotate_left
        · try dsimp only at hSw
          go_simp
          try with_reducible rfl
        try simp only [Act.put, List.setIfInBounds_toArray, List.set_cons_zero, List.set_cons_succ]
        refine take_at (i := 7) (v := ?_) (some 11) rfl rfl (by kernel_rfl) (by kernel_rfl) (by kernel_rfl) (fun _ _ _ h => h) hHeld (by rfl) (fun wS hSw => ?_) ?_
        rotate_left
        · try dsimp only at hSw
          go_simp
          try with_reducible rfl
        try simp only [Act.put, List.setIfInBounds_toArray, List.set_cons_zero, List.set_cons_succ]
        refine take_at (i := 8) (v := ?_) (some 12) rfl rfl (by kernel_rfl) (by kernel_rfl) (by kernel_rfl) (fun _ _ _ h => h) hHeld (by rfl) (fun wS hSw => ?_) ?_
        rotate_left
        · try dsimp only at hSw
          go_simp
          try with_reducible rfl
        try simp only [Act.put, List.setIfInBounds_toArray, List.set_cons_zero, List.set_cons_succ]
        refine wpAnyH_done (by kernel_rfl) ?_ _
        go_wp2_with fail
        have hV3 := hV2.drew
        refine wp_region_held_drew (S := fun w' => w'.heap[g]? = some (.cells (chC l).toArray 26)) (by kernel_rfl) hH2 (fun hHeld => ?_)
        try dsimp only at hHeld
        refine take_at (i := 0) (v := ?_) (some 82) rfl rfl (by kernel_rfl) (by kernel_rfl) (by kernel_rfl) (fun _ _ _ h => h) hHeld (by rfl) (fun wS hSw => ?_) ?_
        rotate_left
        · try dsimp only at hSw
          go_simp
          try with_reducible rfl
        try simp only [Act.put, List.setIfInBounds_toArray, List.set_cons_zero, List.set_cons_succ]
        refine take_at (i := 1) (v := ?_) (some 83) rfl rfl (by kernel_rfl) (by kernel_rfl) (by kernel_rfl) (fun _ _ _ h => h) hHeld (by rfl) (fun wS hSw => ?_) ?_
        rotate_left
        · try dsimp only at hSw
          go_simp
          try with_reducible rfl
        try simp only [Act.put, List.setIfInBounds_toArray, List.set_cons_zero, List.set_cons_succ]
        refine take_at (i := 2) (v := ?_) (some 84) rfl rfl (by kernel_rfl) (by kernel_rfl) (by kernel_rfl) (fun _ _ _ h => h) hHeld (by rfl) (fun wS hSw => ?_) ?_
        rotate_left
        · try dsimp only at hSw
          go_simp
          try with_reducible rfl
        try simp only [Act.put, List.setIfInBounds_toArray, List.set_cons_zero, List.set_cons_succ]
        refine take_at (i := 3) (v := ?_) (some 85) rfl rfl (by kernel_rfl) (by kernel_rfl) (by kernel_rfl) (fun _ _ _ h => h) hHeld (by rfl) (fun wS hSw => ?_) ?_
        rotate_left
        · refine exec_load_row 26 (.tmp 3) ?_ g ?_ 26 (chC l).toArray (0, 0) _ hSw Try.underlying26 rfl (ch_info l lh) <;> rfl
        try simp only [Act.put, List.setIfInBounds_toArray, List.set_cons_zero, List.set_cons_succ]
        refine take_at (i := 4) (v := ?_) (some 86) rfl rfl (by kernel_rfl) (by kernel_rfl) (by kernel_rfl) (fun _ _ _ h => h) hHeld (by rfl) (fun wS hSw => ?_) ?_
        rotate_left
        · refine exec_load_row 26 (.tmp 3) ?_ g ?_ 26 (chC l).toArray (0, 0) _ hSw Try.underlying26 rfl (ch_info l lh) <;> rfl
        try simp only [Act.put, List.setIfInBounds_toArray, List.set_cons_zero, List.set_cons_succ]
        refine take_at (i := 7) (v := ?_) (some 89) rfl rfl (by kernel_rfl) (by kernel_rfl) (by kernel_rfl) (fun _ _ _ h => h) hHeld (by rfl) (fun wS hSw => ?_) ?_
        rotate_left
        · refine exec_load_row 26 (.tmp 3) ?_ g ?_ 26 (chC l).toArray (0, 0) _ hSw Try.underlying26 rfl (ch_info l lh) <;> rfl
        try simp only [Act.put, List.setIfInBounds_toArray, List.set_cons_zero, List.set_cons_succ]
        refine wpAnyH_ready (rs := [5]) (by kernel_rfl) (by simp) ?_
        refine AllReadyH.cons rfl (fun K hK => ?_) AllReadyH.nil
        simp only [List.getElem_toArray, List.getElem_cons_succ, List.getElem_cons_zero]
        go_simp
        refine (HLn.out _).mono ?_
        rintro e v4 ⟨rfl, hv4⟩
        have hH4 := heap_later hHeld hv4
        have hV4 : Below w.heap.size w v4 := hV3.trans (hv4.mono hV3.size)
        clear hv4
        dsimp only
        have hOld := hHeld
        refine hK.out _ _ hH4 (fun _ => ?_)
        clear hK K
        refine wpAnyH_mono (S2 := fun w' => w'.heap[g]? = some (.cells (chC l).toArray 26)) (fun _ h => h) _ _ _ _ ?_
        clear hHeld
        have hHeld := hH4
        clear hOld
        try simp only [Act.put, List.setIfInBounds_toArray, List.set_cons_zero, List.set_cons_succ]
        refine wpAnyH_ready (rs := [6]) (by kernel_rfl) (by simp) ?_
        refine AllReadyH.cons rfl (fun K hK => ?_) AllReadyH.nil
        simp only [List.getElem_toArray, List.getElem_cons_succ, List.getElem_cons_zero]
        go_simp
        refine (HAl.out _).mono ?_
        rintro e v5 ⟨rfl, hv5⟩
        have hH5 := heap_later hHeld hv5
        have hV5 : Below w.heap.size w v5 := hV4.trans (hv5.mono hV4.size)
        clear hv5
        dsimp only
        have hOld := hHeld
        refine hK.out _ _ hH5 (fun _ => ?_)
        clear hK K
        refine wpAnyH_mono (S2 := fun w' => w'.heap[g]? = some (.cells (chC l).toArray 26)) (fun _ h => h) _ _ _ _ ?_
        clear hHeld
        have hHeld := hH5
        clear hOld
        try simp only [Act.put, List.setIfInBounds_toArray, List.set_cons_zero, List.set_cons_succ]
        refine wpAnyH_ready (rs := [8]) (by kernel_rfl) (by simp) ?_
        refine AllReadyH.cons rfl (fun K hK => ?_) AllReadyH.nil
        simp only [List.getElem_toArray, List.getElem_cons_succ, List.getElem_cons_zero]
        go_simp
        refine (HNl.out _).mono ?_
        rintro e v6 ⟨rfl, hv6⟩
        have hH6 := heap_later hHeld hv6
        have hV6 : Below w.heap.size w v6 := hV5.trans (hv6.mono hV5.size)
        clear hv6
        dsimp only
        have hOld := hHeld
        refine hK.out _ _ hH6 (fun _ => ?_)
        clear hK K
        refine wpAnyH_mono (S2 := fun w' => w'.heap[g]? = some (.cells (chC l).toArray 26)) (fun _ h => h) _ _ _ _ ?_
        clear hHeld
        have hHeld := hH6
        clear hOld
        try simp only [Act.put, List.setIfInBounds_toArray, List.set_cons_zero, List.set_cons_succ]
        refine take_at (i := 9) (v := ?_) (some 91) rfl rfl (by kernel_rfl) (by kernel_rfl) (by kernel_rfl) (fun _ _ _ h => h) hHeld (by rfl) (fun wS hSw => ?_) ?_
        rotate_left
        · try dsimp only at hSw
          go_simp
          try with_reducible rfl
        try simp only [Act.put, List.setIfInBounds_toArray, List.set_cons_zero, List.set_cons_succ]
        refine take_at (i := 10) (v := ?_) (some 92) rfl rfl (by kernel_rfl) (by kernel_rfl) (by kernel_rfl) (fun _ _ _ h => h) hHeld (by rfl) (fun wS hSw => ?_) ?_
        rotate_left
        · try dsimp only at hSw
          go_simp
          try with_reducible rfl
        try simp only [Act.put, List.setIfInBounds_toArray, List.set_cons_zero, List.set_cons_succ]
        refine take_at (i := 11) (v := ?_) (some 93) rfl rfl (by kernel_rfl) (by kernel_rfl) (by kernel_rfl) (fun _ _ _ h => h) hHeld (by rfl) (fun wS hSw => ?_) ?_
        rotate_left
        · try dsimp only at hSw
          go_simp
          try with_reducible rfl
        try simp only [Act.put, List.setIfInBounds_toArray, List.set_cons_zero, List.set_cons_succ]
        refine wpAnyH_ready (rs := [12]) (by kernel_rfl) (by simp) ?_
        refine AllReadyH.cons rfl (fun K hK => ?_) AllReadyH.nil
        simp only [List.getElem_toArray, List.getElem_cons_succ, List.getElem_cons_zero]
        go_simp
        refine (known_any _).mono ?_
        rintro e v7 ⟨rfl, hv7⟩
        have hH7 := heap_later hHeld hv7
        have hV7 : Below w.heap.size w v7 := hV6.trans (hv7.mono hV6.size)
        clear hv7
        dsimp only
        have hOld := hHeld
        refine hK.out _ _ hH7 (fun _ => ?_)
        clear hK K
        refine wpAnyH_mono (S2 := fun w' => w'.heap[g]? = some (.cells (chC l).toArray 26)) (fun _ h => h) _ _ _ _ ?_
        clear hHeld
        have hHeld := hH7
        clear hOld
        try simp only [Act.put, List.setIfInBounds_toArray, List.set_cons_zero, List.set_cons_succ]
        refine take_at (i := 13) (v := ?_) (some 95) rfl rfl (by kernel_rfl) (by kernel_rfl) (by kernel_rfl) (fun _ _ _ h => h) hHeld (by rfl) (fun wS hSw => ?_) ?_
        rotate_left
        · try dsimp only at hSw
          go_simp
          try with_reducible rfl
        try simp only [Act.put, List.setIfInBounds_toArray, List.set_cons_zero, List.set_cons_succ]
        refine take_at (i := 14) (v := ?_) (some 2) rfl rfl (by kernel_rfl) (by kernel_rfl) (by kernel_rfl) (fun _ _ _ h => h) hHeld (by rfl) (fun wS hSw => ?_) ?_
        rotate_left
        · try dsimp only at hSw
          go_simp
          try with_reducible rfl
        try simp only [Act.put, List.setIfInBounds_toArray, List.set_cons_zero, List.set_cons_succ]
        refine wpAnyH_done (by kernel_rfl) ?_ _
        go_wp2_with fail
        go_ret
        exact ⟨rfl, hV7⟩
  · have e1 : (ea != 0) = true := by simp [hea]
    clear hea
    go_wp2_with (refine wpList_store_row rfl 26 (.tmp 3) (.tmp 20) rfl w1.heap.size (chC l).toArray rfl rfl 26 (chC []).toArray (heap_alloc_new w1 _) (ch_info l lh) (ch_size l lh) (all_one l) ?_; rw [alloc_setRow])
    refine (known_any _).mono ?_
    rintro e w9 ⟨rfl, hb9⟩
    go_wp2_with fail
    go_ret
    exact ⟨rfl, (K1.out.alloc K1.out.size _).trans (hb9.mono (by have := K1.out.size; simp; omega))⟩

set_option maxHeartbeats 1000000 in
theorem chunkLines_out (A : Option Addr) (n c : Nat) (w : World) (h : 1000 < n) (hn : (n : Int) ≤ 9223372036854775807) :
    Calls Try.prog 5 #[.slice A n c] w fun e w' => e = .returned (.bool true) ∧ Below w.heap.size w w' := by
  have hh : (1000 : Int) < n := by omega
  go_enter Try.func5, Try.ntmps5
  go_wp2_with fail
  refine (known_any _).mono ?_
  rintro e w' ⟨rfl, hb⟩
  go_wp2_with fail
  go_ret
  exact ⟨rfl, hb⟩

theorem chunkLines_law (A : Option Addr) (n c : Nat) (k : List Int) (w : World) (hs : Sees w w.heap.size 1 A n (k.map r32)) (hn : (n : Int) ≤ 9223372036854775807) :
    Calls Try.prog 5 #[.slice A n c] w fun e w' => e = .returned (.bool true) ∧ Below w.heap.size w w' := by
  by_cases h : 1000 < n
  · exact chunkLines_out A n c w h hn
  · exact chunkLines_any A n c k w hs (by omega)

end Go.Proofs.Ytcdpbkhlkgefdaa
