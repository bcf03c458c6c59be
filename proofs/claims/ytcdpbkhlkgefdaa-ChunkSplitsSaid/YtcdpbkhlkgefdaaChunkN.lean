/-
  The walk of rubriclaw09.ChunkBack.
-/
import Derived.Test.YtcdpbkhlkgefdaaChunkM
namespace Go.Proofs.Ytcdpbkhlkgefdaa
open Go.RowKit

theorem exec_load_row {P : Program} {o : Oper} {ev : Operand → Value} {w : World} (ty : TypeId) (x : Operand) (ho : o.op = .load ty x)
    (g : Nat) (hx : ev x = .pointer (some ⟨g, 0, none⟩)) (t : TypeId) (cs : Array Value) (fr : Nat × Nat) (d : TypeDesc) (hg : w.heap[g]? = some (.cells cs t fr))
    (hu : P.underlying ty = some d) (hd : (match d with | .struct _ | .array _ _ => true | _ => false) = true) (hi : (P.info? ty).map (·.size) = some cs.size) : (execOp ev o).run P w = .ok (.value (.agg cs)) w := by
  unfold execOp
  simp only [ho, hx, Instr.loadAt, Instr.sureAddr, Sem.run_bind, Sem.run_pure, Result.andThen_ok, run_loadVar_row w g t ty cs fr d hg hu hd hi]

theorem exec_eq_chunk {o : Oper} {ev : Operand → Value} {w : World} (x y : Operand) (ho : o.op = .binOp .eql 26 x y 26) (l m : List Int) (hx : ev x = .agg (chC l).toArray) (hy : ev y = .agg (chC m).toArray) (hl : l.length ≤ 32) (hm : m.length ≤ 32) (r : Bool) (hr : (l == m) = r) :
    (execOp ev o).run Try.prog w = .ok (.value (.bool r)) w := by
  subst hr
  unfold execOp
  simp only [ho, hx, hy, Sem.run_bind, run_eqGuard_agg (P := Try.prog) w .eql 26 x y (chC l).toArray (chC m).toArray (by kernel_rfl), Result.andThen_ok, run_eq_chunk w l m hl hm, Sem.run_pure]

theorem nls_append (l m : List Int) : nls (l ++ m) = nls l + nls m := by
  unfold nls
  rw [List.count_append]
  omega

set_option maxRecDepth 100000 in
set_option maxHeartbeats 8000000 in
theorem chunkBack_any (A : Option Addr) (n c : Nat) (k : List Int) (i : Int) (w : World) (hs : Sees w w.heap.size 1 A n (k.map r32)) (hn : n ≤ 1000) (hi0 : -9223372036854775808 ≤ i) (hi1 : i ≤ 9223372036854775807) :
    Calls Try.prog 6 #[.slice A n c, .int .i64 i] w fun e w' => e = .returned (.bool true) ∧ Below w.heap.size w w' := by
  have hnI : (n : Int) ≤ 1000 := by omega
  have HO1 := Lib.hid (of_any A n c w.heap.size k w hs (Nat.le_refl _) hn)
  obtain ⟨l, hl⟩ : ∃ x, ofC k = x := ⟨_, rfl⟩
  obtain ⟨ea, hea⟩ : ∃ x, ofE k = x := ⟨_, rfl⟩
  have lh : l.length ≤ 32 := by rw [← hl]; exact ofC_len k
  rw [hl, hea] at HO1
  obtain ⟨la, hla⟩ : ∃ x, spA l i = x := ⟨_, rfl⟩
  obtain ⟨lb, hlb⟩ : ∃ x, spB l i = x := ⟨_, rfl⟩
  obtain ⟨eb, heb⟩ : ∃ x, spE l i = x := ⟨_, rfl⟩
  have lah : la.length ≤ 32 := by rw [← hla]; exact spA_len l i lh
  have lbh : lb.length ≤ 32 := by rw [← hlb]; exact spB_len l i lh
  have HSP := Lib.hid (fun w => split_any l i w lh)
  rw [hla, hlb, heb] at HSP
  have HC := Lib.hid (And.intro hla (And.intro hlb heb))
  clear hl hea hla hlb heb hs
  go_enter Try.func6, Try.ntmps6
  go_wp2_with fail
  refine HO1.out.mono ?_
  rintro e w1 ⟨rfl, hb1⟩
  have K1 := Lib.hid hb1
  clear hb1
  go_wp2_with (first | (refine wpList_store_row rfl 26 (.tmp 5) (.tmp 19) rfl w1.heap.size (chC l).toArray rfl rfl 26 (chC []).toArray (heap_alloc_new w1 _) (ch_info l lh) (ch_size l lh) (all_one l) ?_; rw [alloc_setRow]) | (refine wpList_load_row rfl 26 (.tmp 5) rfl w1.heap.size rfl 26 (chC l).toArray (0, 0) _ (heap_alloc_new w1 _) Try.underlying26 rfl (ch_info l lh) ?_))
  obtain ⟨gc, hgc⟩ : ∃ g, w1.heap.size = g := ⟨_, rfl⟩
  obtain ⟨w2, hw2⟩ : ∃ v, w1.alloc (.cells (chC l).toArray 26) = v := ⟨_, rfl⟩
  have H2 := Lib.hid (show w2.heap[gc]? = some (.cells (chC l).toArray 26) by rw [← hw2, ← hgc]; exact heap_alloc_new w1 _)
  have K2 := Lib.hid (show Below w.heap.size w w2 by rw [← hw2]; exact K1.out.alloc K1.out.size _)
  rw [hw2, hgc]
  clear hw2 hgc
  refine (HSP.out w2).mono ?_
  rintro e w3 ⟨rfl, hb3⟩
  have H3 := Lib.hid (heap_later H2.out hb3)
  have K3 := Lib.hid (K2.out.trans (hb3.mono K2.out.size))
  have HX := Lib.hid (show ((w3.alloc (.cells (chC la).toArray 26)).alloc (.cells (chC lb).toArray 26)).heap[gc]? = some (.cells (chC l).toArray 26) from heap_later H3.out (((Below.refl _ _).alloc (Nat.le_refl _) _).alloc (by simp) _))
  have K4 := Lib.hid (show Below w.heap.size w ((w3.alloc (.cells (chC la).toArray 26)).alloc (.cells (chC lb).toArray 26)) from (K3.out.alloc K3.out.size _).alloc (by have := K3.out.size; simp; omega) _)
  have HY := Lib.hid (And.intro (heap_alloc2_old w3 (.cells (chC la).toArray 26) (.cells (chC lb).toArray 26)) (heap_alloc2_new w3 (.cells (chC la).toArray 26) (.cells (chC lb).toArray 26)))
  clear hb3
  by_cases hea : ea = 0
  · by_cases heb : eb = 0
    · subst hea heb
      obtain ⟨h1, h2, h3⟩ := HC.out
      obtain ⟨⟨h4, h5⟩, h6, h7⟩ := spE_ok h3
      have hab : la ++ lb = l := by rw [← h1, ← h2, h6, h7, List.take_append_drop]
      have HAB := Lib.hid hab
      have hlen : la.length + lb.length = l.length := by rw [← hab, List.length_append]
      have HLEN := Lib.hid hlen
      have hai : ((la.length : Nat) : Int) = i := by rw [← h1, h6, List.length_take]; omega
      have HAI := Lib.hid hai
      have HTK := Lib.hid (show l.take i.toNat = la by rw [← h1, h6])
      obtain ⟨lj, hlj⟩ : ∃ x, la ++ lb = x := ⟨_, rfl⟩
      have ljh : lj.length ≤ 32 := by rw [← hlj, List.length_append]; omega
      have HJ := Lib.hid (fun w => join_any la lb w (by omega))
      rw [hlj] at HJ
      have HEQ := Lib.hid (show (lj == l) = true by rw [← hlj, hab]; simp)
      have HNS := Lib.hid (show nls la + nls lb = nls l by rw [← nls_append, hab])
      have hna := nls_le la
      have hnb := nls_le lb
      have HNa := Lib.hid (fun w => newlines_any la w lah)
      have HNb := Lib.hid (fun w => newlines_any lb w lbh)
      have HNc := Lib.hid (fun w => newlines_any l w lh)
      rw [← HNS.out] at HNc
      have HAh := Lib.hid (fun w => ahead_any l i w lh hi0)
      rw [HTK.out] at HAh
      have HLa := Lib.hid (fun w => len_any la w lah)
      rw [hai] at HLa
      clear h1 h2 h3 h6 h7 hab hlen hlj hai HC HO1 HSP
      go_wp2_with (first | (refine wpList_store_row rfl 26 (.tmp 7) (.tmp 25) rfl w3.heap.size (chC la).toArray rfl rfl 26 (chC []).toArray (heap_alloc2_old w3 _ _) (ch_info la lah) (ch_size la lah) (all_one la) ?_; rw [alloc2_setRow]) | (refine wpList_store_row rfl 26 (.tmp 8) (.tmp 26) rfl (w3.heap.size + 1) (chC lb).toArray rfl rfl 26 (chC []).toArray (heap_alloc2_new w3 _ _) (ch_info lb lbh) (ch_size lb lbh) (all_one lb) ?_; rw [alloc2_setRow2]) | (refine wpList_load_row rfl 26 (.tmp 7) rfl w3.heap.size rfl 26 (chC la).toArray (0, 0) _ HY.out.1 Try.underlying26 rfl (ch_info la lah) ?_) | (refine wpList_load_row rfl 26 (.tmp 8) rfl (w3.heap.size + 1) rfl 26 (chC lb).toArray (0, 0) _ HY.out.2 Try.underlying26 rfl (ch_info lb lbh) ?_))
      obtain ⟨ga, hga⟩ : ∃ g, w3.heap.size = g := ⟨_, rfl⟩
      obtain ⟨gb, hgb⟩ : ∃ g, ga + 1 = g := ⟨_, rfl⟩
      obtain ⟨w5, hw5⟩ : ∃ v, (w3.alloc (.cells (chC la).toArray 26)).alloc (.cells (chC lb).toArray 26) = v := ⟨_, rfl⟩
      rw [hw5] at HX K4 HY ⊢
      rw [hga] at HY ⊢
      rw [hgb] at HY ⊢
      clear hw5 hga hgb
      refine (HJ.out w5).mono ?_
      rintro e w6 ⟨rfl, hb6⟩
      have H6 := Lib.hid (And.intro (heap_later HX.out hb6) (And.intro (heap_later HY.out.1 hb6) (heap_later HY.out.2 hb6)))
      have K6 := Lib.hid (K4.out.trans (hb6.mono K4.out.size))
      clear hb6
      go_wp2_with (refine wpList_store_row rfl 26 (.tmp 10) (.tmp 39) rfl w6.heap.size (chC lj).toArray rfl rfl 26 (chC []).toArray (heap_alloc_new w6 _) (ch_info lj ljh) (ch_size lj ljh) (all_one lj) ?_; rw [alloc_setRow])
      obtain ⟨gj, hgj⟩ : ∃ g, w6.heap.size = g := ⟨_, rfl⟩
      obtain ⟨w9, hw9⟩ : ∃ v, w6.alloc (.cells (chC lj).toArray 26) = v := ⟨_, rfl⟩
      have hb9 : Below w6.heap.size w6 w9 := by rw [← hw9]; exact (Below.refl _ _).alloc (Nat.le_refl _) _
      have HP9 := Lib.hid (show w9.heap[gc]? = some (.cells (chC l).toArray 26) ∧ w9.heap[ga]? = some (.cells (chC la).toArray 26) ∧ w9.heap[gb]? = some (.cells (chC lb).toArray 26) ∧ w9.heap[gj]? = some (.cells (chC lj).toArray 26) from
        ⟨heap_later H6.out.1 hb9, heap_later H6.out.2.1 hb9, heap_later H6.out.2.2 hb9, by rw [← hw9, ← hgj]; exact heap_alloc_new w6 _⟩)
      have hV0 : Below w.heap.size w w9.drew := (K6.out.trans (hb9.mono K6.out.size)).drew
      have g1 : IntKind.i64.wrap (nls la + nls lb) = nls la + nls lb := IntWalk.i64_in _ (by omega)
      rw [hw9, hgj]
      clear hw9 hgj hb9
      refine wp_region_held_drew (S := fun w' => w'.heap[gc]? = some (.cells (chC l).toArray 26) ∧ w'.heap[ga]? = some (.cells (chC la).toArray 26) ∧ w'.heap[gb]? = some (.cells (chC lb).toArray 26) ∧ w'.heap[gj]? = some (.cells (chC lj).toArray 26)) (by kernel_rfl) HP9.out (fun hHeld => ?_)
      try dsimp only at hHeld
      refine take_at (i := 0) (v := ?_) (some 41) rfl rfl (by kernel_rfl) (by kernel_rfl) (by kernel_rfl) (fun _ _ _ h => h) hHeld (by rfl) (fun wS hSw => ?_) ?_
      rotate_left
      · try dsimp only at hSw
        go_simp
        try with_reducible rfl
      try simp only [Act.put, List.setIfInBounds_toArray, List.set_cons_zero, List.set_cons_succ]
      refine take_at (i := 1) (v := ?_) (some 42) rfl rfl (by kernel_rfl) (by kernel_rfl) (by kernel_rfl) (fun _ _ _ h => h) hHeld (by rfl) (fun wS hSw => ?_) ?_
      rotate_left
      · try dsimp only at hSw
        go_simp
        try with_reducible rfl
      try simp only [Act.put, List.setIfInBounds_toArray, List.set_cons_zero, List.set_cons_succ]
      refine take_at (i := 2) (v := ?_) (some 43) rfl rfl (by kernel_rfl) (by kernel_rfl) (by kernel_rfl) (fun _ _ _ h => h) hHeld (by rfl) (fun wS hSw => ?_) ?_
      rotate_left
      · try dsimp only at hSw
        go_simp
        try with_reducible rfl
      try simp only [Act.put, List.setIfInBounds_toArray, List.set_cons_zero, List.set_cons_succ]
      refine take_at (i := 3) (v := ?_) (some 44) rfl rfl (by kernel_rfl) (by kernel_rfl) (by kernel_rfl) (fun _ _ _ h => h) hHeld (by rfl) (fun wS hSw => ?_) ?_
      rotate_left
      · refine exec_load_row 26 (.tmp 10) ?_ gj ?_ 26 (chC lj).toArray (0, 0) _ hSw.2.2.2 Try.underlying26 rfl (ch_info lj ljh) <;> rfl
      try simp only [Act.put, List.setIfInBounds_toArray, List.set_cons_zero, List.set_cons_succ]
      refine take_at (i := 4) (v := ?_) (some 45) rfl rfl (by kernel_rfl) (by kernel_rfl) (by kernel_rfl) (fun _ _ _ h => h) hHeld (by rfl) (fun wS hSw => ?_) ?_
      rotate_left
      · refine exec_load_row 26 (.tmp 5) ?_ gc ?_ 26 (chC l).toArray (0, 0) _ hSw.1 Try.underlying26 rfl (ch_info l lh) <;> rfl
      try simp only [Act.put, List.setIfInBounds_toArray, List.set_cons_zero, List.set_cons_succ]
      refine take_at (i := 5) (v := ?_) (some 46) rfl rfl (by kernel_rfl) (by kernel_rfl) (by kernel_rfl) (fun _ _ _ h => h) hHeld (by rfl) (fun wS hSw => ?_) ?_
      rotate_left
      · refine exec_eq_chunk (.tmp 44) (.tmp 45) ?_ lj l ?_ ?_ ljh lh true HEQ.out <;> rfl
      try simp only [Act.put, List.setIfInBounds_toArray, List.set_cons_zero, List.set_cons_succ]
      refine take_at (i := 6) (v := ?_) (some 47) rfl rfl (by kernel_rfl) (by kernel_rfl) (by kernel_rfl) (fun _ _ _ h => h) hHeld (by rfl) (fun wS hSw => ?_) ?_
      rotate_left
      · try dsimp only at hSw
        go_simp
        try with_reducible rfl
      try simp only [Act.put, List.setIfInBounds_toArray, List.set_cons_zero, List.set_cons_succ]
      refine take_at (i := 7) (v := ?_) (some 48) rfl rfl (by kernel_rfl) (by kernel_rfl) (by kernel_rfl) (fun _ _ _ h => h) hHeld (by rfl) (fun wS hSw => ?_) ?_
      rotate_left
      · try dsimp only at hSw
        go_simp
        try with_reducible rfl
      try simp only [Act.put, List.setIfInBounds_toArray, List.set_cons_zero, List.set_cons_succ]
      refine take_at (i := 8) (v := ?_) (some 49) rfl rfl (by kernel_rfl) (by kernel_rfl) (by kernel_rfl) (fun _ _ _ h => h) hHeld (by rfl) (fun wS hSw => ?_) ?_
      rotate_left
      · refine exec_load_row 26 (.tmp 7) ?_ ga ?_ 26 (chC la).toArray (0, 0) _ hSw.2.1 Try.underlying26 rfl (ch_info la lah) <;> rfl
      try simp only [Act.put, List.setIfInBounds_toArray, List.set_cons_zero, List.set_cons_succ]
      refine take_at (i := 10) (v := ?_) (some 51) rfl rfl (by kernel_rfl) (by kernel_rfl) (by kernel_rfl) (fun _ _ _ h => h) hHeld (by rfl) (fun wS hSw => ?_) ?_
      rotate_left
      · refine exec_load_row 26 (.tmp 8) ?_ gb ?_ 26 (chC lb).toArray (0, 0) _ hSw.2.2.1 Try.underlying26 rfl (ch_info lb lbh) <;> rfl
      try simp only [Act.put, List.setIfInBounds_toArray, List.set_cons_zero, List.set_cons_succ]
      refine take_at (i := 13) (v := ?_) (some 54) rfl rfl (by kernel_rfl) (by kernel_rfl) (by kernel_rfl) (fun _ _ _ h => h) hHeld (by rfl) (fun wS hSw => ?_) ?_
      rotate_left
      · refine exec_load_row 26 (.tmp 5) ?_ gc ?_ 26 (chC l).toArray (0, 0) _ hSw.1 Try.underlying26 rfl (ch_info l lh) <;> rfl
      try simp only [Act.put, List.setIfInBounds_toArray, List.set_cons_zero, List.set_cons_succ]
      refine wpAnyH_ready (rs := [9]) (by kernel_rfl) (by simp) ?_
      refine AllReadyH.cons rfl (fun K hK => ?_) AllReadyH.nil
      simp only [List.getElem_toArray, List.getElem_cons_succ, List.getElem_cons_zero]
      go_simp
      refine (HNa.out _).mono ?_
      rintro e v1 ⟨rfl, hv1⟩
      have hH1 := And.intro (heap_later hHeld.1 hv1) (And.intro (heap_later hHeld.2.1 hv1) (And.intro (heap_later hHeld.2.2.1 hv1) (heap_later hHeld.2.2.2 hv1)))
      have hV1 : Below w.heap.size w v1 := hV0.trans (hv1.mono hV0.size)
      clear hv1
      dsimp only
      have hOld := hHeld
      refine hK.out _ _ hH1 (fun _ => ?_)
      clear hK K
      refine wpAnyH_mono (S2 := fun w' => w'.heap[gc]? = some (.cells (chC l).toArray 26) ∧ w'.heap[ga]? = some (.cells (chC la).toArray 26) ∧ w'.heap[gb]? = some (.cells (chC lb).toArray 26) ∧ w'.heap[gj]? = some (.cells (chC lj).toArray 26)) (fun _ h => h) _ _ _ _ ?_
      clear hHeld
      have hHeld := hH1
      clear hOld
      try simp only [Act.put, List.setIfInBounds_toArray, List.set_cons_zero, List.set_cons_succ]
      refine wpAnyH_ready (rs := [11]) (by kernel_rfl) (by simp) ?_
      refine AllReadyH.cons rfl (fun K hK => ?_) AllReadyH.nil
      simp only [List.getElem_toArray, List.getElem_cons_succ, List.getElem_cons_zero]
      go_simp
      refine (HNb.out _).mono ?_
      rintro e v2 ⟨rfl, hv2⟩
      have hH2 := And.intro (heap_later hHeld.1 hv2) (And.intro (heap_later hHeld.2.1 hv2) (And.intro (heap_later hHeld.2.2.1 hv2) (heap_later hHeld.2.2.2 hv2)))
      have hV2 : Below w.heap.size w v2 := hV1.trans (hv2.mono hV1.size)
      clear hv2
      dsimp only
      have hOld := hHeld
      refine hK.out _ _ hH2 (fun _ => ?_)
      clear hK K
      refine wpAnyH_mono (S2 := fun w' => w'.heap[gc]? = some (.cells (chC l).toArray 26) ∧ w'.heap[ga]? = some (.cells (chC la).toArray 26) ∧ w'.heap[gb]? = some (.cells (chC lb).toArray 26) ∧ w'.heap[gj]? = some (.cells (chC lj).toArray 26)) (fun _ h => h) _ _ _ _ ?_
      clear hHeld
      have hHeld := hH2
      clear hOld
      try simp only [Act.put, List.setIfInBounds_toArray, List.set_cons_zero, List.set_cons_succ]
      refine take_at (i := 12) (v := ?_) (some 53) rfl rfl (by kernel_rfl) (by kernel_rfl) (by kernel_rfl) (fun _ _ _ h => h) hHeld (by rfl) (fun wS hSw => ?_) ?_
      rotate_left
      · try dsimp only at hSw
        go_simp
        try with_reducible rfl
      try simp only [Act.put, List.setIfInBounds_toArray, List.set_cons_zero, List.set_cons_succ]
      refine wpAnyH_ready (rs := [14]) (by kernel_rfl) (by simp) ?_
      refine AllReadyH.cons rfl (fun K hK => ?_) AllReadyH.nil
      simp only [List.getElem_toArray, List.getElem_cons_succ, List.getElem_cons_zero]
      go_simp
      refine (HNc.out _).mono ?_
      rintro e v3 ⟨rfl, hv3⟩
      have hH3 := And.intro (heap_later hHeld.1 hv3) (And.intro (heap_later hHeld.2.1 hv3) (And.intro (heap_later hHeld.2.2.1 hv3) (heap_later hHeld.2.2.2 hv3)))
      have hV3 : Below w.heap.size w v3 := hV2.trans (hv3.mono hV2.size)
      clear hv3
      dsimp only
      have hOld := hHeld
      refine hK.out _ _ hH3 (fun _ => ?_)
      clear hK K
      refine wpAnyH_mono (S2 := fun w' => w'.heap[gc]? = some (.cells (chC l).toArray 26) ∧ w'.heap[ga]? = some (.cells (chC la).toArray 26) ∧ w'.heap[gb]? = some (.cells (chC lb).toArray 26) ∧ w'.heap[gj]? = some (.cells (chC lj).toArray 26)) (fun _ h => h) _ _ _ _ ?_
      clear hHeld
      have hHeld := hH3
      clear hOld
      try simp only [Act.put, List.setIfInBounds_toArray, List.set_cons_zero, List.set_cons_succ]
      refine take_at (i := 15) (v := ?_) (some 56) rfl rfl (by kernel_rfl) (by kernel_rfl) (by kernel_rfl) (fun _ _ _ h => h) hHeld (by rfl) (fun wS hSw => ?_) ?_
      rotate_left
      · try dsimp only at hSw
        go_simp
        try with_reducible rfl
      try simp only [Act.put, List.setIfInBounds_toArray, List.set_cons_zero, List.set_cons_succ]
      refine take_at (i := 16) (v := ?_) (some 57) rfl rfl (by kernel_rfl) (by kernel_rfl) (by kernel_rfl) (fun _ _ _ h => h) hHeld (by rfl) (fun wS hSw => ?_) ?_
      rotate_left
      · try dsimp only at hSw
        go_simp
        try with_reducible rfl
      try simp only [Act.put, List.setIfInBounds_toArray, List.set_cons_zero, List.set_cons_succ]
      refine take_at (i := 17) (v := ?_) (some 58) rfl rfl (by kernel_rfl) (by kernel_rfl) (by kernel_rfl) (fun _ _ _ h => h) hHeld (by rfl) (fun wS hSw => ?_) ?_
      rotate_left
      · try dsimp only at hSw
        go_simp
        try with_reducible rfl
      try simp only [Act.put, List.setIfInBounds_toArray, List.set_cons_zero, List.set_cons_succ]
      refine take_at (i := 18) (v := ?_) (some 59) rfl rfl (by kernel_rfl) (by kernel_rfl) (by kernel_rfl) (fun _ _ _ h => h) hHeld (by rfl) (fun wS hSw => ?_) ?_
      rotate_left
      · refine exec_load_row 26 (.tmp 7) ?_ ga ?_ 26 (chC la).toArray (0, 0) _ hSw.2.1 Try.underlying26 rfl (ch_info la lah) <;> rfl
      try simp only [Act.put, List.setIfInBounds_toArray, List.set_cons_zero, List.set_cons_succ]
      refine take_at (i := 20) (v := ?_) (some 61) rfl rfl (by kernel_rfl) (by kernel_rfl) (by kernel_rfl) (fun _ _ _ h => h) hHeld (by rfl) (fun wS hSw => ?_) ?_
      rotate_left
      · refine exec_load_row 26 (.tmp 5) ?_ gc ?_ 26 (chC l).toArray (0, 0) _ hSw.1 Try.underlying26 rfl (ch_info l lh) <;> rfl
      try simp only [Act.put, List.setIfInBounds_toArray, List.set_cons_zero, List.set_cons_succ]
      refine take_at (i := 21) (v := ?_) (some 62) rfl rfl (by kernel_rfl) (by kernel_rfl) (by kernel_rfl) (fun _ _ _ h => h) hHeld (by rfl) (fun wS hSw => ?_) ?_
      rotate_left
      · try dsimp only at hSw
        go_simp
        try with_reducible rfl
      try simp only [Act.put, List.setIfInBounds_toArray, List.set_cons_zero, List.set_cons_succ]
      refine wpAnyH_ready (rs := [19]) (by kernel_rfl) (by simp) ?_
      refine AllReadyH.cons rfl (fun K hK => ?_) AllReadyH.nil
      simp only [List.getElem_toArray, List.getElem_cons_succ, List.getElem_cons_zero]
      go_simp
      refine (HNa.out _).mono ?_
      rintro e v4 ⟨rfl, hv4⟩
      have hH4 := And.intro (heap_later hHeld.1 hv4) (And.intro (heap_later hHeld.2.1 hv4) (And.intro (heap_later hHeld.2.2.1 hv4) (heap_later hHeld.2.2.2 hv4)))
      have hV4 : Below w.heap.size w v4 := hV3.trans (hv4.mono hV3.size)
      clear hv4
      dsimp only
      have hOld := hHeld
      refine hK.out _ _ hH4 (fun _ => ?_)
      clear hK K
      refine wpAnyH_mono (S2 := fun w' => w'.heap[gc]? = some (.cells (chC l).toArray 26) ∧ w'.heap[ga]? = some (.cells (chC la).toArray 26) ∧ w'.heap[gb]? = some (.cells (chC lb).toArray 26) ∧ w'.heap[gj]? = some (.cells (chC lj).toArray 26)) (fun _ h => h) _ _ _ _ ?_
      clear hHeld
      have hHeld := hH4
      clear hOld
      try simp only [Act.put, List.setIfInBounds_toArray, List.set_cons_zero, List.set_cons_succ]
      refine wpAnyH_ready (rs := [22]) (by kernel_rfl) (by simp) ?_
      refine AllReadyH.cons rfl (fun K hK => ?_) AllReadyH.nil
      simp only [List.getElem_toArray, List.getElem_cons_succ, List.getElem_cons_zero]
      go_simp
      refine (HAh.out _).mono ?_
      rintro e v5 ⟨rfl, hv5⟩
      have hH5 := And.intro (heap_later hHeld.1 hv5) (And.intro (heap_later hHeld.2.1 hv5) (And.intro (heap_later hHeld.2.2.1 hv5) (heap_later hHeld.2.2.2 hv5)))
      have hV5 : Below w.heap.size w v5 := hV4.trans (hv5.mono hV4.size)
      clear hv5
      dsimp only
      have hOld := hHeld
      refine hK.out _ _ hH5 (fun _ => ?_)
      clear hK K
      refine wpAnyH_mono (S2 := fun w' => w'.heap[gc]? = some (.cells (chC l).toArray 26) ∧ w'.heap[ga]? = some (.cells (chC la).toArray 26) ∧ w'.heap[gb]? = some (.cells (chC lb).toArray 26) ∧ w'.heap[gj]? = some (.cells (chC lj).toArray 26)) (fun _ h => h) _ _ _ _ ?_
      clear hHeld
      have hHeld := hH5
      clear hOld
      try simp only [Act.put, List.setIfInBounds_toArray, List.set_cons_zero, List.set_cons_succ]
      refine take_at (i := 23) (v := ?_) (some 64) rfl rfl (by kernel_rfl) (by kernel_rfl) (by kernel_rfl) (fun _ _ _ h => h) hHeld (by rfl) (fun wS hSw => ?_) ?_
      rotate_left
      · try dsimp only at hSw
        go_simp
        try with_reducible rfl
      try simp only [Act.put, List.setIfInBounds_toArray, List.set_cons_zero, List.set_cons_succ]
      refine take_at (i := 24) (v := ?_) (some 65) rfl rfl (by kernel_rfl) (by kernel_rfl) (by kernel_rfl) (fun _ _ _ h => h) hHeld (by rfl) (fun wS hSw => ?_) ?_
      rotate_left
      · try dsimp only at hSw
        go_simp
        try with_reducible rfl
      try simp only [Act.put, List.setIfInBounds_toArray, List.set_cons_zero, List.set_cons_succ]
      refine take_at (i := 25) (v := ?_) (some 66) rfl rfl (by kernel_rfl) (by kernel_rfl) (by kernel_rfl) (fun _ _ _ h => h) hHeld (by rfl) (fun wS hSw => ?_) ?_
      rotate_left
      · try dsimp only at hSw
        go_simp
        try with_reducible rfl
      try simp only [Act.put, List.setIfInBounds_toArray, List.set_cons_zero, List.set_cons_succ]
      refine take_at (i := 26) (v := ?_) (some 67) rfl rfl (by kernel_rfl) (by kernel_rfl) (by kernel_rfl) (fun _ _ _ h => h) hHeld (by rfl) (fun wS hSw => ?_) ?_
      rotate_left
      · refine exec_load_row 26 (.tmp 7) ?_ ga ?_ 26 (chC la).toArray (0, 0) _ hSw.2.1 Try.underlying26 rfl (ch_info la lah) <;> rfl
      try simp only [Act.put, List.setIfInBounds_toArray, List.set_cons_zero, List.set_cons_succ]
      refine take_at (i := 28) (v := ?_) (some 69) rfl rfl (by kernel_rfl) (by kernel_rfl) (by kernel_rfl) (fun _ _ _ h => h) hHeld (by rfl) (fun wS hSw => ?_) ?_
      rotate_left
      · try dsimp only at hSw
        go_simp
        try with_reducible rfl
      try simp only [Act.put, List.setIfInBounds_toArray, List.set_cons_zero, List.set_cons_succ]
      refine wpAnyH_ready (rs := [27]) (by kernel_rfl) (by simp) ?_
      refine AllReadyH.cons rfl (fun K hK => ?_) AllReadyH.nil
      simp only [List.getElem_toArray, List.getElem_cons_succ, List.getElem_cons_zero]
      go_simp
      refine (HLa.out _).mono ?_
      rintro e v6 ⟨rfl, hv6⟩
      have hH6 := And.intro (heap_later hHeld.1 hv6) (And.intro (heap_later hHeld.2.1 hv6) (And.intro (heap_later hHeld.2.2.1 hv6) (heap_later hHeld.2.2.2 hv6)))
      have hV6 : Below w.heap.size w v6 := hV5.trans (hv6.mono hV5.size)
      clear hv6
      dsimp only
      have hOld := hHeld
      refine hK.out _ _ hH6 (fun _ => ?_)
      clear hK K
      refine wpAnyH_mono (S2 := fun w' => w'.heap[gc]? = some (.cells (chC l).toArray 26) ∧ w'.heap[ga]? = some (.cells (chC la).toArray 26) ∧ w'.heap[gb]? = some (.cells (chC lb).toArray 26) ∧ w'.heap[gj]? = some (.cells (chC lj).toArray 26)) (fun _ h => h) _ _ _ _ ?_
      clear hHeld
      have hHeld := hH6
      clear hOld
      try simp only [Act.put, List.setIfInBounds_toArray, List.set_cons_zero, List.set_cons_succ]
      refine take_at (i := 29) (v := ?_) (some 70) rfl rfl (by kernel_rfl) (by kernel_rfl) (by kernel_rfl) (fun _ _ _ h => h) hHeld (by rfl) (fun wS hSw => ?_) ?_
      rotate_left
      · try dsimp only at hSw
        go_simp
        try with_reducible rfl
      try simp only [Act.put, List.setIfInBounds_toArray, List.set_cons_zero, List.set_cons_succ]
      refine take_at (i := 30) (v := ?_) (some 71) rfl rfl (by kernel_rfl) (by kernel_rfl) (by kernel_rfl) (fun _ _ _ h => h) hHeld (by rfl) (fun wS hSw => ?_) ?_
      rotate_left
      · try dsimp only at hSw
        go_simp
        try with_reducible rfl
      try simp only [Act.put, List.setIfInBounds_toArray, List.set_cons_zero, List.set_cons_succ]
      refine take_at (i := 31) (v := ?_) (some 72) rfl rfl (by kernel_rfl) (by kernel_rfl) (by kernel_rfl) (fun _ _ _ h => h) hHeld (by rfl) (fun wS hSw => ?_) ?_
      rotate_left
      · try dsimp only at hSw
        go_simp
        try with_reducible rfl
      try simp only [Act.put, List.setIfInBounds_toArray, List.set_cons_zero, List.set_cons_succ]
      refine wpAnyH_ready (rs := [32]) (by kernel_rfl) (by simp) ?_
      refine AllReadyH.cons rfl (fun K hK => ?_) AllReadyH.nil
      simp only [List.getElem_toArray, List.getElem_cons_succ, List.getElem_cons_zero]
      go_simp
      refine (known_any _).mono ?_
      rintro e v7 ⟨rfl, hv7⟩
      have hH7 := And.intro (heap_later hHeld.1 hv7) (And.intro (heap_later hHeld.2.1 hv7) (And.intro (heap_later hHeld.2.2.1 hv7) (heap_later hHeld.2.2.2 hv7)))
      have hV7 : Below w.heap.size w v7 := hV6.trans (hv7.mono hV6.size)
      clear hv7
      dsimp only
      have hOld := hHeld
      refine hK.out _ _ hH7 (fun _ => ?_)
      clear hK K
      refine wpAnyH_mono (S2 := fun w' => w'.heap[gc]? = some (.cells (chC l).toArray 26) ∧ w'.heap[ga]? = some (.cells (chC la).toArray 26) ∧ w'.heap[gb]? = some (.cells (chC lb).toArray 26) ∧ w'.heap[gj]? = some (.cells (chC lj).toArray 26)) (fun _ h => h) _ _ _ _ ?_
      clear hHeld
      have hHeld := hH7
      clear hOld
      try simp only [Act.put, List.setIfInBounds_toArray, List.set_cons_zero, List.set_cons_succ]
      refine take_at (i := 33) (v := ?_) (some 74) rfl rfl (by kernel_rfl) (by kernel_rfl) (by kernel_rfl) (fun _ _ _ h => h) hHeld (by rfl) (fun wS hSw => ?_) ?_
      rotate_left
      · try dsimp only at hSw
        go_simp
        try with_reducible rfl
      try simp only [Act.put, List.setIfInBounds_toArray, List.set_cons_zero, List.set_cons_succ]
      refine take_at (i := 34) (v := ?_) (some 4) rfl rfl (by kernel_rfl) (by kernel_rfl) (by kernel_rfl) (fun _ _ _ h => h) hHeld (by rfl) (fun wS hSw => ?_) ?_
      rotate_left
      · try dsimp only at hSw
        go_simp
        try with_reducible rfl
      try simp only [Act.put, List.setIfInBounds_toArray, List.set_cons_zero, List.set_cons_succ]
      refine wpAnyH_done (by kernel_rfl) ?_ _
      go_wp2_with fail
      go_ret
      exact ⟨rfl, hV7⟩
    · subst hea
      have e1 : (eb != 0) = true := by simp [heb]
      clear HC heb
      go_wp2_with (first | (refine wpList_store_row rfl 26 (.tmp 7) (.tmp 25) rfl w3.heap.size (chC la).toArray rfl rfl 26 (chC []).toArray (heap_alloc2_old w3 _ _) (ch_info la lah) (ch_size la lah) (all_one la) ?_; rw [alloc2_setRow]) | (refine wpList_store_row rfl 26 (.tmp 8) (.tmp 26) rfl (w3.heap.size + 1) (chC lb).toArray rfl rfl 26 (chC []).toArray (heap_alloc2_new w3 _ _) (ch_info lb lbh) (ch_size lb lbh) (all_one lb) ?_; rw [alloc2_setRow2]))
      refine (known_any _).mono ?_
      rintro e w9 ⟨rfl, hb9⟩
      go_wp2_with fail
      go_ret
      exact ⟨rfl, K4.out.trans (hb9.mono K4.out.size)⟩
  · have e1 : (ea != 0) = true := by simp [hea]
    clear HC hea
    go_wp2_with (first | (refine wpList_store_row rfl 26 (.tmp 7) (.tmp 25) rfl w3.heap.size (chC la).toArray rfl rfl 26 (chC []).toArray (heap_alloc2_old w3 _ _) (ch_info la lah) (ch_size la lah) (all_one la) ?_; rw [alloc2_setRow]) | (refine wpList_store_row rfl 26 (.tmp 8) (.tmp 26) rfl (w3.heap.size + 1) (chC lb).toArray rfl rfl 26 (chC []).toArray (heap_alloc2_new w3 _ _) (ch_info lb lbh) (ch_size lb lbh) (all_one lb) ?_; rw [alloc2_setRow2]))
    refine (known_any _).mono ?_
    rintro e w9 ⟨rfl, hb9⟩
    go_wp2_with fail
    go_ret
    exact ⟨rfl, K4.out.trans (hb9.mono K4.out.size)⟩

set_option maxHeartbeats 1000000 in
theorem chunkBack_out (A : Option Addr) (n c : Nat) (i : Int) (w : World) (h : 1000 < n) (hn : (n : Int) ≤ 9223372036854775807) :
    Calls Try.prog 6 #[.slice A n c, .int .i64 i] w fun e w' => e = .returned (.bool true) ∧ Below w.heap.size w w' := by
  have hh : (1000 : Int) < n := by omega
  go_enter Try.func6, Try.ntmps6
  go_wp2_with fail
  refine (known_any _).mono ?_
  rintro e w' ⟨rfl, hb⟩
  go_wp2_with fail
  go_ret
  exact ⟨rfl, hb⟩

theorem chunkBack_law (A : Option Addr) (n c : Nat) (k : List Int) (i : Int) (w : World) (hs : Sees w w.heap.size 1 A n (k.map r32)) (hn : (n : Int) ≤ 9223372036854775807) (hi0 : -9223372036854775808 ≤ i) (hi1 : i ≤ 9223372036854775807) :
    Calls Try.prog 6 #[.slice A n c, .int .i64 i] w fun e w' => e = .returned (.bool true) ∧ Below w.heap.size w w' := by
  by_cases h : 1000 < n
  · exact chunkBack_out A n c i w h hn
  · exact chunkBack_any A n c k i w hs (by omega) hi0 hi1

end Go.Proofs.Ytcdpbkhlkgefdaa
