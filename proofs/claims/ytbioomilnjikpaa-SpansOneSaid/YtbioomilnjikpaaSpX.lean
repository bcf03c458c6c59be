/-
  avl.Tree: melded.
-/
import Derived.Test.YtbioomilnjikpaaSpW
import Derived.Deep.RegionLaw
import Derived.Deep.DeepCutAuto
import Derived.Deep.CutRange
namespace Go.Proofs.Ytbioomilnjikpaa
open Go.RowKit

set_option maxRecDepth 100000 in
set_option maxHeartbeats 8000000 in
theorem melded_any {w : World} {F : Nat → Prop} {gT gA : Nat} {root : Int} {s : List (Option Nd)} {fr : List Nat} (h : TreeW w F gT gA root s fr) {B c : Nat} {A : Option Addr} {l : List Th} (hl : Sees w B 2 A l.length (rowT l)) (hB : B ≤ w.heap.size) (hc : l.length ≤ c) (ho : ∀ x ∈ l, okT x) (hs : sumT l ≤ 1000000000) (hn : l.length ≤ 200000) :
    Calls Try.prog 45 #[.pointer (some ⟨gT, 0, none⟩), .slice A l.length c] w fun e w' => ∃ v, e = .returned v ∧ OwnT w' w.heap.size v (meldL l) ∧ Below w.heap.size w w' := by
  obtain ⟨i0, ii0, iz0, iz1, iz2⟩ := info_parts thing_info4
  have HW := Lib.hid (fun (w1 : World) (hb : Below w.heap.size w w1) => h.below hb)
  have HL := Lib.hid (fun (w1 : World) (hb : Below w.heap.size w w1) => hl.below hb hB)
  have HO := Lib.hid (And.intro ho hs)
  obtain ⟨nl, hnl⟩ : ∃ n, l.length = n := ⟨_, rfl⟩
  have HN := Lib.hid hnl
  rw [hnl] at HL hn hc ⊢
  have h0 : (nl : Int) ≤ 200000 := by omega
  clear h hl ho hs hnl
  go_enter Try.func45, Try.ntmps45
  go_wp2_with fail
  go_loopw [4, 14] (fun v4 v14 wr => ∃ (k : Nat) (v : Value), k ≤ nl ∧ v = v4 ∧ v14 = .int .i64 k ∧ OwnT wr w.heap.size v (meldL (l.take k)) ∧ Below w.heap.size w wr) (fun _ v14 _ => nl - (intOf v14).toNat)
  case atStart => exact ⟨0, _, Nat.zero_le _, rfl, rfl, ⟨rfl, .inl ⟨rfl, rfl⟩⟩, Below.refl _ _⟩
  case round =>
    obtain ⟨k, v4, hk, rfl, rfl, hown, hbel⟩ := hrel
    by_cases hlt : k < nl
    · have hkI : (k : Int) < nl := by omega
      obtain ⟨x, hx⟩ : ∃ x, l[k]? = some x := ⟨_, List.getElem?_eq_getElem (by rw [HN.out]; exact hlt)⟩
      have hmem : x ∈ l := List.mem_of_getElem? hx
      have hokx := HO.out.1 x hmem
      obtain ⟨-, b, o, rfl, hbB, hr⟩ := (HL.out wr hbel).thing hx
      have HTK := Lib.hid (meldL_take hx)
      obtain ⟨O, hO⟩ : ∃ O, meldL (l.take k) = O := ⟨_, rfl⟩
      have hsum := HO.out.2
      have hsplit : l = l.take k ++ x :: l.drop (k + 1) := by
        have h1 := (List.getElem?_eq_some_iff.1 hx)
        rw [← h1.2, ← List.drop_eq_getElem_cons h1.1, List.take_append_drop]
      have hsn := sumT_nonneg (l := l.drop (k + 1)) (fun y hy => HO.out.1 y (List.mem_of_mem_drop hy))
      rw [hsplit, sumT_append, sumT] at hsum
      have hmo := meldL_ok (l := l.take k) (fun y hy => HO.out.1 y (List.mem_of_mem_take hy)) (by have := sizeT_ok hokx; omega)
      rw [hO] at HTK hown hmo
      have hOl : O.length ≤ 200000 := by have h1 := hmo.2.2; rw [List.length_take] at h1; omega
      have HMO := Lib.hid (show (∀ y ∈ O, okT y) ∧ okT x ∧ sumT O + sizeT x ≤ 1000000000 from ⟨hmo.1, hokx, by rw [hmo.2.1]; omega⟩)
      have HRx := Lib.hid (show wr.drew.rangeAt b (o + k * 2) (encT x) from hr)
      have HRx0 := Lib.hid hr
      have HM := Lib.hid (fun w1 => measure_any x w1)
      obtain ⟨zx, hzx⟩ : ∃ z, sizeT x = z := ⟨_, rfl⟩
      have HZ := Lib.hid hzx
      rw [hzx] at HM
      obtain ⟨bx, hbx⟩ : ∃ v, wr.heap.size = v := ⟨_, rfl⟩
      obtain ⟨w2, hw2⟩ : ∃ v, wr.alloc (.cells (encT x).toArray 34) = v := ⟨_, rfl⟩
      have B2 : Below wr.heap.size wr w2 := by rw [← hw2]; exact (Below.refl _ _).alloc (Nat.le_refl _) _
      have K2 := Lib.hid (hbel.trans (B2.mono hbel.size))
      have F2 := Lib.hid (show w2.heap[bx]? = some (.cells (encT x).toArray 34) by rw [← hw2, ← hbx]; exact heap_alloc_new wr _)
      have O2 := Lib.hid (OwnT.later hown B2)
      have HE := Lib.hid (And.intro hw2 hbx)
      clear hx hmem hokx hr hO hsum hsplit hsn hmo hzx hbx hw2 B2 hown hbel
      go_upto_region 4 with (first
        | (refine wpList_load_mid rfl 34 (.tmp 16) rfl b (o + k * 2) rfl (encT x) _ HRx0.out Try.underlying34 rfl (thing_info x) ?_)
        | (refine wpList_store_row rfl 34 (.tmp 6) (.tmp 17) rfl wr.heap.size (encT x).toArray rfl rfl 34 _ (heap_alloc_new wr _) (by rw [List.size_toArray]; exact thing_info _) (by rfl) (all_oneCell_toArray (encT_one _)) ?_; rw [alloc_setRow, HE.out.1, HE.out.2]))
      refine wp_region_held_drew (S := fun w' => w'.cell? ⟨gT, 0, none⟩ = some (.func (.func 37) #[] #[]) ∧ w'.heap[bx]? = some (.cells (encT x).toArray 34)) (by kernel_rfl) ⟨(HW.out w2 K2.out).cM, F2.out⟩ (fun hHeld => ?_)
      try dsimp only at hHeld
      refine take_at (i := 0) (v := ?_) (some 19) rfl rfl (by kernel_rfl) (by kernel_rfl) (by kernel_rfl) (fun _ _ _ h => h) hHeld (by rfl) (fun wS hSw => ?_) ?_
      rotate_left
      · try dsimp only at hSw
        go_simp
        try with_reducible rfl
      try simp only [Act.put, List.setIfInBounds_toArray, List.set_cons_zero, List.set_cons_succ]
      refine take_at (i := 1) (v := ?_) (some 20) rfl rfl (by kernel_rfl) (by kernel_rfl) (by kernel_rfl) (fun _ _ _ h => h) hHeld (by rfl) (fun wS hSw => ?_) ?_
      rotate_left
      · try dsimp only at hSw
        go_simp
        try with_reducible rfl
      try simp only [Act.put, List.setIfInBounds_toArray, List.set_cons_zero, List.set_cons_succ]
      refine take_at (i := 2) (v := ?_) (some 21) rfl rfl (by kernel_rfl) (by kernel_rfl) (by kernel_rfl) (fun _ _ _ h => h) hHeld (by rfl) (fun wS hSw => ?_) ?_
      rotate_left
      · try dsimp only at hSw
        go_simp
        try with_reducible rfl
      try simp only [Act.put, List.setIfInBounds_toArray, List.set_cons_zero, List.set_cons_succ]
      refine take_at (i := 3) (v := ?_) (some 22) rfl rfl (by kernel_rfl) (by kernel_rfl) (by kernel_rfl) (fun _ _ _ h => h) hHeld (by rfl) (fun wS hSw => ?_) ?_
      rotate_left
      · try dsimp only at hSw
        go_simp
        try with_reducible rfl
      try simp only [Act.put, List.setIfInBounds_toArray, List.set_cons_zero, List.set_cons_succ]
      refine take_at (i := 4) (v := ?_) (some 23) rfl rfl (by kernel_rfl) (by kernel_rfl) (by kernel_rfl) (fun _ _ _ h => h) hHeld (by rfl) (fun wS hSw => ?_) ?_
      rotate_left
      · have hS1 := hSw.1
        try dsimp only at hSw
        go_simp
        try with_reducible rfl
      try simp only [Act.put, List.setIfInBounds_toArray, List.set_cons_zero, List.set_cons_succ]
      refine take_at (i := 5) (v := ?_) (some 24) rfl rfl (by kernel_rfl) (by kernel_rfl) (by kernel_rfl) (fun _ _ _ h => h) hHeld (by rfl) (fun wS hSw => ?_) ?_
      rotate_left
      · refine exec_load_row 34 (.tmp 6) ?_ bx ?_ 34 (encT x).toArray (0, 0) _ hSw.2 Try.underlying34 rfl (by rw [List.size_toArray]; exact thing_info _) <;> rfl
      try simp only [Act.put, List.setIfInBounds_toArray, List.set_cons_zero, List.set_cons_succ]
      refine wpAnyH_ready (rs := [6]) (by kernel_rfl) (by simp) ?_
      refine AllReadyH.cons rfl (fun K hK => ?_) AllReadyH.nil
      simp only [List.getElem_toArray, List.getElem_cons_succ, List.getElem_cons_zero]
      go_simp
      refine (HM.out _).mono ?_
      rintro e w3 ⟨rfl, hb3⟩
      have hH3 : w3.cell? ⟨gT, 0, none⟩ = some (.func (.func 37) #[] #[]) ∧ w3.heap[bx]? = some (.cells (encT x).toArray 34) := ⟨cell_later hHeld.1 hb3, heap_later hHeld.2 hb3⟩
      have K3 := Lib.hid (K2.out.drew.trans (hb3.mono K2.out.size))
      have F3 := Lib.hid hH3.2
      have O3 := Lib.hid (show OwnT w3 w.heap.size v4 O from OwnT.later (show OwnT w2.drew w.heap.size v4 O from O2.out) hb3)
      clear hb3
      try dsimp only
      have hOld := hHeld
      refine hK.out _ _ hH3 (fun _ => ?_)
      clear hK K
      refine wpAnyH_mono (S2 := fun w' => w'.cell? ⟨gT, 0, none⟩ = some (.func (.func 37) #[] #[]) ∧ w'.heap[bx]? = some (.cells (encT x).toArray 34)) (fun _ h => h) _ _ _ _ ?_
      clear hHeld
      have hHeld := hH3
      clear hOld
      try simp only [Act.put, List.setIfInBounds_toArray, List.set_cons_zero, List.set_cons_succ]
      refine take_at (i := 7) (v := ?_) (some 18) rfl rfl (by kernel_rfl) (by kernel_rfl) (by kernel_rfl) (fun _ _ _ h => h) hHeld (by rfl) (fun wS hSw => ?_) ?_
      rotate_left
      · try dsimp only at hSw
        go_simp
        try with_reducible rfl
      try simp only [Act.put, List.setIfInBounds_toArray, List.set_cons_zero, List.set_cons_succ]
      refine take_at (i := 8) (v := ?_) (some 26) rfl rfl (by kernel_rfl) (by kernel_rfl) (by kernel_rfl) (fun _ _ _ h => h) hHeld (by rfl) (fun wS hSw => ?_) ?_
      rotate_left
      · try dsimp only at hSw
        go_simp
        try with_reducible rfl
      try simp only [Act.put, List.setIfInBounds_toArray, List.set_cons_zero, List.set_cons_succ]
      refine take_at (i := 9) (v := ?_) (some 27) rfl rfl (by kernel_rfl) (by kernel_rfl) (by kernel_rfl) (fun _ _ _ h => h) hHeld (by rfl) (fun wS hSw => ?_) ?_
      rotate_left
      · try dsimp only at hSw
        go_simp
        try with_reducible rfl
      try simp only [Act.put, List.setIfInBounds_toArray, List.set_cons_zero, List.set_cons_succ]
      refine take_at (i := 10) (v := ?_) (some 7) rfl rfl (by kernel_rfl) (by kernel_rfl) (by kernel_rfl) (fun _ _ _ h => h) hHeld (by rfl) (fun wS hSw => ?_) ?_
      rotate_left
      · try dsimp only at hSw
        go_simp
        try with_reducible rfl
      try simp only [Act.put, List.setIfInBounds_toArray, List.set_cons_zero, List.set_cons_succ]
      refine take_at (i := 11) (v := ?_) (some 8) rfl rfl (by kernel_rfl) (by kernel_rfl) (by kernel_rfl) (fun _ _ _ h => h) hHeld (by rfl) (fun wS hSw => ?_) ?_
      rotate_left
      · try dsimp only at hSw
        go_simp
        try with_reducible rfl
      try simp only [Act.put, List.setIfInBounds_toArray, List.set_cons_zero, List.set_cons_succ]
      refine wpAnyH_done (by kernel_rfl) ?_ _
      clear hHeld hH3
      by_cases hz : zx = 0
      · have hz1 : (zx == 0) = true := by simpa using hz
        have HSA := Lib.hid (show meldStep O x = O by unfold meldStep; rw [HZ.out, if_pos hz])
        clear hz
        go_wp2_with fail
        go_roundw
        case rel => exact ⟨k + 1, _, by omega, rfl, by go_num, by rw [HTK.out, HSA.out]; exact O3.out, K3.out⟩
        case measure => simp [intOf]; omega
      · have hz1 : (zx == 0) = false := by simpa using hz
        obtain ⟨A4, c4, rfl, hc4, hm4⟩ := O3.out.shape
        obtain ⟨nO, hnO⟩ : ∃ n, O.length = n := ⟨_, rfl⟩
        have HNO := Lib.hid hnO
        have O3' := O3.out
        rw [hnO] at O3' hc4 hOl ⊢
        have O3 := Lib.hid O3'
        clear O3' hnO O2
        rcases Nat.eq_zero_or_pos nO with rfl | hpos
        · have HSA := Lib.hid (show meldStep O x = O ++ [x] by have e : O = [] := List.eq_nil_of_length_eq_zero HNO.out; unfold meldStep; rw [HZ.out, if_neg hz, e]; rfl)
          clear hz
          go_upto_region 11 with fail
          obtain ⟨bz, hbz⟩ : ∃ v, w3.heap.size = v := ⟨_, rfl⟩
          obtain ⟨wa, hwa⟩ : ∃ v, w3.alloc (.cells (encT x).toArray 34) = v := ⟨_, rfl⟩
          have Ba : Below w3.heap.size w3 wa := by rw [← hwa]; exact (Below.refl _ _).alloc (Nat.le_refl _) _
          have Ka := Lib.hid (K3.out.trans (Ba.mono K3.out.size))
          have Oa := Lib.hid (OwnT.later O3.out Ba)
          have Sa := Lib.hid (show Sees wa (bz + 1) 2 (some ⟨bz, 0, none⟩) 1 (rowT [x]) from Sees.things (by rw [rowT_one, ← hwa, ← hbz]; exact heap_alloc_new _ _))
          have HR := Lib.hid (run_things x w3)
          rw [hwa, hbz] at HR
          clear hwa hbz Ba
          go_wp2_with (first
            | (refine wpList_load_row rfl 34 (.tmp 6) rfl bx rfl 34 (encT x).toArray (0, 0) _ F3.out Try.underlying34 rfl (by rw [List.size_toArray]; exact thing_info _) ?_)
            | (refine wpList_known _ rfl (v := .slice (some ⟨bz, 0, none⟩) 1 1) (w' := wa) (exec_slice1 26 (.tmp 55) rfl (.agg (encT x).toArray) rfl HR.out) ?_)
            | (at_builtin
               refine wpList_append_sees _ rfl _ _ _ rfl w.heap.size 34 i0 _ 2 16 Try.underlying26 ii0 iz0 iz1 iz2 rfl (by omega) _ 0 (rowT O) rfl (by have h1 := Oa.out; unfold OwnT at h1; rw [HNO.out] at h1; exact h1)  (bz + 1) _ 1 1 (rowT [x]) rfl Sa.out (rowT_oneCell _) (by simp only [maxLen]; omega) (by omega) Ka.out.size ?_
               intro v5 w5 hown5 hg5 hat5 hnil5
               have K5 := Lib.hid (Ka.out.grown hg5 Ka.out.size (fun g hg => own_base Oa.out hg))
               have O5 := Lib.hid (show OwnT w5 w.heap.size v5 (O ++ [x]) by unfold OwnT; rw [rowT_append, List.length_append, HNO.out]; exact hown5)
               clear hown5 hg5 hat5 hnil5))
          go_roundw
          case rel => exact ⟨k + 1, _, by omega, rfl, by go_num, by rw [HTK.out, HSA.out]; exact O5.out, K5.out⟩
          case measure => simp [intOf]; omega
        · obtain ⟨m, rfl⟩ : ∃ m, nO = m + 1 := ⟨nO - 1, by omega⟩
          obtain ⟨y, hy⟩ : ∃ y, O[m]? = some y := ⟨_, List.getElem?_eq_getElem (by rw [HNO.out]; omega)⟩
          have HSY := Lib.hid (show meldStep O x = if meldB y x then O.set m (meldT y x) else O ++ [x] by
            have hOy : O = O.take m ++ [y] := by
              have h1 := List.getElem?_eq_some_iff.1 hy
              have h2 := HNO.out
              rw [← h1.2, List.take_append_getElem, List.take_of_length_le (by omega)]
            have hl1 : (O.take m).length = m := by rw [List.length_take, HNO.out]; omega
            unfold meldStep
            rw [HZ.out, if_neg hz]
            generalize hP : O.take m = P at hOy hl1
            subst hOy
            rw [List.getLast?_append, List.getLast?_singleton]
            simp only [Option.some_or]
            rw [List.dropLast_concat, List.set_append_right _ _ (by omega), hl1, Nat.sub_self, List.set_cons_zero])
          obtain ⟨-, b4, rfl, hb4, hb4l, hr4, -⟩ := O3.out.thing hy
          have R3 := Lib.hid hr4
          have HB4 := Lib.hid (And.intro hb4 hb4l)
          have HYOK := Lib.hid (HMO.out.1 y (List.mem_of_getElem? hy))
          have HD := Lib.hid (fun w1 => meld_any y x w1 HYOK.out HMO.out.2.1)
          have hmI : (m : Int) ≤ 200000 := by omega
          have hmm : (m : Int) < (m : Int) + 1 := by omega
          have HMN := Lib.hid hy
          clear hz hy hr4 hb4 hb4l hpos
          go_upto_region 8 with fail
          go_cut [10, 11] from 35 to 48 (fun v10 v11 wz => ∃ by_ : Nat, v10 = .pointer (some ⟨by_, 0, none⟩) ∧ v11 = .bool (meldB y x) ∧ w3.heap.size ≤ by_ ∧ wz.heap[by_]? = some (.cells (encT (meldT y x)).toArray 34) ∧ Below w3.heap.size w3 wz)
          case first =>
            refine wp_region_held_drew (S := fun w' => w'.cell? ⟨gT, 2, none⟩ = some (.func (.func 39) #[] #[]) ∧ w'.heap[bx]? = some (.cells (encT x).toArray 34) ∧ w'.rangeAt b4 (m * 2) (encT y)) (by kernel_rfl) ⟨(HW.out w3 K3.out).cD, F3.out, R3.out⟩ (fun hHeld => ?_)
            try dsimp only at hHeld
            refine take_at (i := 0) (v := ?_) (some 36) rfl rfl (by kernel_rfl) (by kernel_rfl) (by kernel_rfl) (fun _ _ _ h => h) hHeld (by rfl) (fun wS hSw => ?_) ?_
            rotate_left
            · try dsimp only at hSw
              go_simp
              try with_reducible rfl
            try simp only [Act.put, List.setIfInBounds_toArray, List.set_cons_zero, List.set_cons_succ]
            refine take_at (i := 1) (v := ?_) (some 37) rfl rfl (by kernel_rfl) (by kernel_rfl) (by kernel_rfl) (fun _ _ _ h => h) hHeld (by rfl) (fun wS hSw => ?_) ?_
            rotate_left
            · try dsimp only at hSw
              go_simp
              try with_reducible rfl
            try simp only [Act.put, List.setIfInBounds_toArray, List.set_cons_zero, List.set_cons_succ]
            refine take_at (i := 2) (v := ?_) (some 38) rfl rfl (by kernel_rfl) (by kernel_rfl) (by kernel_rfl) (fun _ _ _ h => h) hHeld (by rfl) (fun wS hSw => ?_) ?_
            rotate_left
            · try dsimp only at hSw
              go_simp
              try with_reducible rfl
            try simp only [Act.put, List.setIfInBounds_toArray, List.set_cons_zero, List.set_cons_succ]
            refine take_at (i := 3) (v := ?_) (some 39) rfl rfl (by kernel_rfl) (by kernel_rfl) (by kernel_rfl) (fun _ _ _ h => h) hHeld (by rfl) (fun wS hSw => ?_) ?_
            rotate_left
            · try dsimp only at hSw
              go_simp
              try with_reducible rfl
            try simp only [Act.put, List.setIfInBounds_toArray, List.set_cons_zero, List.set_cons_succ]
            refine take_at (i := 4) (v := ?_) (some 40) rfl rfl (by kernel_rfl) (by kernel_rfl) (by kernel_rfl) (fun _ _ _ h => h) hHeld (by rfl) (fun wS hSw => ?_) ?_
            rotate_left
            · have hS1 := hSw.1
              try dsimp only at hSw
              go_simp
              try with_reducible rfl
            try simp only [Act.put, List.setIfInBounds_toArray, List.set_cons_zero, List.set_cons_succ]
            refine take_at (i := 5) (v := ?_) (some 41) rfl rfl (by kernel_rfl) (by kernel_rfl) (by kernel_rfl) (fun _ _ _ h => h) hHeld (by rfl) (fun wS hSw => ?_) ?_
            rotate_left
            · try dsimp only at hSw
              go_simp
              try with_reducible rfl
            try simp only [Act.put, List.setIfInBounds_toArray, List.set_cons_zero, List.set_cons_succ]
            refine take_at (i := 6) (v := ?_) (some 42) rfl rfl (by kernel_rfl) (by kernel_rfl) (by kernel_rfl) (fun _ _ _ h => h) hHeld (by rfl) (fun wS hSw => ?_) ?_
            rotate_left
            · try dsimp only at hSw
              go_simp
              try with_reducible rfl
            try simp only [Act.put, List.setIfInBounds_toArray, List.set_cons_zero, List.set_cons_succ]
            refine take_at (i := 7) (v := ?_) (some 43) rfl rfl (by kernel_rfl) (by kernel_rfl) (by kernel_rfl) (fun _ _ _ h => h) hHeld (by rfl) (fun wS hSw => ?_) ?_
            rotate_left
            · try dsimp only at hSw
              go_simp
              try with_reducible rfl
            try simp only [Act.put, List.setIfInBounds_toArray, List.set_cons_zero, List.set_cons_succ]
            refine take_at (i := 8) (v := ?_) (some 44) rfl rfl (by kernel_rfl) (by kernel_rfl) (by kernel_rfl) (fun _ _ _ h => h) hHeld (by rfl) (fun wS hSw => ?_) ?_
            rotate_left
            · refine exec_load_mid 34 (.tmp 43) ?_ b4 (m * 2) ?_ (encT y) _ hSw.2.2 Try.underlying34 rfl (thing_info _) <;> rfl
            try simp only [Act.put, List.setIfInBounds_toArray, List.set_cons_zero, List.set_cons_succ]
            refine take_at (i := 9) (v := ?_) (some 45) rfl rfl (by kernel_rfl) (by kernel_rfl) (by kernel_rfl) (fun _ _ _ h => h) hHeld (by rfl) (fun wS hSw => ?_) ?_
            rotate_left
            · refine exec_load_row 34 (.tmp 6) ?_ bx ?_ 34 (encT x).toArray (0, 0) _ hSw.2.1 Try.underlying34 rfl (by rw [List.size_toArray]; exact thing_info _) <;> rfl
            try simp only [Act.put, List.setIfInBounds_toArray, List.set_cons_zero, List.set_cons_succ]
            obtain ⟨wd, hwd⟩ : ∃ v, w3.drew = v := ⟨_, rfl⟩
            have hW0 := Lib.hid (show Below w3.heap.size w3 wd by rw [← hwd]; exact (Below.refl w3.heap.size w3).drew)
            rw [hwd] at hHeld
            rw [hwd]
            clear hwd
            refine wpAnyH_ready (rs := [10, 14]) (by kernel_rfl) (by simp) ?_
            refine AllReadyH.cons rfl (fun K hK => ?_) (AllReadyH.cons rfl (fun K hK => ?_) (AllReadyH.nil))
            · simp only [List.getElem_toArray, List.getElem_cons_succ, List.getElem_cons_zero]
              go_simp
              refine (HD.out _).mono ?_
              rintro e x1 ⟨rfl, hb1⟩
              have hW1 := Lib.hid (hW0.out.trans (hb1.mono hW0.out.size))
              clear hb1
              try dsimp only
              have hS1 : (fun w' => w'.cell? ⟨gT, 2, none⟩ = some (.func (.func 39) #[] #[]) ∧ w'.heap[bx]? = some (.cells (encT x).toArray 34) ∧ w'.rangeAt b4 (m * 2) (encT y)) x1 := ⟨(HW.out x1 (K3.out.trans (hW1.out.mono K3.out.size))).cD, heap_later F3.out hW1.out, range_below R3.out HB4.out.2 hW1.out⟩
              refine hK.out _ _ hS1 (fun hHeld => ?_)
              clear hK K
              try simp only [Act.put, List.setIfInBounds_toArray, List.set_cons_zero, List.set_cons_succ]
              refine take_at (i := 11) (v := ?_) (some 35) rfl rfl (by kernel_rfl) (by kernel_rfl) (by kernel_rfl) (fun _ _ _ h => h) hHeld (by rfl) (fun wS hSw => ?_) ?_
              rotate_left
              · try dsimp only at hSw
                go_simp
                try with_reducible rfl
              try simp only [Act.put, List.setIfInBounds_toArray, List.set_cons_zero, List.set_cons_succ]
              refine take_at (i := 12) (v := ?_) (some 47) rfl rfl (by kernel_rfl) (by kernel_rfl) (by kernel_rfl) (fun _ _ _ h => h) hHeld (by rfl) (fun wS hSw => ?_) ?_
              rotate_left
              · try dsimp only at hSw
                go_simp
                try with_reducible rfl
              try simp only [Act.put, List.setIfInBounds_toArray, List.set_cons_zero, List.set_cons_succ]
              refine take_at (i := 13) (v := ?_) (some 48) rfl rfl (by kernel_rfl) (by kernel_rfl) (by kernel_rfl) (fun _ _ _ h => h) hHeld (by rfl) (fun wS hSw => ?_) ?_
              rotate_left
              · try dsimp only at hSw
                go_simp
                try with_reducible rfl
              try simp only [Act.put, List.setIfInBounds_toArray, List.set_cons_zero, List.set_cons_succ]
              refine wpAnyH_ready (rs := [14]) (by kernel_rfl) (by simp) ?_
              refine AllReadyH.cons rfl (fun K hK => ?_) (AllReadyH.nil)
              · simp only [List.getElem_toArray, List.getElem_cons_succ, List.getElem_cons_zero]
                go_simp
                try dsimp only
                obtain ⟨x2, hw2⟩ : ∃ v, (x1).alloc (.cells #[.int .i64 0, .int .i64 0] 34) = v := ⟨_, rfl⟩
                obtain ⟨by_, hby⟩ : ∃ v, (x1).heap.size = v := ⟨_, rfl⟩
                have hb2 : Below (x1).heap.size (x1) x2 := by rw [← hw2]; exact (Below.refl _ _).alloc (Nat.le_refl _) _
                have fy2 : x2.heap[by_]? = some (.cells ([.int .i64 0, .int .i64 0] : List Value).toArray 34) := by rw [← hw2, ← hby]; exact heap_alloc_new _ _
                have hW2 := Lib.hid (hW1.out.trans (hb2.mono hW1.out.size))
                have lby := Lib.hid (show w3.heap.size ≤ by_ by rw [← hby]; exact hW1.out.size)
                rw [hw2, hby]
                clear hw2 hby hb2
                have hS2 : (fun w' => w'.cell? ⟨gT, 2, none⟩ = some (.func (.func 39) #[] #[]) ∧ w'.heap[bx]? = some (.cells (encT x).toArray 34) ∧ w'.rangeAt b4 (m * 2) (encT y)) x2 := ⟨(HW.out x2 (K3.out.trans (hW2.out.mono K3.out.size))).cD, heap_later F3.out hW2.out, range_below R3.out HB4.out.2 hW2.out⟩
                refine hK.out _ _ hS2 (fun hHeld => ?_)
                clear hK K
                try simp only [Act.put, List.setIfInBounds_toArray, List.set_cons_zero, List.set_cons_succ]
                refine wpAnyH_ready (rs := [15]) (by kernel_rfl) (by simp) ?_
                refine AllReadyH.cons rfl (fun K hK => ?_) (AllReadyH.nil)
                · simp only [List.getElem_toArray, List.getElem_cons_succ, List.getElem_cons_zero]
                  refine of_if (by rfl) ?_
                  refine wp_store_mid 34 (.tmp 10) (.tmp 47) rfl by_ 0 (encT (meldT y x)).toArray rfl rfl (there_row fy2 (by rw [List.size_toArray, encT_len]; exact Nat.le_refl _)) (by rw [List.size_toArray]; exact thing_info _) (all_oneCell_toArray (encT_one _)) ?_
                  rw [List.toList_toArray]
                  obtain ⟨x3, hw3⟩ : ∃ v, (x2).setCells by_ 0 (encT (meldT y x)) = v := ⟨_, rfl⟩
                  have fy3 : x3.heap[by_]? = some (.cells (encT (meldT y x)).toArray 34) := by rw [← hw3]; exact setCells_row fy2 (by rw [encT_len]; rfl)
                  have hW3 := Lib.hid (show Below w3.heap.size w3 x3 by rw [← hw3]; exact below_setCells lby.out _ _ _ hW2.out)
                  rw [hw3]
                  clear hw3
                  have hS3 : (fun w' => w'.cell? ⟨gT, 2, none⟩ = some (.func (.func 39) #[] #[]) ∧ w'.heap[bx]? = some (.cells (encT x).toArray 34) ∧ w'.rangeAt b4 (m * 2) (encT y)) x3 := ⟨(HW.out x3 (K3.out.trans (hW3.out.mono K3.out.size))).cD, heap_later F3.out hW3.out, range_below R3.out HB4.out.2 hW3.out⟩
                  refine hK.out _ _ hS3 (fun hHeld => ?_)
                  clear hK K
                  try simp only [Act.put]
                  refine take_at (i := 16) (v := ?_) (some 11) rfl rfl (by kernel_rfl) (by kernel_rfl) (by kernel_rfl) (fun _ _ _ h => h) hHeld (by rfl) (fun wS hSw => ?_) ?_
                  rotate_left
                  · try dsimp only at hSw
                    go_simp
                    try with_reducible rfl
                  try simp only [Act.put, List.setIfInBounds_toArray, List.set_cons_zero, List.set_cons_succ]
                  refine wpAnyH_done (by kernel_rfl) ?_ _
                  go_wp2_with fail
                  go_meet
                  case rel => exact ⟨by_, rfl, rfl, lby.out, fy3, hW3.out⟩
            · simp only [List.getElem_toArray, List.getElem_cons_succ, List.getElem_cons_zero]
              go_simp
              try dsimp only
              obtain ⟨x4, hw4⟩ : ∃ v, (wd).alloc (.cells #[.int .i64 0, .int .i64 0] 34) = v := ⟨_, rfl⟩
              obtain ⟨by_, hby⟩ : ∃ v, (wd).heap.size = v := ⟨_, rfl⟩
              have hb4 : Below (wd).heap.size (wd) x4 := by rw [← hw4]; exact (Below.refl _ _).alloc (Nat.le_refl _) _
              have fy4 : x4.heap[by_]? = some (.cells ([.int .i64 0, .int .i64 0] : List Value).toArray 34) := by rw [← hw4, ← hby]; exact heap_alloc_new _ _
              have hW4 := Lib.hid (hW0.out.trans (hb4.mono hW0.out.size))
              have lby := Lib.hid (show w3.heap.size ≤ by_ by rw [← hby]; exact hW0.out.size)
              rw [hw4, hby]
              clear hw4 hby hb4
              have hS4 : (fun w' => w'.cell? ⟨gT, 2, none⟩ = some (.func (.func 39) #[] #[]) ∧ w'.heap[bx]? = some (.cells (encT x).toArray 34) ∧ w'.rangeAt b4 (m * 2) (encT y)) x4 := ⟨(HW.out x4 (K3.out.trans (hW4.out.mono K3.out.size))).cD, heap_later F3.out hW4.out, range_below R3.out HB4.out.2 hW4.out⟩
              refine hK.out _ _ hS4 (fun hHeld => ?_)
              clear hK K
              try simp only [Act.put, List.setIfInBounds_toArray, List.set_cons_zero, List.set_cons_succ]
              refine wpAnyH_ready (rs := [10]) (by kernel_rfl) (by simp) ?_
              refine AllReadyH.cons rfl (fun K hK => ?_) (AllReadyH.nil)
              · simp only [List.getElem_toArray, List.getElem_cons_succ, List.getElem_cons_zero]
                go_simp
                refine (HD.out _).mono ?_
                rintro e x5 ⟨rfl, hb5⟩
                have hW5 := Lib.hid (hW4.out.trans (hb5.mono hW4.out.size))
                have fy5 := heap_later fy4 hb5
                clear hb5
                try dsimp only
                have hS5 : (fun w' => w'.cell? ⟨gT, 2, none⟩ = some (.func (.func 39) #[] #[]) ∧ w'.heap[bx]? = some (.cells (encT x).toArray 34) ∧ w'.rangeAt b4 (m * 2) (encT y)) x5 := ⟨(HW.out x5 (K3.out.trans (hW5.out.mono K3.out.size))).cD, heap_later F3.out hW5.out, range_below R3.out HB4.out.2 hW5.out⟩
                refine hK.out _ _ hS5 (fun hHeld => ?_)
                clear hK K
                try simp only [Act.put, List.setIfInBounds_toArray, List.set_cons_zero, List.set_cons_succ]
                refine take_at (i := 11) (v := ?_) (some 35) rfl rfl (by kernel_rfl) (by kernel_rfl) (by kernel_rfl) (fun _ _ _ h => h) hHeld (by rfl) (fun wS hSw => ?_) ?_
                rotate_left
                · try dsimp only at hSw
                  go_simp
                  try with_reducible rfl
                try simp only [Act.put, List.setIfInBounds_toArray, List.set_cons_zero, List.set_cons_succ]
                refine take_at (i := 12) (v := ?_) (some 47) rfl rfl (by kernel_rfl) (by kernel_rfl) (by kernel_rfl) (fun _ _ _ h => h) hHeld (by rfl) (fun wS hSw => ?_) ?_
                rotate_left
                · try dsimp only at hSw
                  go_simp
                  try with_reducible rfl
                try simp only [Act.put, List.setIfInBounds_toArray, List.set_cons_zero, List.set_cons_succ]
                refine take_at (i := 13) (v := ?_) (some 48) rfl rfl (by kernel_rfl) (by kernel_rfl) (by kernel_rfl) (fun _ _ _ h => h) hHeld (by rfl) (fun wS hSw => ?_) ?_
                rotate_left
                · try dsimp only at hSw
                  go_simp
                  try with_reducible rfl
                try simp only [Act.put, List.setIfInBounds_toArray, List.set_cons_zero, List.set_cons_succ]
                refine wpAnyH_ready (rs := [15]) (by kernel_rfl) (by simp) ?_
                refine AllReadyH.cons rfl (fun K hK => ?_) (AllReadyH.nil)
                · simp only [List.getElem_toArray, List.getElem_cons_succ, List.getElem_cons_zero]
                  refine of_if (by rfl) ?_
                  refine wp_store_mid 34 (.tmp 10) (.tmp 47) rfl by_ 0 (encT (meldT y x)).toArray rfl rfl (there_row fy5 (by rw [List.size_toArray, encT_len]; exact Nat.le_refl _)) (by rw [List.size_toArray]; exact thing_info _) (all_oneCell_toArray (encT_one _)) ?_
                  rw [List.toList_toArray]
                  obtain ⟨x6, hw6⟩ : ∃ v, (x5).setCells by_ 0 (encT (meldT y x)) = v := ⟨_, rfl⟩
                  have fy6 : x6.heap[by_]? = some (.cells (encT (meldT y x)).toArray 34) := by rw [← hw6]; exact setCells_row fy5 (by rw [encT_len]; rfl)
                  have hW6 := Lib.hid (show Below w3.heap.size w3 x6 by rw [← hw6]; exact below_setCells lby.out _ _ _ hW5.out)
                  rw [hw6]
                  clear hw6
                  have hS6 : (fun w' => w'.cell? ⟨gT, 2, none⟩ = some (.func (.func 39) #[] #[]) ∧ w'.heap[bx]? = some (.cells (encT x).toArray 34) ∧ w'.rangeAt b4 (m * 2) (encT y)) x6 := ⟨(HW.out x6 (K3.out.trans (hW6.out.mono K3.out.size))).cD, heap_later F3.out hW6.out, range_below R3.out HB4.out.2 hW6.out⟩
                  refine hK.out _ _ hS6 (fun hHeld => ?_)
                  clear hK K
                  try simp only [Act.put]
                  refine take_at (i := 16) (v := ?_) (some 11) rfl rfl (by kernel_rfl) (by kernel_rfl) (by kernel_rfl) (fun _ _ _ h => h) hHeld (by rfl) (fun wS hSw => ?_) ?_
                  rotate_left
                  · try dsimp only at hSw
                    go_simp
                    try with_reducible rfl
                  try simp only [Act.put, List.setIfInBounds_toArray, List.set_cons_zero, List.set_cons_succ]
                  refine wpAnyH_done (by kernel_rfl) ?_ _
                  go_wp2_with fail
                  go_meet
                  case rel => exact ⟨by_, rfl, rfl, lby.out, fy6, hW6.out⟩
          case rest =>
            clear HD
            obtain ⟨by_, rfl, rfl, hby, hfy, hbc⟩ := hcut
            have Kc := Lib.hid (K3.out.trans (hbc.mono K3.out.size))
            have Oc := Lib.hid (OwnT.later O3.out hbc)
            have Fc := Lib.hid (heap_later F3.out hbc)
            have FY := Lib.hid hfy
            clear hby hfy hbc
            by_cases hm : meldB y x = true
            · have HSA := Lib.hid (show meldStep O x = O.set m (meldT y x) by rw [HSY.out, if_pos hm])
              obtain ⟨-, _, hA, -, -, -, ht⟩ := Oc.out.thing HMN.out
              injection hA with hA
              injection hA with hA
              subst hA
              have HT := Lib.hid ht
              clear ht
              rw [hm]
              clear hm
              go_wp2_with (first
                | (refine wpList_load_row rfl 34 (.tmp 10) rfl by_ rfl 34 (encT (meldT y x)).toArray (0, 0) _ FY.out Try.underlying34 rfl (by rw [List.size_toArray]; exact thing_info _) ?_)
                | (refine wpList_store_mid rfl 34 (.tmp 53) (.tmp 52) rfl b4 (m * 2) (encT (meldT y x)).toArray rfl rfl (by rw [List.size_toArray, encT_len]; exact HT.out) (by rw [List.size_toArray]; exact thing_info _) (all_oneCell_toArray (encT_one _)) ?_; rw [List.toList_toArray]))
              go_roundw
              case rel => exact ⟨k + 1, _, by omega, rfl, by go_num, by rw [HTK.out, HSA.out]; have h1 := OwnT.set (show OwnT wc w.heap.size (.slice (some ⟨b4, 0, none⟩) O.length c4) O by rw [HNO.out]; exact Oc.out) (k := m) (by rw [HNO.out]; omega) (meldT y x); rw [HNO.out] at h1; exact h1, below_setCells HB4.out.1 _ _ _ Kc.out⟩
              case measure => simp [intOf]; omega
            · have hm0 : meldB y x = false := by simpa using hm
              have HSA := Lib.hid (show meldStep O x = O ++ [x] by rw [HSY.out, if_neg hm])
              rw [hm0]
              clear hm hm0
              go_upto_region 11 with fail
              obtain ⟨bz, hbz⟩ : ∃ v, wc.heap.size = v := ⟨_, rfl⟩
              obtain ⟨wa, hwa⟩ : ∃ v, wc.alloc (.cells (encT x).toArray 34) = v := ⟨_, rfl⟩
              have Ba : Below wc.heap.size wc wa := by rw [← hwa]; exact (Below.refl _ _).alloc (Nat.le_refl _) _
              have Ka := Lib.hid (Kc.out.trans (Ba.mono Kc.out.size))
              have Oa := Lib.hid (OwnT.later Oc.out Ba)
              have Sa := Lib.hid (show Sees wa (bz + 1) 2 (some ⟨bz, 0, none⟩) 1 (rowT [x]) from Sees.things (by rw [rowT_one, ← hwa, ← hbz]; exact heap_alloc_new _ _))
              have HR := Lib.hid (run_things x wc)
              rw [hwa, hbz] at HR
              clear hwa hbz Ba
              go_wp2_with (first
                | (refine wpList_load_row rfl 34 (.tmp 6) rfl bx rfl 34 (encT x).toArray (0, 0) _ Fc.out Try.underlying34 rfl (by rw [List.size_toArray]; exact thing_info _) ?_)
                | (refine wpList_known _ rfl (v := .slice (some ⟨bz, 0, none⟩) 1 1) (w' := wa) (exec_slice1 26 (.tmp 55) rfl (.agg (encT x).toArray) rfl HR.out) ?_)
                | (at_builtin
                   refine wpList_append_sees _ rfl _ _ _ rfl w.heap.size 34 i0 _ 2 16 Try.underlying26 ii0 iz0 iz1 iz2 rfl (by omega) _ (m + 1) (rowT O) rfl (by have h1 := Oa.out; unfold OwnT at h1; rw [HNO.out] at h1; exact h1)  (bz + 1) _ 1 1 (rowT [x]) rfl Sa.out (rowT_oneCell _) (by simp only [maxLen]; omega) (by omega) Ka.out.size ?_
                   intro v5 w5 hown5 hg5 hat5 hnil5
                   have K5 := Lib.hid (Ka.out.grown hg5 Ka.out.size (fun g hg => own_base Oa.out hg))
                   have O5 := Lib.hid (show OwnT w5 w.heap.size v5 (O ++ [x]) by unfold OwnT; rw [rowT_append, List.length_append, HNO.out]; exact hown5)
                   clear hown5 hg5 hat5 hnil5))
              go_roundw
              case rel => exact ⟨k + 1, _, by omega, rfl, by go_num, by rw [HTK.out, HSA.out]; exact O5.out, K5.out⟩
              case measure => simp [intOf]; omega
    · obtain rfl : k = nl := by omega
      have HTA := Lib.hid (show l.take k = l by rw [List.take_of_length_le (by rw [HN.out]; exact Nat.le_refl _)])
      have HOW := Lib.hid (And.intro hown hbel)
      clear hown hbel
      go_wp2_with fail
      go_ret
      exact ⟨_, rfl, by have h1 := HOW.out.1; rw [HTA.out] at h1; exact h1, HOW.out.2⟩

end Go.Proofs.Ytbioomilnjikpaa
