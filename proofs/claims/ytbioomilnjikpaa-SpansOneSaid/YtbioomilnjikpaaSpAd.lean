/-
  rubricref11.Same; slices of three spans.
-/
import Derived.Test.YtbioomilnjikpaaSpAc
namespace Go.Proofs.Ytbioomilnjikpaa
open Go.RowKit

theorem run_slice3 (x y z : Th) (w : World) : (Instr.buildSlice 26 3 #[(0, .agg (encT x).toArray), (1, .agg (encT y).toArray), (2, .agg (encT z).toArray)]).run Try.prog w = .ok (.slice (some ⟨w.heap.size, 0, none⟩) 3 3) (w.alloc (.cells (rowT [x, y, z]).toArray 34)) := by
  kernel_rfl
theorem run_slice2 (x y : Th) (w : World) : (Instr.buildSlice 26 2 #[(0, .agg (encT x).toArray), (1, .agg (encT y).toArray)]).run Try.prog w = .ok (.slice (some ⟨w.heap.size, 0, none⟩) 2 2) (w.alloc (.cells (rowT [x, y]).toArray 34)) := by
  kernel_rfl
theorem run_slice1 (x : Th) (w : World) : (Instr.buildSlice 26 1 #[(0, .agg (encT x).toArray)]).run Try.prog w = .ok (.slice (some ⟨w.heap.size, 0, none⟩) 1 1) (w.alloc (.cells (rowT [x]).toArray 34)) := by
  rw [rowT_one]; exact run_things x w

theorem run_ne_span (xn xi yn yi : Int) (w : World) : (binOp .neq 34 (.agg #[.int .i64 xn, .int .i64 xi]) (.agg #[.int .i64 yn, .int .i64 yi])).run Try.prog w = .ok (.bool (!(xn == yn && xi == yi))) w := by
  rw [run_neq_struct]
  have h : (Op.equalIn 10000 34 (.agg #[.int .i64 xn, .int .i64 xi]) (.agg #[.int .i64 yn, .int .i64 yi])).run Try.prog w = .ok (xn == yn && xi == yi) w := by
    by_cases h1 : xn = yn
    · by_cases h2 : xi = yi
      · subst h1 h2; simp [go_sem]
      · simp [go_sem, h1, h2]
    · simp [go_sem, h1]
  rw [h]
  rfl
theorem exec_ne_span {o : Oper} {ev : Operand → Value} {w : World} (p q : Operand) (ho : o.op = .binOp .neq 34 p q 34) (x y : Th) (hx : ev p = .agg (encT x).toArray) (hy : ev q = .agg (encT y).toArray) (r : Bool) (hr : decide (x ≠ y) = r) :
    (execOp ev o).run Try.prog w = .ok (.value (.bool r)) w := by
  subst hr
  obtain ⟨xn, xi⟩ := x
  obtain ⟨yn, yi⟩ := y
  have hx : ev p = .agg #[.int .i64 xn, .int .i64 xi] := hx
  have hy : ev q = .agg #[.int .i64 yn, .int .i64 yi] := hy
  have e : (!(xn == yn && xi == yi)) = decide ((⟨xn, xi⟩ : Th) ≠ ⟨yn, yi⟩) := by
    rw [Bool.eq_iff_iff]
    simp [Th.mk.injEq]
  unfold execOp
  simp only [ho, hx, hy, Sem.run_bind, run_eqGuard_agg (P := Try.prog) w .neq 34 p q #[.int .i64 xn, .int .i64 xi] #[.int .i64 yn, .int .i64 yi] (by kernel_rfl), Result.andThen_ok, run_ne_span, Sem.run_pure, e]

theorem take_snoc' {l : List Th} {k : Nat} {x : Th} (h : l[k]? = some x) : l.take (k + 1) = l.take k ++ [x] := by rw [List.take_add_one, h]; rfl

set_option maxRecDepth 100000 in
set_option maxHeartbeats 2000000 in
theorem same_any {w : World} {B B' c c' : Nat} {A A' : Option Addr} {l m : List Th} (hl : Sees w B 2 A l.length (rowT l)) (hm : Sees w B' 2 A' m.length (rowT m)) (hn : l.length ≤ 1000000) (hn' : m.length ≤ 1000000) :
    Calls Try.prog 21 #[.slice A l.length c, .slice A' m.length c'] w fun e w' => e = .returned (.bool (decide (l = m))) ∧ Below w.heap.size w w' := by
  have HL := Lib.hid hl
  have HM := Lib.hid hm
  clear hl hm
  obtain ⟨nl, hnl⟩ : ∃ n, l.length = n := ⟨_, rfl⟩
  obtain ⟨nm, hnm⟩ : ∃ n, m.length = n := ⟨_, rfl⟩
  have HN := Lib.hid (And.intro hnl hnm)
  rw [hnl] at HL hn ⊢
  rw [hnm] at HM hn' ⊢
  have h0 : (nl : Int) ≤ 1000000 := by omega
  have h1 : (nm : Int) ≤ 1000000 := by omega
  clear hnl hnm
  by_cases hlen : nl = nm
  · obtain rfl : nm = nl := hlen.symm
    go_enter Try.func21, Try.ntmps21
    go_wp2_with fail
    go_loopw [5] (fun v5 wr => ∃ k q : Nat, k ≤ nm ∧ v5 = .int .i64 k ∧ l.take k = m.take k ∧ wr = w.drewN q) (fun v5 _ => nm - (intOf v5).toNat)
    case atStart => exact ⟨0, 0, Nat.zero_le _, rfl, rfl, rfl⟩
    case round =>
      obtain ⟨k, q, hk, rfl, ht, rfl⟩ := hrel
      by_cases hlt : k < nm
      · have hkI : (k : Int) < nm := by omega
        obtain ⟨x, hx⟩ : ∃ x, l[k]? = some x := ⟨_, List.getElem?_eq_getElem (by rw [HN.out.1]; exact hlt)⟩
        obtain ⟨y, hy⟩ : ∃ y, m[k]? = some y := ⟨_, List.getElem?_eq_getElem (by rw [HN.out.2]; exact hlt)⟩
        obtain ⟨-, b, o, rfl, -, hr⟩ := HL.out.thing hx
        obtain ⟨-, b', o', rfl, -, hr'⟩ := HM.out.thing hy
        have HR := Lib.hid (show (w.drewN q).drew.rangeAt b (o + k * 2) (encT x) ∧ (w.drewN q).drew.rangeAt b' (o' + k * 2) (encT y) from ⟨hr, hr'⟩)
        have HX := Lib.hid (And.intro hx (And.intro hy ht))
        clear hx hy hr hr' ht
        by_cases hxy : x = y
        · have HNE := Lib.hid (show decide (x ≠ y) = false by simp [hxy])
          have HT := Lib.hid (show l.take (k + 1) = m.take (k + 1) by rw [take_snoc' HX.out.1, take_snoc' HX.out.2.1, HX.out.2.2, hxy])
          clear hxy
          go_wp2_with fail
          refine wp_region_held_drew (S := fun w' => w'.rangeAt b (o + k * 2) (encT x) ∧ w'.rangeAt b' (o' + k * 2) (encT y)) (by kernel_rfl) ⟨HR.out.1, HR.out.2⟩ (fun hHeld => ?_)
          try dsimp only at hHeld
          refine take_at (i := 0) (v := ?_) (some 17) rfl rfl (by kernel_rfl) (by kernel_rfl) (by kernel_rfl) (fun _ _ _ h => h) hHeld (by rfl) (fun wS hSw => ?_) ?_
          rotate_left
          · try dsimp only at hSw
            go_simp
            try with_reducible rfl
          try simp only [Act.put, List.setIfInBounds_toArray, List.set_cons_zero, List.set_cons_succ]
          refine take_at (i := 1) (v := ?_) (some 18) rfl rfl (by kernel_rfl) (by kernel_rfl) (by kernel_rfl) (fun _ _ _ h => h) hHeld (by rfl) (fun wS hSw => ?_) ?_
          rotate_left
          · try dsimp only at hSw
            go_simp
            try with_reducible rfl
          try simp only [Act.put, List.setIfInBounds_toArray, List.set_cons_zero, List.set_cons_succ]
          refine take_at (i := 2) (v := ?_) (some 19) rfl rfl (by kernel_rfl) (by kernel_rfl) (by kernel_rfl) (fun _ _ _ h => h) hHeld (by rfl) (fun wS hSw => ?_) ?_
          rotate_left
          · try dsimp only at hSw
            go_simp
            try with_reducible rfl
          try simp only [Act.put, List.setIfInBounds_toArray, List.set_cons_zero, List.set_cons_succ]
          refine take_at (i := 3) (v := ?_) (some 20) rfl rfl (by kernel_rfl) (by kernel_rfl) (by kernel_rfl) (fun _ _ _ h => h) hHeld (by rfl) (fun wS hSw => ?_) ?_
          rotate_left
          · refine exec_load_mid 34 (.tmp 19) ?_ b (o + k * 2) ?_ (encT x) _ hSw.1 Try.underlying34 rfl (thing_info x) <;> rfl
          try simp only [Act.put, List.setIfInBounds_toArray, List.set_cons_zero, List.set_cons_succ]
          refine take_at (i := 4) (v := ?_) (some 21) rfl rfl (by kernel_rfl) (by kernel_rfl) (by kernel_rfl) (fun _ _ _ h => h) hHeld (by rfl) (fun wS hSw => ?_) ?_
          rotate_left
          · try dsimp only at hSw
            go_simp
            try with_reducible rfl
          try simp only [Act.put, List.setIfInBounds_toArray, List.set_cons_zero, List.set_cons_succ]
          refine take_at (i := 5) (v := ?_) (some 22) rfl rfl (by kernel_rfl) (by kernel_rfl) (by kernel_rfl) (fun _ _ _ h => h) hHeld (by rfl) (fun wS hSw => ?_) ?_
          rotate_left
          · try dsimp only at hSw
            go_simp
            try with_reducible rfl
          try simp only [Act.put, List.setIfInBounds_toArray, List.set_cons_zero, List.set_cons_succ]
          refine take_at (i := 6) (v := ?_) (some 23) rfl rfl (by kernel_rfl) (by kernel_rfl) (by kernel_rfl) (fun _ _ _ h => h) hHeld (by rfl) (fun wS hSw => ?_) ?_
          rotate_left
          · try dsimp only at hSw
            go_simp
            try with_reducible rfl
          try simp only [Act.put, List.setIfInBounds_toArray, List.set_cons_zero, List.set_cons_succ]
          refine take_at (i := 7) (v := ?_) (some 24) rfl rfl (by kernel_rfl) (by kernel_rfl) (by kernel_rfl) (fun _ _ _ h => h) hHeld (by rfl) (fun wS hSw => ?_) ?_
          rotate_left
          · refine exec_load_mid 34 (.tmp 23) ?_ b' (o' + k * 2) ?_ (encT y) _ hSw.2 Try.underlying34 rfl (thing_info y) <;> rfl
          try simp only [Act.put, List.setIfInBounds_toArray, List.set_cons_zero, List.set_cons_succ]
          refine take_at (i := 8) (v := ?_) (some 25) rfl rfl (by kernel_rfl) (by kernel_rfl) (by kernel_rfl) (fun _ _ _ h => h) hHeld (by rfl) (fun wS hSw => ?_) ?_
          rotate_left
          · refine exec_ne_span (.tmp 20) (.tmp 24) ?_ x y ?_ ?_ false HNE.out <;> rfl
          try simp only [Act.put, List.setIfInBounds_toArray, List.set_cons_zero, List.set_cons_succ]
          refine wpAnyH_done (by kernel_rfl) ?_ _
          clear hHeld
          go_wp2_with fail
          go_roundw
          case rel => exact ⟨k + 1, q + 1, by omega, by go_num, HT.out, rfl⟩
          case measure => simp [intOf]; omega
        · have HNE := Lib.hid (show decide (x ≠ y) = true by simp [hxy])
          have HT := Lib.hid (show decide (l = m) = false by
            refine decide_eq_false fun e => hxy ?_
            have h1 := HX.out.1
            rw [e, HX.out.2.1] at h1
            exact (Option.some.inj h1).symm)
          clear hxy
          go_wp2_with fail
          refine wp_region_held_drew (S := fun w' => w'.rangeAt b (o + k * 2) (encT x) ∧ w'.rangeAt b' (o' + k * 2) (encT y)) (by kernel_rfl) ⟨HR.out.1, HR.out.2⟩ (fun hHeld => ?_)
          try dsimp only at hHeld
          refine take_at (i := 0) (v := ?_) (some 17) rfl rfl (by kernel_rfl) (by kernel_rfl) (by kernel_rfl) (fun _ _ _ h => h) hHeld (by rfl) (fun wS hSw => ?_) ?_
          rotate_left
          · try dsimp only at hSw
            go_simp
            try with_reducible rfl
          try simp only [Act.put, List.setIfInBounds_toArray, List.set_cons_zero, List.set_cons_succ]
          refine take_at (i := 1) (v := ?_) (some 18) rfl rfl (by kernel_rfl) (by kernel_rfl) (by kernel_rfl) (fun _ _ _ h => h) hHeld (by rfl) (fun wS hSw => ?_) ?_
          rotate_left
          · try dsimp only at hSw
            go_simp
            try with_reducible rfl
          try simp only [Act.put, List.setIfInBounds_toArray, List.set_cons_zero, List.set_cons_succ]
          refine take_at (i := 2) (v := ?_) (some 19) rfl rfl (by kernel_rfl) (by kernel_rfl) (by kernel_rfl) (fun _ _ _ h => h) hHeld (by rfl) (fun wS hSw => ?_) ?_
          rotate_left
          · try dsimp only at hSw
            go_simp
            try with_reducible rfl
          try simp only [Act.put, List.setIfInBounds_toArray, List.set_cons_zero, List.set_cons_succ]
          refine take_at (i := 3) (v := ?_) (some 20) rfl rfl (by kernel_rfl) (by kernel_rfl) (by kernel_rfl) (fun _ _ _ h => h) hHeld (by rfl) (fun wS hSw => ?_) ?_
          rotate_left
          · refine exec_load_mid 34 (.tmp 19) ?_ b (o + k * 2) ?_ (encT x) _ hSw.1 Try.underlying34 rfl (thing_info x) <;> rfl
          try simp only [Act.put, List.setIfInBounds_toArray, List.set_cons_zero, List.set_cons_succ]
          refine take_at (i := 4) (v := ?_) (some 21) rfl rfl (by kernel_rfl) (by kernel_rfl) (by kernel_rfl) (fun _ _ _ h => h) hHeld (by rfl) (fun wS hSw => ?_) ?_
          rotate_left
          · try dsimp only at hSw
            go_simp
            try with_reducible rfl
          try simp only [Act.put, List.setIfInBounds_toArray, List.set_cons_zero, List.set_cons_succ]
          refine take_at (i := 5) (v := ?_) (some 22) rfl rfl (by kernel_rfl) (by kernel_rfl) (by kernel_rfl) (fun _ _ _ h => h) hHeld (by rfl) (fun wS hSw => ?_) ?_
          rotate_left
          · try dsimp only at hSw
            go_simp
            try with_reducible rfl
          try simp only [Act.put, List.setIfInBounds_toArray, List.set_cons_zero, List.set_cons_succ]
          refine take_at (i := 6) (v := ?_) (some 23) rfl rfl (by kernel_rfl) (by kernel_rfl) (by kernel_rfl) (fun _ _ _ h => h) hHeld (by rfl) (fun wS hSw => ?_) ?_
          rotate_left
          · try dsimp only at hSw
            go_simp
            try with_reducible rfl
          try simp only [Act.put, List.setIfInBounds_toArray, List.set_cons_zero, List.set_cons_succ]
          refine take_at (i := 7) (v := ?_) (some 24) rfl rfl (by kernel_rfl) (by kernel_rfl) (by kernel_rfl) (fun _ _ _ h => h) hHeld (by rfl) (fun wS hSw => ?_) ?_
          rotate_left
          · refine exec_load_mid 34 (.tmp 23) ?_ b' (o' + k * 2) ?_ (encT y) _ hSw.2 Try.underlying34 rfl (thing_info y) <;> rfl
          try simp only [Act.put, List.setIfInBounds_toArray, List.set_cons_zero, List.set_cons_succ]
          refine take_at (i := 8) (v := ?_) (some 25) rfl rfl (by kernel_rfl) (by kernel_rfl) (by kernel_rfl) (fun _ _ _ h => h) hHeld (by rfl) (fun wS hSw => ?_) ?_
          rotate_left
          · refine exec_ne_span (.tmp 20) (.tmp 24) ?_ x y ?_ ?_ true HNE.out <;> rfl
          try simp only [Act.put, List.setIfInBounds_toArray, List.set_cons_zero, List.set_cons_succ]
          refine wpAnyH_done (by kernel_rfl) ?_ _
          clear hHeld
          go_wp2_with fail
          go_ret
          exact ⟨by rw [HT.out]; rfl, below_drewN (Below.refl _ _) (q + 1)⟩
      · obtain rfl : k = nm := by omega
        have HT := Lib.hid (show decide (l = m) = true by
          refine decide_eq_true ?_
          rw [List.take_of_length_le (by rw [HN.out.1]; exact Nat.le_refl _), List.take_of_length_le (by rw [HN.out.2]; exact Nat.le_refl _)] at ht
          exact ht)
        clear ht
        go_wp2_with fail
        go_ret
        exact ⟨by rw [HT.out]; rfl, below_drewN (Below.refl _ _) q⟩
  · have e0 : ((nl : Int) == (nm : Int)) = false := by simp; omega
    have e1 : ((nl : Int) != (nm : Int)) = true := by simp; omega
    have HT := Lib.hid (show decide (l = m) = false from decide_eq_false fun e => hlen (by rw [← HN.out.1, ← HN.out.2, e]))
    go_enter Try.func21, Try.ntmps21
    go_wp2_with fail
    go_ret
    exact ⟨by rw [HT.out]; rfl, Below.refl _ _⟩

end Go.Proofs.Ytbioomilnjikpaa
