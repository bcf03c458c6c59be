/-
  The walk of rubriclaw08.ArenaNone.
-/
import Derived.Test.YteelmlhknfbjdaaArenaN
namespace Go.Proofs.Yteelmlhknfbjdaa
open Go.RowKit
attribute [local go_sem] Oper.semAt_some

set_option maxRecDepth 100000 in
set_option maxHeartbeats 4000000 in
theorem none_any (i x : Int) (w : World) :
    Calls Try.prog 6 #[.int .i64 i, .int .i64 x] w fun e w' => e = .returned (.bool true) ∧ Below w.heap.size w w' := by
  have hfn : ∀ (p : Addr) (w : World), (binOp BinOp.eql 58 (.func (.func 30) #[] #[.pointer (some p)]) .nilFunc).run Try.prog w = .ok (.bool false) w := fun _ _ => by kernel_rfl
  refine (callsIn_wide (n := 9)).1 ?_
  refine callsIn_of_wp_marks Try.func6 rfl trivial ?_ rfl
  refine (wpIn_wide (n := 9)).2 ?_
  simp only [Try.ntmps6, List.size_toArray, List.length_cons, List.length_nil, Nat.reduceAdd, Nat.reduceSub, Array.replicate_succ, Array.replicate_zero, List.push_toArray, List.append_toArray, List.nil_append, List.cons_append]
  go_wp2_with fail
  refine (nil_at i _).mono ?_
  rintro e w1 ⟨rfl, rfl⟩
  go_wp2_with fail
  refine (all_any _ _ (.inl rfl)).mono ?_
  rintro e w1 ⟨rfl, rfl⟩
  go_wp2_with fail
  refine (all_any _ _ (.inr ⟨_, rfl⟩)).mono ?_
  rintro e w1 ⟨rfl, rfl⟩
  go_wp2_with fail
  obtain ⟨b, hb⟩ : ∃ b, w.heap.size = b := ⟨_, rfl⟩
  rw [hb]
  obtain ⟨W, hW⟩ : ∃ W, (((((w.alloc (.cells #[.bool false] 4)).alloc (.cells #[.slice none 0 0, .slice none 0 0] 62)).alloc (.cells #[.pointer none] 24)).alloc (.cells #[.pointer (some ⟨b + 1, 0, none⟩)] 24)).alloc
      (.cells #[.func (.func 30) #[] #[.pointer (some ⟨b + 1 + 1, 0, none⟩)], .func (.func 30) #[] #[.pointer (some ⟨b + 1 + 1 + 1, 0, none⟩)]] 58)) = W := ⟨_, rfl⟩
  rw [hW]
  have q0 : W.heap[b]? = some (.cells #[.bool false] 4) := by rw [← hW]; simp only [heap_alloc_get, World.size_alloc, hb]; repeat (first | rw [if_pos trivial] | rw [if_pos rfl] | rw [if_neg (by omega)])
  have q1 : W.heap[b + 1]? = some (.cells #[.slice none 0 0, .slice none 0 0] 62) := by rw [← hW]; simp only [heap_alloc_get, World.size_alloc, hb]; repeat (first | rw [if_pos trivial] | rw [if_pos rfl] | rw [if_neg (by omega)])
  have q2 : W.heap[b + 1 + 1]? = some (.cells #[.pointer none] 24) := by rw [← hW]; simp only [heap_alloc_get, World.size_alloc, hb]; repeat (first | rw [if_pos trivial] | rw [if_pos rfl] | rw [if_neg (by omega)])
  have q3 : W.heap[b + 1 + 1 + 1]? = some (.cells #[.pointer (some ⟨b + 1, 0, none⟩)] 24) := by rw [← hW]; simp only [heap_alloc_get, World.size_alloc, hb]; repeat (first | rw [if_pos trivial] | rw [if_pos rfl] | rw [if_neg (by omega)])
  have q4 : W.heap[b + 1 + 1 + 1 + 1]? = some (.cells #[.func (.func 30) #[] #[.pointer (some ⟨b + 1 + 1, 0, none⟩)], .func (.func 30) #[] #[.pointer (some ⟨b + 1 + 1 + 1, 0, none⟩)]] 58) := by rw [← hW]; simp only [heap_alloc_get, World.size_alloc, hb]; repeat (first | rw [if_pos trivial] | rw [if_pos rfl] | rw [if_neg (by omega)])
  have hsz : W.heap.size = b + 5 := by rw [← hW]; simp [hb]
  have hB : Below b w W := by
    rw [← hW]
    exact ((((((Below.refl b w).alloc (by omega) _).alloc (by simp; omega) _).alloc (by simp; omega) _).alloc (by simp; omega) _).alloc (by simp; omega) _)
  have hA : ArI W (fun k => k = b + 1) (b + 1) [] [] := ⟨.slice none 0 0, .slice none 0 0, ⟨Nat.zero_le _, q1, World.ownsRow_nil _ _ _ _, World.ownsRow_nil _ _ _ _⟩, (fun k h => by rcases h with h | h | h; exact h; cases h; cases h), (by rintro k rfl; omega)⟩
  have c4 := cell_of_row W (b + 1 + 1 + 1 + 1) 0 _ _ _ q4
  have c5 := cell_of_row W (b + 1 + 1 + 1 + 1) 1 _ _ _ q4
  simp only [List.getElem?_toArray, List.getElem?_cons_zero, List.getElem?_cons_succ] at c4 c5
  have c2 : W.cell? ⟨b + 1 + 1, 0, none⟩ = some (.pointer none) := by rw [cell_of_row W (b + 1 + 1) 0 _ _ _ q2]; rfl
  have c3 : W.cell? ⟨b + 1 + 1 + 1, 0, none⟩ = some (.pointer (some ⟨b + 1, 0, none⟩)) := by rw [cell_of_row W (b + 1 + 1 + 1) 0 _ _ _ q3]; rfl
  have HQ := Lib.hid (And.intro q0 (And.intro hsz (And.intro hB hb)))
  have HA := Lib.hid hA
  clear q1 q2 q3 q4 hW hsz hB hA hb q0
  refine wp_loop_rounds 3 ?_
  rw [rounds_succ]
  go_wp2_with fail
  refine (wpIn_wide (n := 9)).1 ?_
  refine wpIn_rangeFunc_ownG rfl (by omega) (gf := 30) (lb := #[.pointer (some ⟨b + 1 + 1, 0, none⟩)]) rfl trivial (enters_of Try.func30 (by kernel_rfl) rfl)
    (all_stops_nil 8 (b + 1 + 1) (fun _ => False) W c2) KeepsCells.trans KeepsCells.put (Below.refl _ _) (fun _ => rfl) (fun _ W' => Below W.heap.size W W') (fun _ _ _ => False) (ownFrom_below (Nat.le_refl _) (Nat.le_refl _)) (fun _ _ _ _ _ h _ _ => h.elim) (Below.refl _ _) ?a1 ?assign ?body ?done ?stop
  case assign =>
    intro l x W K hK
    gi_wp2
    exact hK
  case body => exact fun l pre x W1 _ h => absurd h (Nat.not_lt_zero _)
  case stop => exact fun _ _ _ _ _ h => h.elim
  case done =>
    rintro D ys W2 hD rfl hB2 hK2
    have hsz := HQ.out.2.1
    have hl4 := World.block_lt_of_cell? W _ c4
    have hl3 := World.block_lt_of_cell? W _ c3
    have c5' := (hB2.cell (p := ⟨b + 1 + 1 + 1 + 1, 1, none⟩) hl4).trans c5
    have c3' := (hB2.cell (p := ⟨b + 1 + 1 + 1, 0, none⟩) hl3).trans c3
    have HA2 := Lib.hid (HA.out.below hB2)
    have HB2 := Lib.hid hB2
    have HK2 := Lib.hid (And.intro hD hK2)
    clear c2 c3 c4 c5 hl3 hl4 hB2 hD hK2 hsz
    go_wp2_with fail
    rw [rounds_succ]
    go_wp2_with fail
    refine (wpIn_wide (n := 9)).1 ?_
    refine wpIn_rangeFunc_ownG rfl (by omega) (gf := 30) (lb := #[.pointer (some ⟨b + 1 + 1 + 1, 0, none⟩)]) rfl trivial (enters_of Try.func30 (by kernel_rfl) rfl)
      (all_stops 8 (by omega) (b + 1 + 1 + 1) (b + 1) (fun _ => False) _ [] [] (by decide) W2 (fun _ h => h.elim) c3' HA2.out) KeepsCells.trans KeepsCells.put (Below.refl _ _) (fun _ => rfl) (fun _ W' => Below W2.heap.size W2 W') (fun _ _ _ => False) (ownFrom_below (Nat.le_refl _) (Nat.le_refl _)) (fun _ _ _ _ _ h _ _ => h.elim) (Below.refl _ _) ?a2 ?assign2 ?body2 ?done2 ?stop2
    case assign2 =>
      intro l x W K hK
      gi_wp2
      exact hK
    case body2 => exact fun l pre x W1 _ h => absurd h (Nat.not_lt_zero _)
    case stop2 => exact fun _ _ _ _ _ _ h => h.elim
    case done2 =>
      rintro D3 ys W3 hD3 rfl hB3 hK3
      have hA3 := HA2.out.below hB3
      have HB3 := Lib.hid (And.intro hB3 (And.intro hD3 hK3))
      have HF := Lib.hid (freeI_Fno (i := i) hA3 (by decide) (by simp [look]))
      have HL := Lib.hid (lenI_F hA3 ArOk.nil_ (by decide))
      clear c3' c5' hB3 hD3 hK3
      go_wp2_with fail
      rw [rounds_succ]
      go_wp2_with fail
      refine (nil_free i _).mono ?_
      rintro e w' ⟨rfl, rfl⟩
      go_wp2_with fail
      refine (nil_put i x _).mono ?_
      rintro e w' ⟨rfl, rfl⟩
      go_wp2_with fail
      refine (nil_take x _).mono ?_
      rintro e w' ⟨rfl, rfl⟩
      go_wp2_with fail
      refine (nil_len _).mono ?_
      rintro e w' ⟨rfl, rfl⟩
      go_wp2_with fail
      refine (nil_cap _).mono ?_
      rintro e w' ⟨rfl, rfl⟩
      go_wp2_with fail
      refine HL.out.mono ?_
      rintro e w' ⟨rfl, n4, rfl⟩
      go_wp2_with fail
      refine (capI_F (hA3.drewN n4)).mono ?_
      rintro e w' ⟨rfl, rfl⟩
      go_wp2_with fail
      refine (freeI_Fno (i := i) (hA3.drewN n4) (by decide) (by simp [look])).mono ?_
      rintro e w' ⟨rfl, rfl⟩
      go_wp2_with fail
      refine (takeI_F (hA3.drewN n4) ArOk.nil_ (by decide) x).mono ?_
      rintro e W5 ⟨F5, rfl, hA5, hg5⟩
      rw [show ((nextOf ([] : List (Option Int)) [] : Nat) : Int) = 0 from rfl]
      have hA5 : ArI W5 F5 (b + 1) [some x] [] := hA5
      have hok5 : ArOk [some x] [] := ArOk.nil_.take x
      go_wp2_with fail
      refine (lenI_F hA5 hok5 (by simp)).mono ?_
      rintro e w' ⟨rfl, n6, rfl⟩
      go_wp2_with fail
      refine (known_any _).mono ?_
      rintro e W7 ⟨rfl, hb7⟩
      have hB0 := HQ.out.2.2.1
      have hz0 := HQ.out.2.1
      have hz2 := HB2.out.size
      have hz3 := HB3.out.1.size
      have hz5 : W3.heap.size ≤ W5.heap.size := hg5.step.size
      have hz7 : W5.heap.size ≤ W7.heap.size := hb7.size
      have tr : ∀ j, j < W3.heap.size → j ≠ b + 1 → W7.heap[j]? = W3.heap[j]? := fun j hj hne => (hb7.block j (Nat.lt_of_lt_of_le hj hz5)).trans (hg5.step.block j hj hne)
      have tr2 : ∀ j, j < W2.heap.size → j ≠ b + 1 → W7.heap[j]? = W2.heap[j]? := fun j hj hne => (tr j (by omega) hne).trans (HB3.out.1.block j hj)
      have hq0 : W7.heap[b]? = some (.cells #[.bool false] 4) := ((tr2 b (by omega) (by omega)).trans (HB2.out.block b (by omega))).trans HQ.out.1
      have hm3 : W7.heap[D3]? = some (.deferred (some [])) := (tr D3 (Array.getElem?_eq_some_iff.1 HB3.out.2.2).1 (by have := HB3.out.2.1; omega)).trans HB3.out.2.2
      have hm2 : W7.heap[D]? = some (.deferred (some [])) := (tr2 D (Array.getElem?_eq_some_iff.1 HK2.out.2).1 (by have := HK2.out.1; omega)).trans HK2.out.2
      have hDD : D < D3 := Nat.lt_of_lt_of_le (Array.getElem?_eq_some_iff.1 HK2.out.2).1 HB3.out.2.1
      have hbel : Below b w W7 := by
        refine ⟨hb7.os.trans (hg5.step.os.trans (HB3.out.1.os.trans (HB2.out.os.trans hB0.os))), hb7.tape.trans (hg5.step.tape.trans (HB3.out.1.tape.trans (HB2.out.tape.trans hB0.tape))), hb7.output.trans (hg5.step.output.trans (HB3.out.1.output.trans (HB2.out.output.trans hB0.output))), ?_, fun j hj => ?_⟩
        · have := hB0.size
          omega
        · exact ((tr2 j (by omega) (by omega)).trans (HB2.out.block j (by omega))).trans (hB0.block j hj)
      have hcb : W7.cell? ⟨b, 0, none⟩ = some (.bool false) := by rw [cell_of_row W7 b 0 _ _ _ hq0]; rfl
      have hfb : W7.frozen? ⟨b, 0, none⟩ = false := frozen_of_row W7 b 0 _ _ hq0
      have hsame := heap_setCell_same W7 b 0 _ _ (.bool true) hq0
      have HM : Marks b (W7.setCell ⟨b, 0, none⟩ (.bool true)) [{ target := .collected D3, args := #[] }, { target := .collected D, args := #[] }] := by
        have hD := HK2.out.1
        refine ⟨by simp; omega, fun d hd => ?_⟩
        simp only [List.mem_cons, List.not_mem_nil, or_false] at hd
        rcases hd with rfl | rfl
        · exact ⟨D3, rfl, by omega, by rw [heap_setCell_other _ _ _ _ (by show D3 ≠ b; omega)]; exact hm3⟩
        · exact ⟨D, rfl, by omega, by rw [heap_setCell_other _ _ _ _ (by show D ≠ b; omega)]; exact hm2⟩
      have HE := Lib.hid (And.intro hbel (And.intro hsame HM))
      have HBB := Lib.hid HQ.out.2.2.2
      clear hB0 hz0 hz2 hz3 hz5 hz7 tr tr2 hq0 hm3 hm2 hDD hbel hsame HM hA5 hA3 hok5 hg5 hb7
      go_wp2_with fail
      refine leaves_marks _ _ HE.out.2.2 (fun w' hs => ?_)
      have hc := hs.cells.2 b _ HE.out.2.1 rfl (fun h => h)
      have hc5 : w'.cell? ⟨b, 0, none⟩ = some (.bool true) := by rw [cell_of_row w' b 0 _ _ _ hc]; rfl
      refine ⟨.bool true, ?_, rfl, ?_⟩
      · simp [results, Try.f6, go_sem, hc5]
      · rw [HBB.out]
        exact (HE.out.1.setCell (p := ⟨b, 0, none⟩) (Nat.le_refl _) _).trans hs.below

end Go.Proofs.Yteelmlhknfbjdaa
