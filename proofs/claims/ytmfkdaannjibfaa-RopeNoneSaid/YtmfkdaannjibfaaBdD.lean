/-
  Several texts in one: RkG, Round, KeepO, RoT, RoH.
-/
import Derived.Deep.RegionLaw
import Derived.RangeFuncNested
import Derived.RangeFuncBound
import Derived.RangeFuncCalls
import Derived.RangeFuncLeaves
import Derived.RangeFuncBox
import Derived.Shelf.Abstract
import Derived.OwnWalkIn
import Derived.TacticsInMore
import Derived.LoopNIn
import Derived.LoopIn
import Derived.Test.YtmfkdaannjibfaaBdC

namespace Go.Proofs.Ytmfkdaannjibfaa
open Go.RowKit

theorem arr_info : (Try.prog.info? 56).map (·.size) = some 32 := by kernel_rfl

/-- The 32 runes of a box, read as one array. -/
theorem run_loadArr (w : World) (b : Nat) (l : List Int) (t : TypeId) (hl : l.length ≤ 32) (hg : w.heap[b]? = some (.cells (chC l).toArray t (0, 0))) :
    (loadVar 56 ⟨b, 0, none⟩).run Try.prog w = .ok (.agg ((chC l).take 32).toArray) w := by
  have hlen : ((chC l).take 32).length = 32 := by rw [List.length_take, chC_len l hl]; rfl
  have hl1 : (loadCells ⟨b, 0, none⟩ ((chC l).take 32).length).run Try.prog w = .ok ((chC l).take 32).toArray w :=
    run_loadCells_list (P := Try.prog) w ⟨b, 0, none⟩ ((chC l).take 32) (fun j v hv => by
      have hadd : (⟨b, 0, none⟩ : Addr).add j = ⟨b, j, none⟩ := by unfold Addr.add; split <;> simp_all
      rw [hadd, cell_of_row w b j _ _ _ hg, List.getElem?_toArray]
      rw [List.getElem?_take] at hv
      split at hv
      · exact hv
      · cases hv)
  rw [hlen] at hl1
  cases hq : Try.prog.info? 56 with
  | none => have := arr_info; rw [hq] at this; cases this
  | some i =>
    have hs : i.size = 32 := by have := arr_info; rw [hq] at this; simpa using this
    have hagg : (isAgg 56).run Try.prog w = .ok true w := by
      unfold isAgg
      rw [Sem.run_bind, run_underlying Try.underlying56 w]
      rfl
    simp [loadVar, Sem.run_bind, hagg, sizeOf, typeInfo, hq, hs, hl1]

theorem wpList_load_arr {ops : Array Oper} {rest : List Oper} {o : Oper} {a : Act} {w : World} {Q : Exit → Act → World → Prop} (hgd : o.guard = none) (x : Operand) (ho : o.op = .load 56 x)
    (b : Nat) (hx : a.eval x = .pointer (some ⟨b, 0, none⟩)) (l : List Int) (t : TypeId) (hl : l.length ≤ 32) (hg : w.heap[b]? = some (.cells (chC l).toArray t (0, 0)))
    (h : wpList Try.prog ops Q rest (a.put o.dst (.agg ((chC l).take 32).toArray)) w) : wpList Try.prog ops Q (o :: rest) a w :=
  wpList_plain hgd fun _ hK => by
    unfold Oper.wp execOp
    simp only [ho, hx, Instr.loadAt, Instr.sureAddr, Sem.run_bind, Sem.run_pure, Result.andThen_ok, run_loadArr w b l t hl hg]
    exact hK _ _ h

/-- Are all runes noughts? -/
def noughts (l : List Int) : Bool := (List.range 32).all fun j => rn l j == 0

theorem arr_zero : (Array.replicate 32 (Value.int .i32 0)) = #[.int .i32 0, .int .i32 0, .int .i32 0, .int .i32 0, .int .i32 0, .int .i32 0, .int .i32 0, .int .i32 0, .int .i32 0, .int .i32 0, .int .i32 0, .int .i32 0, .int .i32 0, .int .i32 0, .int .i32 0, .int .i32 0,
    .int .i32 0, .int .i32 0, .int .i32 0, .int .i32 0, .int .i32 0, .int .i32 0, .int .i32 0, .int .i32 0, .int .i32 0, .int .i32 0, .int .i32 0, .int .i32 0, .int .i32 0, .int .i32 0, .int .i32 0, .int .i32 0] := rfl

theorem run_eq_noughts (w : World) (l : List Int) (hl : l.length ≤ 32) :
    (Op.equalIn 10000 56 (.agg ((chC l).take 32).toArray) (.agg (Array.replicate 32 (.int .i32 0)))).run Try.prog w = .ok (noughts l) w := by
  obtain ⟨i0, ii0, _⟩ := info_parts r32_info
  exact run_eq_array w 9998 Try.underlying56 Try.underlying21 ii0 int32_cells _ _ (rn l) (fun _ => 0) (fun j hj => ⟨by
    rw [List.getElem?_toArray, List.getElem?_take, if_pos hj, chC_get l j hl hj]; rfl, by rw [Array.getElem?_replicate, if_pos hj]⟩)

theorem ch_join (l m : List Int) (h : l.length + m.length ≤ 32) : (splice (chC l) l.length (m.map r32)).toArray.setIfInBounds 32 (.int .i64 ((l.length : Int) + m.length)) = (chC (l ++ m)).toArray := by
  apply Array.ext'
  simp only [Array.toList_setIfInBounds]
  have h1 : splice (chC l) l.length (m.map r32) = (l ++ m).map r32 ++ List.replicate (32 - (l ++ m).length) (r32 0) ++ [.int .i64 (l.length : Int)] := by
    unfold splice chC
    rw [List.append_assoc, List.take_append_of_le_length (by simp), List.take_of_length_le (by simp), List.drop_append, List.drop_of_length_le (by simp), List.drop_append_of_le_length (by simp; omega)]
    simp only [List.length_map, List.nil_append, List.drop_replicate, List.map_append, List.append_assoc, List.length_append]
    congr 3
    congr 1
    omega
  rw [h1]
  unfold chC
  have h2 : ((l ++ m).map r32 ++ List.replicate (32 - (l ++ m).length) (r32 0)).length = 32 := by simp; omega
  rw [List.set_append_right _ _ (by omega), h2]
  simp

theorem splice_join (l m : List Int) (h : l.length + m.length ≤ 32) : splice (chC l) l.length (m.map r32) = (l ++ m).map r32 ++ List.replicate (32 - (l ++ m).length) (r32 0) ++ [.int .i64 (l.length : Int)] := by
  unfold splice chC
  rw [List.append_assoc, List.take_append_of_le_length (by simp), List.take_of_length_le (by simp), List.drop_append, List.drop_of_length_le (by simp), List.drop_append_of_le_length (by simp; omega)]
  simp only [List.length_map, List.nil_append, List.drop_replicate, List.map_append, List.append_assoc, List.length_append]
  congr 3
  congr 1
  omega

theorem join_last (l m : List Int) (h : l.length + m.length ≤ 32) : (splice (chC l) l.length (m.map r32)).toArray[32]? = some (.int .i64 (l.length : Int)) := by
  rw [List.getElem?_toArray, splice_join l m h]
  have h2 : ((l ++ m).map r32 ++ List.replicate (32 - (l ++ m).length) (r32 0)).length = 32 := by simp; omega
  rw [List.getElem?_append_right (by omega), h2]
  rfl

set_option maxRecDepth 100000 in
set_option maxHeartbeats 4000000 in
theorem join_long (l m : List Int) (w : World) (hl : l.length ≤ 32) (hm : m.length ≤ 32) (hlm : 32 < l.length + m.length) :
    Calls Try.prog 52 #[chV l, chV m] w fun e w' => e = .returned (.tuple #[chV [], .int .i64 8]) ∧ Below w.heap.size w w' := by
  unfold chV
  go_enter Try.func52, Try.ntmps52
  go_upto_region 1 with (fail)
  obtain ⟨b1, hb1⟩ : ∃ b1, w.heap.size + 1 = b1 := ⟨_, rfl⟩
  obtain ⟨b2, hb2⟩ : ∃ b2, b1 + 1 = b2 := ⟨_, rfl⟩
  obtain ⟨b0, hb0⟩ : ∃ b0, w.heap.size = b0 := ⟨_, rfl⟩
  obtain ⟨w1, hw1⟩ : ∃ w1, ((w.alloc (.cells (chC l).toArray 58)).alloc (.cells (chC m).toArray 58)).alloc (.cells (chC []).toArray 58) = w1 := ⟨_, rfl⟩
  rw [← ch_nil]
  rw [hw1, hb1, hb2, hb0]
  have q0 : w1.heap[b0]? = some (.cells (chC l).toArray 58) := by
    rw [← hw1]; simp only [heap_alloc_get, World.size_alloc, hb0]; repeat (first | rw [if_pos trivial] | rw [if_pos rfl] | rw [if_neg (by omega)])
  have q1 : w1.heap[b1]? = some (.cells (chC m).toArray 58) := by
    rw [← hw1]; simp only [heap_alloc_get, World.size_alloc, hb1]; repeat (first | rw [if_pos trivial] | rw [if_pos rfl] | rw [if_neg (by omega)])
  have q2 : w1.heap[b2]? = some (.cells (chC []).toArray 58) := by
    rw [← hw1]; simp only [heap_alloc_get, World.size_alloc, hb1, hb2]; repeat (first | rw [if_pos trivial] | rw [if_pos rfl] | rw [if_neg (by omega)])
  have hB1 : Below w.heap.size w w1 := by rw [← hw1]; exact (((Below.refl _ w).alloc (Nat.le_refl _) _).alloc (by simp) _).alloc (by simp; omega) _
  have H0 := Lib.hid q0
  have H1 := Lib.hid q1
  have H2 := Lib.hid q2
  have HB1 := Lib.hid hB1
  have HO1 := Lib.hid (show w.heap.size ≤ b0 ∧ b1 ≠ b0 ∧ b2 ≠ b0 ∧ b2 ≠ b1 ∧ w.heap.size ≤ b2 by omega)
  have hn0 : w1.cell? ⟨b0, 32, none⟩ = some (.int .i64 (l.length : Int)) := by rw [cell_of_row w1 b0 32 _ _ _ q0]; simpa using chC_n l hl
  have hn1 : w1.cell? ⟨b1, 32, none⟩ = some (.int .i64 (m.length : Int)) := by rw [cell_of_row w1 b1 32 _ _ _ q1]; simpa using chC_n m hm
  clear q0 q1 q2 hB1 hw1 hb0 hb1 hb2
  have hlI : (l.length : Int) ≤ 32 := by omega
  have hmI : (m.length : Int) ≤ 32 := by omega
  have hsI : (32 : Int) < l.length + m.length := by omega
  go_wp2_with (refine wpList_store_row rfl 58 (.tmp 4) (.tmp 12) rfl b2 (chC []).toArray rfl rfl 58 (chC []).toArray H2.out (ch_info [] (by decide)) rfl (all_one []) ?_)
  exact bodyPost_ret (v := .tuple #[.agg (chC []).toArray, .int .i64 8]) (results_ct rfl _ _ b2 _ (chC []).toArray (0, 0) _ _ rfl rfl (setRow_heap _ _ _ _ _ _ H2.out) Try.underlying58 rfl (ch_info [] (by decide))) rfl
    ⟨rfl, _root_.Go.below_setRow HB1.out HO1.out.2.2.2.2 _⟩

set_option maxRecDepth 100000 in
set_option maxHeartbeats 4000000 in
theorem join_nil (m : List Int) (w : World) (hm : m.length ≤ 32) :
    Calls Try.prog 52 #[chV [], chV m] w fun e w' => e = .returned (.tuple #[chV m, .int .i64 0]) ∧ Below w.heap.size w w' := by
  obtain ⟨l, hl0⟩ : ∃ l : List Int, [] = l := ⟨_, rfl⟩
  have hl : l.length ≤ 32 := by rw [← hl0]; decide
  have hll : l.length = 0 := by rw [← hl0]; rfl
  rw [hl0]
  unfold chV
  go_enter Try.func52, Try.ntmps52
  go_upto_region 1 with (fail)
  obtain ⟨b1, hb1⟩ : ∃ b1, w.heap.size + 1 = b1 := ⟨_, rfl⟩
  obtain ⟨b2, hb2⟩ : ∃ b2, b1 + 1 = b2 := ⟨_, rfl⟩
  obtain ⟨b0, hb0⟩ : ∃ b0, w.heap.size = b0 := ⟨_, rfl⟩
  obtain ⟨w1, hw1⟩ : ∃ w1, ((w.alloc (.cells (chC l).toArray 58)).alloc (.cells (chC m).toArray 58)).alloc (.cells (chC []).toArray 58) = w1 := ⟨_, rfl⟩
  rw [← ch_nil]
  rw [hw1, hb1, hb2, hb0]
  have q0 : w1.heap[b0]? = some (.cells (chC l).toArray 58) := by
    rw [← hw1]; simp only [heap_alloc_get, World.size_alloc, hb0]; repeat (first | rw [if_pos trivial] | rw [if_pos rfl] | rw [if_neg (by omega)])
  have q1 : w1.heap[b1]? = some (.cells (chC m).toArray 58) := by
    rw [← hw1]; simp only [heap_alloc_get, World.size_alloc, hb1]; repeat (first | rw [if_pos trivial] | rw [if_pos rfl] | rw [if_neg (by omega)])
  have q2 : w1.heap[b2]? = some (.cells (chC []).toArray 58) := by
    rw [← hw1]; simp only [heap_alloc_get, World.size_alloc, hb1, hb2]; repeat (first | rw [if_pos trivial] | rw [if_pos rfl] | rw [if_neg (by omega)])
  have hB1 : Below w.heap.size w w1 := by rw [← hw1]; exact (((Below.refl _ w).alloc (Nat.le_refl _) _).alloc (by simp) _).alloc (by simp; omega) _
  have H0 := Lib.hid q0
  have H1 := Lib.hid q1
  have H2 := Lib.hid q2
  have HB1 := Lib.hid hB1
  have HO1 := Lib.hid (show w.heap.size ≤ b0 ∧ b1 ≠ b0 ∧ b2 ≠ b0 ∧ b2 ≠ b1 ∧ w.heap.size ≤ b2 by omega)
  have hn0 : w1.cell? ⟨b0, 32, none⟩ = some (.int .i64 (l.length : Int)) := by rw [cell_of_row w1 b0 32 _ _ _ q0]; simpa using chC_n l hl
  have hn1 : w1.cell? ⟨b1, 32, none⟩ = some (.int .i64 (m.length : Int)) := by rw [cell_of_row w1 b1 32 _ _ _ q1]; simpa using chC_n m hm
  clear q0 q1 q2 hB1 hw1 hb0 hb1 hb2
  have hmI : (m.length : Int) ≤ 32 := by omega
  rw [hll] at hn0
  have heq := run_eq_noughts w1 l hl
  rw [show noughts l = true by rw [← hl0]; decide, arr_zero] at heq
  have HS := Lib.hid (show (chC []).toArray.size = (chC m).toArray.size by rw [List.size_toArray, List.size_toArray, chC_len m hm]; rfl)
  clear hll hl0
  go_wp2_with (first
    | (refine wpList_load_arr rfl (.tmp 13) rfl b0 rfl l 58 hl H0.out ?_)
    | (refine wpList_load_row rfl 58 (.tmp 3) rfl b1 rfl 58 (chC m).toArray (0, 0) _ H1.out Try.underlying58 rfl (ch_info m hm) ?_)
    | (refine wpList_store_row rfl 58 (.tmp 4) (.tmp 22) rfl b2 (chC m).toArray rfl rfl 58 (chC []).toArray H2.out (ch_info m hm) HS.out (all_one m) ?_))
  exact bodyPost_ret (v := .tuple #[.agg (chC m).toArray, .int .i64 0]) (results_ct rfl _ _ b2 _ (chC m).toArray (0, 0) _ _ rfl rfl (setRow_heap _ _ _ _ _ _ H2.out) Try.underlying58 rfl (ch_info m hm)) rfl
    ⟨rfl, _root_.Go.below_setRow HB1.out HO1.out.2.2.2.2 _⟩

theorem join_tail (l m : List Int) (hlm : l.length + m.length ≤ 32) {w w1 w2 : World} {b0 b1 b2 : Nat} (h2 : w1.heap[b2]? = some (.cells (chC []).toArray 58)) (hb : Below w.heap.size w w1)
    (ho : w.heap.size ≤ b0 ∧ b1 ≠ b0 ∧ b2 ≠ b0 ∧ b2 ≠ b1 ∧ w.heap.size ≤ b2) (hh : w2.heap[b0]? = some (.cells (splice (chC l) l.length (m.map r32)).toArray 58)) (hs : Step (fun k => k = b0) w1.drew w2 ∧ w2.heap.size = w1.drew.heap.size) :
    Hid ((w2.setCell ⟨b0, 32, none⟩ (.int .i64 ((l.length : Int) + m.length))).heap[b0]? = some (.cells (chC (l ++ m)).toArray 58)) ∧
    Hid ((w2.setCell ⟨b0, 32, none⟩ (.int .i64 ((l.length : Int) + m.length))).heap[b2]? = some (.cells (chC []).toArray 58)) ∧
    Hid ((chC []).toArray.size = (chC (l ++ m)).toArray.size) ∧ Hid (Below w.heap.size w (w2.setCell ⟨b0, 32, none⟩ (.int .i64 ((l.length : Int) + m.length)))) := by
  refine ⟨?_, ?_, ?_, ?_⟩
  · show _ = _
    rw [heap_setCell_same _ _ _ _ _ _ hh, ch_join l m hlm]
  · show _ = _
    rw [heap_setCell_other _ _ _ _ (by show b2 ≠ b0; omega)]
    exact (hs.1.block b2 (Array.getElem?_eq_some_iff.1 h2).1 (by show ¬ b2 = b0; omega)).trans h2
  · show _ = _
    rw [List.size_toArray, List.size_toArray, chC_len (l ++ m) (by rw [List.length_append]; exact hlm)]
    rfl
  · exact (hb.drew.trans (hs.1.below (B := w.heap.size) hb.size (fun k hk => by have hk : k = b0 := hk; omega))).setCell (p := ⟨b0, 32, none⟩) ho.1 _

set_option maxRecDepth 100000 in
set_option maxHeartbeats 4000000 in
theorem join_yes (l m : List Int) (w : World) (hl0 : 0 < l.length) (hlm : l.length + m.length ≤ 32) :
    Calls Try.prog 52 #[chV l, chV m] w fun e w' => e = .returned (.tuple #[chV (l ++ m), .int .i64 0]) ∧ Below w.heap.size w w' := by
  have hl : l.length ≤ 32 := by omega
  have hm : m.length ≤ 32 := by omega
  unfold chV
  go_enter Try.func52, Try.ntmps52
  go_upto_region 1 with (fail)
  obtain ⟨b1, hb1⟩ : ∃ b1, w.heap.size + 1 = b1 := ⟨_, rfl⟩
  obtain ⟨b2, hb2⟩ : ∃ b2, b1 + 1 = b2 := ⟨_, rfl⟩
  obtain ⟨b0, hb0⟩ : ∃ b0, w.heap.size = b0 := ⟨_, rfl⟩
  obtain ⟨w1, hw1⟩ : ∃ w1, ((w.alloc (.cells (chC l).toArray 58)).alloc (.cells (chC m).toArray 58)).alloc (.cells (chC []).toArray 58) = w1 := ⟨_, rfl⟩
  rw [← ch_nil]
  rw [hw1, hb1, hb2, hb0]
  have q0 : w1.heap[b0]? = some (.cells (chC l).toArray 58) := by
    rw [← hw1]; simp only [heap_alloc_get, World.size_alloc, hb0]; repeat (first | rw [if_pos trivial] | rw [if_pos rfl] | rw [if_neg (by omega)])
  have q1 : w1.heap[b1]? = some (.cells (chC m).toArray 58) := by
    rw [← hw1]; simp only [heap_alloc_get, World.size_alloc, hb1]; repeat (first | rw [if_pos trivial] | rw [if_pos rfl] | rw [if_neg (by omega)])
  have q2 : w1.heap[b2]? = some (.cells (chC []).toArray 58) := by
    rw [← hw1]; simp only [heap_alloc_get, World.size_alloc, hb1, hb2]; repeat (first | rw [if_pos trivial] | rw [if_pos rfl] | rw [if_neg (by omega)])
  have hB1 : Below w.heap.size w w1 := by rw [← hw1]; exact (((Below.refl _ w).alloc (Nat.le_refl _) _).alloc (by simp) _).alloc (by simp; omega) _
  have H0 := Lib.hid q0
  have H1 := Lib.hid q1
  have H2 := Lib.hid q2
  have HB1 := Lib.hid hB1
  have HO1 := Lib.hid (show w.heap.size ≤ b0 ∧ b1 ≠ b0 ∧ b2 ≠ b0 ∧ b2 ≠ b1 ∧ w.heap.size ≤ b2 by omega)
  have hn0 : w1.cell? ⟨b0, 32, none⟩ = some (.int .i64 (l.length : Int)) := by rw [cell_of_row w1 b0 32 _ _ _ q0]; simpa using chC_n l hl
  have hn1 : w1.cell? ⟨b1, 32, none⟩ = some (.int .i64 (m.length : Int)) := by rw [cell_of_row w1 b1 32 _ _ _ q1]; simpa using chC_n m hm
  clear q0 q1 q2 hB1 hw1 hb0 hb1 hb2
  have hlI : (l.length : Int) ≤ 32 := by omega
  have hl0I : (0 : Int) < l.length := by omega
  have hmI : (m.length : Int) ≤ 32 := by omega
  have hsI : (l.length : Int) + m.length ≤ 32 := by omega
  have hlm2 : (l ++ m).length ≤ 32 := by rw [List.length_append]; exact hlm
  have hl0b : ((l.length : Int) == 0) = false := beq_eq_false_iff_ne.2 (by omega)
  have heq := run_eq_noughts w1 l hl
  rw [arr_zero] at heq
  obtain ⟨nb, hnb⟩ : ∃ nb, noughts l = nb := ⟨_, rfl⟩
  rw [hnb] at heq
  clear hnb
  have SM := Lib.hid (sees_row H1.out hm)
  obtain ⟨AB, hAB⟩ : ∃ AB, (if 32 = l.length then (⟨b0, 0, none⟩ : Addr) else ⟨b0, l.length, none⟩) = AB := ⟨_, rfl⟩
  have HAB := Lib.hid (show l.length < 32 → (some AB : Option Addr) = some ⟨b0, l.length, none⟩ by
    intro h
    rw [← hAB, if_neg (by omega)])
  have hlt32 : (l.length : Int) ≤ 32 := by omega
  cases nb
  all_goals
    go_upto_region 5 with (refine wpList_load_arr rfl (.tmp 13) rfl b0 rfl l 58 hl H0.out ?_)
    have g1 : IntKind.i64.wrap (↑l.length + ↑m.length) = ↑l.length + ↑m.length := IntWalk.i64_in _ (by omega)
    go_region_law (
      refine of_if (by rfl) ?_
      refine oper_copy (.tmp 28) (.tmp 32) 26 26 rfl 21 Try.underlying26 i32_one _ _ (32 - l.length) (32 - l.length) m.length 32 rfl rfl b0 l.length (chC l) 58 H0.out (m.map r32)
        (by rw [List.length_map]; exact (Nat.min_eq_left (by omega)).symm) (fun hp => ⟨(HAB.out (by rw [List.length_map] at hp; omega)), copy_src (w := w1.drew) SM.out hp⟩) (by rw [List.length_map, chC_len l hl]; omega) (r32_one _) ?_
      intro w2 hh2 hb2
      have hn0' : w2.cell? ⟨b0, 32, none⟩ = some (.int .i64 l.length) := by rw [cell_of_row w2 _ 32 _ _ _ hh2.out]; exact join_last l m hlm
      have hf2 := frozen_of_row w2 _ 32 _ _ hh2.out
      have HB2 := Lib.hid hb2
      clear hb2)
  all_goals
    obtain ⟨F0, F2, F3, HB3⟩ := join_tail l m hlm H2.out HB1.out HO1.out hh2.out HB2.out
    clear hn0' hf2 g1
    go_wp2_with (first
      | (refine wpList_load_row rfl 58 (.tmp 2) rfl b0 rfl 58 (chC (l ++ m)).toArray (0, 0) _ F0.out Try.underlying58 rfl (ch_info _ hlm2) ?_)
      | (refine wpList_store_row rfl 58 (.tmp 4) (.tmp 36) rfl b2 (chC (l ++ m)).toArray rfl rfl 58 (chC []).toArray F2.out (ch_info _ hlm2) F3.out (all_one _) ?_))
    exact bodyPost_ret (v := .tuple #[.agg (chC (l ++ m)).toArray, .int .i64 0]) (results_ct rfl _ _ b2 _ (chC (l ++ m)).toArray (0, 0) _ _ rfl rfl (setRow_heap _ _ _ _ _ _ F2.out) Try.underlying58 rfl (ch_info _ hlm2)) rfl
      ⟨rfl, _root_.Go.below_setRow HB3.out HO1.out.2.2.2.2 _⟩

theorem chJoin_any (l m : List Int) (w : World) (hlm : l.length + m.length ≤ 32) :
    Calls Try.prog 52 #[chV l, chV m] w fun e w' => e = .returned (.tuple #[chV (l ++ m), .int .i64 0]) ∧ Below w.heap.size w w' := by
  cases l with
  | nil => exact join_nil m w (by simpa using hlm)
  | cons x l => exact join_yes (x :: l) m w (by simp) hlm

end Go.Proofs.Ytmfkdaannjibfaa

namespace Go.Proofs.Ytmfkdaannjibfaa
open Go.RowKit

/-- Cells that are none of G's lie as they lay. -/
def KeepsCells (G : Nat → Prop) (W W' : World) : Prop := W.heap.size ≤ W'.heap.size ∧ ∀ k o, W.heap[k]? = some o → o.isCells = true → ¬ G k → W'.heap[k]? = some o

theorem KeepsCells.refl (G : Nat → Prop) (W : World) : KeepsCells G W W := ⟨Nat.le_refl _, fun _ _ h _ _ => h⟩
theorem KeepsCells.trans {G : Nat → Prop} {A B C : World} (h : KeepsCells G A B) (k : KeepsCells G B C) : KeepsCells G A C :=
  ⟨Nat.le_trans h.1 k.1, fun j o hj ho hG => k.2 j o (h.2 j o hj ho hG) ho hG⟩
theorem KeepsCells.put1 {G : Nat → Prop} (W : World) (l : Nat) (o o' : Obj) (h : W.heap[l]? = some o) (hc : o.isCells = false) : KeepsCells G W (W.putObj l o') := by
  refine ⟨by simp, fun k o1 hk h1 _ => ?_⟩
  have hne : k ≠ l := fun e => by subst e; rw [h] at hk; cases hk; rw [hc] at h1; cases h1
  rw [World.putObj_heap_other hne]
  exact hk
theorem KeepsCells.put {G : Nat → Prop} {w : World} (W : World) (l : Nat) (o o' : Obj) (_ : w.heap.size ≤ l) (h : W.heap[l]? = some o) (hc : o.isCells = false) (_ : o.isWalk = false) : KeepsCells G W (W.putObj l o') := KeepsCells.put1 W l o o' h hc
theorem KeepsCells.of_step {G : Nat → Prop} {W W' : World} (h : Step G W W') : KeepsCells G W W' :=
  ⟨h.size, fun k _ hk _ hG => (h.block k (Array.getElem?_eq_some_iff.1 hk).1 hG).trans hk⟩
theorem KeepsCells.own {G : Nat → Prop} {W W' : World} (h : KeepsCells G W W') {base : Nat} {e : TypeId} {size : Nat} {v : Value} {n : Nat} {xs : List Value} (ho : W.ownsRow base e size v n xs) (hG : Off v G) : W'.ownsRow base e size v n xs := by
  refine ⟨ho.1, ?_⟩
  rcases ho.2 with hn | ⟨g, cap, cur, rfl, hbg, hgg, rest⟩
  · exact .inl hn
  · exact .inr ⟨g, cap, cur, rfl, hbg, h.2 g _ hgg rfl (hG g rfl), rest⟩


theorem wpListIn_append_sees {F : Fence} {n : Nat} {P : Program} (w : World) {ops : Array Oper} {rest : List Oper} {o : Oper} {a : Act} {Q : Exit → Act → World → Prop} (hgd : o.guard = none) (s x : Operand) (t : TypeId)
    (ho : o.op = .call { callee := .builtin .append, args := #[s, x], argTypes := #[t, t] })
    (base : Nat) (e : TypeId) (i : TypeInfo) (z : Value) (size bytes : Nat) (ht : P.underlying t = some (.slice e)) (hi : P.info? e = some i) (hz : i.zero = some z)
    (hsize : i.size = size) (hby : i.bytes = bytes) (hzs : z.cells.size = size) (hsz : 0 < size)
    (v : Value) (k : Nat) (xs : List Value) (hs : a.eval s = v) (hown : w.ownsRow base e size v k xs)
    (B : Nat) (A : Option Addr) (m c : Nat) (news : List Value) (hx : a.eval x = .slice A m c) (hr : Sees w B size A m news) (h1 : ∀ u ∈ news, u.oneCell' = true)
    (h63 : k + m ≤ maxLen) (hbytes : (k + m) * bytes ≤ 140737488355328) (hbase : base ≤ w.heap.size)
    (h : ∀ v' w', w'.ownsRow base e size v' (k + m) (xs ++ news) → w.grownBy w' v.ownBlock → (v'.ownBlock = v.ownBlock ∨ v'.ownBlock = some w.heap.size) → (v' = .slice none 0 0 ↔ v = .slice none 0 0 ∧ m = 0) →
      wpListIn F n P ops Q rest (a.put o.dst v') w') : wpListIn F n P ops Q (o :: rest) a w := by
  refine wpListIn_plain hgd fun K hK => ?_
  obtain ⟨v', w', hrun, h2, h3, h4, h5⟩ := run_append_sees (P := P) w base t o.type e i z size bytes ht hi hz hsize hby hzs hsz v k xs hown B A m c news hr h1 h63 hbytes hbase
  unfold Oper.wpIn
  refine ⟨?_, ?_⟩
  · simp [Oper.about, ho, resolve, Target.leads, Sem.run_pure]
  · rw [Oper.semAt_plain F _ _ (by rw [ho]; intro c hc'; cases hc')]
    simp only [execOp, ho, resolve, invoke, builtin, Sem.run_bind, Sem.run_pure, Result.andThen_ok, List.map_toArray, List.map_cons, List.map_nil, hs, hx, hrun]
    exact hK _ _ (h v' w' h2 h3 h4 h5)

/-- The marks of loops over functions that are over: each block holds no deferred call. -/
def Marks (B : Nat) (w : World) (ds : List Deferred) : Prop :=
  (ds.map (·.target)).Nodup ∧ ∀ d ∈ ds, ∃ r, d.target = .collected r ∧ B ≤ r ∧ w.heap[r]? = some (.deferred (some []))

theorem Marks.nil_ (B : Nat) (w : World) : Marks B w [] := ⟨by simp, fun _ h => by cases h⟩

/-- What becomes of the world while the marks are taken. -/
structure Shuts (B : Nat) (w w' : World) : Prop where
  below : Below B w w'
  cells : KeepsCells (fun _ => False) w w'

theorem Shuts.refl (B : Nat) (w : World) : Shuts B w w := ⟨Below.refl _ _, KeepsCells.refl _ _⟩
theorem Shuts.trans {B : Nat} {a b c : World} (h : Shuts B a b) (k : Shuts B b c) : Shuts B a c := ⟨h.below.trans k.below, h.cells.trans k.cells⟩

theorem leaves_marks {F : Fence} {n : Nat} {P : Program} {fn : Func} {tmps : Array Value} {R : Ending → World → Prop} {B : Nat} : ∀ (ds : List Deferred) (w : World), Marks B w ds →
    (∀ w', Shuts B w w' → LeavesIn F n P fn tmps R [] .returning w') → LeavesInM F n P fn tmps R ds .returning w := by
  intro ds
  induction ds with
  | nil => intro w _ h; exact h w (Shuts.refl _ _)
  | cons d ds ih =>
    intro w hm h
    obtain ⟨r, hr, hB, hh⟩ := hm.2 d (by simp)
    have hnd := hm.1
    rw [List.map_cons, List.nodup_cons] at hnd
    have hs : Shuts B w (w.putObj r (.deferred none)) := ⟨(Below.refl B w).grown (grownBy_putObj' w r _) (by have := (Array.getElem?_eq_some_iff.1 hh).1; omega) (fun k e => by cases e; exact hB),
      KeepsCells.put1 w r _ _ hh rfl⟩
    refine ⟨by simp, .inl ⟨r, _, hr, run_takeDeferred hh, ih _ ⟨hnd.2, fun d' hd' => ?_⟩ fun w' hw' => h w' (hs.trans hw')⟩⟩
    obtain ⟨r', hr', hB', hh'⟩ := hm.2 d' (by simp [hd'])
    refine ⟨r', hr', hB', ?_⟩
    rw [World.putObj_heap_other (fun e => hnd.1 (by rw [hr, ← e, ← hr']; exact List.mem_map.2 ⟨d', hd', rfl⟩))]
    exact hh'

end Go.Proofs.Ytmfkdaannjibfaa

namespace Go.Proofs.Ytmfkdaannjibfaa
open Go.RowKit

/-- Cells that are not Bad lie as they lay. -/
def KeepsO (Bad : Nat → Obj → Prop) (W W' : World) : Prop := W.heap.size ≤ W'.heap.size ∧ ∀ k o, W.heap[k]? = some o → o.isCells = true → ¬ Bad k o → W'.heap[k]? = some o

section
variable {Bad : Nat → Obj → Prop} {W W' A B C : World}
theorem KeepsO.refl (Bad : Nat → Obj → Prop) (W : World) : KeepsO Bad W W := ⟨Nat.le_refl _, fun _ _ h _ _ => h⟩
theorem KeepsO.trans (h : KeepsO Bad A B) (k : KeepsO Bad B C) : KeepsO Bad A C :=
  ⟨Nat.le_trans h.1 k.1, fun j o hj ho hG => k.2 j o (h.2 j o hj ho hG) ho hG⟩
theorem KeepsO.put {w : World} (W : World) (l : Nat) (o o' : Obj) (_ : w.heap.size ≤ l) (h : W.heap[l]? = some o) (hc : o.isCells = false) (_ : o.isWalk = false) : KeepsO Bad W (W.putObj l o') := by
  refine ⟨by simp, fun k o1 hk h1 _ => ?_⟩
  have hne : k ≠ l := fun e => by subst e; rw [h] at hk; cases hk; rw [hc] at h1; cases h1
  rw [World.putObj_heap_other hne]
  exact hk
theorem KeepsO.of_below (h : Below W.heap.size W W') : KeepsO Bad W W' := ⟨h.size, fun k _ hk _ _ => (h.block k (Array.getElem?_eq_some_iff.1 hk).1).trans hk⟩
/-- Only these blocks have changed, and they are Bad there. -/
theorem KeepsO.of_step {G : Nat → Prop} (h : Step G W W') (hb : ∀ k o, W.heap[k]? = some o → G k → Bad k o) : KeepsO Bad W W' :=
  ⟨h.size, fun k o hk _ hn => (h.block k (Array.getElem?_eq_some_iff.1 hk).1 (fun hG => hn (hb k o hk hG))).trans hk⟩
theorem KeepsO.row (h : KeepsO Bad W W') {g : Nat} {cs : Array Value} {t : TypeId} {fr : Nat × Nat} (hg : W.heap[g]? = some (.cells cs t fr)) (hb : ∀ o, ¬ Bad g o) : W'.heap[g]? = some (.cells cs t fr) := h.2 g _ hg rfl (hb _)
theorem KeepsO.own (h : KeepsO Bad W W') {base : Nat} {e : TypeId} {size : Nat} {v : Value} {n : Nat} {xs : List Value} (ho : W.ownsRow base e size v n xs) (hG : ∀ k, v.ownBlock = some k → ∀ o, ¬ Bad k o) : W'.ownsRow base e size v n xs := by
  refine ⟨ho.1, ?_⟩
  rcases ho.2 with hn | ⟨g, cap, cur, rfl, hbg, hgg, rest⟩
  · exact .inl hn
  · exact .inr ⟨g, cap, cur, rfl, hbg, h.2 g _ hgg rfl (hG g rfl _), rest⟩
theorem KeepsO.stF {F : Nat → Prop} {g : Nat} {T : TypeId} {rs : List RowD} (h : KeepsO Bad W W') (hs : StF W F g T rs) (hF : ∀ k, F k → ∀ o, ¬ Bad k o) : StF W' F g T rs :=
  ⟨⟨h.row hs.1.blk (hF g hs.2.1), fun j r hj => h.own (hs.1.own j r hj) (fun k hk => hF k (hs.2.2.1 j r hj k hk)), hs.1.nd, hs.1.nt⟩, hs.2.1, hs.2.2.1, fun k hk => Nat.lt_of_lt_of_le (hs.2.2.2 k hk) h.1⟩
theorem grown_none (h : Below W.heap.size W W') : W.grownBy W' none := ⟨h.os, h.tape, h.output, h.size, fun k hk _ => h.block k hk⟩
end

theorem KeepsFrom.of_step {B : Nat} {G : Nat → Prop} {W W' : World} (h : Step G W W') (hc : ∀ k o, W.heap[k]? = some o → G k → o.isCells = true) : KeepsFrom B W W' :=
  ⟨h.size, fun k o _ hk ho => (h.block k (Array.getElem?_eq_some_iff.1 hk).1 (fun hG => by rw [hc k o hk hG] at ho; cases ho)).trans hk⟩
theorem own_blk {w : World} {base : Nat} {e : TypeId} {size : Nat} {v : Value} {n : Nat} {xs : List Value} (h : w.ownsRow base e size v n xs) {k : Nat} (hk : v.ownBlock = some k) : ∃ cs, w.heap[k]? = some (.cells cs e (0, 0)) := by
  rcases h.2 with ⟨rfl, _⟩ | ⟨g, cap, cur, rfl, _, hg, _⟩
  · cases hk
  · have : g = k := by simpa [Value.ownBlock] using hk
    subst this
    exact ⟨_, hg⟩

/-! ### Rows within a fence -/
section
variable {F : Fence} {n : Nat} {P : Program} {ops : Array Oper} {rest : List Oper} {o : Oper} {a : Act} {Q : Exit → Act → World → Prop} {w w' : World}
theorem wpListIn_known (hgd : o.guard = none) (ha : o.about P w a.eval = none) (hc : ∀ c, o.op ≠ .defer c) {v : Value} (hrun : (execOp a.eval o).run P w = .ok (.value v) w') (h : wpListIn F n P ops Q rest (a.put o.dst v) w') : wpListIn F n P ops Q (o :: rest) a w := by
  refine wpListIn_plain hgd fun K hK => ?_
  unfold Oper.wpIn
  refine ⟨fun f hf => (by rw [ha] at hf; cases hf), ?_⟩
  rw [Oper.semAt_plain F a.eval o hc, hrun]
  exact hK _ _ h
theorem wpListIn_skipped (hgd : o.guard = none) (ha : o.about P w a.eval = none) (hc : ∀ c, o.op ≠ .defer c) (hrun : (execOp a.eval o).run P w = .ok .skip w') (h : wpListIn F n P ops Q rest (a.put o.dst undef) w') : wpListIn F n P ops Q (o :: rest) a w := by
  refine wpListIn_plain hgd fun K hK => ?_
  unfold Oper.wpIn
  refine ⟨fun f hf => (by rw [ha] at hf; cases hf), ?_⟩
  rw [Oper.semAt_plain F a.eval o hc, hrun]
  exact hK _ _ h
theorem exec_store_row {ev : Operand → Value} (ty : TypeId) (x y : Operand) (ho : o.op = .store ty x y) (g : Nat) (cells : Array Value) (hx : ev x = .pointer (some ⟨g, 0, none⟩)) (hy : ev y = .agg cells)
    (t : TypeId) (old : Array Value) (hg : w.heap[g]? = some (.cells old t (0, 0))) (hi : (P.info? ty).map (·.size) = some cells.size) (hold : old.size = cells.size) (h1 : cells.all (·.oneCell') = true) : (execOp ev o).run P w = .ok .skip (w.setRow g cells) := by
  unfold execOp
  simp only [ho, hx, hy, Instr.storeAt, Instr.sureAddr, Sem.run_bind, Sem.run_pure, Result.andThen_ok, run_storeVar_row w g t ty old cells hg hi hold h1]
end

end Go.Proofs.Ytmfkdaannjibfaa

namespace Go.Proofs.Ytmfkdaannjibfaa
open Go.RowKit

/-- A chunk: its runes. -/
structure Th where
  l : List Int
  h : l.length ≤ 32
deriving DecidableEq

def encT (t : Th) : List Value := chC t.l
theorem encT_len (t : Th) : (encT t).length = 33 := chC_len t.l t.h
theorem encT_one (t : Th) : ∀ v ∈ encT t, v.oneCell' = true := chC_one t.l
/-- Its value. -/
def thV (t : Th) : Value := .agg (encT t).toArray
theorem thV_cells (t : Th) : thV t = .agg (encT t).toArray := rfl
def sizeT (t : Th) : Int := t.l.length
def marksT (t : Th) : Int := nls t.l
def okT (t : Th) : Prop := 0 ≤ sizeT t ∧ sizeT t ≤ 1000000000
theorem okT_all (t : Th) : okT t := by have := t.h; unfold okT sizeT; omega
theorem sizeT_ok {t : Th} (h : okT t) : 0 ≤ sizeT t := h.1
theorem marksT_ok {t : Th} (_ : okT t) : 0 ≤ marksT t ∧ marksT t ≤ sizeT t := nls_le t.l

theorem results_cc {P : Program} {fn : Func} {p p2 : Tmp} {ty : TypeId} (h : fn.results = #[.cell p ty, .cell p2 ty]) (tmps : Array Value) (w : World) (g g2 : Nat) (t t2 : TypeId) (cs cs2 : Array Value) (fr fr2 : Nat × Nat) (d : TypeDesc)
    (hp : tmps.getD p undef = .pointer (some ⟨g, 0, none⟩)) (hp2 : tmps.getD p2 undef = .pointer (some ⟨g2, 0, none⟩)) (hg : w.heap[g]? = some (.cells cs t fr)) (hg2 : w.heap[g2]? = some (.cells cs2 t2 fr2))
    (hu : P.underlying ty = some d) (hd : (match d with | .struct _ | .array _ _ => true | _ => false) = true) (hi : (P.info? ty).map (·.size) = some cs.size) (hi2 : (P.info? ty).map (·.size) = some cs2.size) :
    (results fn tmps).run P w = .ok (.tuple #[.agg cs, .agg cs2]) w := by
  have hp' : tmps[p]?.getD undef = .pointer (some ⟨g, 0, none⟩) := by simpa using hp
  have hp2' : tmps[p2]?.getD undef = .pointer (some ⟨g2, 0, none⟩) := by simpa using hp2
  simp [results, h, hp', hp2', asAddr, run_loadVar_row w g t ty cs fr d hg hu hd hi, run_loadVar_row w g2 t2 ty cs2 fr2 d hg2 hu hd hi2]

theorem Th.ext' {a b : Th} (h : a.l = b.l) : a = b := by cases a; cases b; cases h; rfl

def cutA (t : Th) (i : Int) : Th := ⟨t.l.take i.toNat, by rw [List.length_take]; have := t.h; omega⟩
def cutB (t : Th) (i : Int) : Th := ⟨t.l.drop i.toNat, by rw [List.length_drop]; have := t.h; omega⟩
def meldB (a b : Th) : Bool := decide ((a.l ++ b.l).length ≤ 32)
def meldT (a b : Th) : Th := if h : (a.l ++ b.l).length ≤ 32 then ⟨a.l ++ b.l, h⟩ else ⟨[], Nat.zero_le _⟩

theorem meld_ok {x y : Th} (_ : okT x) (_ : okT y) (_ : sizeT x + sizeT y ≤ 1000000000) (h : meldB x y = true) : okT (meldT x y) ∧ sizeT (meldT x y) = sizeT x + sizeT y := by
  have h1 : (x.l ++ y.l).length ≤ 32 := of_decide_eq_true h
  refine ⟨okT_all _, ?_⟩
  unfold meldT sizeT
  rw [dif_pos h1]
  simp
theorem cut_ok {t : Th} {a : Int} (_ : okT t) (h0 : 0 < a) (h1 : a < sizeT t) : okT (cutA t a) ∧ okT (cutB t a) ∧ sizeT (cutA t a) + sizeT (cutB t a) = sizeT t := by
  refine ⟨okT_all _, okT_all _, ?_⟩
  unfold sizeT cutA cutB at *
  simp only [List.length_take, List.length_drop]
  omega
theorem cutA_size {t : Th} {a : Int} (_ : okT t) (h0 : 0 < a) (h1 : a < sizeT t) : sizeT (cutA t a) = a := by
  unfold sizeT cutA at *
  simp only [List.length_take]
  omega

set_option maxRecDepth 100000 in
set_option maxHeartbeats 1000000 in
theorem measure_any (t : Th) (w : World) : Calls Try.prog 46 #[thV t] w fun e w' => e = .returned (.tuple #[.int .i64 (sizeT t), .int .i64 (marksT t)]) ∧ Below w.heap.size w w' := by
  obtain ⟨l, hl⟩ := t
  show Calls _ _ #[.agg (chC l).toArray] w fun e w' => e = .returned (.tuple #[.int .i64 l.length, .int .i64 (nls l)]) ∧ _
  obtain ⟨b0, hb0⟩ : ∃ v, w.heap.size = v := ⟨_, rfl⟩
  obtain ⟨w1, hw1⟩ : ∃ v, w.alloc (.cells (chC l).toArray 58) = v := ⟨_, rfl⟩
  have hq : w1.heap[b0]? = some (.cells (chC l).toArray 58) := by rw [← hw1, ← hb0]; exact heap_alloc_new w _
  have K1 := Lib.hid (show Below w.heap.size w w1 by rw [← hw1]; exact (Below.refl _ _).alloc (Nat.le_refl _) _)
  go_enter Try.func46, Try.ntmps46
  go_wp2_with fail
  clear hw1 hb0
  refine wp_region_held_drew (S := fun w' => w'.heap[b0]? = some (.cells (chC l).toArray 58)) (by kernel_rfl) hq (fun hHeld => ?_)
  try dsimp only at hHeld
  refine take_at (i := 0) (v := ?_) (some 4) rfl rfl (by kernel_rfl) (by kernel_rfl) (by kernel_rfl) (fun _ _ _ h => h) hHeld (by rfl) (fun wS hSw => ?_) ?_
  rotate_left
  · refine exec_load_row 58 (.tmp 1) ?_ b0 ?_ 58 (chC l).toArray (0, 0) _ hSw Try.underlying58 rfl (ch_info l hl) <;> rfl
  try simp only [Act.put, List.setIfInBounds_toArray, List.set_cons_zero, List.set_cons_succ]
  refine take_at (i := 2) (v := ?_) (some 6) rfl rfl (by kernel_rfl) (by kernel_rfl) (by kernel_rfl) (fun _ _ _ h => h) hHeld (by rfl) (fun wS hSw => ?_) ?_
  rotate_left
  · refine exec_load_row 58 (.tmp 1) ?_ b0 ?_ 58 (chC l).toArray (0, 0) _ hSw Try.underlying58 rfl (ch_info l hl) <;> rfl
  try simp only [Act.put, List.setIfInBounds_toArray, List.set_cons_zero, List.set_cons_succ]
  refine wpAnyH_ready (rs := [1]) (by kernel_rfl) (by simp) ?_
  refine AllReadyH.cons rfl (fun K hK => ?_) AllReadyH.nil
  simp only [List.getElem_toArray, List.getElem_cons_succ, List.getElem_cons_zero]
  go_simp
  refine (len_any l _ hl).mono ?_
  rintro e w2 ⟨rfl, hb1⟩
  have hH1 : w2.heap[b0]? = some (.cells (chC l).toArray 58) := heap_later hHeld hb1
  have K1' := Lib.hid ((K1.out.drew).trans (hb1.mono (K1.out.drew).size))
  clear hb1
  try dsimp only
  have hOld := hHeld
  refine hK.out _ _ hH1 (fun _ => ?_)
  clear hK K
  refine wpAnyH_mono (S2 := fun w' => w'.heap[b0]? = some (.cells (chC l).toArray 58)) (fun _ h => h) _ _ _ _ ?_
  clear hHeld
  have hHeld := hH1
  clear hOld
  try simp only [Act.put, List.setIfInBounds_toArray, List.set_cons_zero, List.set_cons_succ]
  refine wpAnyH_ready (rs := [3]) (by kernel_rfl) (by simp) ?_
  refine AllReadyH.cons rfl (fun K hK => ?_) AllReadyH.nil
  simp only [List.getElem_toArray, List.getElem_cons_succ, List.getElem_cons_zero]
  go_simp
  refine (newlines_any l _ hl).mono ?_
  rintro e w3 ⟨rfl, hb3⟩
  have hH3 : w3.heap[b0]? = some (.cells (chC l).toArray 58) := heap_later hHeld hb3
  have K3 := Lib.hid ((K1'.out).trans (hb3.mono (K1'.out).size))
  clear hb3
  try dsimp only
  have hOld := hHeld
  refine hK.out _ _ hH3 (fun _ => ?_)
  clear hK K
  refine wpAnyH_mono (S2 := fun w' => w'.heap[b0]? = some (.cells (chC l).toArray 58)) (fun _ h => h) _ _ _ _ ?_
  clear hHeld
  have hHeld := hH3
  clear hOld
  try simp only [Act.put, List.setIfInBounds_toArray, List.set_cons_zero, List.set_cons_succ]
  refine take_at (i := 4) (v := ?_) (some 2) rfl rfl (by kernel_rfl) (by kernel_rfl) (by kernel_rfl) (fun _ _ _ h => h) hHeld (by rfl) (fun wS hSw => ?_) ?_
  rotate_left
  · try dsimp only at hSw
    go_simp
    try with_reducible rfl
  try simp only [Act.put, List.setIfInBounds_toArray, List.set_cons_zero, List.set_cons_succ]
  refine take_at (i := 5) (v := ?_) (some 3) rfl rfl (by kernel_rfl) (by kernel_rfl) (by kernel_rfl) (fun _ _ _ h => h) hHeld (by rfl) (fun wS hSw => ?_) ?_
  rotate_left
  · try dsimp only at hSw
    go_simp
    try with_reducible rfl
  try simp only [Act.put, List.setIfInBounds_toArray, List.set_cons_zero, List.set_cons_succ]
  refine wpAnyH_done (by kernel_rfl) ?_ _
  clear hHeld
  go_wp2_with fail
  exact bodyPost_ret (results_tmp2 rfl _ _ _) rfl ⟨rfl, K3.out⟩

set_option maxRecDepth 100000 in
set_option maxHeartbeats 2000000 in
theorem cut_any (t : Th) (i : Int) (w : World) (h0 : 0 ≤ i) (h1 : i ≤ sizeT t) (_ : sizeT t ≤ 1000000000) :
    Calls Try.prog 49 #[thV t, .int .i64 i] w fun e w' => e = .returned (.tuple #[thV (cutA t i), thV (cutB t i)]) ∧ Below w.heap.size w w' := by
  obtain ⟨l, hl⟩ := t
  obtain ⟨k, rfl⟩ : ∃ k : Nat, i = k := ⟨i.toNat, by omega⟩
  have hkl : k ≤ l.length := by unfold sizeT at h1; dsimp only at h1; omega
  have HS := Lib.hid (fun w1 => split_yes l k w1 hl hkl)
  obtain ⟨A, hA⟩ : ∃ A, l.take k = A := ⟨_, rfl⟩
  obtain ⟨B, hB⟩ : ∃ B, l.drop k = B := ⟨_, rfl⟩
  rw [hA, hB] at HS
  unfold chV at HS
  have hAl : A.length ≤ 32 := by rw [← hA, List.length_take]; omega
  have hBl : B.length ≤ 32 := by rw [← hB, List.length_drop]; omega
  show Calls _ _ #[.agg (chC l).toArray, .int .i64 k] w fun e w' => e = .returned (.tuple #[.agg (chC (l.take (k : Int).toNat)).toArray, .agg (chC (l.drop (k : Int).toNat)).toArray]) ∧ _
  rw [show (k : Int).toNat = k by omega, hA, hB]
  have HZA := Lib.hid (show (chC []).toArray.size = (chC A).toArray.size by rw [List.size_toArray, List.size_toArray, chC_len A hAl]; rfl)
  have HZB := Lib.hid (show (chC []).toArray.size = (chC B).toArray.size by rw [List.size_toArray, List.size_toArray, chC_len B hBl]; rfl)
  clear h0 h1 hA hB hkl
  go_enter Try.func49, Try.ntmps49
  go_upto_region 1 with fail
  rw [← ch_nil]
  obtain ⟨b1, hb1⟩ : ∃ b1, w.heap.size + 1 = b1 := ⟨_, rfl⟩
  obtain ⟨b2, hb2⟩ : ∃ b2, b1 + 1 = b2 := ⟨_, rfl⟩
  obtain ⟨b0, hb0⟩ : ∃ b0, w.heap.size = b0 := ⟨_, rfl⟩
  obtain ⟨w1, hw1⟩ : ∃ w1, ((w.alloc (.cells (chC l).toArray 58)).alloc (.cells (chC []).toArray 58)).alloc (.cells (chC []).toArray 58) = w1 := ⟨_, rfl⟩
  rw [hw1, hb1, hb2, hb0]
  have q0 : w1.heap[b0]? = some (.cells (chC l).toArray 58) := by
    rw [← hw1]; simp only [heap_alloc_get, World.size_alloc, hb0]; repeat (first | rw [if_pos trivial] | rw [if_pos rfl] | rw [if_neg (by omega)])
  have q1 : w1.heap[b1]? = some (.cells (chC []).toArray 58) := by
    rw [← hw1]; simp only [heap_alloc_get, World.size_alloc, hb1]; repeat (first | rw [if_pos trivial] | rw [if_pos rfl] | rw [if_neg (by omega)])
  have q2 : w1.heap[b2]? = some (.cells (chC []).toArray 58) := by
    rw [← hw1]; simp only [heap_alloc_get, World.size_alloc, hb1, hb2]; repeat (first | rw [if_pos trivial] | rw [if_pos rfl] | rw [if_neg (by omega)])
  have hB1 : Below w.heap.size w w1 := by rw [← hw1]; exact (((Below.refl _ w).alloc (Nat.le_refl _) _).alloc (by simp) _).alloc (by simp; omega) _
  have H0 := Lib.hid q0
  have H12 := Lib.hid (And.intro q1 q2)
  have HB1 := Lib.hid hB1
  have HO1 := Lib.hid (show w.heap.size ≤ b1 ∧ b1 ≠ b2 ∧ w.heap.size ≤ b2 by omega)
  clear q0 q1 q2 hB1 hw1 hb0 hb1 hb2
  go_wp2_with (refine wpList_load_row rfl 58 (.tmp 2) rfl b0 rfl 58 (chC l).toArray (0, 0) _ H0.out Try.underlying58 rfl (ch_info l hl) ?_)
  refine (HS.out w1).mono ?_
  rintro e w2 ⟨rfl, hb2'⟩
  have HB2 := Lib.hid (HB1.out.trans (hb2'.mono HB1.out.size))
  have H12 := Lib.hid (show w2.heap[b1]? = some (.cells (chC []).toArray 58) ∧ w2.heap[b2]? = some (.cells (chC []).toArray 58) from ⟨heap_later H12.out.1 hb2', heap_later H12.out.2 hb2'⟩)
  clear hb2' HS H0
  obtain ⟨b6, hb6⟩ : ∃ v, w2.heap.size = v := ⟨_, rfl⟩
  obtain ⟨wa, hwa⟩ : ∃ v, w2.alloc (.cells (chC []).toArray 58) = v := ⟨_, rfl⟩
  obtain ⟨b7, hb7⟩ : ∃ v, wa.heap.size = v := ⟨_, rfl⟩
  obtain ⟨wb, hwb⟩ : ∃ v, wa.alloc (.cells (chC []).toArray 58) = v := ⟨_, rfl⟩
  have hba : Below w2.heap.size w2 wa := by rw [← hwa]; exact (Below.refl _ _).alloc (Nat.le_refl _) _
  have hbb : Below wa.heap.size wa wb := by rw [← hwb]; exact (Below.refl _ _).alloc (Nat.le_refl _) _
  have q6 : wa.heap[b6]? = some (.cells (chC []).toArray 58) := by rw [← hwa, ← hb6]; exact heap_alloc_new w2 _
  have q7 : wb.heap[b7]? = some (.cells (chC []).toArray 58) := by rw [← hwb, ← hb7]; exact heap_alloc_new wa _
  have hlt6 := (Array.getElem?_eq_some_iff.1 q6).1
  have hlt1 := (Array.getElem?_eq_some_iff.1 H12.out.1).1
  have hlt2 := (Array.getElem?_eq_some_iff.1 H12.out.2).1
  have HO2 := Lib.hid (show b6 ≠ b7 ∧ b1 ≠ b6 ∧ b1 ≠ b7 ∧ b2 ≠ b6 ∧ b2 ≠ b7 ∧ w.heap.size ≤ b6 ∧ w.heap.size ≤ b7 from by have := HB2.out.size; have := hba.size; omega)
  have H6 := Lib.hid (show wb.heap[b6]? = some (.cells (chC []).toArray 58) from heap_later q6 hbb)
  have H7 := Lib.hid (show (wb.setRow b6 (chC A).toArray).heap[b7]? = some (.cells (chC []).toArray 58) by rw [setRow_other _ _ _ _ (by have := HO2.out; omega)]; exact q7)
  have HBb := Lib.hid (show Below w.heap.size w wb from HB2.out.trans ((hba.trans (hbb.mono hba.size)).mono HB2.out.size))
  have H1b := Lib.hid (show wb.heap[b1]? = some (.cells (chC []).toArray 58) ∧ wb.heap[b2]? = some (.cells (chC []).toArray 58) from ⟨heap_later (heap_later H12.out.1 hba) hbb, heap_later (heap_later H12.out.2 hba) hbb⟩)
  clear hba hbb q6 q7 hlt6 hlt1 hlt2
  have hz := ch_nil.symm
  go_upto_region 2 with (first
    | (refine wpList_store_row rfl 58 (.tmp 6) (.tmp 13) rfl b6 (chC A).toArray rfl rfl 58 (chC []).toArray H6.out (ch_info _ hAl) HZA.out (all_one A) ?_)
    | (refine wpList_store_row rfl 58 (.tmp 7) (.tmp 14) rfl b7 (chC B).toArray rfl rfl 58 (chC []).toArray H7.out (ch_info _ hBl) HZB.out (all_one B) ?_))
  clear hz hwa hwb hb6 hb7
  obtain ⟨wc, hwc⟩ : ∃ v, (wb.setRow b6 (chC A).toArray).setRow b7 (chC B).toArray = v := ⟨_, rfl⟩
  have C6 : wc.drew.heap[b6]? = some (.cells (chC A).toArray 58) := by show wc.heap[b6]? = _; rw [← hwc, setRow_other _ _ _ _ (by have := HO2.out; omega)]; exact setRow_heap _ _ _ _ _ _ H6.out
  have C7 : wc.drew.heap[b7]? = some (.cells (chC B).toArray 58) := by show wc.heap[b7]? = _; rw [← hwc]; exact setRow_heap _ _ _ _ _ _ H7.out
  have C1 : wc.drew.heap[b1]? = some (.cells (chC []).toArray 58) := by show wc.heap[b1]? = _; rw [← hwc, setRow_other _ _ _ _ (by have := HO2.out; omega), setRow_other _ _ _ _ (by have := HO2.out; omega)]; exact H1b.out.1
  have C2 : wc.drew.heap[b2]? = some (.cells (chC []).toArray 58) := by show wc.heap[b2]? = _; rw [← hwc, setRow_other _ _ _ _ (by have := HO2.out; omega), setRow_other _ _ _ _ (by have := HO2.out; omega)]; exact H1b.out.2
  have HC := Lib.hid (show Below w.heap.size w wc.drew from by rw [← hwc]; exact (_root_.Go.below_setRow (_root_.Go.below_setRow HBb.out HO2.out.2.2.2.2.2.1 _) HO2.out.2.2.2.2.2.2 _).drew)
  rw [hwc]
  clear hwc
  refine wp_region_held_drew (S := fun w' => w'.heap[b6]? = some (.cells (chC A).toArray 58) ∧ w'.heap[b7]? = some (.cells (chC B).toArray 58)) (by kernel_rfl) ⟨C6, C7⟩ (fun hHeld => ?_)
  try dsimp only at hHeld
  refine take_at (i := 0) (v := ?_) (some 16) rfl rfl (by kernel_rfl) (by kernel_rfl) (by kernel_rfl) (fun _ _ _ h => h) hHeld (by rfl) (fun wS hSw => ?_) ?_
  rotate_left
  · refine exec_load_row 58 (.tmp 6) ?_ b6 ?_ 58 (chC A).toArray (0, 0) _ hSw.1 Try.underlying58 rfl (ch_info A hAl) <;> rfl
  try simp only [Act.put, List.setIfInBounds_toArray, List.set_cons_zero, List.set_cons_succ]
  refine take_at (i := 1) (v := ?_) (some 17) rfl rfl (by kernel_rfl) (by kernel_rfl) (by kernel_rfl) (fun _ _ _ h => h) hHeld (by rfl) (fun wS hSw => ?_) ?_
  rotate_left
  · refine exec_load_row 58 (.tmp 7) ?_ b7 ?_ 58 (chC B).toArray (0, 0) _ hSw.2 Try.underlying58 rfl (ch_info B hBl) <;> rfl
  try simp only [Act.put, List.setIfInBounds_toArray, List.set_cons_zero, List.set_cons_succ]
  refine wpAnyH_ready (rs := [2]) (by kernel_rfl) (by simp) ?_
  refine AllReadyH.cons rfl (fun K hK => ?_) AllReadyH.nil
  · simp only [List.getElem_toArray, List.getElem_cons_succ, List.getElem_cons_zero]
    refine of_if (by rfl) ?_
    refine wp_store_row 58 (.tmp 4) (.tmp 16) rfl b1 (chC A).toArray rfl rfl 58 (chC []).toArray C1 (ch_info _ hAl) HZA.out (all_one A) ?_
    have D6 : (wc.drew.setRow b1 (chC A).toArray).heap[b6]? = some (.cells (chC A).toArray 58) := by rw [setRow_other _ _ _ _ (by have := HO2.out; omega)]; exact C6
    have D7 : (wc.drew.setRow b1 (chC A).toArray).heap[b7]? = some (.cells (chC B).toArray 58) := by rw [setRow_other _ _ _ _ (by have := HO2.out; omega)]; exact C7
    have D1 : (wc.drew.setRow b1 (chC A).toArray).heap[b2]? = some (.cells (chC []).toArray 58) := by rw [setRow_other _ _ _ _ (by have := HO1.out; omega)]; exact C2
    have D2 : (wc.drew.setRow b1 (chC A).toArray).heap[b1]? = some (.cells (chC A).toArray 58) := setRow_heap _ _ _ _ _ _ C1
    refine hK.out _ _ ⟨D6, D7⟩ (fun _ => ?_)
    clear hK K
    try simp only [Act.put]
    refine wpAnyH_ready (rs := [3]) (by kernel_rfl) (by simp) ?_
    refine AllReadyH.cons rfl (fun K hK => ?_) AllReadyH.nil
    simp only [List.getElem_toArray, List.getElem_cons_succ, List.getElem_cons_zero]
    refine of_if (by rfl) ?_
    refine wp_store_row 58 (.tmp 5) (.tmp 17) rfl b2 (chC B).toArray rfl rfl 58 (chC []).toArray D1 (ch_info _ hBl) HZB.out (all_one B) ?_
    have E1 : ((wc.drew.setRow b1 (chC A).toArray).setRow b2 (chC B).toArray).heap[b1]? = some (.cells (chC A).toArray 58) := by rw [setRow_other _ _ _ _ (by have := HO1.out; omega)]; exact D2
    have E2 : ((wc.drew.setRow b1 (chC A).toArray).setRow b2 (chC B).toArray).heap[b2]? = some (.cells (chC B).toArray 58) := setRow_heap _ _ _ _ _ _ D1
    refine hK.out _ _ ⟨by rw [setRow_other _ _ _ _ (by have := HO2.out; omega)]; exact D6, by rw [setRow_other _ _ _ _ (by have := HO2.out; omega)]; exact D7⟩ (fun _ => ?_)
    clear hK K
    have HE := Lib.hid (show Below w.heap.size w ((wc.drew.setRow b1 (chC A).toArray).setRow b2 (chC B).toArray) from _root_.Go.below_setRow (_root_.Go.below_setRow HC.out (by have := HO1.out; omega) _) (by have := HO1.out; omega) _)
    obtain ⟨we, hwe⟩ : ∃ v, (wc.drew.setRow b1 (chC A).toArray).setRow b2 (chC B).toArray = v := ⟨_, rfl⟩
    rw [hwe] at E1 E2 HE
    rw [hwe]
    try simp only [Act.put]
    refine wpAnyH_done (by kernel_rfl) ?_ _
    clear hHeld D6 D7 D1 D2 C6 C7 C1 C2 hwe
    go_wp2_with fail
    exact bodyPost_ret (results_cc rfl _ _ b1 b2 _ _ (chC A).toArray (chC B).toArray (0, 0) (0, 0) _ rfl rfl E1 E2 Try.underlying58 rfl (ch_info A hAl) (ch_info B hBl)) rfl ⟨rfl, HE.out⟩

set_option maxRecDepth 100000 in
set_option maxHeartbeats 2000000 in
theorem meld_any (x y : Th) (w : World) (_ : okT x) (_ : okT y) :
    Calls Try.prog 51 #[thV x, thV y] w fun e w' => e = .returned (.tuple #[thV (meldT x y), .bool (meldB x y)]) ∧ Below w.heap.size w w' := by
  obtain ⟨l, hl⟩ := x
  obtain ⟨m, hm⟩ := y
  obtain ⟨C, e, hJ, hCl, hC1, hC2⟩ : ∃ (C : List Int) (e : Int), (∀ w1, Calls Try.prog 52 #[.agg (chC l).toArray, .agg (chC m).toArray] w1 fun e' w' => e' = .returned (.tuple #[.agg (chC C).toArray, .int .i64 e]) ∧ Below w1.heap.size w1 w') ∧ C.length ≤ 32 ∧ (meldT ⟨l, hl⟩ ⟨m, hm⟩).l = C ∧ meldB ⟨l, hl⟩ ⟨m, hm⟩ = (e == 0) := by
    by_cases h : l.length + m.length ≤ 32
    · have h' : (l ++ m).length ≤ 32 := by rw [List.length_append]; exact h
      exact ⟨l ++ m, 0, fun w1 => chJoin_any l m w1 h, h', by unfold meldT; rw [dif_pos h'], by unfold meldB; simp [h]⟩
    · have h' : ¬ (l ++ m).length ≤ 32 := by rw [List.length_append]; exact h
      exact ⟨[], 8, fun w1 => join_long l m w1 hl hm (by omega), by decide, by unfold meldT; rw [dif_neg h'], by unfold meldB; simp [h]⟩
  have HJ := Lib.hid hJ
  show Calls _ _ #[.agg (chC l).toArray, .agg (chC m).toArray] w fun e w' => e = .returned (.tuple #[.agg (chC (meldT ⟨l, hl⟩ ⟨m, hm⟩).l).toArray, .bool _]) ∧ _
  rw [hC1, hC2]
  have HZC := Lib.hid (show (chC []).toArray.size = (chC C).toArray.size by rw [List.size_toArray, List.size_toArray, chC_len C hCl]; rfl)
  clear hJ hC1 hC2
  go_enter Try.func51, Try.ntmps51
  go_upto_region 1 with fail
  rw [← ch_nil]
  obtain ⟨b1, hb1⟩ : ∃ b1, w.heap.size + 1 = b1 := ⟨_, rfl⟩
  obtain ⟨b2, hb2⟩ : ∃ b2, b1 + 1 = b2 := ⟨_, rfl⟩
  obtain ⟨b0, hb0⟩ : ∃ b0, w.heap.size = b0 := ⟨_, rfl⟩
  obtain ⟨w1, hw1⟩ : ∃ w1, ((w.alloc (.cells (chC l).toArray 58)).alloc (.cells (chC m).toArray 58)).alloc (.cells (chC []).toArray 58) = w1 := ⟨_, rfl⟩
  rw [hw1, hb1, hb2, hb0]
  have q0 : w1.heap[b0]? = some (.cells (chC l).toArray 58) := by
    rw [← hw1]; simp only [heap_alloc_get, World.size_alloc, hb0]; repeat (first | rw [if_pos trivial] | rw [if_pos rfl] | rw [if_neg (by omega)])
  have q1 : w1.heap[b1]? = some (.cells (chC m).toArray 58) := by
    rw [← hw1]; simp only [heap_alloc_get, World.size_alloc, hb1]; repeat (first | rw [if_pos trivial] | rw [if_pos rfl] | rw [if_neg (by omega)])
  have q2 : w1.heap[b2]? = some (.cells (chC []).toArray 58) := by
    rw [← hw1]; simp only [heap_alloc_get, World.size_alloc, hb1, hb2]; repeat (first | rw [if_pos trivial] | rw [if_pos rfl] | rw [if_neg (by omega)])
  have hB1 : Below w.heap.size w w1 := by rw [← hw1]; exact (((Below.refl _ w).alloc (Nat.le_refl _) _).alloc (by simp) _).alloc (by simp; omega) _
  have H0 := Lib.hid (And.intro q0 q1)
  have H2 := Lib.hid q2
  have HB1 := Lib.hid hB1
  have HO1 := Lib.hid (show w.heap.size ≤ b2 by omega)
  clear q0 q1 q2 hB1 hw1 hb0 hb1 hb2
  go_wp2_with (first
    | (refine wpList_load_row rfl 58 (.tmp 2) rfl b0 rfl 58 (chC l).toArray (0, 0) _ H0.out.1 Try.underlying58 rfl (ch_info l hl) ?_)
    | (refine wpList_load_row rfl 58 (.tmp 3) rfl b1 rfl 58 (chC m).toArray (0, 0) _ H0.out.2 Try.underlying58 rfl (ch_info m hm) ?_))
  refine (HJ.out w1).mono ?_
  rintro e' w2 ⟨rfl, hb2'⟩
  obtain ⟨b6, hb6⟩ : ∃ v, w2.heap.size = v := ⟨_, rfl⟩
  obtain ⟨wa, hwa⟩ : ∃ v, w2.alloc (.cells (chC []).toArray 58) = v := ⟨_, rfl⟩
  have hba : Below w2.heap.size w2 wa := by rw [← hwa]; exact (Below.refl _ _).alloc (Nat.le_refl _) _
  have q2 := heap_later (heap_later H2.out hb2') hba
  have q6 : wa.heap[b6]? = some (.cells (chC []).toArray 58) := by rw [← hwa, ← hb6]; exact heap_alloc_new w2 _
  have hlt2 := (Array.getElem?_eq_some_iff.1 (heap_later H2.out hb2')).1
  have hne : b2 ≠ b6 := by omega
  have HBa := Lib.hid (show Below w.heap.size w wa from (HB1.out.trans (hb2'.mono HB1.out.size)).trans (hba.mono (Nat.le_trans HB1.out.size hb2'.size)))
  have H6 := Lib.hid q6
  have H66 := Lib.hid (setRow_heap _ _ _ (chC C).toArray _ _ q6)
  have H26 := Lib.hid (show (wa.setRow b6 (chC C).toArray).heap[b2]? = some (.cells (chC []).toArray 58) by rw [setRow_other _ _ _ _ hne]; exact q2)
  have HF := Lib.hid (setRow_heap _ _ _ (chC C).toArray _ _ H26.out)
  have HB9 := Lib.hid (_root_.Go.below_setRow (_root_.Go.below_setRow HBa.out (show w.heap.size ≤ b6 by have := HB1.out.size; have := hb2'.size; omega) (chC C).toArray) HO1.out (chC C).toArray)
  have hz := ch_nil.symm
  clear hb2' hba q2 q6 HJ H0 H2 hlt2 hne
  go_wp2_with (first
    | (refine wpList_store_row rfl 58 (.tmp 6) (.tmp 12) rfl b6 (chC C).toArray rfl rfl 58 (chC []).toArray H6.out (ch_info _ hCl) HZC.out (all_one C) ?_)
    | (refine wpList_load_row rfl 58 (.tmp 6) rfl b6 rfl 58 (chC C).toArray (0, 0) _ H66.out Try.underlying58 rfl (ch_info C hCl) ?_)
    | (refine wpList_store_row rfl 58 (.tmp 4) (.tmp 14) rfl b2 (chC C).toArray rfl rfl 58 (chC []).toArray H26.out (ch_info _ hCl) HZC.out (all_one C) ?_))
  exact bodyPost_ret (v := .tuple #[.agg (chC C).toArray, .bool (e == 0)]) (results_ct rfl _ _ b2 _ (chC C).toArray (0, 0) _ _ rfl rfl HF.out Try.underlying58 rfl (ch_info C hCl)) rfl ⟨rfl, HB9.out⟩

end Go.Proofs.Ytmfkdaannjibfaa

namespace Go.Proofs.Ytmfkdaannjibfaa
open Go.RowKit

/-- A node of a thing. -/
def mkN (t : Th) (l r h sz mk : Int) : Nd := ⟨encT t, encT_len t, encT_one t, l, r, h, sz, mk⟩

/-- A number that is no great one. -/
def Sm (x : Int) : Prop := 0 ≤ x ∧ x ≤ 1000000000000

/-- A node with its totals. -/
def totN (s : List (Option Nd)) (t : Th) (l r : Int) : Nd := mkN t l r (1 + max (hS s l) (hS s r)) (zS s l + zS s r + sizeT t) (mS s l + mS s r + marksT t)

theorem thing_info (t : Th) : (Try.prog.info? 58).map (·.size) = some (encT t).length := by rw [encT_len]; kernel_rfl

set_option maxRecDepth 100000 in
set_option maxHeartbeats 4000000 in
theorem set_any {w : World} {F : Nat → Prop} {gT gA : Nat} {root : Int} {s : List (Option Nd)} {fr : List Nat} (h : TreeW w F gT gA root s fr) {k : Nat} {n0 : Nd} (hk : gt s k = some n0) (t : Th) (l r hh sz mk : Int)
    (hl : okR s l) (hr : okR s r) (b1 : Sm (hS s l)) (b2 : Sm (hS s r)) (b3 : Sm (zS s l)) (b4 : Sm (zS s r)) (b5 : Sm (mS s l)) (b6 : Sm (mS s r)) (b7 : Sm (sizeT t)) (b8 : Sm (marksT t)) :
    Calls Try.prog 76 #[.pointer (some ⟨gT, 0, none⟩), .int .i64 k, (mkN t l r hh sz mk).V] w fun e w' => (∃ v, e = .returned v) ∧ TreeW w' F gT gA root (s.set k (some (totN s t l r))) fr ∧ Grow F w w' F := by
  obtain ⟨n, hn⟩ : ∃ n, mkN t l r hh sz mk = n := ⟨_, rfl⟩
  rw [hn]
  have hnl : n.l = l := by rw [← hn]; rfl
  have hnr : n.r = r := by rw [← hn]; rfl
  have hnx : n.x = encT t := by rw [← hn]; rfl
  have HT := Lib.hid (And.intro hl hr)
  obtain ⟨ha, hha⟩ : ∃ x, hS s l = x := ⟨_, rfl⟩
  obtain ⟨hb, hhb⟩ : ∃ x, hS s r = x := ⟨_, rfl⟩
  obtain ⟨za, hza⟩ : ∃ x, zS s l = x := ⟨_, rfl⟩
  obtain ⟨zb, hzb⟩ : ∃ x, zS s r = x := ⟨_, rfl⟩
  obtain ⟨ma, hma⟩ : ∃ x, mS s l = x := ⟨_, rfl⟩
  obtain ⟨mb, hmb⟩ : ∃ x, mS s r = x := ⟨_, rfl⟩
  obtain ⟨zt, hzt⟩ : ∃ x, sizeT t = x := ⟨_, rfl⟩
  obtain ⟨mt, hmt⟩ : ∃ x, marksT t = x := ⟨_, rfl⟩
  rw [hha] at b1; rw [hhb] at b2; rw [hza] at b3; rw [hzb] at b4; rw [hma] at b5; rw [hmb] at b6; rw [hzt] at b7; rw [hmt] at b8
  obtain ⟨b1, b1'⟩ := b1; obtain ⟨b2, b2'⟩ := b2; obtain ⟨b3, b3'⟩ := b3; obtain ⟨b4, b4'⟩ := b4
  obtain ⟨b5, b5'⟩ := b5; obtain ⟨b6, b6'⟩ := b6; obtain ⟨b7, b7'⟩ := b7; obtain ⟨b8, b8'⟩ := b8
  have HTa := Lib.hid (fun (w1 : World) (hb : Below w.heap.size w w1) => totals_any (h.below hb) hl)
  have HTb := Lib.hid (fun (w1 : World) (hb : Below w.heap.size w w1) => totals_any (h.below hb) hr)
  have HM := Lib.hid (fun w1 => measure_any t w1)
  rw [hha, hza, hma] at HTa
  rw [hhb, hzb, hmb] at HTb
  rw [hzt, hmt] at HM
  have HTW := Lib.hid (fun (w1 : World) (hb : Below w.heap.size w w1) => h.below hb)
  have HN := Lib.hid (show totN s t l r = mkN t l r (1 + max ha hb) (za + zb + zt) (ma + mb + mt) by unfold totN; rw [hha, hhb, hza, hzb, hma, hmb, hzt, hmt])
  have HK := Lib.hid hk
  have HE := Lib.hid hn
  have HX := Lib.hid hnx
  have HFb := Lib.hid (show ¬ F w.heap.size from fun hF => by have := h.ar.lt _ hF; omega)
  obtain ⟨w1, hw1⟩ : ∃ v, w.alloc (.cells n.C.toArray 103) = v := ⟨_, rfl⟩
  obtain ⟨bn, hbn⟩ : ∃ v, w.heap.size = v := ⟨_, rfl⟩
  have HBN := Lib.hid (Nat.le_of_eq hbn)
  rw [hbn] at HFb
  have N1 := Lib.hid (show NdAt w1 bn n by rw [← hw1, ← hbn]; exact NdAt.new w n)
  have K1 := Lib.hid (show Below w.heap.size w w1 by rw [← hw1]; exact (Below.refl _ _).alloc (Nat.le_refl _) _)
  have hl1 := N1.out.cL
  rw [hnl] at hl1
  unfold Nd.V
  clear hha hhb hza hzb hma hmb hzt hmt hl hr hk h hn
  go_enter Try.func76, Try.ntmps76
  go_wp2_with fail
  clear hl1
  refine (HTa.out w1 K1.out).mono ?_
  rintro e w2 ⟨rfl, hb2⟩
  have K2 := Lib.hid (K1.out.trans (hb2.mono K1.out.size))
  have N2 := Lib.hid (N1.out.below hb2)
  have hr2 := N2.out.cR
  rw [hnr] at hr2
  clear hb2
  go_wp2_with fail
  clear hr2
  refine (HTb.out w2 K2.out).mono ?_
  rintro e w3 ⟨rfl, hb3⟩
  have K3 := Lib.hid (K2.out.trans (hb3.mono K2.out.size))
  have N3 := Lib.hid (N2.out.below hb3)
  clear hb3
  go_wp2_with fail
  refine wp_region_held_drew (S := fun w' => w'.cell? ⟨gT, 0, none⟩ = some (.func (.func 46) #[] #[]) ∧ NdAt w' bn n) (by kernel_rfl) ⟨(HTW.out w3 K3.out).cM, ⟨N3.out.blk⟩⟩ (fun hHeld => ?_)
  try dsimp only at hHeld
  refine take_at (i := 0) (v := ?_) (some 31) rfl rfl (by kernel_rfl) (by kernel_rfl) (by kernel_rfl) (fun _ _ _ h => h) hHeld (by rfl) (fun wS hSw => ?_) ?_
  rotate_left
  · try dsimp only at hSw
    go_simp
    try with_reducible rfl
  try simp only [Act.put, List.setIfInBounds_toArray, List.set_cons_zero, List.set_cons_succ]
  refine take_at (i := 1) (v := ?_) (some 32) rfl rfl (by kernel_rfl) (by kernel_rfl) (by kernel_rfl) (fun _ _ _ h => h) hHeld (by rfl) (fun wS hSw => ?_) ?_
  rotate_left
  · try dsimp only at hSw
    go_simp
    try with_reducible rfl
  try simp only [Act.put, List.setIfInBounds_toArray, List.set_cons_zero, List.set_cons_succ]
  refine take_at (i := 2) (v := ?_) (some 33) rfl rfl (by kernel_rfl) (by kernel_rfl) (by kernel_rfl) (fun _ _ _ h => h) hHeld (by rfl) (fun wS hSw => ?_) ?_
  rotate_left
  · try dsimp only at hSw
    go_simp
    try with_reducible rfl
  try simp only [Act.put, List.setIfInBounds_toArray, List.set_cons_zero, List.set_cons_succ]
  refine take_at (i := 3) (v := ?_) (some 34) rfl rfl (by kernel_rfl) (by kernel_rfl) (by kernel_rfl) (fun _ _ _ h => h) hHeld (by rfl) (fun wS hSw => ?_) ?_
  rotate_left
  · try dsimp only at hSw
    go_simp
    try with_reducible rfl
  try simp only [Act.put, List.setIfInBounds_toArray, List.set_cons_zero, List.set_cons_succ]
  refine take_at (i := 4) (v := ?_) (some 35) rfl rfl (by kernel_rfl) (by kernel_rfl) (by kernel_rfl) (fun _ _ _ h => h) hHeld (by rfl) (fun wS hSw => ?_) ?_
  rotate_left
  · have hS1 := hSw.1
    try dsimp only at hSw
    go_simp
    try with_reducible rfl
  try simp only [Act.put, List.setIfInBounds_toArray, List.set_cons_zero, List.set_cons_succ]
  refine take_at (i := 5) (v := ?_) (some 36) rfl rfl (by kernel_rfl) (by kernel_rfl) (by kernel_rfl) (fun _ _ _ h => h) hHeld (by rfl) (fun wS hSw => ?_) ?_
  rotate_left
  · try dsimp only at hSw
    go_simp
    try with_reducible rfl
  try simp only [Act.put, List.setIfInBounds_toArray, List.set_cons_zero, List.set_cons_succ]
  refine take_at (i := 6) (v := ?_) (some 37) rfl rfl (by kernel_rfl) (by kernel_rfl) (by kernel_rfl) (fun _ _ _ h => h) hHeld (by rfl) (fun wS hSw => ?_) ?_
  rotate_left
  · refine exec_load_mid 58 (.tmp 36) ?_ bn 0 ?_ (encT t) _ (HX.out ▸ hSw.2.x) Try.underlying58 rfl (thing_info t) <;> rfl
  try simp only [Act.put, List.setIfInBounds_toArray, List.set_cons_zero, List.set_cons_succ]
  refine wpAnyH_ready (rs := [7]) (by kernel_rfl) (by simp) ?_
  refine AllReadyH.cons rfl (fun K hK => ?_) AllReadyH.nil
  simp only [List.getElem_toArray, List.getElem_cons_succ, List.getElem_cons_zero]
  go_simp
  refine (HM.out _).mono ?_
  rintro e w4 ⟨rfl, hb4⟩
  have hH4 : w4.cell? ⟨gT, 0, none⟩ = some (.func (.func 46) #[] #[]) ∧ NdAt w4 bn n := ⟨cell_later hHeld.1 hb4, hHeld.2.below hb4⟩
  have K4 := Lib.hid (K3.out.drew.trans (hb4.mono K3.out.size))
  clear hb4
  try dsimp only
  have hOld := hHeld
  refine hK.out _ _ hH4 (fun _ => ?_)
  clear hK K
  refine wpAnyH_mono (S2 := fun w' => w'.cell? ⟨gT, 0, none⟩ = some (.func (.func 46) #[] #[]) ∧ NdAt w' bn n) (fun _ h => h) _ _ _ _ ?_
  clear hHeld
  have hHeld := hH4
  clear hOld
  try simp only [Act.put, List.setIfInBounds_toArray, List.set_cons_zero, List.set_cons_succ]
  refine take_at (i := 8) (v := ?_) (some 30) rfl rfl (by kernel_rfl) (by kernel_rfl) (by kernel_rfl) (fun _ _ _ h => h) hHeld (by rfl) (fun wS hSw => ?_) ?_
  rotate_left
  · try dsimp only at hSw
    go_simp
    try with_reducible rfl
  try simp only [Act.put, List.setIfInBounds_toArray, List.set_cons_zero, List.set_cons_succ]
  refine take_at (i := 9) (v := ?_) (some 39) rfl rfl (by kernel_rfl) (by kernel_rfl) (by kernel_rfl) (fun _ _ _ h => h) hHeld (by rfl) (fun wS hSw => ?_) ?_
  rotate_left
  · try dsimp only at hSw
    go_simp
    try with_reducible rfl
  try simp only [Act.put, List.setIfInBounds_toArray, List.set_cons_zero, List.set_cons_succ]
  refine take_at (i := 10) (v := ?_) (some 40) rfl rfl (by kernel_rfl) (by kernel_rfl) (by kernel_rfl) (fun _ _ _ h => h) hHeld (by rfl) (fun wS hSw => ?_) ?_
  rotate_left
  · try dsimp only at hSw
    go_simp
    try with_reducible rfl
  try simp only [Act.put, List.setIfInBounds_toArray, List.set_cons_zero, List.set_cons_succ]
  refine take_at (i := 11) (v := ?_) (some 12) rfl rfl (by kernel_rfl) (by kernel_rfl) (by kernel_rfl) (fun _ _ _ h => h) hHeld (by rfl) (fun wS hSw => ?_) ?_
  rotate_left
  · try dsimp only at hSw
    go_simp
    try with_reducible rfl
  try simp only [Act.put, List.setIfInBounds_toArray, List.set_cons_zero, List.set_cons_succ]
  refine take_at (i := 12) (v := ?_) (some 13) rfl rfl (by kernel_rfl) (by kernel_rfl) (by kernel_rfl) (fun _ _ _ h => h) hHeld (by rfl) (fun wS hSw => ?_) ?_
  rotate_left
  · try dsimp only at hSw
    go_simp
    try with_reducible rfl
  try simp only [Act.put, List.setIfInBounds_toArray, List.set_cons_zero, List.set_cons_succ]
  refine wpAnyH_done (by kernel_rfl) ?_ _
  have N4 := Lib.hid hH4.2
  clear hHeld hH4
  have e1 := N4.out.cH
  have e2 := N4.out.cS
  have e3 := N4.out.cM
  have fz := N4.out.fz
  have g2 : IntKind.i64.wrap (za + zb) = za + zb := IntWalk.i64_in _ (by omega)
  have g3 : IntKind.i64.wrap (za + zb + zt) = za + zb + zt := IntWalk.i64_in _ (by omega)
  have g4 : IntKind.i64.wrap (ma + mb) = ma + mb := IntWalk.i64_in _ (by omega)
  have g5 : IntKind.i64.wrap (ma + mb + mt) = ma + mb + mt := IntWalk.i64_in _ (by omega)
  have g1 : IntKind.i64.wrap (1 + max ha hb) = 1 + max ha hb := IntWalk.i64_in _ (by omega)
  go_wp2_with fail
  all_goals
    first | rw [show 1 + ha = 1 + max ha hb by omega] | rw [show 1 + hb = 1 + max ha hb by omega]
    obtain ⟨n5, hn5⟩ : ∃ x, mkN t l r (1 + max ha hb) (za + zb + zt) (ma + mb + mt) = x := ⟨_, rfl⟩
    obtain ⟨w5, hw5⟩ : ∃ v, ((w4.setCell ⟨bn, 35, none⟩ (.int .i64 (1 + max ha hb))).setCell ⟨bn, 36, none⟩ (.int .i64 (za + zb + zt))).setCell ⟨bn, 37, none⟩ (.int .i64 (ma + mb + mt)) = v := ⟨_, rfl⟩
    have N5 := Lib.hid (show NdAt w5 bn n5 by
      rw [← hw5, ← hn5]
      have hn := HE.out
      have m1 := N4.out.set 2 (.int .i64 (1 + max ha hb)) (mkN t l r (1 + max ha hb) sz mk) (by rw [← hn]; rfl) (by rw [← hn]; rfl)
      have m2 := m1.set 3 (.int .i64 (za + zb + zt)) (mkN t l r (1 + max ha hb) (za + zb + zt) mk) rfl rfl
      exact m2.set 4 (.int .i64 (ma + mb + mt)) (mkN t l r (1 + max ha hb) (za + zb + zt) (ma + mb + mt)) rfl rfl)
    have K5 := Lib.hid (show Below w.heap.size w w5 by
      rw [← hw5]
      have hB := HBN.out
      exact ((K4.out.setCell (p := ⟨bn, 35, none⟩) hB _).setCell (p := ⟨bn, 36, none⟩) hB _).setCell (p := ⟨bn, 37, none⟩) hB _)
    have HN5 := Lib.hid (show totN s t l r = n5 by rw [HN.out, hn5])
    rw [hw5]
    clear hw5 hn5 e1 e2 e3 fz g1 g2 g3 g4 g5
    refine wp_region_held_drew (S := fun w' => w'.cell? ⟨gT, 3, none⟩ = some (.pointer (some ⟨gA, 0, none⟩)) ∧ NdAt w' bn n5) (by kernel_rfl) ⟨(HTW.out w5 K5.out).cN, ⟨N5.out.blk⟩⟩ (fun hHeld => ?_)
    try dsimp only at hHeld
    refine take_at (i := 0) (v := ?_) (some 58) rfl rfl (by kernel_rfl) (by kernel_rfl) (by kernel_rfl) (fun _ _ _ h => h) hHeld (by rfl) (fun wS hSw => ?_) ?_
    rotate_left
    · try dsimp only at hSw
      go_simp
      try with_reducible rfl
    try simp only [Act.put, List.setIfInBounds_toArray, List.set_cons_zero, List.set_cons_succ]
    refine take_at (i := 1) (v := ?_) (some 59) rfl rfl (by kernel_rfl) (by kernel_rfl) (by kernel_rfl) (fun _ _ _ h => h) hHeld (by rfl) (fun wS hSw => ?_) ?_
    rotate_left
    · try dsimp only at hSw
      go_simp
      try with_reducible rfl
    try simp only [Act.put, List.setIfInBounds_toArray, List.set_cons_zero, List.set_cons_succ]
    refine take_at (i := 2) (v := ?_) (some 60) rfl rfl (by kernel_rfl) (by kernel_rfl) (by kernel_rfl) (fun _ _ _ h => h) hHeld (by rfl) (fun wS hSw => ?_) ?_
    rotate_left
    · try dsimp only at hSw
      go_simp
      try with_reducible rfl
    try simp only [Act.put, List.setIfInBounds_toArray, List.set_cons_zero, List.set_cons_succ]
    refine take_at (i := 3) (v := ?_) (some 61) rfl rfl (by kernel_rfl) (by kernel_rfl) (by kernel_rfl) (fun _ _ _ h => h) hHeld (by rfl) (fun wS hSw => ?_) ?_
    rotate_left
    · have hS1 := hSw.1
      try dsimp only at hSw
      go_simp
      try with_reducible rfl
    try simp only [Act.put, List.setIfInBounds_toArray, List.set_cons_zero, List.set_cons_succ]
    refine take_at (i := 4) (v := ?_) (some 62) rfl rfl (by kernel_rfl) (by kernel_rfl) (by kernel_rfl) (fun _ _ _ h => h) hHeld (by rfl) (fun wS hSw => ?_) ?_
    rotate_left
    · try dsimp only at hSw
      go_simp
      try with_reducible rfl
    try simp only [Act.put, List.setIfInBounds_toArray, List.set_cons_zero, List.set_cons_succ]
    refine take_at (i := 5) (v := ?_) (some 63) rfl rfl (by kernel_rfl) (by kernel_rfl) (by kernel_rfl) (fun _ _ _ h => h) hHeld (by rfl) (fun wS hSw => ?_) ?_
    rotate_left
    · refine exec_load_row 103 (.tmp 5) ?_ bn ?_ 103 n5.C.toArray (0, 0) _ hSw.2.blk Try.underlying103 rfl (nd_info n5) <;> rfl
    try simp only [Act.put, List.setIfInBounds_toArray, List.set_cons_zero, List.set_cons_succ]
    refine wpAnyH_ready (rs := [6]) (by kernel_rfl) (by simp) ?_
    refine AllReadyH.cons rfl (fun K hK => ?_) AllReadyH.nil
    simp only [List.getElem_toArray, List.getElem_cons_succ, List.getElem_cons_zero]
    go_simp
    have hT5 := HTW.out w5.drew K5.out.drew
    clear HN
    refine (putN_yes hT5.ar (by have := hT5.len; omega) (gt_some.1 HK.out) n5).mono ?_
    rintro e w6 ⟨rfl, ha6, hg6⟩
    have hH6 : w6.cell? ⟨gT, 3, none⟩ = some (.pointer (some ⟨gA, 0, none⟩)) ∧ NdAt w6 bn n5 := ⟨(hT5.arena ha6 (hT5.ok.put (gt_some.1 HK.out) n5) hg6 (by rw [List.length_set]; exact hT5.len)).cN, hHeld.2.step hg6.step HFb.out⟩
    have HF6 := Lib.hid (And.intro (hT5.arena ha6 (hT5.ok.put (gt_some.1 HK.out) n5) hg6 (by rw [List.length_set]; exact hT5.len)) ((Grow.of_below K5.out.drew).trans hg6))
    clear ha6 hg6 hT5
    try dsimp only
    have hOld := hHeld
    refine hK.out _ _ hH6 (fun _ => ?_)
    clear hK K
    refine wpAnyH_mono (S2 := fun w' => w'.cell? ⟨gT, 3, none⟩ = some (.pointer (some ⟨gA, 0, none⟩)) ∧ NdAt w' bn n5) (fun _ h => h) _ _ _ _ ?_
    clear hHeld
    have hHeld := hH6
    clear hOld
    try simp only [Act.put, List.setIfInBounds_toArray, List.set_cons_zero, List.set_cons_succ]
    refine wpAnyH_done (by kernel_rfl) ?_ _
    clear hHeld hH6
    go_wp2_with fail
    go_end0
    rw [HN5.out]
    exact ⟨⟨_, rfl⟩, HF6.out.1, HF6.out.2⟩

end Go.Proofs.Ytmfkdaannjibfaa
