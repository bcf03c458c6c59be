/-
  chunk.Chunk: Join.
-/
import Derived.Test.YtcdpbkhlkgefdaaChunkF
import Derived.Deep.RegionLaw
namespace Go.Proofs.Ytcdpbkhlkgefdaa
open Go.RowKit

theorem arr_info : (Try.prog.info? 24).map (·.size) = some 32 := by kernel_rfl

/-- The 32 runes of a box, read as one array. -/
theorem run_loadArr (w : World) (b : Nat) (l : List Int) (t : TypeId) (hl : l.length ≤ 32) (hg : w.heap[b]? = some (.cells (chC l).toArray t (0, 0))) :
    (loadVar 24 ⟨b, 0, none⟩).run Try.prog w = .ok (.agg ((chC l).take 32).toArray) w := by
  have hlen : ((chC l).take 32).length = 32 := by rw [List.length_take, chC_len l hl]; rfl
  have hl1 : (loadCells ⟨b, 0, none⟩ ((chC l).take 32).length).run Try.prog w = .ok ((chC l).take 32).toArray w :=
    run_loadCells_list (P := Try.prog) w ⟨b, 0, none⟩ ((chC l).take 32) (fun j v hv => by
      have hadd : (⟨b, 0, none⟩ : Addr).add j = ⟨b, j, none⟩ := by unfold Addr.add; split <;> simp_all
      rw [hadd, cell_of_row w b j _ _ _ hg, List.getElem?_toArray]
      rw [List.getElem?_take] at hv
      split at hv
      · exact hv
      · cases hv)
  rw [hlen] at hl1
  cases hq : Try.prog.info? 24 with
  | none => have := arr_info; rw [hq] at this; cases this
  | some i =>
    have hs : i.size = 32 := by have := arr_info; rw [hq] at this; simpa using this
    have hagg : (isAgg 24).run Try.prog w = .ok true w := by
      unfold isAgg
      rw [Sem.run_bind, run_underlying Try.underlying24 w]
      rfl
    simp [loadVar, Sem.run_bind, hagg, sizeOf, typeInfo, hq, hs, hl1]

theorem wpList_load_arr {ops : Array Oper} {rest : List Oper} {o : Oper} {a : Act} {w : World} {Q : Exit → Act → World → Prop} (hgd : o.guard = none) (x : Operand) (ho : o.op = .load 24 x)
    (b : Nat) (hx : a.eval x = .pointer (some ⟨b, 0, none⟩)) (l : List Int) (t : TypeId) (hl : l.length ≤ 32) (hg : w.heap[b]? = some (.cells (chC l).toArray t (0, 0)))
    (h : wpList Try.prog ops Q rest (a.put o.dst (.agg ((chC l).take 32).toArray)) w) : wpList Try.prog ops Q (o :: rest) a w :=
  wpList_plain hgd fun _ hK => by
    unfold Oper.wp execOp
    simp only [ho, hx, Instr.loadAt, Instr.sureAddr, Sem.run_bind, Sem.run_pure, Result.andThen_ok, run_loadArr w b l t hl hg]
    exact hK _ _ h

/-- Are all runes noughts? -/
def noughts (l : List Int) : Bool := (List.range 32).all fun j => rn l j == 0

theorem arr_zero : (Array.replicate 32 (Value.int .i32 0)) = #[.int .i32 0, .int .i32 0, .int .i32 0, .int .i32 0, .int .i32 0, .int .i32 0, .int .i32 0, .int .i32 0, .int .i32 0, .int .i32 0, .int .i32 0, .int .i32 0, .int .i32 0, .int .i32 0, .int .i32 0, .int .i32 0,
    .int .i32 0, .int .i32 0, .int .i32 0, .int .i32 0, .int .i32 0, .int .i32 0, .int .i32 0, .int .i32 0, .int .i32 0, .int .i32 0, .int .i32 0, .int .i32 0, .int .i32 0, .int .i32 0, .int .i32 0, .int .i32 0] := rfl

theorem run_eq_noughts (w : World) (l : List Int) (hl : l.length ≤ 32) :
    (Op.equalIn 10000 24 (.agg ((chC l).take 32).toArray) (.agg (Array.replicate 32 (.int .i32 0)))).run Try.prog w = .ok (noughts l) w := by
  obtain ⟨i0, ii0, _⟩ := info_parts r32_info
  exact run_eq_array w 9998 Try.underlying24 Try.underlying21 ii0 int32_cells _ _ (rn l) (fun _ => 0) (fun j hj => ⟨by
    rw [List.getElem?_toArray, List.getElem?_take, if_pos hj, chC_get l j hl hj]; rfl, by rw [Array.getElem?_replicate, if_pos hj]⟩)

theorem ch_join (l m : List Int) (h : l.length + m.length ≤ 32) : (splice (chC l) l.length (m.map r32)).toArray.setIfInBounds 32 (.int .i64 ((l.length : Int) + m.length)) = (chC (l ++ m)).toArray := by
  apply Array.ext'
  simp only [Array.toList_setIfInBounds]
  have h1 : splice (chC l) l.length (m.map r32) = (l ++ m).map r32 ++ List.replicate (32 - (l ++ m).length) (r32 0) ++ [.int .i64 (l.length : Int)] := by
    unfold splice chC
    rw [List.append_assoc, List.take_append_of_le_length (by simp), List.take_of_length_le (by simp), List.drop_append, List.drop_of_length_le (by simp), List.drop_append_of_le_length (by simp; omega)]
    simp only [List.length_map, List.nil_append, List.drop_replicate, List.map_append, List.append_assoc, List.length_append]
    congr 3
    congr 1
    omega
  rw [h1]
  unfold chC
  have h2 : ((l ++ m).map r32 ++ List.replicate (32 - (l ++ m).length) (r32 0)).length = 32 := by simp; omega
  rw [List.set_append_right _ _ (by omega), h2]
  simp

theorem splice_join (l m : List Int) (h : l.length + m.length ≤ 32) : splice (chC l) l.length (m.map r32) = (l ++ m).map r32 ++ List.replicate (32 - (l ++ m).length) (r32 0) ++ [.int .i64 (l.length : Int)] := by
  unfold splice chC
  rw [List.append_assoc, List.take_append_of_le_length (by simp), List.take_of_length_le (by simp), List.drop_append, List.drop_of_length_le (by simp), List.drop_append_of_le_length (by simp; omega)]
  simp only [List.length_map, List.nil_append, List.drop_replicate, List.map_append, List.append_assoc, List.length_append]
  congr 3
  congr 1
  omega

theorem join_last (l m : List Int) (h : l.length + m.length ≤ 32) : (splice (chC l) l.length (m.map r32)).toArray[32]? = some (.int .i64 (l.length : Int)) := by
  rw [List.getElem?_toArray, splice_join l m h]
  have h2 : ((l ++ m).map r32 ++ List.replicate (32 - (l ++ m).length) (r32 0)).length = 32 := by simp; omega
  rw [List.getElem?_append_right (by omega), h2]
  rfl

set_option maxRecDepth 100000 in
set_option maxHeartbeats 4000000 in
theorem join_long (l m : List Int) (w : World) (hl : l.length ≤ 32) (hm : m.length ≤ 32) (hlm : 32 < l.length + m.length) :
    Calls Try.prog 20 #[chV l, chV m] w fun e w' => e = .returned (.tuple #[chV [], .int .i64 8]) ∧ Below w.heap.size w w' := by
  unfold chV
  go_enter Try.func20, Try.ntmps20
  go_upto_region 1 with (fail)
  obtain ⟨b1, hb1⟩ : ∃ b1, w.heap.size + 1 = b1 := ⟨_, rfl⟩
  obtain ⟨b2, hb2⟩ : ∃ b2, b1 + 1 = b2 := ⟨_, rfl⟩
  obtain ⟨b0, hb0⟩ : ∃ b0, w.heap.size = b0 := ⟨_, rfl⟩
  obtain ⟨w1, hw1⟩ : ∃ w1, ((w.alloc (.cells (chC l).toArray 26)).alloc (.cells (chC m).toArray 26)).alloc (.cells (chC []).toArray 26) = w1 := ⟨_, rfl⟩
  rw [← ch_nil]
  rw [hw1, hb1, hb2, hb0]
  have q0 : w1.heap[b0]? = some (.cells (chC l).toArray 26) := by
    rw [← hw1]; simp only [heap_alloc_get, World.size_alloc, hb0]; repeat (first | rw [if_pos trivial] | rw [if_pos rfl] | rw [if_neg (by omega)])
  have q1 : w1.heap[b1]? = some (.cells (chC m).toArray 26) := by
    rw [← hw1]; simp only [heap_alloc_get, World.size_alloc, hb1]; repeat (first | rw [if_pos trivial] | rw [if_pos rfl] | rw [if_neg (by omega)])
  have q2 : w1.heap[b2]? = some (.cells (chC []).toArray 26) := by
    rw [← hw1]; simp only [heap_alloc_get, World.size_alloc, hb1, hb2]; repeat (first | rw [if_pos trivial] | rw [if_pos rfl] | rw [if_neg (by omega)])
  have hB1 : Below w.heap.size w w1 := by rw [← hw1]; exact (((Below.refl _ w).alloc (Nat.le_refl _) _).alloc (by simp) _).alloc (by simp; omega) _
  have H0 := Lib.hid q0
  have H1 := Lib.hid q1
  have H2 := Lib.hid q2
  have HB1 := Lib.hid hB1
  have HO1 := Lib.hid (show w.heap.size ≤ b0 ∧ b1 ≠ b0 ∧ b2 ≠ b0 ∧ b2 ≠ b1 ∧ w.heap.size ≤ b2 by omega)
  have hn0 : w1.cell? ⟨b0, 32, none⟩ = some (.int .i64 (l.length : Int)) := by rw [cell_of_row w1 b0 32 _ _ _ q0]; simpa using chC_n l hl
  have hn1 : w1.cell? ⟨b1, 32, none⟩ = some (.int .i64 (m.length : Int)) := by rw [cell_of_row w1 b1 32 _ _ _ q1]; simpa using chC_n m hm
  clear q0 q1 q2 hB1 hw1 hb0 hb1 hb2
  have hlI : (l.length : Int) ≤ 32 := by omega
  have hmI : (m.length : Int) ≤ 32 := by omega
  have hsI : (32 : Int) < l.length + m.length := by omega
  go_wp2_with (refine wpList_store_row rfl 26 (.tmp 4) (.tmp 12) rfl b2 (chC []).toArray rfl rfl 26 (chC []).toArray H2.out (ch_info [] (by decide)) rfl (all_one []) ?_)
  exact bodyPost_ret (v := .tuple #[.agg (chC []).toArray, .int .i64 8]) (results_ct rfl _ _ b2 _ (chC []).toArray (0, 0) _ _ rfl rfl (setRow_heap _ _ _ _ _ _ H2.out) Try.underlying26 rfl (ch_info [] (by decide))) rfl
    ⟨rfl, below_setRow HB1.out HO1.out.2.2.2.2 _⟩

set_option maxRecDepth 100000 in
set_option maxHeartbeats 4000000 in
theorem join_nil (m : List Int) (w : World) (hm : m.length ≤ 32) :
    Calls Try.prog 20 #[chV [], chV m] w fun e w' => e = .returned (.tuple #[chV m, .int .i64 0]) ∧ Below w.heap.size w w' := by
  obtain ⟨l, hl0⟩ : ∃ l : List Int, [] = l := ⟨_, rfl⟩
  have hl : l.length ≤ 32 := by rw [← hl0]; decide
  have hll : l.length = 0 := by rw [← hl0]; rfl
  rw [hl0]
  unfold chV
  go_enter Try.func20, Try.ntmps20
  go_upto_region 1 with (fail)
  obtain ⟨b1, hb1⟩ : ∃ b1, w.heap.size + 1 = b1 := ⟨_, rfl⟩
  obtain ⟨b2, hb2⟩ : ∃ b2, b1 + 1 = b2 := ⟨_, rfl⟩
  obtain ⟨b0, hb0⟩ : ∃ b0, w.heap.size = b0 := ⟨_, rfl⟩
  obtain ⟨w1, hw1⟩ : ∃ w1, ((w.alloc (.cells (chC l).toArray 26)).alloc (.cells (chC m).toArray 26)).alloc (.cells (chC []).toArray 26) = w1 := ⟨_, rfl⟩
  rw [← ch_nil]
  rw [hw1, hb1, hb2, hb0]
  have q0 : w1.heap[b0]? = some (.cells (chC l).toArray 26) := by
    rw [← hw1]; simp only [heap_alloc_get, World.size_alloc, hb0]; repeat (first | rw [if_pos trivial] | rw [if_pos rfl] | rw [if_neg (by omega)])
  have q1 : w1.heap[b1]? = some (.cells (chC m).toArray 26) := by
    rw [← hw1]; simp only [heap_alloc_get, World.size_alloc, hb1]; repeat (first | rw [if_pos trivial] | rw [if_pos rfl] | rw [if_neg (by omega)])
  have q2 : w1.heap[b2]? = some (.cells (chC []).toArray 26) := by
    rw [← hw1]; simp only [heap_alloc_get, World.size_alloc, hb1, hb2]; repeat (first | rw [if_pos trivial] | rw [if_pos rfl] | rw [if_neg (by omega)])
  have hB1 : Below w.heap.size w w1 := by rw [← hw1]; exact (((Below.refl _ w).alloc (Nat.le_refl _) _).alloc (by simp) _).alloc (by simp; omega) _
  have H0 := Lib.hid q0
  have H1 := Lib.hid q1
  have H2 := Lib.hid q2
  have HB1 := Lib.hid hB1
  have HO1 := Lib.hid (show w.heap.size ≤ b0 ∧ b1 ≠ b0 ∧ b2 ≠ b0 ∧ b2 ≠ b1 ∧ w.heap.size ≤ b2 by omega)
  have hn0 : w1.cell? ⟨b0, 32, none⟩ = some (.int .i64 (l.length : Int)) := by rw [cell_of_row w1 b0 32 _ _ _ q0]; simpa using chC_n l hl
  have hn1 : w1.cell? ⟨b1, 32, none⟩ = some (.int .i64 (m.length : Int)) := by rw [cell_of_row w1 b1 32 _ _ _ q1]; simpa using chC_n m hm
  clear q0 q1 q2 hB1 hw1 hb0 hb1 hb2
  have hmI : (m.length : Int) ≤ 32 := by omega
  rw [hll] at hn0
  have heq := run_eq_noughts w1 l hl
  rw [show noughts l = true by rw [← hl0]; decide, arr_zero] at heq
  have HS := Lib.hid (show (chC []).toArray.size = (chC m).toArray.size by rw [List.size_toArray, List.size_toArray, chC_len m hm]; rfl)
  clear hll hl0
  go_wp2_with (first
    | (refine wpList_load_arr rfl (.tmp 13) rfl b0 rfl l 26 hl H0.out ?_)
    | (refine wpList_load_row rfl 26 (.tmp 3) rfl b1 rfl 26 (chC m).toArray (0, 0) _ H1.out Try.underlying26 rfl (ch_info m hm) ?_)
    | (refine wpList_store_row rfl 26 (.tmp 4) (.tmp 22) rfl b2 (chC m).toArray rfl rfl 26 (chC []).toArray H2.out (ch_info m hm) HS.out (all_one m) ?_))
  exact bodyPost_ret (v := .tuple #[.agg (chC m).toArray, .int .i64 0]) (results_ct rfl _ _ b2 _ (chC m).toArray (0, 0) _ _ rfl rfl (setRow_heap _ _ _ _ _ _ H2.out) Try.underlying26 rfl (ch_info m hm)) rfl
    ⟨rfl, below_setRow HB1.out HO1.out.2.2.2.2 _⟩

theorem join_tail (l m : List Int) (hlm : l.length + m.length ≤ 32) {w w1 w2 : World} {b0 b1 b2 : Nat} (h2 : w1.heap[b2]? = some (.cells (chC []).toArray 26)) (hb : Below w.heap.size w w1)
    (ho : w.heap.size ≤ b0 ∧ b1 ≠ b0 ∧ b2 ≠ b0 ∧ b2 ≠ b1 ∧ w.heap.size ≤ b2) (hh : w2.heap[b0]? = some (.cells (splice (chC l) l.length (m.map r32)).toArray 26)) (hs : Step (fun k => k = b0) w1.drew w2 ∧ w2.heap.size = w1.drew.heap.size) :
    Hid ((w2.setCell ⟨b0, 32, none⟩ (.int .i64 ((l.length : Int) + m.length))).heap[b0]? = some (.cells (chC (l ++ m)).toArray 26)) ∧
    Hid ((w2.setCell ⟨b0, 32, none⟩ (.int .i64 ((l.length : Int) + m.length))).heap[b2]? = some (.cells (chC []).toArray 26)) ∧
    Hid ((chC []).toArray.size = (chC (l ++ m)).toArray.size) ∧ Hid (Below w.heap.size w (w2.setCell ⟨b0, 32, none⟩ (.int .i64 ((l.length : Int) + m.length)))) := by
  refine ⟨?_, ?_, ?_, ?_⟩
  · show _ = _
    rw [heap_setCell_same _ _ _ _ _ _ hh, ch_join l m hlm]
  · show _ = _
    rw [heap_setCell_other _ _ _ _ (by show b2 ≠ b0; omega)]
    exact (hs.1.block b2 (Array.getElem?_eq_some_iff.1 h2).1 (by show ¬ b2 = b0; omega)).trans h2
  · show _ = _
    rw [List.size_toArray, List.size_toArray, chC_len (l ++ m) (by rw [List.length_append]; exact hlm)]
    rfl
  · exact (hb.drew.trans (hs.1.below (B := w.heap.size) hb.size (fun k hk => by have hk : k = b0 := hk; omega))).setCell (p := ⟨b0, 32, none⟩) ho.1 _

set_option maxRecDepth 100000 in
set_option maxHeartbeats 4000000 in
theorem join_yes (l m : List Int) (w : World) (hl0 : 0 < l.length) (hlm : l.length + m.length ≤ 32) :
    Calls Try.prog 20 #[chV l, chV m] w fun e w' => e = .returned (.tuple #[chV (l ++ m), .int .i64 0]) ∧ Below w.heap.size w w' := by
  have hl : l.length ≤ 32 := by omega
  have hm : m.length ≤ 32 := by omega
  unfold chV
  go_enter Try.func20, Try.ntmps20
  go_upto_region 1 with (fail)
  obtain ⟨b1, hb1⟩ : ∃ b1, w.heap.size + 1 = b1 := ⟨_, rfl⟩
  obtain ⟨b2, hb2⟩ : ∃ b2, b1 + 1 = b2 := ⟨_, rfl⟩
  obtain ⟨b0, hb0⟩ : ∃ b0, w.heap.size = b0 := ⟨_, rfl⟩
  obtain ⟨w1, hw1⟩ : ∃ w1, ((w.alloc (.cells (chC l).toArray 26)).alloc (.cells (chC m).toArray 26)).alloc (.cells (chC []).toArray 26) = w1 := ⟨_, rfl⟩
  rw [← ch_nil]
  rw [hw1, hb1, hb2, hb0]
  have q0 : w1.heap[b0]? = some (.cells (chC l).toArray 26) := by
    rw [← hw1]; simp only [heap_alloc_get, World.size_alloc, hb0]; repeat (first | rw [if_pos trivial] | rw [if_pos rfl] | rw [if_neg (by omega)])
  have q1 : w1.heap[b1]? = some (.cells (chC m).toArray 26) := by
    rw [← hw1]; simp only [heap_alloc_get, World.size_alloc, hb1]; repeat (first | rw [if_pos trivial] | rw [if_pos rfl] | rw [if_neg (by omega)])
  have q2 : w1.heap[b2]? = some (.cells (chC []).toArray 26) := by
    rw [← hw1]; simp only [heap_alloc_get, World.size_alloc, hb1, hb2]; repeat (first | rw [if_pos trivial] | rw [if_pos rfl] | rw [if_neg (by omega)])
  have hB1 : Below w.heap.size w w1 := by rw [← hw1]; exact (((Below.refl _ w).alloc (Nat.le_refl _) _).alloc (by simp) _).alloc (by simp; omega) _
  have H0 := Lib.hid q0
  have H1 := Lib.hid q1
  have H2 := Lib.hid q2
  have HB1 := Lib.hid hB1
  have HO1 := Lib.hid (show w.heap.size ≤ b0 ∧ b1 ≠ b0 ∧ b2 ≠ b0 ∧ b2 ≠ b1 ∧ w.heap.size ≤ b2 by omega)
  have hn0 : w1.cell? ⟨b0, 32, none⟩ = some (.int .i64 (l.length : Int)) := by rw [cell_of_row w1 b0 32 _ _ _ q0]; simpa using chC_n l hl
  have hn1 : w1.cell? ⟨b1, 32, none⟩ = some (.int .i64 (m.length : Int)) := by rw [cell_of_row w1 b1 32 _ _ _ q1]; simpa using chC_n m hm
  clear q0 q1 q2 hB1 hw1 hb0 hb1 hb2
  have hlI : (l.length : Int) ≤ 32 := by omega
  have hl0I : (0 : Int) < l.length := by omega
  have hmI : (m.length : Int) ≤ 32 := by omega
  have hsI : (l.length : Int) + m.length ≤ 32 := by omega
  have hlm2 : (l ++ m).length ≤ 32 := by rw [List.length_append]; exact hlm
  have hl0b : ((l.length : Int) == 0) = false := beq_eq_false_iff_ne.2 (by omega)
  have heq := run_eq_noughts w1 l hl
  rw [arr_zero] at heq
  obtain ⟨nb, hnb⟩ : ∃ nb, noughts l = nb := ⟨_, rfl⟩
  rw [hnb] at heq
  clear hnb
  have SM := Lib.hid (sees_row H1.out hm)
  obtain ⟨AB, hAB⟩ : ∃ AB, (if 32 = l.length then (⟨b0, 0, none⟩ : Addr) else ⟨b0, l.length, none⟩) = AB := ⟨_, rfl⟩
  have HAB := Lib.hid (show l.length < 32 → (some AB : Option Addr) = some ⟨b0, l.length, none⟩ by
    intro h
    rw [← hAB, if_neg (by omega)])
  have hlt32 : (l.length : Int) ≤ 32 := by omega
  cases nb
  all_goals
    go_upto_region 5 with (refine wpList_load_arr rfl (.tmp 13) rfl b0 rfl l 26 hl H0.out ?_)
    have g1 : IntKind.i64.wrap (↑l.length + ↑m.length) = ↑l.length + ↑m.length := IntWalk.i64_in _ (by omega)
    go_region_law (
      refine of_if (by rfl) ?_
      refine oper_copy (.tmp 28) (.tmp 32) 22 22 rfl 21 Try.underlying22 i32_one _ _ (32 - l.length) (32 - l.length) m.length 32 rfl rfl b0 l.length (chC l) 26 H0.out (m.map r32)
        (by rw [List.length_map]; exact (Nat.min_eq_left (by omega)).symm) (fun hp => ⟨(HAB.out (by rw [List.length_map] at hp; omega)), copy_src (w := w1.drew) SM.out hp⟩) (by rw [List.length_map, chC_len l hl]; omega) (r32_one _) ?_
      intro w2 hh2 hb2
      have hn0' : w2.cell? ⟨b0, 32, none⟩ = some (.int .i64 l.length) := by rw [cell_of_row w2 _ 32 _ _ _ hh2.out]; exact join_last l m hlm
      have hf2 := frozen_of_row w2 _ 32 _ _ hh2.out
      have HB2 := Lib.hid hb2
      clear hb2)
  all_goals
    obtain ⟨F0, F2, F3, HB3⟩ := join_tail l m hlm H2.out HB1.out HO1.out hh2.out HB2.out
    clear hn0' hf2 g1
    go_wp2_with (first
      | (refine wpList_load_row rfl 26 (.tmp 2) rfl b0 rfl 26 (chC (l ++ m)).toArray (0, 0) _ F0.out Try.underlying26 rfl (ch_info _ hlm2) ?_)
      | (refine wpList_store_row rfl 26 (.tmp 4) (.tmp 36) rfl b2 (chC (l ++ m)).toArray rfl rfl 26 (chC []).toArray F2.out (ch_info _ hlm2) F3.out (all_one _) ?_))
    exact bodyPost_ret (v := .tuple #[.agg (chC (l ++ m)).toArray, .int .i64 0]) (results_ct rfl _ _ b2 _ (chC (l ++ m)).toArray (0, 0) _ _ rfl rfl (setRow_heap _ _ _ _ _ _ F2.out) Try.underlying26 rfl (ch_info _ hlm2)) rfl
      ⟨rfl, below_setRow HB3.out HO1.out.2.2.2.2 _⟩

theorem join_any (l m : List Int) (w : World) (hlm : l.length + m.length ≤ 32) :
    Calls Try.prog 20 #[chV l, chV m] w fun e w' => e = .returned (.tuple #[chV (l ++ m), .int .i64 0]) ∧ Below w.heap.size w w' := by
  cases l with
  | nil => exact join_nil m w (by simpa using hlm)
  | cons x l => exact join_yes (x :: l) m w (by simp) hlm

end Go.Proofs.Ytcdpbkhlkgefdaa
