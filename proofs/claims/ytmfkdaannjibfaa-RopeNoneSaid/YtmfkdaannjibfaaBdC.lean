/-
  Several texts in one: RoG, RkA, RkB, RkC, RkD, RkE, RkM, RkF.
-/
import Derived.Test.YtmfkdaannjibfaaRows
import Derived.BigQuiet
import Derived.Deep.QuietTactic
import Derived.Deep.DeepCutAuto
import Derived.Deep.CutRange
import Derived.Deep.CutBlock
import Derived.Laws.Tables
import Derived.Laws.CopyOwn
import Derived.ChangeKeysEq
import Derived.Test.YtmfkdaannjibfaaBdB

namespace Go.Proofs.Ytmfkdaannjibfaa
open Go.RowKit

/-- A local node: its cells. -/
structure NdAt (w : World) (b : Nat) (n : Nd) : Prop where
  blk : w.heap[b]? = some (.cells n.C.toArray 103)

section
variable {w w' : World} {b : Nat} {n : Nd}
theorem NdAt.lt (h : NdAt w b n) : b < w.heap.size := (Array.getElem?_eq_some_iff.1 h.blk).1
theorem NdAt.cL (h : NdAt w b n) : w.cell? ⟨b, 33, none⟩ = some (.int .i64 n.l) := by rw [cell_of_row w b _ _ _ _ h.blk]; simpa using n.C_l
theorem NdAt.cR (h : NdAt w b n) : w.cell? ⟨b, 34, none⟩ = some (.int .i64 n.r) := by rw [cell_of_row w b _ _ _ _ h.blk]; simpa using n.C_r
theorem NdAt.cH (h : NdAt w b n) : w.cell? ⟨b, 35, none⟩ = some (.int .i64 n.h) := by rw [cell_of_row w b _ _ _ _ h.blk]; simpa using n.C_h
theorem NdAt.cS (h : NdAt w b n) : w.cell? ⟨b, 36, none⟩ = some (.int .i64 n.sz) := by rw [cell_of_row w b _ _ _ _ h.blk]; simpa using n.C_sz
theorem NdAt.cM (h : NdAt w b n) : w.cell? ⟨b, 37, none⟩ = some (.int .i64 n.mk_) := by rw [cell_of_row w b _ _ _ _ h.blk]; simpa using n.C_mk
theorem NdAt.fz (h : NdAt w b n) (j : Nat) : w.frozen? ⟨b, j, none⟩ = false := frozen_of_row w b j _ _ h.blk
theorem NdAt.below (h : NdAt w b n) (hb : Below w.heap.size w w') : NdAt w' b n := ⟨heap_later h.blk hb⟩
theorem NdAt.step {G : Nat → Prop} (h : NdAt w b n) (hs : Step G w w') (hG : ¬ G b) : NdAt w' b n := ⟨(hs.block b h.lt hG).trans h.blk⟩
theorem NdAt.new (w : World) (n : Nd) : NdAt (w.alloc (.cells n.C.toArray 103)) w.heap.size n := ⟨heap_alloc_new w _⟩
theorem NdAt.x (h : NdAt w b n) : w.rangeAt b 0 n.x := fun j v hv => by
  have hj := (List.getElem?_eq_some_iff.1 hv).1
  rw [Nat.zero_add, cell_of_row w b j _ _ _ h.blk, List.getElem?_toArray, Nd.C_x n j (by rw [← n.hx]; exact hj)]
  exact hv

theorem Nd.set_C (n : Nd) (j : Nat) (v : Value) (n' : Nd) (hx : n'.x = n.x) (h : [Value.int .i64 n'.l, .int .i64 n'.r, .int .i64 n'.h, .int .i64 n'.sz, .int .i64 n'.mk_] = [Value.int .i64 n.l, .int .i64 n.r, .int .i64 n.h, .int .i64 n.sz, .int .i64 n.mk_].set j v) :
    n.C.toArray.setIfInBounds (33 + j) v = n'.C.toArray := by
  rw [List.setIfInBounds_toArray]
  congr 1
  unfold Nd.C
  rw [hx, h, List.set_append_right _ _ (by rw [n.hx]; omega), n.hx, Nat.add_sub_cancel_left]

/-- A field is written. -/
theorem NdAt.set (h : NdAt w b n) (j : Nat) (v : Value) (n' : Nd) (hx : n'.x = n.x) (hc : [Value.int .i64 n'.l, .int .i64 n'.r, .int .i64 n'.h, .int .i64 n'.sz, .int .i64 n'.mk_] = [Value.int .i64 n.l, .int .i64 n.r, .int .i64 n.h, .int .i64 n.sz, .int .i64 n.mk_].set j v) :
    NdAt (w.setCell ⟨b, 33 + j, none⟩ v) b n' := ⟨by rw [heap_setCell_same w b _ _ _ v h.blk, Nd.set_C n j v n' hx hc]⟩
end

theorem hS_nd {s : List (Option Nd)} {k : Nat} {n : Nd} (h : gt s k = some n) : hS s (k : Int) = n.h ∧ zS s (k : Int) = n.sz ∧ mS s (k : Int) = n.mk_ := by
  have e : look s (k : Int) = some n := by rw [look_nat]; exact h
  unfold hS zS mS
  rw [e]
  exact ⟨rfl, rfl, rfl⟩
theorem hS_none (s : List (Option Nd)) : hS s (-1) = 0 ∧ zS s (-1) = 0 ∧ mS s (-1) = 0 := by
  have e : look s (-1) = none := by simp [look]
  unfold hS zS mS
  rw [e]
  exact ⟨rfl, rfl, rfl⟩

set_option maxHeartbeats 1000000 in
theorem totals_any {w : World} {F : Nat → Prop} {gT gA : Nat} {root : Int} {s : List (Option Nd)} {fr : List Nat} (h : TreeW w F gT gA root s fr) {r : Int} (hr : okR s r) :
    Calls Try.prog 53 #[.pointer (some ⟨gT, 0, none⟩), .int .i64 r] w fun e w' => e = .returned (.tuple #[.int .i64 (hS s r), .int .i64 (zS s r), .int .i64 (mS s r)]) ∧ Below w.heap.size w w' := by
  rcases hr with rfl | ⟨k, n, rfl, hk⟩
  · rw [(hS_none s).1, (hS_none s).2.1, (hS_none s).2.2]
    go_enter Try.func53, Try.ntmps53
    go_wp2
    exact bodyPost_ret (results_tmp3 rfl _ _ _) rfl ⟨rfl, Below.refl _ _⟩
  · rw [(hS_nd hk).1, (hS_nd hk).2.1, (hS_nd hk).2.2]
    have HA := Lib.hid (at_any h hk)
    have hk1 : ((k : Int) == -1) = false := by simp
    unfold Nd.V at HA
    clear h hk
    go_enter Try.func53, Try.ntmps53
    go_wp2_with fail
    refine HA.out.mono ?_
    rintro e w1 ⟨rfl, hb1⟩
    obtain ⟨b, hb⟩ : ∃ b, w1.heap.size = b := ⟨_, rfl⟩
    obtain ⟨w2, hw2⟩ : ∃ v, w1.alloc (.cells n.C.toArray 103) = v := ⟨_, rfl⟩
    have hn : NdAt w2 b n := by rw [← hw2, ← hb]; exact NdAt.new w1 n
    have HB := Lib.hid (show Below w.heap.size w w2 by rw [← hw2]; exact hb1.alloc hb1.size _)
    have h1 := hn.cH
    have h2 := hn.cS
    have h3 := hn.cM
    have HE := Lib.hid (And.intro hw2 hb)
    clear hn hb1 hw2 hb
    go_wp2_with (refine wpList_store_row rfl 103 (.tmp 7) (.tmp 12) rfl w1.heap.size n.C.toArray rfl rfl 103 _ (heap_alloc_new w1 _) (nd_info n) (by simp [Nd.C_len]) (all_oneCell_toArray n.C_one) ?_; rw [alloc_setRow, HE.out.1, HE.out.2])
    go_quiet (fail)
    go_wp2_with fail
    exact bodyPost_ret (results_tmp3 rfl _ _ _) rfl ⟨rfl, below_drewN HB.out nq⟩

end Go.Proofs.Ytmfkdaannjibfaa

namespace Go.Proofs.Ytmfkdaannjibfaa
open Go.RowKit

def r32 (x : Int) : Value := .int .i32 x
/-- A chunk's cells: its runes, noughts behind them, how many there are. -/
def chC (l : List Int) : List Value := l.map r32 ++ List.replicate (32 - l.length) (r32 0) ++ [.int .i64 (l.length : Int)]
def chV (l : List Int) : Value := .agg (chC l).toArray

theorem chC_len (l : List Int) (h : l.length ≤ 32) : (chC l).length = 33 := by simp [chC]; omega
theorem chC_n (l : List Int) (h : l.length ≤ 32) : (chC l)[32]? = some (.int .i64 (l.length : Int)) := by
  unfold chC
  have h0 : (l.map r32 ++ List.replicate (32 - l.length) (r32 0)).length = 32 := by simp; omega
  rw [List.getElem?_append_right (by omega), h0]
  rfl
theorem chC_get (l : List Int) (j : Nat) (h : l.length ≤ 32) (hj : j < 32) : (chC l)[j]? = some (.int .i32 (l[j]?.getD 0)) := by
  unfold chC
  rw [List.getElem?_append_left (by simp; omega)]
  rcases Nat.lt_or_ge j l.length with h1 | h1
  · rw [List.getElem?_append_left (by simpa using h1)]
    simp [r32, h1]
  · rw [List.getElem?_append_right (by simpa using h1), List.getElem?_replicate, if_pos (by simp; omega), List.getElem?_eq_none h1]
    rfl
theorem chC_one (l : List Int) : ∀ v ∈ chC l, v.oneCell' = true := by
  intro v hv
  simp only [chC, List.mem_append, List.mem_map, List.mem_replicate, List.mem_singleton] at hv
  rcases hv with (⟨x, _, rfl⟩ | ⟨_, rfl⟩) | rfl <;> rfl

/-- A box with a chunk in it. -/
theorem box_cell (w : World) (l : List Int) (t : TypeId) (j : Nat) : (w.alloc (.cells (chC l).toArray t)).cell? ⟨w.heap.size, j, none⟩ = (chC l)[j]? := by
  rw [cell_of_row _ w.heap.size j _ _ _ (heap_alloc_new w _)]
  simp

set_option maxRecDepth 100000 in
set_option maxHeartbeats 1000000 in
theorem len_any (l : List Int) (w : World) (hl : l.length ≤ 32) :
    Calls Try.prog 47 #[chV l] w fun e w' => e = .returned (.int .i64 l.length) ∧ Below w.heap.size w w' := by
  have hn := chC_n l hl
  unfold chV
  go_enter Try.func47, Try.ntmps47
  go_wp2_with fail
  go_ret
  exact ⟨rfl, (Below.refl _ _).alloc (Nat.le_refl _) _⟩

set_option maxRecDepth 100000 in
set_option maxHeartbeats 1000000 in
theorem at_yes (l : List Int) (i : Nat) (x : Int) (w : World) (hl : l.length ≤ 32) (hi : i < l.length) (hx : l[i]? = some x) :
    Calls Try.prog 38 #[chV l, .int .i64 i] w fun e w' => e = .returned (.tuple #[.int .i32 x, .int .i64 0]) ∧ Below w.heap.size w w' := by
  have hn := chC_n l hl
  have hg := chC_get l i hl (by omega)
  rw [hx] at hg
  have hg : (chC l)[i]? = some (.int .i32 x) := hg
  have hiI : (i : Int) < l.length := by omega
  have hi32 : (i : Int) < 32 := by omega
  have hi32' : i < 32 := by omega
  unfold chV
  clear hx
  go_enter Try.func38, Try.ntmps38
  go_wp2_with fail
  go_ret2
  exact ⟨rfl, (Below.refl _ _).alloc (Nat.le_refl _) _⟩

set_option maxRecDepth 100000 in
set_option maxHeartbeats 1000000 in
theorem at_no (l : List Int) (i : Int) (w : World) (hl : l.length ≤ 32) (hi : i < 0 ∨ (l.length : Int) ≤ i) :
    Calls Try.prog 38 #[chV l, .int .i64 i] w fun e w' => e = .returned (.tuple #[.int .i32 0, .int .i64 5]) ∧ Below w.heap.size w w' := by
  have hn := chC_n l hl
  unfold chV
  have hh : i < 0 ∨ (¬ i < 0 ∧ (l.length : Int) ≤ i) := by omega
  clear hi
  rcases hh with hi | ⟨hi, hi2⟩
  all_goals
    go_enter Try.func38, Try.ntmps38
    go_wp2_with fail
    go_ret2
    exact ⟨rfl, (Below.refl _ _).alloc (Nat.le_refl _) _⟩

theorem take_min {α : Type} (l : List α) (i m : Nat) (h : min i l.length = m) : l.take i = l.take m := by
  subst h
  rcases Nat.le_total i l.length with h | h
  · rw [Nat.min_eq_left h]
  · rw [Nat.min_eq_right h, List.take_of_length_le h, List.take_of_length_le (Nat.le_refl _)]

/-- The newlines among the first k. -/
def nls (l : List Int) : Int := (l.count 10 : Nat)

theorem nls_le (l : List Int) : 0 ≤ nls l ∧ nls l ≤ l.length := by
  unfold nls
  have := List.count_le_length (a := (10 : Int)) (l := l)
  omega

theorem nls_snoc (l : List Int) (k : Nat) (x : Int) (h : l[k]? = some x) : nls (l.take (k + 1)) = nls (l.take k) + if x = 10 then 1 else 0 := by
  obtain ⟨hk, he⟩ := List.getElem?_eq_some_iff.1 h
  unfold nls
  rw [List.take_succ_eq_append_getElem hk, he, List.count_append, List.count_singleton]
  by_cases hx : x = 10
  · simp [hx]
  · simp [hx]

set_option maxRecDepth 100000 in
set_option maxHeartbeats 1000000 in
theorem ahead_any (l : List Int) (i : Int) (w : World) (hl : l.length ≤ 32) (hi : -9223372036854775808 ≤ i) :
    Calls Try.prog 36 #[chV l, .int .i64 i] w fun e w' => e = .returned (.int .i64 (nls (l.take i.toNat))) ∧ Below w.heap.size w w' := by
  have hn := chC_n l hl
  have hlI : (l.length : Int) ≤ 32 := by omega
  unfold chV
  go_enter Try.func36, Try.ntmps36
  go_upto_region 1 with (fail)
  go_cut [10, 11] from 6 to 10 (fun v10 v11 wx => v11 = .int .i64 0 ∧ v10 = .int .i64 (min i.toNat l.length : Nat) ∧ wx = w.alloc (.cells (chC l).toArray 58))
  case first =>
    go_wp2_with fail
    all_goals
      go_meet
      case rel =>
        refine ⟨rfl, ?_, rfl⟩
        congr 1
        omega
  case rest =>
    obtain ⟨rfl, rfl, rfl⟩ := hcut
    obtain ⟨m, hm⟩ : ∃ m : Nat, min i.toNat l.length = m := ⟨_, rfl⟩
    rw [hm]
    have hml : m ≤ l.length := by omega
    have HM := Lib.hid (take_min l i.toNat m hm)
    have hmI : (m : Int) ≤ 32 := by omega
    clear hm
    go_wp2_with fail
    go_loop [4, 11] (fun c k => ∃ j : Nat, j ≤ m ∧ k = .int .i64 j ∧ c = .int .i64 (nls (l.take j))) (fun _ k => m - (intOf k).toNat)
    case atStart => exact ⟨0, Nat.zero_le _, rfl, rfl⟩
    case round =>
      obtain ⟨j, hj, rfl, rfl⟩ := hrel
      by_cases hlt : j < m
      · obtain ⟨x, hx⟩ : ∃ x, l[j]? = some x := ⟨_, List.getElem?_eq_getElem (by omega)⟩
        have hg := chC_get l j hl (by omega)
        rw [hx] at hg
        replace hg : (chC l)[j]? = some (.int .i32 x) := hg
        have hs := nls_snoc l j x hx
        have HS := Lib.hid hs
        have hb := nls_le (l.take j)
        have hb2 : ((l.take j).length : Int) ≤ 32 := by rw [List.length_take]; omega
        have hjI : (j : Int) < m := by omega
        have hj32 : (j : Int) < 32 := by omega
        have hj32' : j < 32 := by omega
        clear hs hx
        by_cases hx10 : x = 10
        · have e1 : (x == 10) = true := by simp [hx10]
          rw [if_pos hx10] at HS
          clear hx10
          go_wp2_with fail
          go_round
          case rel => exact ⟨j + 1, by omega, by go_num, by rw [HS.out]⟩
          case measure => simp [intOf]; omega
        · have e1 : (x == 10) = false := by simp [hx10]
          rw [if_neg hx10] at HS
          clear hx10
          go_wp2_with fail
          go_round
          case rel => exact ⟨j + 1, by omega, by go_num, by rw [HS.out, Int.add_zero]⟩
          case measure => simp [intOf]; omega
      · obtain rfl : j = m := by omega
        go_wp2_with fail
        go_ret
        exact ⟨by rw [HM.out]; rfl, (Below.refl _ _).alloc (Nat.le_refl _) _⟩

end Go.Proofs.Ytmfkdaannjibfaa

namespace Go.Proofs.Ytmfkdaannjibfaa
open Go.RowKit

theorem ch_info (l : List Int) (hl : l.length ≤ 32) : (Try.prog.info? 58).map (·.size) = some (chC l).toArray.size := by
  rw [List.size_toArray, chC_len l hl]
  kernel_rfl

set_option maxRecDepth 100000 in
set_option maxHeartbeats 1000000 in
theorem newlines_any (l : List Int) (w : World) (hl : l.length ≤ 32) :
    Calls Try.prog 48 #[chV l] w fun e w' => e = .returned (.int .i64 (nls l)) ∧ Below w.heap.size w w' := by
  have hn := chC_n l hl
  have hi := ch_info l hl
  have HA := Lib.hid (ahead_any l (l.length : Int) (w.alloc (.cells (chC l).toArray 58)) hl (by omega))
  unfold chV at HA ⊢
  go_enter Try.func48, Try.ntmps48
  go_wp2_with (refine wpList_load_row rfl 58 _ rfl w.heap.size rfl 58 (chC l).toArray (0, 0) _ (heap_alloc_new w _) Try.underlying58 rfl hi ?_)
  refine HA.out.mono ?_
  rintro e w' ⟨rfl, hb⟩
  rw [Int.toNat_natCast, List.take_length]
  go_wp2_with fail
  go_ret
  exact ⟨rfl, ((Below.refl _ _).alloc (Nat.le_refl _) _).trans (hb.mono (by simp))⟩

/-- Where the k-th newline is, places told from i on. -/
def nlGo : List Int → Int → Nat → Option Nat
  | [], _, _ => none
  | x :: r, k, i => if x = 10 then (if k = 0 then some i else nlGo r (k - 1) (i + 1)) else nlGo r k (i + 1)
def nlV : Option Nat → Value
  | some i => .tuple #[.int .i64 (i : Int), .bool true]
  | none => .tuple #[.int .i64 0, .bool false]

theorem nlGo_drop (l : List Int) (j : Nat) (x k : Int) (h : l[j]? = some x) : nlGo (l.drop j) k j = if x = 10 then (if k = 0 then some j else nlGo (l.drop (j + 1)) (k - 1) (j + 1)) else nlGo (l.drop (j + 1)) k (j + 1) := by
  obtain ⟨hj, he⟩ := List.getElem?_eq_some_iff.1 h
  rw [List.drop_eq_getElem_cons hj, he, nlGo]

set_option maxRecDepth 100000 in
set_option maxHeartbeats 2000000 in
theorem newlineAt_any (l : List Int) (k : Int) (w : World) (hl : l.length ≤ 32) (hk0 : -1000000000 ≤ k) (hk1 : k ≤ 1000000000) :
    Calls Try.prog 34 #[chV l, .int .i64 k] w fun e w' => e = .returned (nlV (nlGo l k 0)) ∧ Below w.heap.size w w' := by
  have hn := chC_n l hl
  have hlI : (l.length : Int) ≤ 32 := by omega
  unfold chV
  go_enter Try.func34, Try.ntmps34
  go_wp2_with fail
  go_loop [1, 9] (fun v1 v9 => ∃ (j : Nat) (q : Int), j ≤ l.length ∧ v9 = .int .i64 j ∧ v1 = .int .i64 q ∧ nlGo (l.drop j) q j = nlGo l k 0 ∧ k - j ≤ q ∧ q ≤ k) (fun _ v9 => l.length - (intOf v9).toNat)
  case atStart => exact ⟨0, k, Nat.zero_le _, rfl, rfl, rfl, by omega, by omega⟩
  case round =>
    obtain ⟨j, q, hj, rfl, rfl, he, hq0, hq1⟩ := hrel
    by_cases hlt : j < l.length
    · obtain ⟨x, hx⟩ : ∃ x, l[j]? = some x := ⟨_, List.getElem?_eq_getElem hlt⟩
      have hg := chC_get l j hl (by omega)
      rw [hx] at hg
      replace hg : (chC l)[j]? = some (.int .i32 x) := hg
      rw [nlGo_drop l j x q hx] at he
      have hjI : (j : Int) < l.length := by omega
      have hj32 : (j : Int) < 32 := by omega
      have hj32' : j < 32 := by omega
      clear hx
      by_cases hx10 : x = 10
      · rw [if_pos hx10] at he
        have e1 : (x != 10) = false := by simp [hx10]
        by_cases hq : q = 0
        · rw [if_pos hq] at he
          have e2 : (q == 0) = true := by simp [hq]
          have HE := Lib.hid he
          clear he hx10 hq
          go_wp2_with fail
          go_ret2
          exact ⟨by rw [← HE.out]; rfl, (Below.refl _ _).alloc (Nat.le_refl _) _⟩
        · rw [if_neg hq] at he
          have e2 : (q == 0) = false := by simp [hq]
          have HE := Lib.hid he
          clear he hx10 hq
          go_wp2_with fail
          go_round
          case rel => exact ⟨j + 1, q - 1, by omega, by go_num, rfl, HE.out, by omega, by omega⟩
          case measure => simp [intOf]; omega
      · rw [if_neg hx10] at he
        have e1 : (x != 10) = true := by simp [hx10]
        have HE := Lib.hid he
        clear he hx10
        go_wp2_with fail
        go_round
        case rel => exact ⟨j + 1, q, by omega, by go_num, rfl, HE.out, by omega, by omega⟩
        case measure => simp [intOf]; omega
    · obtain rfl : j = l.length := by omega
      have HE := Lib.hid he
      clear he
      go_wp2_with fail
      go_ret2
      exact ⟨by rw [← HE.out, List.drop_length]; rfl, (Below.refl _ _).alloc (Nat.le_refl _) _⟩

end Go.Proofs.Ytmfkdaannjibfaa

namespace Go.Proofs.Ytmfkdaannjibfaa
open Go.RowKit

theorem r32_info : (Try.prog.info? 21).map (fun i => (i.zero, i.size, i.bytes)) = some (some (.int .i32 0), 1, 4) := by kernel_rfl

theorem r32_one (l : List Int) : ∀ u ∈ l.map r32, u.oneCell' = true := by
  intro u hu
  obtain ⟨_, _, rfl⟩ := List.mem_map.1 hu
  rfl

theorem own_none (w : World) (e : TypeId) : (w.alloc (.cells #[] e)).ownsRow w.heap.size e 1 (.slice (some ⟨w.heap.size, 0, none⟩) 0 0) 0 [] :=
  ⟨rfl, .inr ⟨w.heap.size, 0, #[], rfl, Nat.le_refl _, heap_alloc_new w _, Nat.le_refl _, Nat.zero_le _, rfl, rfl⟩⟩

theorem below_zero {w w' : World} {e : TypeId} (hg : (w.alloc (.cells #[] e)).grownBy w' (Value.slice (some ⟨w.heap.size, 0, none⟩) 0 0).ownBlock) : Below w.heap.size w w' :=
  ((Below.refl _ w).alloc (Nat.le_refl _) _).grown hg (by simp) (fun k e => by have := Option.some.inj e; exact Nat.le_of_eq this)

set_option maxRecDepth 100000 in
set_option maxHeartbeats 1000000 in
theorem clone_some (a : Addr) (n c B : Nat) (l : List Int) (w : World) (hs : Sees w B 1 (some a) n (l.map r32)) (hB : B ≤ w.heap.size) (hn : n ≤ 1000000) :
    Calls Try.prog 70 #[.slice (some a) n c] w fun e w' => ∃ v, e = .returned v ∧ w'.ownsRow w.heap.size 21 1 v n (l.map r32) ∧ Below w.heap.size w w' := by
  obtain ⟨i0, ii0, iz0, iz1, iz2⟩ := info_parts r32_info
  have hnI : (n : Int) ≤ 1000000 := by omega
  have he := Lib.run_eql_slice_nil (P := Try.prog) w 26 21 (some a) n c 0 0 Try.underlying26
  go_enter Try.func70, Try.ntmps70
  go_wp2_with (
    at_builtin
    refine wpList_append_sees _ rfl _ _ _ rfl w.heap.size 21 i0 _ 1 4 Try.underlying26 ii0 iz0 iz1 iz2 rfl (by omega) _ 0 [] rfl
      (own_none w 21) B _ n _ _ rfl (hs.alloc hB _) (r32_one l) (by simp only [maxLen]; omega) (by omega) (by simp) ?_
    intro v1 w1 hown1 hg1 hat1 hnil1
    rw [Nat.zero_add, List.nil_append] at hown1
    have hb1 := below_zero hg1
    clear hg1 hat1 hnil1)
  go_ret
  exact ⟨_, rfl, hown1, hb1⟩

/-- The runes of a box. -/
theorem box_sees (w : World) (l : List Int) (t : TypeId) (hl : l.length ≤ 32) : Sees (w.alloc (.cells (chC l).toArray t)) (w.heap.size + 1) 1 (some ⟨w.heap.size, 0, none⟩) l.length (l.map r32) := by
  refine ⟨by simp, fun _ => ⟨w.heap.size, 0, rfl, by omega, fun j u hu => ?_⟩⟩
  rw [Nat.zero_add, box_cell]
  have hj : j < l.length := by have := (List.getElem?_eq_some_iff.1 hu).1; simpa using this
  rw [chC_get l j hl (by omega)]
  rw [← hu]
  simp [r32, hj]

set_option maxRecDepth 100000 in
set_option maxHeartbeats 1000000 in
theorem runes_any (l : List Int) (w : World) (hl : l.length ≤ 32) :
    Calls Try.prog 40 #[chV l] w fun e w' => ∃ v, e = .returned v ∧ w'.ownsRow w.heap.size 21 1 v l.length (l.map r32) ∧ Below w.heap.size w w' := by
  have hn := chC_n l hl
  have hlI : (l.length : Int) ≤ 32 := by omega
  have HC := Lib.hid (clone_some ⟨w.heap.size, 0, none⟩ l.length 32 (w.heap.size + 1) l (w.alloc (.cells (chC l).toArray 58)) (box_sees w l _ hl) (by simp) (by omega))
  unfold chV
  go_enter Try.func40, Try.ntmps40
  go_wp2_with fail
  refine HC.out.mono ?_
  rintro e w1 ⟨v, rfl, ho, hb⟩
  go_wp2_with fail
  go_ret
  exact ⟨_, rfl, own_lower ho (by simp), ((Below.refl _ _).alloc (Nat.le_refl _) _).trans (hb.mono (by simp))⟩

end Go.Proofs.Ytmfkdaannjibfaa

namespace Go.Proofs.Ytmfkdaannjibfaa
open Go.RowKit

/-- Is a number a code point? -/
def codeB (r : Int) : Bool := decide (0 ≤ r ∧ r ≤ 1114111 ∧ (r < 55296 ∨ 57343 < r))

set_option maxHeartbeats 1000000 in
theorem code_any (r : Int) (w : World) : Calls Try.prog 66 #[.int .i32 r] w fun e w' => e = .returned (.bool (codeB r)) ∧ w = w' := by
  have h : (codeB r = false ∧ ¬ 0 ≤ r) ∨ (codeB r = false ∧ 0 ≤ r ∧ ¬ r ≤ 1114111) ∨ (codeB r = true ∧ 0 ≤ r ∧ r ≤ 1114111 ∧ r < 55296) ∨ (codeB r = true ∧ 0 ≤ r ∧ r ≤ 1114111 ∧ ¬ r < 55296 ∧ 57343 < r) ∨ (codeB r = false ∧ 0 ≤ r ∧ r ≤ 1114111 ∧ ¬ r < 55296 ∧ ¬ 57343 < r) := by
    simp only [codeB, decide_eq_true_eq, decide_eq_false_iff_not]
    omega
  rcases h with ⟨hc, h1⟩ | ⟨hc, h1, h2⟩ | ⟨hc, h1, h2, h3⟩ | ⟨hc, h1, h2, h3, h4⟩ | ⟨hc, h1, h2, h3, h4⟩
  all_goals
    rw [hc]
    clear hc
    go_enter Try.func66, Try.ntmps66
    go_wp2_with fail
    go_ret
    exact ⟨rfl, rfl⟩

set_option maxHeartbeats 1000000 in
theorem bad_any (r : Int) (w : World) (b : Bool) (hb : codeB r = !b) : Calls Try.prog 65 #[.int .i32 r] w fun e w' => e = .returned (.bool b) ∧ w = w' := by
  have H := code_any r w
  rw [hb] at H
  have H := Lib.hid H
  clear hb
  cases b
  all_goals
    go_enter Try.func65, Try.ntmps65
    go_wp2_with fail
    refine H.out.mono ?_
    rintro e w' ⟨rfl, rfl⟩
    go_wp2_with fail
    go_ret
    exact ⟨rfl, rfl⟩

/-- The place of the first that is none; -1. -/
def badAt : List Int → Nat → Int
  | [], _ => -1
  | x :: l, i => if codeB x then badAt l (i + 1) else i

theorem badAt_drop (l : List Int) (j : Nat) (x : Int) (h : l[j]? = some x) : badAt (l.drop j) j = if codeB x then badAt (l.drop (j + 1)) (j + 1) else j := by
  obtain ⟨hj, he⟩ := List.getElem?_eq_some_iff.1 h
  rw [List.drop_eq_getElem_cons hj, he, badAt]

theorem badAt_neg (l : List Int) : ∀ i, (badAt l i < 0 ↔ ∀ x ∈ l, codeB x = true) := by
  induction l with
  | nil => intro i; simp [badAt]
  | cons x l ih =>
    intro i
    unfold badAt
    cases hx : codeB x
    · simp [hx]
    · simp [hx, ih]

set_option maxRecDepth 100000 in
set_option maxHeartbeats 2000000 in
theorem index_any (A : Option Addr) (n c B : Nat) (l : List Int) (w : World) (hs : Sees w B 1 A n (l.map r32)) (hn : (n : Int) ≤ 9223372036854775807) :
    Calls Try.prog 77 #[.slice A n c, .func (.func 65) #[] #[]] w fun e w' => e = .returned (.int .i64 (badAt l 0)) ∧ w = w' := by
  have hl : l.length = n := by have := hs.1; simp at this; omega
  have HL := Lib.hid hl
  clear hl
  go_enter Try.func77, Try.ntmps77
  go_wp2_with fail
  go_loop [8] (fun v8 => ∃ j : Nat, j ≤ n ∧ v8 = .int .i64 j ∧ badAt (l.drop j) j = badAt l 0) (fun v8 => n - (intOf v8).toNat)
  case atStart => exact ⟨0, Nat.zero_le _, rfl, rfl⟩
  case round =>
    obtain ⟨j, hj, rfl, he⟩ := hrel
    by_cases hlt : j < n
    · obtain ⟨b, o, rfl, hb, hcell⟩ := hs.2 (by omega)
      obtain ⟨x, hx⟩ : ∃ x, l[j]? = some x := ⟨_, List.getElem?_eq_getElem (by have := HL.out; omega)⟩
      have hcx := hcell j (.int .i32 x) (by simp [hx, r32])
      rw [badAt_drop l j x hx] at he
      have hjI : (j : Int) < n := by omega
      clear hcell hx hs
      cases hcb : codeB x with
      | true =>
        rw [if_pos hcb] at he
        have HB := Lib.hid (bad_any x w false (by rw [hcb]; rfl))
        have HE := Lib.hid he
        clear he hcb
        go_wp2_with fail
        refine HB.out.mono ?_
        rintro e w' ⟨rfl, rfl⟩
        go_wp2_with fail
        go_round
        case rel => exact ⟨j + 1, by omega, by go_num, HE.out⟩
        case measure => simp [intOf]; omega
      | false =>
        rw [if_neg (by rw [hcb]; decide)] at he
        have HB := Lib.hid (bad_any x w true (by rw [hcb]; rfl))
        have HE := Lib.hid he
        clear he hcb
        go_wp2_with fail
        refine HB.out.mono ?_
        rintro e w' ⟨rfl, rfl⟩
        go_wp2_with fail
        go_ret
        exact ⟨by rw [← HE.out]; rfl, rfl⟩
    · obtain rfl : j = n := by omega
      have HE := Lib.hid he
      clear he
      go_wp2_with fail
      go_ret
      exact ⟨by rw [← HE.out, List.drop_of_length_le (by have := HL.out; omega)]; rfl, rfl⟩

theorem contains_any (A : Option Addr) (n c B : Nat) (l : List Int) (w : World) (hs : Sees w B 1 A n (l.map r32)) (hn : (n : Int) ≤ 9223372036854775807) (b : Bool) (hb : (b = false ∧ badAt l 0 < 0) ∨ (b = true ∧ 0 ≤ badAt l 0)) :
    Calls Try.prog 64 #[.slice A n c, .func (.func 65) #[] #[]] w fun e w' => e = .returned (.bool b) ∧ w = w' := by
  have H := Lib.hid (index_any A n c B l w hs hn)
  clear hs hn
  rcases hb with ⟨rfl, hb⟩ | ⟨rfl, hb⟩
  all_goals
    go_enter Try.func64, Try.ntmps64
    go_wp2_with fail
    refine H.out.mono ?_
    rintro e w' ⟨rfl, rfl⟩
    go_wp2_with fail
    go_ret
    exact ⟨by simp [hb]; try omega, rfl⟩

theorem ch_nil : (chC []).toArray = #[.int .i32 0, .int .i32 0, .int .i32 0, .int .i32 0, .int .i32 0, .int .i32 0, .int .i32 0, .int .i32 0, .int .i32 0, .int .i32 0, .int .i32 0, .int .i32 0, .int .i32 0, .int .i32 0, .int .i32 0, .int .i32 0,
    .int .i32 0, .int .i32 0, .int .i32 0, .int .i32 0, .int .i32 0, .int .i32 0, .int .i32 0, .int .i32 0, .int .i32 0, .int .i32 0, .int .i32 0, .int .i32 0, .int .i32 0, .int .i32 0, .int .i32 0, .int .i32 0, .int .i64 0] := rfl

theorem all_one (l : List Int) : (chC l).toArray.all (·.oneCell') = true := by
  rw [Array.all_eq_true_iff_forall_mem]
  intro v hv
  exact chC_one l v (by simpa using hv)

set_option maxRecDepth 100000 in
set_option maxHeartbeats 2000000 in
theorem of_bad (A : Option Addr) (n c B : Nat) (l : List Int) (w : World) (hs : Sees w B 1 A n (l.map r32)) (hB : B ≤ w.heap.size) (hn : (n : Int) ≤ 9223372036854775807) (hb : 0 ≤ badAt l 0) :
    Calls Try.prog 30 #[.slice A n c] w fun e w' => e = .returned (.tuple #[chV [], .int .i64 3]) ∧ Below w.heap.size w w' := by
  go_enter Try.func30, Try.ntmps30
  go_wp2_with fail
  rw [← ch_nil]
  obtain ⟨w1, hw1⟩ : ∃ w1, w.alloc (.cells (chC []).toArray 58) = w1 := ⟨_, rfl⟩
  have hg1 : w1.heap[w.heap.size]? = some (.cells (chC []).toArray 58) := by rw [← hw1]; exact heap_alloc_new w _
  have hb1 : Below w.heap.size w w1 := by rw [← hw1]; exact (Below.refl _ _).alloc (Nat.le_refl _) _
  have H := contains_any A n c B l w1 (hs.below hb1 hB) hn true (.inr ⟨rfl, hb⟩)
  rw [hw1]
  have HB1 := Lib.hid hb1
  have HG := Lib.hid hg1
  clear hw1 hg1 hb1 hs hn hb
  refine H.mono ?_
  rintro e w' ⟨rfl, rfl⟩
  go_wp2_with (refine wpList_store_row rfl 58 (.tmp 2) (.tmp 8) rfl w.heap.size (chC []).toArray rfl rfl 58 (chC []).toArray HG.out (ch_info [] (by decide)) rfl (all_one []) ?_)
  exact bodyPost_ret (v := .tuple #[chV [], .int .i64 3]) (results_ct rfl _ _ w.heap.size _ (chC []).toArray (0, 0) _ _ rfl rfl (setRow_heap _ _ _ _ _ _ HG.out) Try.underlying58 rfl (ch_info [] (by decide))) rfl
    ⟨rfl, _root_.Go.below_setRow HB1.out (Nat.le_refl _) _⟩

set_option maxRecDepth 100000 in
set_option maxHeartbeats 2000000 in
theorem of_long (A : Option Addr) (n c B : Nat) (l : List Int) (w : World) (hs : Sees w B 1 A n (l.map r32)) (hB : B ≤ w.heap.size) (hn : (n : Int) ≤ 9223372036854775807) (hb : badAt l 0 < 0) (h32 : (32 : Int) < n) :
    Calls Try.prog 30 #[.slice A n c] w fun e w' => e = .returned (.tuple #[chV [], .int .i64 8]) ∧ Below w.heap.size w w' := by
  go_enter Try.func30, Try.ntmps30
  go_wp2_with fail
  rw [← ch_nil]
  obtain ⟨w1, hw1⟩ : ∃ w1, w.alloc (.cells (chC []).toArray 58) = w1 := ⟨_, rfl⟩
  have hg1 : w1.heap[w.heap.size]? = some (.cells (chC []).toArray 58) := by rw [← hw1]; exact heap_alloc_new w _
  have hb1 : Below w.heap.size w w1 := by rw [← hw1]; exact (Below.refl _ _).alloc (Nat.le_refl _) _
  have H := contains_any A n c B l w1 (hs.below hb1 hB) hn false (.inl ⟨rfl, hb⟩)
  rw [hw1]
  have HB1 := Lib.hid hb1
  have HG := Lib.hid hg1
  clear hw1 hg1 hb1 hs hb
  refine H.mono ?_
  rintro e w' ⟨rfl, rfl⟩
  go_wp2_with (refine wpList_store_row rfl 58 (.tmp 2) (.tmp 13) rfl w.heap.size (chC []).toArray rfl rfl 58 (chC []).toArray HG.out (ch_info [] (by decide)) rfl (all_one []) ?_)
  exact bodyPost_ret (v := .tuple #[chV [], .int .i64 8]) (results_ct rfl _ _ w.heap.size _ (chC []).toArray (0, 0) _ _ rfl rfl (setRow_heap _ _ _ _ _ _ HG.out) Try.underlying58 rfl (ch_info [] (by decide))) rfl
    ⟨rfl, _root_.Go.below_setRow HB1.out (Nat.le_refl _) _⟩

theorem splice_eq (l : List Int) (hl : l.length ≤ 32) : splice (chC []) 0 (l.map r32) = l.map r32 ++ List.replicate (32 - l.length) (r32 0) ++ [.int .i64 0] := by
  unfold splice chC
  simp only [List.map_nil, List.nil_append, List.length_nil, Nat.sub_zero, List.take_zero, Nat.zero_add, List.length_map]
  rw [List.drop_append_of_le_length (by simp; omega), List.drop_replicate]
  simp

theorem ch_copy (l : List Int) (hl : l.length ≤ 32) : (splice (chC []) 0 (l.map r32)).toArray.setIfInBounds 32 (.int .i64 (l.length : Int)) = (chC l).toArray := by
  apply Array.ext'
  simp only [Array.toList_setIfInBounds]
  rw [splice_eq l hl]
  unfold chC
  have h2 : (l.map r32 ++ List.replicate (32 - l.length) (r32 0)).length = 32 := by simp; omega
  rw [List.set_append_right _ _ (by omega), h2]
  rfl

theorem splice_last (l : List Int) (hl : l.length ≤ 32) : (splice (chC []) 0 (l.map r32)).toArray[32]? = some (.int .i64 0) := by
  rw [List.getElem?_toArray, splice_eq l hl]
  have h2 : (l.map r32 ++ List.replicate (32 - l.length) (r32 0)).length = 32 := by simp; omega
  rw [List.getElem?_append_right (by omega), h2]
  rfl

theorem copy_src {w : World} {B n : Nat} {A : Option Addr} {xs : List Value} (hs : Sees w B 1 A n xs) (hp : 0 < xs.length) : ∃ ad, A = some ad ∧ ∀ j v, xs[j]? = some v → w.cell? (ad.add j) = some v := by
  obtain ⟨b, o, rfl, _, hc⟩ := hs.2 (by have := hs.1; omega)
  exact ⟨_, rfl, fun j v hv => by rw [Addr.add_lit]; exact hc j v hv⟩

theorem i32_one : (Try.prog.info? 21).map (·.size) = some 1 := by kernel_rfl

set_option maxRecDepth 100000 in
set_option maxHeartbeats 2000000 in
theorem of_ok (A : Option Addr) (n c B : Nat) (l : List Int) (w : World) (hs : Sees w B 1 A n (l.map r32)) (hB : B ≤ w.heap.size) (hb : badAt l 0 < 0) (h32 : n ≤ 32) :
    Calls Try.prog 30 #[.slice A n c] w fun e w' => e = .returned (.tuple #[chV l, .int .i64 0]) ∧ Below w.heap.size w w' := by
  have hnl : l.length = n := by have := hs.1; simp at this; omega
  have hnI : (n : Int) ≤ 32 := by omega
  have HL := Lib.hid hnl
  have hl32 : l.length ≤ 32 := by omega
  clear hnl
  go_enter Try.func30, Try.ntmps30
  go_wp2_with fail
  rw [← ch_nil]
  obtain ⟨w1, hw1⟩ : ∃ w1, w.alloc (.cells (chC []).toArray 58) = w1 := ⟨_, rfl⟩
  have hg1 : w1.heap[w.heap.size]? = some (.cells (chC []).toArray 58) := by rw [← hw1]; exact heap_alloc_new w _
  have hb1 : Below w.heap.size w w1 := by rw [← hw1]; exact (Below.refl _ _).alloc (Nat.le_refl _) _
  have hsz : w1.heap.size = w.heap.size + 1 := by rw [← hw1]; simp
  have hs1 := hs.below hb1 hB
  have H := contains_any A n c B l w1 hs1 (by omega) false (.inl ⟨rfl, hb⟩)
  rw [hw1]
  have HB1 := Lib.hid hb1
  have HG := Lib.hid hg1
  have HZ := Lib.hid hsz
  have HS := Lib.hid (hs1.alloc (o := .cells (chC []).toArray 58) (by omega))
  clear hw1 hg1 hb1 hs hb hs1 hsz
  refine H.mono ?_
  rintro e w' ⟨rfl, rfl⟩
  go_wp2_with (first
    | (refine wpList_copy_splice rfl (.tmp 15) (.tmp 16) 26 26 rfl 21 Try.underlying26 i32_one _ _ 32 32 n c rfl rfl w1.heap.size 0 (chC []) 58 (heap_alloc_new w1 _) (l.map r32)
        (by rw [List.length_map, HL.out]; exact (Nat.min_eq_left h32).symm) (fun hp => ⟨rfl, copy_src HS.out hp⟩) (by rw [List.length_map, HL.out, chC_len [] (by decide)]; omega) (r32_one l) w1.heap.size w1 ((Below.refl _ w1).alloc (Nat.le_refl _) _) (Nat.le_refl _) ?_
       intro w2 hh hb2
       have hc2 : w2.cell? ⟨w1.heap.size, 32, none⟩ = some (.int .i64 0) := by
         rw [cell_of_row w2 _ 32 _ _ _ hh.out]
         exact splice_last l (by rw [HL.out]; exact h32)
       have hf2 := frozen_of_row w2 _ 32 _ _ hh.out
       have HH2 := Lib.hid (show (w2.setCell ⟨w1.heap.size, 32, none⟩ (.int .i64 (l.length : Int))).heap[w1.heap.size]? = some (.cells (chC l).toArray 58) by
         rw [heap_setCell_same _ _ _ _ _ _ hh.out, ch_copy l hl32])
       have HG2 := Lib.hid (show (w2.setCell ⟨w1.heap.size, 32, none⟩ (.int .i64 (l.length : Int))).heap[w.heap.size]? = some (.cells (chC []).toArray 58) by
         rw [heap_setCell_other _ _ _ _ (by have := HZ.out; show w.heap.size ≠ w1.heap.size; omega), hb2.block _ (by have := HZ.out; omega)]
         exact HG.out)
       have HB2 := Lib.hid hb2
       clear hb2)
    | (refine wpList_load_row rfl 58 (.tmp 4) rfl w1.heap.size rfl 58 (chC l).toArray (0, 0) _ HH2.out Try.underlying58 rfl (ch_info l hl32) ?_)
    | (refine wpList_store_row rfl 58 (.tmp 2) (.tmp 19) rfl w.heap.size (chC l).toArray rfl rfl 58 (chC []).toArray HG2.out (ch_info l hl32) (by rw [List.size_toArray, List.size_toArray, chC_len l hl32]; rfl) (all_one l) ?_))
  exact bodyPost_ret (v := .tuple #[chV l, .int .i64 0]) (results_ct rfl _ _ w.heap.size _ (chC l).toArray (0, 0) _ _ rfl rfl (setRow_heap _ _ _ _ _ _ HG2.out) Try.underlying58 rfl (ch_info l hl32)) rfl
    ⟨rfl, _root_.Go.below_setRow ((HB1.out.trans (HB2.out.mono (by have := HZ.out; omega))).setCell (p := ⟨w1.heap.size, 32, none⟩) (by have := HZ.out; show w.heap.size ≤ w1.heap.size; omega) _) (Nat.le_refl _) _⟩

end Go.Proofs.Ytmfkdaannjibfaa

namespace Go.Proofs.Ytmfkdaannjibfaa
open Go.RowKit

theorem oper_copy {P : Program} {o : Oper} {a : Act} {w : World} {K : Act → World → Prop} {Q : Exit → Act → World → Prop} (d s : Operand) (dT sT : TypeId)
    (ho : o.op = .call { callee := .builtin .copy, args := #[d, s], argTypes := #[dT, sT] }) (elem : TypeId) (hu : P.underlying dT = some (.slice elem)) (hsz : (P.info? elem).map (·.size) = some 1)
    (dp sp : Option Addr) (dLen dCap sLen sCap : Nat) (hd : a.eval d = .slice dp dLen dCap) (hs : a.eval s = .slice sp sLen sCap)
    (g off : Nat) (cur : List Value) (t : TypeId) (hg : w.heap[g]? = some (.cells cur.toArray t (0, 0))) (cs : List Value) (hn : cs.length = Nat.min sLen dLen)
    (hpos : 0 < cs.length → dp = some ⟨g, off, none⟩ ∧ ∃ ad, sp = some ad ∧ ∀ j v, cs[j]? = some v → w.cell? (ad.add j) = some v)
    (hfit : off + cs.length ≤ cur.length) (h1 : ∀ v ∈ cs, v.oneCell' = true)
    (h : ∀ w', Hid (w'.heap[g]? = some (.cells (splice cur off cs).toArray t (0, 0))) → Step (fun k => k = g) w w' ∧ w'.heap.size = w.heap.size → K (a.put o.dst (goInt cs.length)) w') : Oper.wp P o a w K Q := by
  by_cases h0 : cs.length = 0
  · obtain rfl : cs = [] := List.eq_nil_of_length_eq_zero h0
    have hrun := run_copy_none (P := P) w dT sT o.type elem dp sp dLen dCap sLen sCap hu hsz (by simpa using hn.symm)
    unfold Oper.wp
    simp only [execOp, ho, resolve, invoke, builtin, Sem.run_bind, Sem.run_pure, Result.andThen_ok, List.map_toArray, List.map_cons, List.map_nil, hd, hs, hrun]
    exact h w (show _ = _ by simpa [splice] using hg) ⟨Step.refl _ _, rfl⟩
  · obtain ⟨rfl, ad, rfl, hsrc⟩ := hpos (by omega)
    have hrun := run_copy_row (P := P) w dT sT o.type elem g off dLen dCap ad sLen sCap cur.toArray t cs hu hsz hg hn hsrc (by simpa using hfit) h1
    unfold Oper.wp
    simp only [execOp, ho, resolve, invoke, builtin, Sem.run_bind, Sem.run_pure, Result.andThen_ok, List.map_toArray, List.map_cons, List.map_nil, hd, hs, hrun]
    exact h _ (show _ = _ by simpa [splice] using setRow_heap w g _ _ t _ hg) ⟨⟨rfl, rfl, rfl, by simp [World.setRow], fun k _ hk => setRow_other w g k _ hk⟩, by simp [World.setRow]⟩

theorem results_cct {P : Program} {fn : Func} {p p2 q : Tmp} {ty : TypeId} (h : fn.results = #[.cell p ty, .cell p2 ty, .tmp q]) (tmps : Array Value) (w : World) (g g2 : Nat) (t t2 : TypeId) (cs cs2 : Array Value) (fr fr2 : Nat × Nat) (d : TypeDesc) (x : Value)
    (hp : tmps.getD p undef = .pointer (some ⟨g, 0, none⟩)) (hp2 : tmps.getD p2 undef = .pointer (some ⟨g2, 0, none⟩)) (hq : tmps.getD q undef = x) (hg : w.heap[g]? = some (.cells cs t fr)) (hg2 : w.heap[g2]? = some (.cells cs2 t2 fr2))
    (hu : P.underlying ty = some d) (hd : (match d with | .struct _ | .array _ _ => true | _ => false) = true) (hi : (P.info? ty).map (·.size) = some cs.size) (hi2 : (P.info? ty).map (·.size) = some cs2.size) :
    (results fn tmps).run P w = .ok (.tuple #[.agg cs, .agg cs2, x]) w := by
  have hp' : tmps[p]?.getD undef = .pointer (some ⟨g, 0, none⟩) := by simpa using hp
  have hp2' : tmps[p2]?.getD undef = .pointer (some ⟨g2, 0, none⟩) := by simpa using hp2
  have hq' : tmps[q]?.getD undef = x := by simpa using hq
  simp [results, h, hp', hp2', hq', asAddr, run_loadVar_row w g t ty cs fr d hg hu hd hi, run_loadVar_row w g2 t2 ty cs2 fr2 d hg2 hu hd hi2]

theorem sees_row {w : World} {b : Nat} {l : List Int} {t : TypeId} (h : w.heap[b]? = some (.cells (chC l).toArray t (0, 0))) (hl : l.length ≤ 32) : Sees w (b + 1) 1 (some ⟨b, 0, none⟩) l.length (l.map r32) := by
  refine ⟨by simp, fun _ => ⟨b, 0, rfl, by omega, fun j u hu => ?_⟩⟩
  have hj : j < l.length := by have := (List.getElem?_eq_some_iff.1 hu).1; simpa using this
  rw [Nat.zero_add, cell_of_row w b j _ _ _ h, List.getElem?_toArray, chC_get l j hl (by omega), ← hu]
  simp [r32, hj]

set_option maxRecDepth 100000 in
set_option maxHeartbeats 4000000 in
theorem split_yes (l : List Int) (i : Nat) (w : World) (hl : l.length ≤ 32) (hil : i ≤ l.length) :
    Calls Try.prog 50 #[chV l, .int .i64 i] w fun e w' => e = .returned (.tuple #[chV (l.take i), chV (l.drop i), .int .i64 0]) ∧ Below w.heap.size w w' := by
  have hn := chC_n l hl
  have hiI : (i : Int) ≤ l.length := by omega
  have hi32 : i ≤ 32 := by omega
  have hi32I : (i : Int) ≤ 32 := by omega
  have hlI : (l.length : Int) ≤ 32 := by omega
  unfold chV
  go_enter Try.func50, Try.ntmps50
  go_wp2_with fail
  rw [← ch_nil]
  obtain ⟨b1, hb1⟩ : ∃ b1, w.heap.size + 1 = b1 := ⟨_, rfl⟩
  obtain ⟨b2, hb2⟩ : ∃ b2, b1 + 1 = b2 := ⟨_, rfl⟩
  obtain ⟨b0, hb0⟩ : ∃ b0, w.heap.size = b0 := ⟨_, rfl⟩
  obtain ⟨w1, hw1⟩ : ∃ w1, ((w.alloc (.cells (chC l).toArray 58)).alloc (.cells (chC []).toArray 58)).alloc (.cells (chC []).toArray 58) = w1 := ⟨_, rfl⟩
  rw [hw1, hb1, hb2, hb0]
  have q0 : w1.heap[b0]? = some (.cells (chC l).toArray 58) := by
    rw [← hw1]; simp only [heap_alloc_get, World.size_alloc, hb0]; repeat (first | rw [if_pos trivial] | rw [if_pos rfl] | rw [if_neg (by omega)])
  have q1 : w1.heap[b1]? = some (.cells (chC []).toArray 58) := by
    rw [← hw1]; simp only [heap_alloc_get, World.size_alloc, hb1]; repeat (first | rw [if_pos trivial] | rw [if_pos rfl] | rw [if_neg (by omega)])
  have q2 : w1.heap[b2]? = some (.cells (chC []).toArray 58) := by
    rw [← hw1]; simp only [heap_alloc_get, World.size_alloc, hb1, hb2]; repeat (first | rw [if_pos trivial] | rw [if_pos rfl] | rw [if_neg (by omega)])
  have hB1 : Below w.heap.size w w1 := by rw [← hw1]; exact (((Below.refl _ w).alloc (Nat.le_refl _) _).alloc (by simp) _).alloc (by simp; omega) _
  have H0 := Lib.hid q0
  have H1 := Lib.hid q1
  have H2 := Lib.hid q2
  have HB1 := Lib.hid hB1
  have HO1 := Lib.hid (show w.heap.size ≤ b1 ∧ b1 ≠ b0 ∧ b2 ≠ b0 ∧ b2 ≠ b1 ∧ w.heap.size ≤ b2 by omega)
  have SA := Lib.hid (by have := (sees_row q0 hl).prefix_ hil; rwa [← List.map_take] at this : Sees w1 (b0 + 1) 1 (some ⟨b0, 0, none⟩) i ((l.take i).map r32))
  clear q0 q1 q2 hB1 hw1 hb0 hb1 hb2 hn
  refine wp_region_held_drew (S := fun _ => True) (by kernel_rfl) trivial (fun hHeld => ?_)
  try dsimp only at hHeld
  refine take_at (i := 0) (v := ?_) (some 17) rfl rfl (by kernel_rfl) (by kernel_rfl) (by kernel_rfl) (fun _ _ _ h => h) hHeld (by rfl) (fun wS hSw => ?_) ?_
  rotate_left
  · try dsimp only at hSw
    go_simp
    try with_reducible rfl
  try simp only [Act.put, List.setIfInBounds_toArray, List.set_cons_zero, List.set_cons_succ]
  refine take_at (i := 1) (v := ?_) (some 18) rfl rfl (by kernel_rfl) (by kernel_rfl) (by kernel_rfl) (fun _ _ _ h => h) hHeld (by rfl) (fun wS hSw => ?_) ?_
  rotate_left
  · try dsimp only at hSw
    go_simp
    try with_reducible rfl
  try simp only [Act.put, List.setIfInBounds_toArray, List.set_cons_zero, List.set_cons_succ]
  refine take_at (i := 2) (v := ?_) (some 19) rfl rfl (by kernel_rfl) (by kernel_rfl) (by kernel_rfl) (fun _ _ _ h => h) hHeld (by rfl) (fun wS hSw => ?_) ?_
  rotate_left
  · try dsimp only at hSw
    go_simp
    try with_reducible rfl
  try simp only [Act.put, List.setIfInBounds_toArray, List.set_cons_zero, List.set_cons_succ]
  refine take_at (i := 3) (v := ?_) (some 20) rfl rfl (by kernel_rfl) (by kernel_rfl) (by kernel_rfl) (fun _ _ _ h => h) hHeld (by rfl) (fun wS hSw => ?_) ?_
  rotate_left
  · try dsimp only at hSw
    go_simp
    try with_reducible rfl
  try simp only [Act.put, List.setIfInBounds_toArray, List.set_cons_zero, List.set_cons_succ]
  refine take_at (i := 4) (v := ?_) (some 21) rfl rfl (by kernel_rfl) (by kernel_rfl) (by kernel_rfl) (fun _ _ _ h => h) hHeld (by rfl) (fun wS hSw => ?_) ?_
  rotate_left
  · try dsimp only at hSw
    go_simp
    try with_reducible rfl
  try simp only [Act.put, List.setIfInBounds_toArray, List.set_cons_zero, List.set_cons_succ]
  refine wpAnyH_ready (rs := [5]) (by kernel_rfl) (by simp) ?_
  refine AllReadyH.cons rfl (fun K hK => ?_) AllReadyH.nil
  simp only [List.getElem_toArray, List.getElem_cons_succ, List.getElem_cons_zero]
  refine of_if (by rfl) ?_
  refine oper_copy (.tmp 18) (.tmp 21) 26 26 rfl 21 Try.underlying26 i32_one _ _ 32 32 i 32 rfl rfl b1 0 (chC []) 58 H1.out ((l.take i).map r32)
    (by rw [List.length_map, List.length_take, Nat.min_eq_left hil]; exact (Nat.min_eq_left hi32).symm) (fun hp => ⟨rfl, copy_src (w := w1.drew) SA.out hp⟩) (by rw [List.length_map, List.length_take, chC_len [] (by decide)]; omega) (r32_one _) ?_
  intro w2 hh2 hb2
  have hl1 : (l.take i).length ≤ 32 := by rw [List.length_take]; omega
  have hc2 : w2.cell? ⟨b1, 32, none⟩ = some (.int .i64 0) := by rw [cell_of_row w2 _ 32 _ _ _ hh2.out]; exact splice_last _ hl1
  have hf2 := frozen_of_row w2 _ 32 _ _ hh2.out
  have HB2 := Lib.hid hb2
  clear hb2
  have hOld := hHeld
  refine hK.out _ _ trivial (fun _ => ?_)
  clear hK K
  refine wpAnyH_mono (S2 := fun _ => True) (fun _ h => h) _ _ _ _ ?_
  clear hHeld
  have hHeld := trivial
  clear hOld
  try simp only [Act.put, List.setIfInBounds_toArray, List.set_cons_zero, List.set_cons_succ]
  refine take_at (i := 6) (v := ?_) (some 23) rfl rfl (by kernel_rfl) (by kernel_rfl) (by kernel_rfl) (fun _ _ _ h => h) hHeld (by rfl) (fun wS hSw => ?_) ?_
  rotate_left
  · try dsimp only at hSw
    go_simp
    try with_reducible rfl
  try simp only [Act.put, List.setIfInBounds_toArray, List.set_cons_zero, List.set_cons_succ]
  refine wpAnyH_ready (rs := [7]) (by kernel_rfl) (by simp) ?_
  refine AllReadyH.cons rfl (fun K hK => ?_) AllReadyH.nil
  simp only [List.getElem_toArray, List.getElem_cons_succ, List.getElem_cons_zero]
  go_simp
  try dsimp only
  have hOld := hHeld
  refine hK.out _ _ trivial (fun _ => ?_)
  clear hK K
  refine wpAnyH_mono (S2 := fun _ => True) (fun _ h => h) _ _ _ _ ?_
  clear hHeld
  have hHeld := trivial
  clear hOld
  try simp only [Act.put, List.setIfInBounds_toArray, List.set_cons_zero, List.set_cons_succ]
  refine wpAnyH_done (by kernel_rfl) ?_ _
  obtain ⟨w3, hw3⟩ : ∃ w3, w2.setCell ⟨b1, 32, none⟩ (.int .i64 (i : Int)) = w3 := ⟨_, rfl⟩
  have hz : (l.take i).length = i := by rw [List.length_take]; omega
  have G1 := Lib.hid (show w3.heap[b1]? = some (.cells (chC (l.take i)).toArray 58) by
    have := heap_setCell_same w2 b1 32 _ _ (.int .i64 ((l.take i).length : Int)) hh2.out
    rw [ch_copy _ hl1, hz] at this
    rw [← hw3]; exact this)
  have G0 := Lib.hid (show w3.heap[b0]? = some (.cells (chC l).toArray 58) by
    rw [← hw3, heap_setCell_other _ _ _ _ (by have := HO1.out; show b0 ≠ b1; omega)]
    exact (HB2.out.1.block b0 (Array.getElem?_eq_some_iff.1 H0.out).1 (by have := HO1.out; show ¬ b0 = b1; omega)).trans H0.out)
  have G2 := Lib.hid (show w3.heap[b2]? = some (.cells (chC []).toArray 58) by
    rw [← hw3, heap_setCell_other _ _ _ _ (by have := HO1.out; show b2 ≠ b1; omega)]
    exact (HB2.out.1.block b2 (Array.getElem?_eq_some_iff.1 H2.out).1 (by have := HO1.out; show ¬ b2 = b1; omega)).trans H2.out)
  have HB3 := Lib.hid (show Below w.heap.size w w3 by
    rw [← hw3]
    exact (HB1.out.drew.trans (HB2.out.1.below (B := w.heap.size) HB1.out.size (fun k hk => by have := HO1.out; have hk : k = b1 := hk; omega))).setCell (p := ⟨b1, 32, none⟩) HO1.out.1 _)
  have hn3 : w3.drew.cell? ⟨b0, 32, none⟩ = some (.int .i64 (l.length : Int)) := by
    show w3.cell? _ = _
    rw [cell_of_row w3 b0 32 _ _ _ G0.out]
    simpa using chC_n l hl
  have SB := Lib.hid (by have := (sees_row G0.out hl).cut (k := i) (cap := 32) hil hl; rwa [← List.map_drop] at this : Sees w3 (b0 + 1) 1 (if 32 = i then some ⟨b0, 0, none⟩ else (some (⟨b0, 0, none⟩ : Addr)).map (·.add i)) (l.length - i) ((l.drop i).map r32))
  obtain ⟨AB, hAB⟩ : ∃ AB, (if 32 = i then (⟨b0, 0, none⟩ : Addr) else ⟨b0, i, none⟩) = AB := ⟨_, rfl⟩
  have SB := Lib.hid (show Sees w3 (b0 + 1) 1 (some AB) (l.length - i) ((l.drop i).map r32) by
    have := SB.out
    rw [show (if 32 = i then some (⟨b0, 0, none⟩ : Addr) else (some (⟨b0, 0, none⟩ : Addr)).map (·.add i)) = some AB by rw [← hAB]; split <;> simp [Addr.add_lit]] at this
    exact this)
  rw [hw3]
  clear hc2 hf2 hh2 hw3 hHeld
  go_wp2_with fail
  refine wp_region_held_drew (S := fun w' => w'.cell? ⟨b0, 32, none⟩ = some (.int .i64 l.length)) (by kernel_rfl) hn3 (fun hHeld => ?_)
  try dsimp only at hHeld
  refine take_at (i := 0) (v := ?_) (some 24) rfl rfl (by kernel_rfl) (by kernel_rfl) (by kernel_rfl) (fun _ _ _ h => h) hHeld (by rfl) (fun wS hSw => ?_) ?_
  rotate_left
  · try dsimp only at hSw
    go_simp
    try with_reducible rfl
  try simp only [Act.put, List.setIfInBounds_toArray, List.set_cons_zero, List.set_cons_succ]
  refine take_at (i := 1) (v := ?_) (some 25) rfl rfl (by kernel_rfl) (by kernel_rfl) (by kernel_rfl) (fun _ _ _ h => h) hHeld (by rfl) (fun wS hSw => ?_) ?_
  rotate_left
  · try dsimp only at hSw
    go_simp
    try with_reducible rfl
  try simp only [Act.put, List.setIfInBounds_toArray, List.set_cons_zero, List.set_cons_succ]
  refine take_at (i := 2) (v := ?_) (some 26) rfl rfl (by kernel_rfl) (by kernel_rfl) (by kernel_rfl) (fun _ _ _ h => h) hHeld (by rfl) (fun wS hSw => ?_) ?_
  rotate_left
  · try dsimp only at hSw
    go_simp
    try with_reducible rfl
  try simp only [Act.put, List.setIfInBounds_toArray, List.set_cons_zero, List.set_cons_succ]
  refine take_at (i := 3) (v := ?_) (some 27) rfl rfl (by kernel_rfl) (by kernel_rfl) (by kernel_rfl) (fun _ _ _ h => h) hHeld (by rfl) (fun wS hSw => ?_) ?_
  rotate_left
  · try dsimp only at hSw
    go_simp
    try with_reducible rfl
  try simp only [Act.put, List.setIfInBounds_toArray, List.set_cons_zero, List.set_cons_succ]
  refine take_at (i := 4) (v := ?_) (some 28) rfl rfl (by kernel_rfl) (by kernel_rfl) (by kernel_rfl) (fun _ _ _ h => h) hHeld (by rfl) (fun wS hSw => ?_) ?_
  rotate_left
  · try dsimp only at hSw
    go_simp
    try with_reducible rfl
  try simp only [Act.put, List.setIfInBounds_toArray, List.set_cons_zero, List.set_cons_succ]
  refine take_at (i := 5) (v := ?_) (some 29) rfl rfl (by kernel_rfl) (by kernel_rfl) (by kernel_rfl) (fun _ _ _ h => h) hHeld (by rfl) (fun wS hSw => ?_) ?_
  rotate_left
  · try dsimp only at hSw
    go_simp
    try with_reducible rfl
  try simp only [Act.put, List.setIfInBounds_toArray, List.set_cons_zero, List.set_cons_succ]
  refine take_at (i := 6) (v := ?_) (some 30) rfl rfl (by kernel_rfl) (by kernel_rfl) (by kernel_rfl) (fun _ _ _ h => h) hHeld (by rfl) (fun wS hSw => ?_) ?_
  rotate_left
  · try dsimp only at hSw
    go_simp
    try with_reducible rfl
  try simp only [Act.put, List.setIfInBounds_toArray, List.set_cons_zero, List.set_cons_succ]
  refine wpAnyH_ready (rs := [7]) (by kernel_rfl) (by simp) ?_
  refine AllReadyH.cons rfl (fun K hK => ?_) AllReadyH.nil
  simp only [List.getElem_toArray, List.getElem_cons_succ, List.getElem_cons_zero]
  refine of_if (by rfl) ?_
  refine oper_copy (.tmp 25) (.tmp 30) 26 26 rfl 21 Try.underlying26 i32_one _ _ 32 32 (l.length - i) (32 - i) rfl rfl b2 0 (chC []) 58 G2.out ((l.drop i).map r32)
    (by rw [List.length_map, List.length_drop]; exact (Nat.min_eq_left (by omega)).symm) (fun hp => ⟨rfl, copy_src (w := w3.drew) SB.out hp⟩) (by rw [List.length_map, List.length_drop, chC_len [] (by decide)]; omega) (r32_one _) ?_
  intro w4 hh4 hb4
  have hl2 : (l.drop i).length ≤ 32 := by rw [List.length_drop]; omega
  have hc4 : w4.cell? ⟨b2, 32, none⟩ = some (.int .i64 0) := by rw [cell_of_row w4 _ 32 _ _ _ hh4.out]; exact splice_last _ hl2
  have hf4 := frozen_of_row w4 _ 32 _ _ hh4.out
  have HB4 := Lib.hid hb4
  have hn4 : w4.cell? ⟨b0, 32, none⟩ = some (.int .i64 l.length) := (World.cell?_of_block (w := w3.drew) (a := ⟨b0, 32, none⟩) (hb4.1.block b0 (Array.getElem?_eq_some_iff.1 G0.out).1 (by have := HO1.out; show b0 ≠ b2; omega))).trans hn3
  have hcn : ∀ u, (w4.setCell ⟨b2, 32, none⟩ u).cell? ⟨b0, 32, none⟩ = some (.int .i64 l.length) := fun u => (World.cell?_setCell_other _ _ _ _ (by intro e; injection e with e1; have := HO1.out; omega)).trans hn4
  clear hb4
  have hOld := hHeld
  refine hK.out _ _ hn4 (fun _ => ?_)
  clear hK K
  refine wpAnyH_mono (S2 := fun w' => w'.cell? ⟨b0, 32, none⟩ = some (.int .i64 l.length)) (fun _ h => h) _ _ _ _ ?_
  clear hHeld
  have hHeld := hn4
  clear hOld
  try simp only [Act.put, List.setIfInBounds_toArray, List.set_cons_zero, List.set_cons_succ]
  refine take_at (i := 8) (v := ?_) (some 32) rfl rfl (by kernel_rfl) (by kernel_rfl) (by kernel_rfl) (fun _ _ _ h => h) hHeld (by rfl) (fun wS hSw => ?_) ?_
  rotate_left
  · try dsimp only at hSw
    go_simp
    try with_reducible rfl
  try simp only [Act.put, List.setIfInBounds_toArray, List.set_cons_zero, List.set_cons_succ]
  refine wpAnyH_ready (rs := [9]) (by kernel_rfl) (by simp) ?_
  refine AllReadyH.cons rfl (fun K hK => ?_) AllReadyH.nil
  simp only [List.getElem_toArray, List.getElem_cons_succ, List.getElem_cons_zero]
  go_simp
  try dsimp only
  have hOld := hHeld
  refine hK.out _ _ (hcn _) (fun _ => ?_)
  clear hK K
  refine wpAnyH_mono (S2 := fun w' => w'.cell? ⟨b0, 32, none⟩ = some (.int .i64 l.length)) (fun _ h => h) _ _ _ _ ?_
  clear hHeld
  have hHeld := hOld
  clear hOld
  try simp only [Act.put, List.setIfInBounds_toArray, List.set_cons_zero, List.set_cons_succ]
  refine wpAnyH_done (by kernel_rfl) ?_ _
  obtain ⟨w5, hw5⟩ : ∃ w5, w4.setCell ⟨b2, 32, none⟩ (.int .i64 ((l.length - i : Nat) : Int)) = w5 := ⟨_, rfl⟩
  have hz2 : (l.drop i).length = l.length - i := List.length_drop
  have F2 := Lib.hid (show w5.heap[b2]? = some (.cells (chC (l.drop i)).toArray 58) by
    have := heap_setCell_same w4 b2 32 _ _ (.int .i64 ((l.drop i).length : Int)) hh4.out
    rw [ch_copy _ hl2, hz2] at this
    rw [← hw5]; exact this)
  have F1 := Lib.hid (show w5.heap[b1]? = some (.cells (chC (l.take i)).toArray 58) by
    rw [← hw5, heap_setCell_other _ _ _ _ (by have := HO1.out; show b1 ≠ b2; omega)]
    exact (HB4.out.1.block b1 (Array.getElem?_eq_some_iff.1 G1.out).1 (by have := HO1.out; show ¬ b1 = b2; omega)).trans G1.out)
  have HB5 := Lib.hid (show Below w.heap.size w w5 by
    rw [← hw5]
    exact (HB3.out.drew.trans (HB4.out.1.below (B := w.heap.size) HB3.out.size (fun k hk => by have := HO1.out; have hk : k = b2 := hk; omega))).setCell (p := ⟨b2, 32, none⟩) HO1.out.2.2.2.2 _)
  have F3 := Lib.hid (show (w5.setRow b1 (chC (l.take i)).toArray).heap[b2]? = some (.cells (chC (l.drop i)).toArray 58) by
    rw [setRow_other _ _ _ _ (by have := HO1.out; omega)]; exact F2.out)
  have F4 := Lib.hid (show ((w5.setRow b1 (chC (l.take i)).toArray).setRow b2 (chC (l.drop i)).toArray).heap[b1]? = some (.cells (chC (l.take i)).toArray 58) by
    rw [setRow_other _ _ _ _ (by have := HO1.out; omega)]; exact setRow_heap _ _ _ _ _ _ F1.out)
  have F5 := Lib.hid (show ((w5.setRow b1 (chC (l.take i)).toArray).setRow b2 (chC (l.drop i)).toArray).heap[b2]? = some (.cells (chC (l.drop i)).toArray 58) from setRow_heap _ _ _ _ _ _ F3.out)
  have HB7 := Lib.hid (show Below w.heap.size w ((w5.setRow b1 (chC (l.take i)).toArray).setRow b2 (chC (l.drop i)).toArray) from _root_.Go.below_setRow (_root_.Go.below_setRow HB5.out HO1.out.1 _) HO1.out.2.2.2.2 _)
  rw [hw5]
  clear hc4 hf4 hh4 hw5 hHeld hn3 hn4 hcn hz hz2
  go_wp2_with (first
    | (refine wpList_load_row rfl 58 (.tmp 4) rfl b1 rfl 58 (chC (l.take i)).toArray (0, 0) _ F1.out Try.underlying58 rfl (ch_info _ hl1) ?_)
    | (refine wpList_load_row rfl 58 (.tmp 5) rfl b2 rfl 58 (chC (l.drop i)).toArray (0, 0) _ F2.out Try.underlying58 rfl (ch_info _ hl2) ?_)
    | (refine wpList_store_row rfl 58 (.tmp 4) (.tmp 33) rfl b1 (chC (l.take i)).toArray rfl rfl 58 (chC (l.take i)).toArray F1.out (ch_info _ hl1) rfl (all_one _) ?_)
    | (refine wpList_store_row rfl 58 (.tmp 5) (.tmp 34) rfl b2 (chC (l.drop i)).toArray rfl rfl 58 (chC (l.drop i)).toArray F3.out (ch_info _ hl2) rfl (all_one _) ?_))
  exact bodyPost_ret (v := .tuple #[.agg (chC (l.take i)).toArray, .agg (chC (l.drop i)).toArray, .int .i64 0]) (results_cct rfl _ _ b1 b2 _ _ _ _ _ _ _ _ rfl rfl rfl F4.out F5.out Try.underlying58 rfl (ch_info _ hl1) (ch_info _ hl2)) rfl ⟨rfl, HB7.out⟩

end Go.Proofs.Ytmfkdaannjibfaa

namespace Go.Proofs.Ytmfkdaannjibfaa
open Go.RowKit

set_option maxRecDepth 100000 in
set_option maxHeartbeats 4000000 in
theorem split_no (l : List Int) (i : Int) (w : World) (hl : l.length ≤ 32) (hi : i < 0 ∨ (l.length : Int) < i) :
    Calls Try.prog 50 #[chV l, .int .i64 i] w fun e w' => e = .returned (.tuple #[chV [], chV [], .int .i64 5]) ∧ Below w.heap.size w w' := by
  have hn := chC_n l hl
  have hh : i < 0 ∨ (¬ i < 0 ∧ (l.length : Int) < i) := by omega
  have hlI : (l.length : Int) ≤ 32 := by omega
  clear hi
  unfold chV
  rcases hh with hi | ⟨hi, hi2⟩
  all_goals
    go_enter Try.func50, Try.ntmps50
    go_upto_region 1 with (fail)
    rw [← ch_nil]
    obtain ⟨b1, hb1⟩ : ∃ b1, w.heap.size + 1 = b1 := ⟨_, rfl⟩
    obtain ⟨b2, hb2⟩ : ∃ b2, b1 + 1 = b2 := ⟨_, rfl⟩
    obtain ⟨b0, hb0⟩ : ∃ b0, w.heap.size = b0 := ⟨_, rfl⟩
    obtain ⟨w1, hw1⟩ : ∃ w1, ((w.alloc (.cells (chC l).toArray 58)).alloc (.cells (chC []).toArray 58)).alloc (.cells (chC []).toArray 58) = w1 := ⟨_, rfl⟩
    rw [hw1, hb1, hb2, hb0]
    have q0 : w1.heap[b0]? = some (.cells (chC l).toArray 58) := by
      rw [← hw1]; simp only [heap_alloc_get, World.size_alloc, hb0]; repeat (first | rw [if_pos trivial] | rw [if_pos rfl] | rw [if_neg (by omega)])
    have q1 : w1.heap[b1]? = some (.cells (chC []).toArray 58) := by
      rw [← hw1]; simp only [heap_alloc_get, World.size_alloc, hb1]; repeat (first | rw [if_pos trivial] | rw [if_pos rfl] | rw [if_neg (by omega)])
    have q2 : w1.heap[b2]? = some (.cells (chC []).toArray 58) := by
      rw [← hw1]; simp only [heap_alloc_get, World.size_alloc, hb1, hb2]; repeat (first | rw [if_pos trivial] | rw [if_pos rfl] | rw [if_neg (by omega)])
    have hB1 : Below w.heap.size w w1 := by rw [← hw1]; exact (((Below.refl _ w).alloc (Nat.le_refl _) _).alloc (by simp) _).alloc (by simp; omega) _
    have hn0 : w1.cell? ⟨b0, 32, none⟩ = some (.int .i64 (l.length : Int)) := by rw [cell_of_row w1 b0 32 _ _ _ q0]; simpa using chC_n l hl
    have H1 := Lib.hid q1
    have H2 := Lib.hid q2
    have HB1 := Lib.hid hB1
    have HO1 := Lib.hid (show w.heap.size ≤ b1 ∧ b2 ≠ b1 ∧ w.heap.size ≤ b2 by omega)
    have F3 := Lib.hid (show (w1.setRow b1 (chC []).toArray).heap[b2]? = some (.cells (chC []).toArray 58) by
      rw [setRow_other _ _ _ _ (by omega)]; exact q2)
    have F4 := Lib.hid (show ((w1.setRow b1 (chC []).toArray).setRow b2 (chC []).toArray).heap[b1]? = some (.cells (chC []).toArray 58) by
      rw [setRow_other _ _ _ _ (by omega)]; exact setRow_heap _ _ _ _ _ _ q1)
    have F5 := Lib.hid (setRow_heap (w1.setRow b1 (chC []).toArray) b2 _ (chC []).toArray _ _ F3.out)
    have HB7 := Lib.hid (show Below w.heap.size w ((w1.setRow b1 (chC []).toArray).setRow b2 (chC []).toArray) from _root_.Go.below_setRow (_root_.Go.below_setRow hB1 HO1.out.1 _) HO1.out.2.2 _)
    clear q0 q1 q2 hB1 hw1 hb0 hb1 hb2 hn
    go_wp2_with (first
      | (refine wpList_load_row rfl 58 (.tmp 4) rfl b1 rfl 58 (chC []).toArray (0, 0) _ H1.out Try.underlying58 rfl (ch_info _ (by decide)) ?_)
      | (refine wpList_load_row rfl 58 (.tmp 5) rfl b2 rfl 58 (chC []).toArray (0, 0) _ H2.out Try.underlying58 rfl (ch_info _ (by decide)) ?_)
      | (refine wpList_store_row rfl 58 (.tmp 4) (.tmp 15) rfl b1 (chC []).toArray rfl rfl 58 (chC []).toArray H1.out (ch_info _ (by decide)) rfl (all_one _) ?_)
      | (refine wpList_store_row rfl 58 (.tmp 5) (.tmp 16) rfl b2 (chC []).toArray rfl rfl 58 (chC []).toArray F3.out (ch_info _ (by decide)) rfl (all_one _) ?_))
    exact bodyPost_ret (v := .tuple #[.agg (chC []).toArray, .agg (chC []).toArray, .int .i64 5]) (results_cct rfl _ _ b1 b2 _ _ _ _ _ _ _ _ rfl rfl rfl F4.out F5.out Try.underlying58 rfl (ch_info _ (by decide)) (ch_info _ (by decide))) rfl ⟨rfl, HB7.out⟩

/-- What Split answers, at any place. -/
def spA (l : List Int) (i : Int) : List Int := if 0 ≤ i ∧ i ≤ l.length then l.take i.toNat else []
def spB (l : List Int) (i : Int) : List Int := if 0 ≤ i ∧ i ≤ l.length then l.drop i.toNat else []
def spE (l : List Int) (i : Int) : Int := if 0 ≤ i ∧ i ≤ l.length then 0 else 5

theorem spA_len (l : List Int) (i : Int) (hl : l.length ≤ 32) : (spA l i).length ≤ 32 := by
  unfold spA
  split
  · rw [List.length_take]; omega
  · decide
theorem spB_len (l : List Int) (i : Int) (hl : l.length ≤ 32) : (spB l i).length ≤ 32 := by
  unfold spB
  split
  · rw [List.length_drop]; omega
  · decide
theorem spE_ok {l : List Int} {i : Int} (h : spE l i = 0) : (0 ≤ i ∧ i ≤ l.length) ∧ spA l i = l.take i.toNat ∧ spB l i = l.drop i.toNat := by
  unfold spE at h
  split at h
  · rename_i hc
    exact ⟨hc, by unfold spA; rw [if_pos hc], by unfold spB; rw [if_pos hc]⟩
  · omega

theorem chSplit_any (l : List Int) (i : Int) (w : World) (hl : l.length ≤ 32) :
    Calls Try.prog 50 #[chV l, .int .i64 i] w fun e w' => e = .returned (.tuple #[chV (spA l i), chV (spB l i), .int .i64 (spE l i)]) ∧ Below w.heap.size w w' := by
  unfold spA spB spE
  by_cases h : 0 ≤ i ∧ i ≤ l.length
  · rw [if_pos h, if_pos h, if_pos h]
    have := split_yes l i.toNat w hl (by omega)
    rw [Int.toNat_of_nonneg h.1] at this
    exact this
  · rw [if_neg h, if_neg h, if_neg h]
    exact split_no l i w hl (by omega)

end Go.Proofs.Ytmfkdaannjibfaa

namespace Go.Proofs.Ytmfkdaannjibfaa
open Go.RowKit

theorem run_eqItems_ints {P : Program} (w : World) (d : Nat) {e : TypeId} {k : IntKind} (he : P.underlying e = some (.int k)) (xs ys : Array Value) (f g : Nat → Int) : ∀ is : List Nat,
    (∀ j ∈ is, xs[j]? = some (.int k (f j)) ∧ ys[j]? = some (.int k (g j))) → (Op.eqItems (d + 1) e 1 xs ys is).run P w = .ok (is.all fun j => f j == g j) w := by
  intro is
  induction is with
  | nil => intro _; simp [Op.eqItems]
  | cons j is ih =>
    intro h
    obtain ⟨hx, hy⟩ := h j (by simp)
    have px : (part e xs (j * 1)).run P w = .ok (.int k (f j)) w := by simp [part, isAgg, run_underlying he, hx]
    have py : (part e ys (j * 1)).run P w = .ok (.int k (g j)) w := by simp [part, isAgg, run_underlying he, hy]
    simp only [Op.eqItems, Sem.run_bind, px, py, Result.andThen_ok, run_equalIn_int w d e k k _ _ he, List.all_cons]
    cases hb : (f j == g j)
    · simp
    · simp only [Bool.not_true, Bool.false_eq_true, if_false, Bool.true_and]
      exact ih fun i hi => h i (by simp [hi])

theorem run_eq_array {P : Program} (w : World) (d : Nat) {t e : TypeId} {n : Nat} {i : TypeInfo} {k : IntKind} (ht : P.underlying t = some (.array n e)) (he : P.underlying e = some (.int k)) (hi : P.info? e = some i) (hc : P.cellsOf e = 1)
    (xs ys : Array Value) (f g : Nat → Int) (h : ∀ j, j < n → xs[j]? = some (.int k (f j)) ∧ ys[j]? = some (.int k (g j))) :
    (Op.equalIn (d + 2) t (.agg xs) (.agg ys)).run P w = .ok ((List.range n).all fun j => f j == g j) w := by
  rw [run_equalIn_array w (d + 1) xs ys ht hi, hc]
  exact run_eqItems_ints w d he xs ys f g _ (fun j hj => h j (List.mem_range.1 hj))

/-- The j-th rune; nought behind the last one. -/
def rn (l : List Int) (j : Nat) : Int := l[j]?.getD 0

theorem all_rn (l m : List Int) (hl : l.length ≤ 32) (hm : m.length ≤ 32) : (((List.range 32).all fun j => rn l j == rn m j) && (((l.length : Nat) : Int) == ((m.length : Nat) : Int))) = (l == m) := by
  rw [Bool.eq_iff_iff, Bool.and_eq_true, List.all_eq_true, beq_iff_eq, beq_iff_eq]
  constructor
  · rintro ⟨h1, h2⟩
    apply List.ext_getElem (by omega)
    intro j hj hj'
    have := h1 j (List.mem_range.2 (by omega))
    simpa [rn, hj, hj'] using this
  · rintro rfl
    exact ⟨fun j _ => by simp, rfl⟩

theorem int32_cells : Try.prog.cellsOf 21 = 1 := by kernel_rfl

theorem run_eq_chunk_d (d : Nat) (w : World) (l m : List Int) (hl : l.length ≤ 32) (hm : m.length ≤ 32) :
    (Op.equalIn (d + 3) 58 (.agg (chC l).toArray) (.agg (chC m).toArray)).run Try.prog w = .ok (l == m) w := by
  obtain ⟨i0, ii0, _⟩ := info_parts r32_info
  rw [run_equalIn_struct w (d + 2) _ _ _ (by kernel_rfl) (by kernel_rfl)]
  have hf : (Try.prog.fieldsOf 58).toList.map (fun f => (f.name == "_", f.type, f.offset)) = [(false, 56, 0), (false, 3, 32)] := by kernel_rfl
  generalize (Try.prog.fieldsOf 58).toList = fs at hf ⊢
  rcases fs with _ | ⟨f0, _ | ⟨f1, _ | ⟨f2, fs⟩⟩⟩
  · exact absurd (congrArg List.length hf) (by simp)
  · exact absurd (congrArg List.length hf) (by simp)
  rotate_left
  · exact absurd (congrArg List.length hf) (by simp)
  simp only [List.map_cons, List.map_nil, List.cons.injEq, Prod.mk.injEq, and_true] at hf
  obtain ⟨⟨n0, t0, o0⟩, n1, t1, o1⟩ := hf
  have n0' : f0.name ≠ "_" := by simpa using n0
  have n1' : f1.name ≠ "_" := by simpa using n1
  have hsz : ∀ w, (sizeOf 56).run Try.prog w = .ok 32 w := fun w => by kernel_rfl
  have pa : ∀ l : List Int, (part 56 (chC l).toArray 0).run Try.prog w = .ok (.agg ((chC l).toArray.extract 0 32)) w := fun l => by
    simp [part, isAgg, run_underlying Try.underlying56, hsz]
  have pn : ∀ l : List Int, l.length ≤ 32 → (part 3 (chC l).toArray 32).run Try.prog w = .ok (.int .i64 (l.length : Int)) w := fun l hl => by
    simp [part, isAgg, run_underlying Try.underlying3, chC_n l hl]
  have hx : ∀ (l : List Int) (j : Nat), l.length ≤ 32 → j < 32 → ((chC l).toArray.extract 0 32)[j]? = some (.int .i32 (rn l j)) := fun l j hl hj => by
    rw [Array.getElem?_extract]
    simp only [Nat.zero_add, List.size_toArray, chC_len l hl]
    rw [if_pos (by omega), List.getElem?_toArray, chC_get l j hl hj]
    rfl
  have ea := run_eq_array w d Try.underlying56 Try.underlying21 ii0 int32_cells ((chC l).toArray.extract 0 32) ((chC m).toArray.extract 0 32) (rn l) (rn m) (fun j hj => ⟨hx l j hl hj, hx m j hm hj⟩)
  have en := run_equalIn_int (P := Try.prog) w (d + 1) 3 .i64 .i64 (l.length : Int) (m.length : Int) Try.underlying3
  rw [Op.eqFields, if_pos n0', t0, o0]
  rw [Sem.run_bind, pa l, Result.andThen_ok, Sem.run_bind, pa m, Result.andThen_ok, Sem.run_bind, ea, Result.andThen_ok]
  rw [← all_rn l m hl hm]
  cases (List.range 32).all fun j => rn l j == rn m j
  · simp
  · rw [Op.eqFields, if_pos n1', t1, o1]
    simp only [Bool.not_true, Bool.false_eq_true, if_false, Sem.run_bind, pn l hl, pn m hm, Result.andThen_ok, en]
    cases hq : (((l.length : Nat) : Int) == ((m.length : Nat) : Int)) <;> simp [Op.eqFields]

theorem run_eq_chunk (w : World) (l m : List Int) (hl : l.length ≤ 32) (hm : m.length ≤ 32) :
    (binOp .eql 58 (.agg (chC l).toArray) (.agg (chC m).toArray)).run Try.prog w = .ok (.bool (l == m)) w := by
  rw [run_eql_struct, run_eq_chunk_d 9997 w l m hl hm]
  rfl
theorem run_ne_chunk (w : World) (l m : List Int) (hl : l.length ≤ 32) (hm : m.length ≤ 32) :
    (binOp .neq 58 (.agg (chC l).toArray) (.agg (chC m).toArray)).run Try.prog w = .ok (.bool (!(l == m))) w := by
  rw [run_neq_struct, run_eq_chunk_d 9997 w l m hl hm]
  rfl

/-- 'a == b' of two chunks. -/
theorem wpList_eq_chunk {ops : Array Oper} {rest : List Oper} {o : Oper} {a : Act} {w : World} {Q : Exit → Act → World → Prop} (hgd : Region.wanted o (yielded ops a.tmps) = true) (x y : Operand)
    (ho : o.op = .binOp .eql 58 x y 58) (l m : List Int) (hx : a.eval x = .agg (chC l).toArray) (hy : a.eval y = .agg (chC m).toArray) (hl : l.length ≤ 32) (hm : m.length ≤ 32) (r : Bool) (hr : (l == m) = r)
    (h : wpList Try.prog ops Q rest (a.put o.dst (.bool r)) w) : wpList Try.prog ops Q (o :: rest) a w :=
  wpList_step fun _ hK => by
    subst hr
    rw [if_pos hgd]
    unfold Oper.wp execOp
    simp only [ho, hx, hy, Sem.run_bind, run_eqGuard_agg (P := Try.prog) w .eql 58 x y (chC l).toArray (chC m).toArray (by kernel_rfl), Result.andThen_ok, run_eq_chunk w l m hl hm]
    exact hK _ _ h

end Go.Proofs.Ytmfkdaannjibfaa
