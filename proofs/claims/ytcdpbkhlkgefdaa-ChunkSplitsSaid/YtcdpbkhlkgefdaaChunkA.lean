/-
  chunk.Chunk: its value, the functions that read it.
-/
import Derived.Test.YtcdpbkhlkgefdaaRows
import Derived.Test.YtcdpbkhlkgefdaaStep
import Derived.BigQuiet
import Derived.Deep.QuietTactic
import Derived.Deep.DeepCutAuto
import Derived.Deep.CutRange
import Derived.Deep.CutBlock
namespace Go.Proofs.Ytcdpbkhlkgefdaa
open Go.RowKit

def r32 (x : Int) : Value := .int .i32 x
/-- A chunk's cells: its runes, noughts behind them, how many there are. -/
def chC (l : List Int) : List Value := l.map r32 ++ List.replicate (32 - l.length) (r32 0) ++ [.int .i64 (l.length : Int)]
def chV (l : List Int) : Value := .agg (chC l).toArray

theorem chC_len (l : List Int) (h : l.length ≤ 32) : (chC l).length = 33 := by simp [chC]; omega
theorem chC_n (l : List Int) (h : l.length ≤ 32) : (chC l)[32]? = some (.int .i64 (l.length : Int)) := by
  unfold chC
  have h0 : (l.map r32 ++ List.replicate (32 - l.length) (r32 0)).length = 32 := by simp; omega
  rw [List.getElem?_append_right (by omega), h0]
  rfl
theorem chC_get (l : List Int) (j : Nat) (h : l.length ≤ 32) (hj : j < 32) : (chC l)[j]? = some (.int .i32 (l[j]?.getD 0)) := by
  unfold chC
  rw [List.getElem?_append_left (by simp; omega)]
  rcases Nat.lt_or_ge j l.length with h1 | h1
  · rw [List.getElem?_append_left (by simpa using h1)]
    simp [r32, h1]
  · rw [List.getElem?_append_right (by simpa using h1), List.getElem?_replicate, if_pos (by simp; omega), List.getElem?_eq_none h1]
    rfl
theorem chC_one (l : List Int) : ∀ v ∈ chC l, v.oneCell' = true := by
  intro v hv
  simp only [chC, List.mem_append, List.mem_map, List.mem_replicate, List.mem_singleton] at hv
  rcases hv with (⟨x, _, rfl⟩ | ⟨_, rfl⟩) | rfl <;> rfl

/-- A box with a chunk in it. -/
theorem box_cell (w : World) (l : List Int) (t : TypeId) (j : Nat) : (w.alloc (.cells (chC l).toArray t)).cell? ⟨w.heap.size, j, none⟩ = (chC l)[j]? := by
  rw [cell_of_row _ w.heap.size j _ _ _ (heap_alloc_new w _)]
  simp

set_option maxRecDepth 100000 in
set_option maxHeartbeats 1000000 in
theorem len_any (l : List Int) (w : World) (hl : l.length ≤ 32) :
    Calls Try.prog 18 #[chV l] w fun e w' => e = .returned (.int .i64 l.length) ∧ Below w.heap.size w w' := by
  have hn := chC_n l hl
  unfold chV
  go_enter Try.func18, Try.ntmps18
  go_wp2_with fail
  go_ret
  exact ⟨rfl, (Below.refl _ _).alloc (Nat.le_refl _) _⟩

set_option maxRecDepth 100000 in
set_option maxHeartbeats 1000000 in
theorem at_yes (l : List Int) (i : Nat) (x : Int) (w : World) (hl : l.length ≤ 32) (hi : i < l.length) (hx : l[i]? = some x) :
    Calls Try.prog 16 #[chV l, .int .i64 i] w fun e w' => e = .returned (.tuple #[.int .i32 x, .int .i64 0]) ∧ Below w.heap.size w w' := by
  have hn := chC_n l hl
  have hg := chC_get l i hl (by omega)
  rw [hx] at hg
  have hg : (chC l)[i]? = some (.int .i32 x) := hg
  have hiI : (i : Int) < l.length := by omega
  have hi32 : (i : Int) < 32 := by omega
  have hi32' : i < 32 := by omega
  unfold chV
  clear hx
  go_enter Try.func16, Try.ntmps16
  go_wp2_with fail
  go_ret2
  exact ⟨rfl, (Below.refl _ _).alloc (Nat.le_refl _) _⟩

set_option maxRecDepth 100000 in
set_option maxHeartbeats 1000000 in
theorem at_no (l : List Int) (i : Int) (w : World) (hl : l.length ≤ 32) (hi : i < 0 ∨ (l.length : Int) ≤ i) :
    Calls Try.prog 16 #[chV l, .int .i64 i] w fun e w' => e = .returned (.tuple #[.int .i32 0, .int .i64 5]) ∧ Below w.heap.size w w' := by
  have hn := chC_n l hl
  unfold chV
  have hh : i < 0 ∨ (¬ i < 0 ∧ (l.length : Int) ≤ i) := by omega
  clear hi
  rcases hh with hi | ⟨hi, hi2⟩
  all_goals
    go_enter Try.func16, Try.ntmps16
    go_wp2_with fail
    go_ret2
    exact ⟨rfl, (Below.refl _ _).alloc (Nat.le_refl _) _⟩

theorem take_min {α : Type} (l : List α) (i m : Nat) (h : min i l.length = m) : l.take i = l.take m := by
  subst h
  rcases Nat.le_total i l.length with h | h
  · rw [Nat.min_eq_left h]
  · rw [Nat.min_eq_right h, List.take_of_length_le h, List.take_of_length_le (Nat.le_refl _)]

/-- The newlines among the first k. -/
def nls (l : List Int) : Int := (l.count 10 : Nat)

theorem nls_le (l : List Int) : 0 ≤ nls l ∧ nls l ≤ l.length := by
  unfold nls
  have := List.count_le_length (a := (10 : Int)) (l := l)
  omega

theorem nls_snoc (l : List Int) (k : Nat) (x : Int) (h : l[k]? = some x) : nls (l.take (k + 1)) = nls (l.take k) + if x = 10 then 1 else 0 := by
  obtain ⟨hk, he⟩ := List.getElem?_eq_some_iff.1 h
  unfold nls
  rw [List.take_succ_eq_append_getElem hk, he, List.count_append, List.count_singleton]
  by_cases hx : x = 10
  · simp [hx]
  · simp [hx]

set_option maxRecDepth 100000 in
set_option maxHeartbeats 1000000 in
theorem ahead_any (l : List Int) (i : Int) (w : World) (hl : l.length ≤ 32) (hi : -9223372036854775808 ≤ i) :
    Calls Try.prog 17 #[chV l, .int .i64 i] w fun e w' => e = .returned (.int .i64 (nls (l.take i.toNat))) ∧ Below w.heap.size w w' := by
  have hn := chC_n l hl
  have hlI : (l.length : Int) ≤ 32 := by omega
  unfold chV
  go_enter Try.func17, Try.ntmps17
  go_upto_region 1 with (fail)
  go_cut [10, 11] from 6 to 10 (fun v10 v11 wx => v11 = .int .i64 0 ∧ v10 = .int .i64 (min i.toNat l.length : Nat) ∧ wx = w.alloc (.cells (chC l).toArray 26))
  case first =>
    go_wp2_with fail
    all_goals
      go_meet
      case rel =>
        refine ⟨rfl, ?_, rfl⟩
        congr 1
        omega
  case rest =>
    obtain ⟨rfl, rfl, rfl⟩ := hcut
    obtain ⟨m, hm⟩ : ∃ m : Nat, min i.toNat l.length = m := ⟨_, rfl⟩
    rw [hm]
    have hml : m ≤ l.length := by omega
    have HM := Lib.hid (take_min l i.toNat m hm)
    have hmI : (m : Int) ≤ 32 := by omega
    clear hm
    go_wp2_with fail
    go_loop [4, 11] (fun c k => ∃ j : Nat, j ≤ m ∧ k = .int .i64 j ∧ c = .int .i64 (nls (l.take j))) (fun _ k => m - (intOf k).toNat)
    case atStart => exact ⟨0, Nat.zero_le _, rfl, rfl⟩
    case round =>
      obtain ⟨j, hj, rfl, rfl⟩ := hrel
      by_cases hlt : j < m
      · obtain ⟨x, hx⟩ : ∃ x, l[j]? = some x := ⟨_, List.getElem?_eq_getElem (by omega)⟩
        have hg := chC_get l j hl (by omega)
        rw [hx] at hg
        replace hg : (chC l)[j]? = some (.int .i32 x) := hg
        have hs := nls_snoc l j x hx
        have HS := Lib.hid hs
        have hb := nls_le (l.take j)
        have hb2 : ((l.take j).length : Int) ≤ 32 := by rw [List.length_take]; omega
        have hjI : (j : Int) < m := by omega
        have hj32 : (j : Int) < 32 := by omega
        have hj32' : j < 32 := by omega
        clear hs hx
        by_cases hx10 : x = 10
        · have e1 : (x == 10) = true := by simp [hx10]
          rw [if_pos hx10] at HS
          clear hx10
          go_wp2_with fail
          go_round
          case rel => exact ⟨j + 1, by omega, by go_num, by rw [HS.out]⟩
          case measure => simp [intOf]; omega
        · have e1 : (x == 10) = false := by simp [hx10]
          rw [if_neg hx10] at HS
          clear hx10
          go_wp2_with fail
          go_round
          case rel => exact ⟨j + 1, by omega, by go_num, by rw [HS.out, Int.add_zero]⟩
          case measure => simp [intOf]; omega
      · obtain rfl : j = m := by omega
        go_wp2_with fail
        go_ret
        exact ⟨by rw [HM.out]; rfl, (Below.refl _ _).alloc (Nat.le_refl _) _⟩

end Go.Proofs.Ytcdpbkhlkgefdaa
