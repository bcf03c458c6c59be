/-
  chunk.Chunk: Newlines, NewlineAt, Runes.
-/
import Derived.Test.YtcdpbkhlkgefdaaChunkA
namespace Go.Proofs.Ytcdpbkhlkgefdaa
open Go.RowKit

theorem ch_info (l : List Int) (hl : l.length ≤ 32) : (Try.prog.info? 26).map (·.size) = some (chC l).toArray.size := by
  rw [List.size_toArray, chC_len l hl]
  kernel_rfl

set_option maxRecDepth 100000 in
set_option maxHeartbeats 1000000 in
theorem newlines_any (l : List Int) (w : World) (hl : l.length ≤ 32) :
    Calls Try.prog 14 #[chV l] w fun e w' => e = .returned (.int .i64 (nls l)) ∧ Below w.heap.size w w' := by
  have hn := chC_n l hl
  have hi := ch_info l hl
  have HA := Lib.hid (ahead_any l (l.length : Int) (w.alloc (.cells (chC l).toArray 26)) hl (by omega))
  unfold chV at HA ⊢
  go_enter Try.func14, Try.ntmps14
  go_wp2_with (refine wpList_load_row rfl 26 _ rfl w.heap.size rfl 26 (chC l).toArray (0, 0) _ (heap_alloc_new w _) Try.underlying26 rfl hi ?_)
  refine HA.out.mono ?_
  rintro e w' ⟨rfl, hb⟩
  rw [Int.toNat_natCast, List.take_length]
  go_wp2_with fail
  go_ret
  exact ⟨rfl, ((Below.refl _ _).alloc (Nat.le_refl _) _).trans (hb.mono (by simp))⟩

/-- Where the k-th newline is, places told from i on. -/
def nlGo : List Int → Int → Nat → Option Nat
  | [], _, _ => none
  | x :: r, k, i => if x = 10 then (if k = 0 then some i else nlGo r (k - 1) (i + 1)) else nlGo r k (i + 1)
def nlV : Option Nat → Value
  | some i => .tuple #[.int .i64 (i : Int), .bool true]
  | none => .tuple #[.int .i64 0, .bool false]

theorem nlGo_drop (l : List Int) (j : Nat) (x k : Int) (h : l[j]? = some x) : nlGo (l.drop j) k j = if x = 10 then (if k = 0 then some j else nlGo (l.drop (j + 1)) (k - 1) (j + 1)) else nlGo (l.drop (j + 1)) k (j + 1) := by
  obtain ⟨hj, he⟩ := List.getElem?_eq_some_iff.1 h
  rw [List.drop_eq_getElem_cons hj, he, nlGo]

set_option maxRecDepth 100000 in
set_option maxHeartbeats 2000000 in
theorem newlineAt_any (l : List Int) (k : Int) (w : World) (hl : l.length ≤ 32) (hk0 : -1000000000 ≤ k) (hk1 : k ≤ 1000000000) :
    Calls Try.prog 15 #[chV l, .int .i64 k] w fun e w' => e = .returned (nlV (nlGo l k 0)) ∧ Below w.heap.size w w' := by
  have hn := chC_n l hl
  have hlI : (l.length : Int) ≤ 32 := by omega
  unfold chV
  go_enter Try.func15, Try.ntmps15
  go_wp2_with fail
  go_loop [1, 9] (fun v1 v9 => ∃ (j : Nat) (q : Int), j ≤ l.length ∧ v9 = .int .i64 j ∧ v1 = .int .i64 q ∧ nlGo (l.drop j) q j = nlGo l k 0 ∧ k - j ≤ q ∧ q ≤ k) (fun _ v9 => l.length - (intOf v9).toNat)
  case atStart => exact ⟨0, k, Nat.zero_le _, rfl, rfl, rfl, by omega, by omega⟩
  case round =>
    obtain ⟨j, q, hj, rfl, rfl, he, hq0, hq1⟩ := hrel
    by_cases hlt : j < l.length
    · obtain ⟨x, hx⟩ : ∃ x, l[j]? = some x := ⟨_, List.getElem?_eq_getElem hlt⟩
      have hg := chC_get l j hl (by omega)
      rw [hx] at hg
      replace hg : (chC l)[j]? = some (.int .i32 x) := hg
      rw [nlGo_drop l j x q hx] at he
      have hjI : (j : Int) < l.length := by omega
      have hj32 : (j : Int) < 32 := by omega
      have hj32' : j < 32 := by omega
      clear hx
      by_cases hx10 : x = 10
      · rw [if_pos hx10] at he
        have e1 : (x != 10) = false := by simp [hx10]
        by_cases hq : q = 0
        · rw [if_pos hq] at he
          have e2 : (q == 0) = true := by simp [hq]
          have HE := Lib.hid he
          clear he hx10 hq
          go_wp2_with fail
          go_ret2
          exact ⟨by rw [← HE.out]; rfl, (Below.refl _ _).alloc (Nat.le_refl _) _⟩
        · rw [if_neg hq] at he
          have e2 : (q == 0) = false := by simp [hq]
          have HE := Lib.hid he
          clear he hx10 hq
          go_wp2_with fail
          go_round
          case rel => exact ⟨j + 1, q - 1, by omega, by go_num, rfl, HE.out, by omega, by omega⟩
          case measure => simp [intOf]; omega
      · rw [if_neg hx10] at he
        have e1 : (x != 10) = true := by simp [hx10]
        have HE := Lib.hid he
        clear he hx10
        go_wp2_with fail
        go_round
        case rel => exact ⟨j + 1, q, by omega, by go_num, rfl, HE.out, by omega, by omega⟩
        case measure => simp [intOf]; omega
    · obtain rfl : j = l.length := by omega
      have HE := Lib.hid he
      clear he
      go_wp2_with fail
      go_ret2
      exact ⟨by rw [← HE.out, List.drop_length]; rfl, (Below.refl _ _).alloc (Nat.le_refl _) _⟩

end Go.Proofs.Ytcdpbkhlkgefdaa
