/-
  rubricref09.Same; boxes of chunks in a row.
-/
import Derived.Test.YtcdpbkhlkgefdaaChunkG
namespace Go.Proofs.Ytcdpbkhlkgefdaa
open Go.RowKit

theorem alloc_setRow (w : World) (old cells : Array Value) (t : TypeId) : (w.alloc (.cells old t)).setRow w.heap.size cells = w.alloc (.cells cells t) := by
  show { w with heap := (w.heap.push (.cells old t)).modify w.heap.size _ } = { w with heap := w.heap.push (.cells cells t) }
  congr 1
  apply Array.ext_getElem?
  intro i
  rw [Array.getElem?_modify, Array.getElem?_push, Array.getElem?_push]
  by_cases h : i = w.heap.size
  · rw [if_pos h.symm, if_pos h, if_pos h]; rfl
  · rw [if_neg (fun e => h e.symm), if_neg h, if_neg h]

theorem ch_size (l : List Int) (hl : l.length ≤ 32) : (chC []).toArray.size = (chC l).toArray.size := by
  rw [List.size_toArray, List.size_toArray, chC_len l hl]; rfl

theorem same_step (l m : List Int) (j : Nat) (x y : Int) (hx : l[j]? = some x) (hy : m[j]? = some y) : (l.drop j == m.drop j) = ((x == y) && (l.drop (j + 1) == m.drop (j + 1))) := by
  obtain ⟨h1, e1⟩ := List.getElem?_eq_some_iff.1 hx
  obtain ⟨h2, e2⟩ := List.getElem?_eq_some_iff.1 hy
  rw [List.drop_eq_getElem_cons h1, List.drop_eq_getElem_cons h2, e1, e2]
  rfl

set_option maxRecDepth 100000 in
set_option maxHeartbeats 2000000 in
theorem same_any (A A2 : Option Addr) (n n2 c c2 B B2 : Nat) (l m : List Int) (w : World) (hs : Sees w B 1 A n (l.map r32)) (hs2 : Sees w B2 1 A2 n2 (m.map r32)) (hn : (n : Int) ≤ 9223372036854775807) (hn2 : (n2 : Int) ≤ 9223372036854775807) :
    Calls Try.prog 12 #[.slice A n c, .slice A2 n2 c2] w fun e w' => e = .returned (.bool (l == m)) ∧ ∃ k, w' = w.drewN k := by
  have hl : l.length = n := by have := hs.1; simp at this; omega
  have hm : m.length = n2 := by have := hs2.1; simp at this; omega
  by_cases hnn : n = n2
  · subst hnn
    have HL := Lib.hid (And.intro hl hm)
    have e0 : (((n : Nat) : Int) != (n : Int)) = false := by simp
    clear hl hm
    go_enter Try.func12, Try.ntmps12
    go_wp2_with fail
    go_loopw [5] (fun v5 wr => ∃ j k : Nat, j ≤ n ∧ v5 = .int .i64 j ∧ (l.drop j == m.drop j) = (l == m) ∧ wr = w.drewN k) (fun v5 _ => n - (intOf v5).toNat)
    case atStart => exact ⟨0, 0, Nat.zero_le _, rfl, rfl, rfl⟩
    case round =>
      obtain ⟨j, k, hj, rfl, he, rfl⟩ := hrel
      by_cases hlt : j < n
      · obtain ⟨b, o, rfl, hb, hcell⟩ := hs.2 (by omega)
        obtain ⟨b2, o2, rfl, hb2, hcell2⟩ := hs2.2 (by omega)
        obtain ⟨x, hx⟩ : ∃ x, l[j]? = some x := ⟨_, List.getElem?_eq_getElem (by have := HL.out.1; omega)⟩
        obtain ⟨y, hy⟩ : ∃ y, m[j]? = some y := ⟨_, List.getElem?_eq_getElem (by have := HL.out.2; omega)⟩
        have hcx := hcell j (.int .i32 x) (by simp [hx, r32])
        have hcy := hcell2 j (.int .i32 y) (by simp [hy, r32])
        rw [same_step l m j x y hx hy] at he
        have hjI : (j : Int) < n := by omega
        clear hcell hcell2 hx hy hs hs2 e0
        cases hxy : (x == y) with
        | true =>
          rw [hxy, Bool.true_and] at he
          have e1 : (x != y) = false := by rw [bne, hxy]; rfl
          have HE := Lib.hid he
          clear he hxy
          go_wp2_with fail
          go_quiet (fail)
          go_wp2_with fail
          go_roundw
          case rel => exact ⟨j + 1, _, by omega, by go_num, HE.out, rfl⟩
          case measure => simp [intOf]; omega
        | false =>
          rw [hxy, Bool.false_and] at he
          have e1 : (x != y) = true := by rw [bne, hxy]; rfl
          have HE := Lib.hid he
          clear he hxy
          go_wp2_with fail
          go_quiet (fail)
          go_wp2_with fail
          go_ret
          exact ⟨by rw [← HE.out]; rfl, _, World.drewN_drewN _ _ _⟩
      · obtain rfl : j = n := by omega
        have HE := Lib.hid he
        clear he
        go_wp2_with fail
        go_ret
        refine ⟨?_, _, rfl⟩
        rw [← HE.out, List.drop_of_length_le (by have := HL.out.1; omega), List.drop_of_length_le (by have := HL.out.2; omega)]
        rfl
  · have hne : (l == m) = false := by
      rw [beq_eq_false_iff_ne]
      intro e
      rw [e] at hl
      omega
    have e0 : (((n : Nat) : Int) != (n2 : Int)) = true := by simp; omega
    rw [hne]
    go_enter Try.func12, Try.ntmps12
    go_wp2_with fail
    go_ret
    exact ⟨rfl, 0, rfl⟩

end Go.Proofs.Ytcdpbkhlkgefdaa
