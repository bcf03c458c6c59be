/-
  chunk.Of.
-/
import Derived.Test.YtcdpbkhlkgefdaaChunkC
import Derived.Laws.Tables
import Derived.Laws.CopyOwn
namespace Go.Proofs.Ytcdpbkhlkgefdaa
open Go.RowKit

/-- Is a number a code point? -/
def codeB (r : Int) : Bool := decide (0 ≤ r ∧ r ≤ 1114111 ∧ (r < 55296 ∨ 57343 < r))

set_option maxHeartbeats 1000000 in
theorem code_any (r : Int) (w : World) : Calls Try.prog 24 #[.int .i32 r] w fun e w' => e = .returned (.bool (codeB r)) ∧ w = w' := by
  have h : (codeB r = false ∧ ¬ 0 ≤ r) ∨ (codeB r = false ∧ 0 ≤ r ∧ ¬ r ≤ 1114111) ∨ (codeB r = true ∧ 0 ≤ r ∧ r ≤ 1114111 ∧ r < 55296) ∨ (codeB r = true ∧ 0 ≤ r ∧ r ≤ 1114111 ∧ ¬ r < 55296 ∧ 57343 < r) ∨ (codeB r = false ∧ 0 ≤ r ∧ r ≤ 1114111 ∧ ¬ r < 55296 ∧ ¬ 57343 < r) := by
    simp only [codeB, decide_eq_true_eq, decide_eq_false_iff_not]
    omega
  rcases h with ⟨hc, h1⟩ | ⟨hc, h1, h2⟩ | ⟨hc, h1, h2, h3⟩ | ⟨hc, h1, h2, h3, h4⟩ | ⟨hc, h1, h2, h3, h4⟩
  all_goals
    rw [hc]
    clear hc
    go_enter Try.func24, Try.ntmps24
    go_wp2_with fail
    go_ret
    exact ⟨rfl, rfl⟩

set_option maxHeartbeats 1000000 in
theorem bad_any (r : Int) (w : World) (b : Bool) (hb : codeB r = !b) : Calls Try.prog 23 #[.int .i32 r] w fun e w' => e = .returned (.bool b) ∧ w = w' := by
  have H := code_any r w
  rw [hb] at H
  have H := Lib.hid H
  clear hb
  cases b
  all_goals
    go_enter Try.func23, Try.ntmps23
    go_wp2_with fail
    refine H.out.mono ?_
    rintro e w' ⟨rfl, rfl⟩
    go_wp2_with fail
    go_ret
    exact ⟨rfl, rfl⟩

/-- The place of the first that is none; -1. -/
def badAt : List Int → Nat → Int
  | [], _ => -1
  | x :: l, i => if codeB x then badAt l (i + 1) else i

theorem badAt_drop (l : List Int) (j : Nat) (x : Int) (h : l[j]? = some x) : badAt (l.drop j) j = if codeB x then badAt (l.drop (j + 1)) (j + 1) else j := by
  obtain ⟨hj, he⟩ := List.getElem?_eq_some_iff.1 h
  rw [List.drop_eq_getElem_cons hj, he, badAt]

theorem badAt_neg (l : List Int) : ∀ i, (badAt l i < 0 ↔ ∀ x ∈ l, codeB x = true) := by
  induction l with
  | nil => intro i; simp [badAt]
  | cons x l ih =>
    intro i
    unfold badAt
    cases hx : codeB x
    · simp [hx]
    · simp [hx, ih]

set_option maxRecDepth 100000 in
set_option maxHeartbeats 2000000 in
theorem index_any (A : Option Addr) (n c B : Nat) (l : List Int) (w : World) (hs : Sees w B 1 A n (l.map r32)) (hn : (n : Int) ≤ 9223372036854775807) :
    Calls Try.prog 28 #[.slice A n c, .func (.func 23) #[] #[]] w fun e w' => e = .returned (.int .i64 (badAt l 0)) ∧ w = w' := by
  have hl : l.length = n := by have := hs.1; simp at this; omega
  have HL := Lib.hid hl
  clear hl
  go_enter Try.func28, Try.ntmps28
  go_wp2_with fail
  go_loop [8] (fun v8 => ∃ j : Nat, j ≤ n ∧ v8 = .int .i64 j ∧ badAt (l.drop j) j = badAt l 0) (fun v8 => n - (intOf v8).toNat)
  case atStart => exact ⟨0, Nat.zero_le _, rfl, rfl⟩
  case round =>
    obtain ⟨j, hj, rfl, he⟩ := hrel
    by_cases hlt : j < n
    · obtain ⟨b, o, rfl, hb, hcell⟩ := hs.2 (by omega)
      obtain ⟨x, hx⟩ : ∃ x, l[j]? = some x := ⟨_, List.getElem?_eq_getElem (by have := HL.out; omega)⟩
      have hcx := hcell j (.int .i32 x) (by simp [hx, r32])
      rw [badAt_drop l j x hx] at he
      have hjI : (j : Int) < n := by omega
      clear hcell hx hs
      cases hcb : codeB x with
      | true =>
        rw [if_pos hcb] at he
        have HB := Lib.hid (bad_any x w false (by rw [hcb]; rfl))
        have HE := Lib.hid he
        clear he hcb
        go_wp2_with fail
        refine HB.out.mono ?_
        rintro e w' ⟨rfl, rfl⟩
        go_wp2_with fail
        go_round
        case rel => exact ⟨j + 1, by omega, by go_num, HE.out⟩
        case measure => simp [intOf]; omega
      | false =>
        rw [if_neg (by rw [hcb]; decide)] at he
        have HB := Lib.hid (bad_any x w true (by rw [hcb]; rfl))
        have HE := Lib.hid he
        clear he hcb
        go_wp2_with fail
        refine HB.out.mono ?_
        rintro e w' ⟨rfl, rfl⟩
        go_wp2_with fail
        go_ret
        exact ⟨by rw [← HE.out]; rfl, rfl⟩
    · obtain rfl : j = n := by omega
      have HE := Lib.hid he
      clear he
      go_wp2_with fail
      go_ret
      exact ⟨by rw [← HE.out, List.drop_of_length_le (by have := HL.out; omega)]; rfl, rfl⟩

theorem contains_any (A : Option Addr) (n c B : Nat) (l : List Int) (w : World) (hs : Sees w B 1 A n (l.map r32)) (hn : (n : Int) ≤ 9223372036854775807) (b : Bool) (hb : (b = false ∧ badAt l 0 < 0) ∨ (b = true ∧ 0 ≤ badAt l 0)) :
    Calls Try.prog 22 #[.slice A n c, .func (.func 23) #[] #[]] w fun e w' => e = .returned (.bool b) ∧ w = w' := by
  have H := Lib.hid (index_any A n c B l w hs hn)
  clear hs hn
  rcases hb with ⟨rfl, hb⟩ | ⟨rfl, hb⟩
  all_goals
    go_enter Try.func22, Try.ntmps22
    go_wp2_with fail
    refine H.out.mono ?_
    rintro e w' ⟨rfl, rfl⟩
    go_wp2_with fail
    go_ret
    exact ⟨by simp [hb]; try omega, rfl⟩

theorem results_ct {P : Program} {fn : Func} {p q : Tmp} {ty : TypeId} (h : fn.results = #[.cell p ty, .tmp q]) (tmps : Array Value) (w : World) (g : Nat) (t : TypeId) (cs : Array Value) (fr : Nat × Nat) (d : TypeDesc) (x : Value)
    (hp : tmps.getD p undef = .pointer (some ⟨g, 0, none⟩)) (hq : tmps.getD q undef = x) (hg : w.heap[g]? = some (.cells cs t fr))
    (hu : P.underlying ty = some d) (hd : (match d with | .struct _ | .array _ _ => true | _ => false) = true) (hi : (P.info? ty).map (·.size) = some cs.size) :
    (results fn tmps).run P w = .ok (.tuple #[.agg cs, x]) w := by
  have hp' : tmps[p]?.getD undef = .pointer (some ⟨g, 0, none⟩) := by simpa using hp
  have hq' : tmps[q]?.getD undef = x := by simpa using hq
  simp [results, h, hp', hq', asAddr, run_loadVar_row w g t ty cs fr d hg hu hd hi]

theorem ch_nil : (chC []).toArray = #[.int .i32 0, .int .i32 0, .int .i32 0, .int .i32 0, .int .i32 0, .int .i32 0, .int .i32 0, .int .i32 0, .int .i32 0, .int .i32 0, .int .i32 0, .int .i32 0, .int .i32 0, .int .i32 0, .int .i32 0, .int .i32 0,
    .int .i32 0, .int .i32 0, .int .i32 0, .int .i32 0, .int .i32 0, .int .i32 0, .int .i32 0, .int .i32 0, .int .i32 0, .int .i32 0, .int .i32 0, .int .i32 0, .int .i32 0, .int .i32 0, .int .i32 0, .int .i32 0, .int .i64 0] := rfl

theorem all_one (l : List Int) : (chC l).toArray.all (·.oneCell') = true := by
  rw [Array.all_eq_true_iff_forall_mem]
  intro v hv
  exact chC_one l v (by simpa using hv)

set_option maxRecDepth 100000 in
set_option maxHeartbeats 2000000 in
theorem of_bad (A : Option Addr) (n c B : Nat) (l : List Int) (w : World) (hs : Sees w B 1 A n (l.map r32)) (hB : B ≤ w.heap.size) (hn : (n : Int) ≤ 9223372036854775807) (hb : 0 ≤ badAt l 0) :
    Calls Try.prog 10 #[.slice A n c] w fun e w' => e = .returned (.tuple #[chV [], .int .i64 3]) ∧ Below w.heap.size w w' := by
  go_enter Try.func10, Try.ntmps10
  go_wp2_with fail
  rw [← ch_nil]
  obtain ⟨w1, hw1⟩ : ∃ w1, w.alloc (.cells (chC []).toArray 26) = w1 := ⟨_, rfl⟩
  have hg1 : w1.heap[w.heap.size]? = some (.cells (chC []).toArray 26) := by rw [← hw1]; exact heap_alloc_new w _
  have hb1 : Below w.heap.size w w1 := by rw [← hw1]; exact (Below.refl _ _).alloc (Nat.le_refl _) _
  have H := contains_any A n c B l w1 (hs.below hb1 hB) hn true (.inr ⟨rfl, hb⟩)
  rw [hw1]
  have HB1 := Lib.hid hb1
  have HG := Lib.hid hg1
  clear hw1 hg1 hb1 hs hn hb
  refine H.mono ?_
  rintro e w' ⟨rfl, rfl⟩
  go_wp2_with (refine wpList_store_row rfl 26 (.tmp 2) (.tmp 8) rfl w.heap.size (chC []).toArray rfl rfl 26 (chC []).toArray HG.out (ch_info [] (by decide)) rfl (all_one []) ?_)
  exact bodyPost_ret (v := .tuple #[chV [], .int .i64 3]) (results_ct rfl _ _ w.heap.size _ (chC []).toArray (0, 0) _ _ rfl rfl (setRow_heap _ _ _ _ _ _ HG.out) Try.underlying26 rfl (ch_info [] (by decide))) rfl
    ⟨rfl, below_setRow HB1.out (Nat.le_refl _) _⟩

set_option maxRecDepth 100000 in
set_option maxHeartbeats 2000000 in
theorem of_long (A : Option Addr) (n c B : Nat) (l : List Int) (w : World) (hs : Sees w B 1 A n (l.map r32)) (hB : B ≤ w.heap.size) (hn : (n : Int) ≤ 9223372036854775807) (hb : badAt l 0 < 0) (h32 : (32 : Int) < n) :
    Calls Try.prog 10 #[.slice A n c] w fun e w' => e = .returned (.tuple #[chV [], .int .i64 8]) ∧ Below w.heap.size w w' := by
  go_enter Try.func10, Try.ntmps10
  go_wp2_with fail
  rw [← ch_nil]
  obtain ⟨w1, hw1⟩ : ∃ w1, w.alloc (.cells (chC []).toArray 26) = w1 := ⟨_, rfl⟩
  have hg1 : w1.heap[w.heap.size]? = some (.cells (chC []).toArray 26) := by rw [← hw1]; exact heap_alloc_new w _
  have hb1 : Below w.heap.size w w1 := by rw [← hw1]; exact (Below.refl _ _).alloc (Nat.le_refl _) _
  have H := contains_any A n c B l w1 (hs.below hb1 hB) hn false (.inl ⟨rfl, hb⟩)
  rw [hw1]
  have HB1 := Lib.hid hb1
  have HG := Lib.hid hg1
  clear hw1 hg1 hb1 hs hb
  refine H.mono ?_
  rintro e w' ⟨rfl, rfl⟩
  go_wp2_with (refine wpList_store_row rfl 26 (.tmp 2) (.tmp 13) rfl w.heap.size (chC []).toArray rfl rfl 26 (chC []).toArray HG.out (ch_info [] (by decide)) rfl (all_one []) ?_)
  exact bodyPost_ret (v := .tuple #[chV [], .int .i64 8]) (results_ct rfl _ _ w.heap.size _ (chC []).toArray (0, 0) _ _ rfl rfl (setRow_heap _ _ _ _ _ _ HG.out) Try.underlying26 rfl (ch_info [] (by decide))) rfl
    ⟨rfl, below_setRow HB1.out (Nat.le_refl _) _⟩

theorem splice_eq (l : List Int) (hl : l.length ≤ 32) : splice (chC []) 0 (l.map r32) = l.map r32 ++ List.replicate (32 - l.length) (r32 0) ++ [.int .i64 0] := by
  unfold splice chC
  simp only [List.map_nil, List.nil_append, List.length_nil, Nat.sub_zero, List.take_zero, Nat.zero_add, List.length_map]
  rw [List.drop_append_of_le_length (by simp; omega), List.drop_replicate]
  simp

theorem ch_copy (l : List Int) (hl : l.length ≤ 32) : (splice (chC []) 0 (l.map r32)).toArray.setIfInBounds 32 (.int .i64 (l.length : Int)) = (chC l).toArray := by
  apply Array.ext'
  simp only [Array.toList_setIfInBounds]
  rw [splice_eq l hl]
  unfold chC
  have h2 : (l.map r32 ++ List.replicate (32 - l.length) (r32 0)).length = 32 := by simp; omega
  rw [List.set_append_right _ _ (by omega), h2]
  rfl

theorem splice_last (l : List Int) (hl : l.length ≤ 32) : (splice (chC []) 0 (l.map r32)).toArray[32]? = some (.int .i64 0) := by
  rw [List.getElem?_toArray, splice_eq l hl]
  have h2 : (l.map r32 ++ List.replicate (32 - l.length) (r32 0)).length = 32 := by simp; omega
  rw [List.getElem?_append_right (by omega), h2]
  rfl

theorem copy_src {w : World} {B n : Nat} {A : Option Addr} {xs : List Value} (hs : Sees w B 1 A n xs) (hp : 0 < xs.length) : ∃ ad, A = some ad ∧ ∀ j v, xs[j]? = some v → w.cell? (ad.add j) = some v := by
  obtain ⟨b, o, rfl, _, hc⟩ := hs.2 (by have := hs.1; omega)
  exact ⟨_, rfl, fun j v hv => by rw [Addr.add_lit]; exact hc j v hv⟩

theorem i32_one : (Try.prog.info? 21).map (·.size) = some 1 := by kernel_rfl

set_option maxRecDepth 100000 in
set_option maxHeartbeats 2000000 in
theorem of_ok (A : Option Addr) (n c B : Nat) (l : List Int) (w : World) (hs : Sees w B 1 A n (l.map r32)) (hB : B ≤ w.heap.size) (hb : badAt l 0 < 0) (h32 : n ≤ 32) :
    Calls Try.prog 10 #[.slice A n c] w fun e w' => e = .returned (.tuple #[chV l, .int .i64 0]) ∧ Below w.heap.size w w' := by
  have hnl : l.length = n := by have := hs.1; simp at this; omega
  have hnI : (n : Int) ≤ 32 := by omega
  have HL := Lib.hid hnl
  have hl32 : l.length ≤ 32 := by omega
  clear hnl
  go_enter Try.func10, Try.ntmps10
  go_wp2_with fail
  rw [← ch_nil]
  obtain ⟨w1, hw1⟩ : ∃ w1, w.alloc (.cells (chC []).toArray 26) = w1 := ⟨_, rfl⟩
  have hg1 : w1.heap[w.heap.size]? = some (.cells (chC []).toArray 26) := by rw [← hw1]; exact heap_alloc_new w _
  have hb1 : Below w.heap.size w w1 := by rw [← hw1]; exact (Below.refl _ _).alloc (Nat.le_refl _) _
  have hsz : w1.heap.size = w.heap.size + 1 := by rw [← hw1]; simp
  have hs1 := hs.below hb1 hB
  have H := contains_any A n c B l w1 hs1 (by omega) false (.inl ⟨rfl, hb⟩)
  rw [hw1]
  have HB1 := Lib.hid hb1
  have HG := Lib.hid hg1
  have HZ := Lib.hid hsz
  have HS := Lib.hid (hs1.alloc (o := .cells (chC []).toArray 26) (by omega))
  clear hw1 hg1 hb1 hs hb hs1 hsz
  refine H.mono ?_
  rintro e w' ⟨rfl, rfl⟩
  go_wp2_with (first
    | (refine wpList_copy_splice rfl (.tmp 15) (.tmp 16) 22 22 rfl 21 Try.underlying22 i32_one _ _ 32 32 n c rfl rfl w1.heap.size 0 (chC []) 26 (heap_alloc_new w1 _) (l.map r32)
        (by rw [List.length_map, HL.out]; exact (Nat.min_eq_left h32).symm) (fun hp => ⟨rfl, copy_src HS.out hp⟩) (by rw [List.length_map, HL.out, chC_len [] (by decide)]; omega) (r32_one l) w1.heap.size w1 ((Below.refl _ w1).alloc (Nat.le_refl _) _) (Nat.le_refl _) ?_
       intro w2 hh hb2
       have hc2 : w2.cell? ⟨w1.heap.size, 32, none⟩ = some (.int .i64 0) := by
         rw [cell_of_row w2 _ 32 _ _ _ hh.out]
         exact splice_last l (by rw [HL.out]; exact h32)
       have hf2 := frozen_of_row w2 _ 32 _ _ hh.out
       have HH2 := Lib.hid (show (w2.setCell ⟨w1.heap.size, 32, none⟩ (.int .i64 (l.length : Int))).heap[w1.heap.size]? = some (.cells (chC l).toArray 26) by
         rw [heap_setCell_same _ _ _ _ _ _ hh.out, ch_copy l hl32])
       have HG2 := Lib.hid (show (w2.setCell ⟨w1.heap.size, 32, none⟩ (.int .i64 (l.length : Int))).heap[w.heap.size]? = some (.cells (chC []).toArray 26) by
         rw [heap_setCell_other _ _ _ _ (by have := HZ.out; show w.heap.size ≠ w1.heap.size; omega), hb2.block _ (by have := HZ.out; omega)]
         exact HG.out)
       have HB2 := Lib.hid hb2
       clear hb2)
    | (refine wpList_load_row rfl 26 (.tmp 4) rfl w1.heap.size rfl 26 (chC l).toArray (0, 0) _ HH2.out Try.underlying26 rfl (ch_info l hl32) ?_)
    | (refine wpList_store_row rfl 26 (.tmp 2) (.tmp 19) rfl w.heap.size (chC l).toArray rfl rfl 26 (chC []).toArray HG2.out (ch_info l hl32) (by rw [List.size_toArray, List.size_toArray, chC_len l hl32]; rfl) (all_one l) ?_))
  exact bodyPost_ret (v := .tuple #[chV l, .int .i64 0]) (results_ct rfl _ _ w.heap.size _ (chC l).toArray (0, 0) _ _ rfl rfl (setRow_heap _ _ _ _ _ _ HG2.out) Try.underlying26 rfl (ch_info l hl32)) rfl
    ⟨rfl, below_setRow ((HB1.out.trans (HB2.out.mono (by have := HZ.out; omega))).setCell (p := ⟨w1.heap.size, 32, none⟩) (by have := HZ.out; show w.heap.size ≤ w1.heap.size; omega) _) (Nat.le_refl _) _⟩

end Go.Proofs.Ytcdpbkhlkgefdaa
