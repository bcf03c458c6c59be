/-
  Contracts of rubricref09.Code, Newlines, Of: the document's answers.
-/
import Derived.Test.YtcdpbkhlkgefdaaChunkR
namespace Go.Proofs.Ytcdpbkhlkgefdaa
open Go.RowKit

/-- Where the newlines stand, counted from 'i'. -/
def nlAt : List Int → Nat → List Int
  | [], _ => []
  | x :: l, i => if x = 10 then (i : Int) :: nlAt l (i + 1) else nlAt l (i + 1)

theorem nlAt_len : ∀ (l : List Int) (i : Nat), (nlAt l i).length ≤ l.length := by
  intro l
  induction l with
  | nil => intro i; exact Nat.le_refl _
  | cons x l ih =>
    intro i
    have := ih (i + 1)
    unfold nlAt
    split
    · simp; exact this
    · simp; omega

theorem nlAt_snoc : ∀ (l : List Int) (x : Int) (i : Nat), nlAt (l ++ [x]) i = nlAt l i ++ (if x = 10 then [((i + l.length : Nat) : Int)] else []) := by
  intro l
  induction l with
  | nil => intro x i; simp [nlAt]
  | cons y l ih =>
    intro x i
    rw [List.cons_append, nlAt, nlAt, ih x (i + 1), List.length_cons, show i + 1 + l.length = i + (l.length + 1) by omega]
    split
    · rfl
    · rfl

theorem nlAt_take (l : List Int) (j : Nat) (x : Int) (h : l[j]? = some x) : nlAt (l.take (j + 1)) 0 = nlAt (l.take j) 0 ++ (if x = 10 then [(j : Int)] else []) := by
  obtain ⟨hj, he⟩ := List.getElem?_eq_some_iff.1 h
  rw [List.take_succ_eq_append_getElem hj, he, nlAt_snoc, List.length_take, Nat.min_eq_left (by omega), Nat.zero_add]

theorem own_base' {w : World} {base : Nat} {e : TypeId} {size : Nat} {v : Value} {n : Nat} {xs : List Value} (h : w.ownsRow base e size v n xs) {k : Nat} (hk : v.ownBlock = some k) : base ≤ k := by
  obtain ⟨A, c, rfl, _, _, _, h2⟩ := own_shape h
  cases A with
  | none => cases hk
  | some ad =>
    obtain ⟨g, rfl, h3, _⟩ := h2 ad rfl
    cases hk
    exact h3

theorem ref_int_info : (Try.prog.info? 3).map (fun i => (i.zero, i.size, i.bytes)) = some (some (.int .i64 0), 1, 8) := by kernel_rfl

set_option maxHeartbeats 1000000 in
theorem refCode_any (r : Int) (w : World) : Calls Try.prog 25 #[.int .i32 r] w fun e w' => e = .returned (.bool (codeB r)) ∧ w = w' := by
  have h : (codeB r = false ∧ ¬ 0 ≤ r) ∨ (codeB r = false ∧ 0 ≤ r ∧ ¬ r ≤ 1114111) ∨ (codeB r = true ∧ 0 ≤ r ∧ r ≤ 1114111 ∧ r < 55296) ∨ (codeB r = true ∧ 0 ≤ r ∧ r ≤ 1114111 ∧ ¬ r < 55296 ∧ 57343 < r) ∨ (codeB r = false ∧ 0 ≤ r ∧ r ≤ 1114111 ∧ ¬ r < 55296 ∧ ¬ 57343 < r) := by
    simp only [codeB, decide_eq_true_eq, decide_eq_false_iff_not]
    omega
  rcases h with ⟨hc, h1⟩ | ⟨hc, h1, h2⟩ | ⟨hc, h1, h2, h3⟩ | ⟨hc, h1, h2, h3, h4⟩ | ⟨hc, h1, h2, h3, h4⟩
  all_goals
    rw [hc]
    clear hc
    go_enter Try.func25, Try.ntmps25
    go_wp2_with fail
    go_ret
    exact ⟨rfl, rfl⟩

set_option maxRecDepth 100000 in
set_option maxHeartbeats 2000000 in
theorem refOf_any (A : Option Addr) (n c B : Nat) (l : List Int) (w : World) (hs : Sees w B 1 A n (l.map r32)) (hn : n ≤ 1000) :
    Calls Try.prog 11 #[.slice A n c] w fun e w' => e = .returned (.int .i64 (ofE l)) ∧ w = w' := by
  have hl : l.length = n := by have := hs.1; simp at this; omega
  have HL := Lib.hid hl
  have hnI : (n : Int) ≤ 1000 := by omega
  clear hl
  go_enter Try.func11, Try.ntmps11
  go_wp2_with fail
  go_loop [3] (fun v3 => ∃ j : Nat, j ≤ n ∧ v3 = .int .i64 j ∧ badAt (l.drop j) j = badAt l 0) (fun v3 => n - (intOf v3).toNat)
  case atStart => exact ⟨0, Nat.zero_le _, rfl, rfl⟩
  case round =>
    obtain ⟨j, hj, rfl, he⟩ := hrel
    by_cases hlt : j < n
    · obtain ⟨b, o, rfl, hb, hcell⟩ := hs.2 (by omega)
      obtain ⟨x, hx⟩ : ∃ x, l[j]? = some x := ⟨_, List.getElem?_eq_getElem (by have := HL.out; omega)⟩
      have hcx := hcell j (.int .i32 x) (by simp [hx, r32])
      rw [badAt_drop l j x hx] at he
      have hjI : (j : Int) < n := by omega
      have HB := Lib.hid (refCode_any x w)
      clear hcell hx hs
      cases hcb : codeB x with
      | true =>
        rw [if_pos hcb] at he
        rw [hcb] at HB
        have HE := Lib.hid he
        clear he hcb
        go_wp2_with fail
        refine HB.out.mono ?_
        rintro e w' ⟨rfl, rfl⟩
        go_wp2_with fail
        go_round
        case rel => exact ⟨j + 1, by omega, by go_num, HE.out⟩
        case measure => simp [intOf]; omega
      | false =>
        rw [if_neg (by rw [hcb]; decide)] at he
        rw [hcb] at HB
        have HE := Lib.hid he
        clear he hcb
        go_wp2_with fail
        refine HB.out.mono ?_
        rintro e w' ⟨rfl, rfl⟩
        go_wp2_with fail
        go_ret
        exact ⟨by unfold ofE; rw [if_pos (by have := HE.out; omega)]; rfl, rfl⟩
    · obtain rfl : j = n := by omega
      have HE := Lib.hid (show badAt l 0 < 0 by rw [← he, List.drop_of_length_le (by have := HL.out; omega)]; show (-1 : Int) < 0; decide)
      clear he
      by_cases h32 : j ≤ 32
      · have h32I : (j : Int) ≤ 32 := by omega
        clear h32
        go_wp2_with fail
        go_ret
        exact ⟨by unfold ofE; rw [if_neg (by have := HE.out; omega), if_neg (by have := HL.out; omega)]; rfl, rfl⟩
      · have h32I : (32 : Int) < j := by omega
        clear h32
        go_wp2_with fail
        go_ret
        exact ⟨by unfold ofE; rw [if_neg (by have := HE.out; omega), if_pos (by have := HL.out; omega)]; rfl, rfl⟩

set_option maxRecDepth 100000 in
set_option maxHeartbeats 2000000 in
theorem refNewlines_any (A : Option Addr) (n c B : Nat) (l : List Int) (w : World) (hs : Sees w B 1 A n (l.map r32)) (hB : B ≤ w.heap.size) (hn : n ≤ 1000) :
    Calls Try.prog 26 #[.slice A n c] w fun e w' => ∃ v, e = .returned v ∧ w'.ownsRow w.heap.size 3 1 v (nlAt l 0).length ((nlAt l 0).map (Value.int .i64)) ∧ Below w.heap.size w w' := by
  have hl : l.length = n := by have := hs.1; simp at this; omega
  obtain ⟨i0, ii0, iz0, iz1, iz2⟩ := info_parts ref_int_info
  have hnI : (n : Int) ≤ 1000 := by omega
  have HL := Lib.hid hl
  clear hl
  go_enter Try.func26, Try.ntmps26
  go_wp2_with fail
  go_loopw [3, 4] (fun v3 v4 wr => ∃ j : Nat, j ≤ n ∧ v4 = .int .i64 j ∧ wr.ownsRow w.heap.size 3 1 v3 (nlAt (l.take j) 0).length ((nlAt (l.take j) 0).map (Value.int .i64)) ∧ Below w.heap.size w wr) (fun _ v4 _ => n - (intOf v4).toNat)
  case atStart => exact ⟨0, Nat.zero_le _, rfl, World.ownsRow_nil _ _ _ _, Below.refl _ _⟩
  case round =>
    obtain ⟨j, hj, rfl, ho, hb0⟩ := hrel
    by_cases hlt : j < n
    · obtain ⟨b, o, rfl, hb, hcell⟩ := (hs.below hb0 hB).2 (by omega)
      obtain ⟨x, hx⟩ : ∃ x, l[j]? = some x := ⟨_, List.getElem?_eq_getElem (by have := HL.out; omega)⟩
      have hcx := hcell j (.int .i32 x) (by simp [hx, r32])
      have HT := Lib.hid (nlAt_take l j x hx)
      have hjI : (j : Int) < n := by omega
      have hq : (nlAt (l.take j) 0).length ≤ 1000 := by have := nlAt_len (l.take j) 0; rw [List.length_take] at this; omega
      obtain ⟨q, hqe⟩ : ∃ q, (nlAt (l.take j) 0).length = q := ⟨_, rfl⟩
      obtain ⟨xs, hxs⟩ : ∃ xs, (nlAt (l.take j) 0).map (Value.int .i64) = xs := ⟨_, rfl⟩
      rw [hqe] at ho hq
      rw [hxs] at ho
      have HQ := Lib.hid (And.intro hqe hxs)
      have HO := Lib.hid (And.intro ho hb0)
      clear hcell hx hs hqe hxs ho hb0
      by_cases hx10 : x = 10
      · subst hx10
        go_wp2_with (
          at_builtin
          refine wpList_append_sees _ rfl _ _ _ rfl w.heap.size 3 i0 _ 1 8 Try.underlying49 ii0 iz0 iz1 iz2 rfl (by omega) _ q xs rfl
            (HO.out.1.alloc _) _ _ 1 1 _ rfl (Sees.one _ _ _) (by intro u hu; simp at hu; subst hu; rfl) (by simp only [maxLen]; omega) (by omega) ?_ ?_
          · have := HO.out.2.size
            simp
            omega
          intro v3' w3 hown3 hg3 hat3 hnil3
          have hown := Lib.hid hown3
          have hb3 := Lib.hid ((HO.out.2.alloc HO.out.2.size _).grown hg3 (by have := HO.out.2.size; simp; omega) (fun _ hk => own_base' HO.out.1 hk))
          clear hown3 hg3 hat3 hnil3)
        go_roundw
        case rel =>
          refine ⟨j + 1, by omega, by go_num, ?_, hb3.out⟩
          rw [HT.out, if_pos rfl, List.length_append, List.map_append, HQ.out.1, HQ.out.2]
          exact hown.out
        case measure => simp [intOf]; omega
      · have e1 : (x == 10) = false := by simp [hx10]
        clear hx10
        go_wp2_with fail
        go_roundw
        case rel =>
          refine ⟨j + 1, by omega, by go_num, ?_, HO.out.2⟩
          rw [HT.out, if_neg (by simpa using e1), List.append_nil, HQ.out.1, HQ.out.2]
          exact HO.out.1
        case measure => simp [intOf]; omega
    · obtain rfl : j = n := by omega
      rw [List.take_of_length_le (by have := HL.out; omega)] at ho
      have HO := Lib.hid (And.intro ho hb0)
      clear ho hb0
      go_wp2_with fail
      go_ret
      exact ⟨_, rfl, HO.out.1, HO.out.2⟩

end Go.Proofs.Ytcdpbkhlkgefdaa
