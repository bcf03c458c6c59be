/-
  arena.Arena[int64] where there is none (a nil pointer); All, the function that it hands back.
-/
import Derived.Test.YteelmlhknfbjdaaArenaK
import Derived.Test.YteelmlhknfbjdaaRound
namespace Go.Proofs.Yteelmlhknfbjdaa
open Go.RowKit

theorem nil_at (i : Int) (w : World) : Calls Try.prog 25 #[.pointer none, .int .i64 i] w fun e w' => e = .returned (.tuple #[.int .i64 0, .int .i64 1]) ∧ w = w' := by
  have H : Calls Try.prog 28 #[.pointer none, .int .i64 i] w fun e w' => e = .returned (.int .i64 1) ∧ w = w' := by
    go_enter Try.func28, Try.ntmps28
    go_wp2
    go_ret
    exact ⟨rfl, rfl⟩
  have H := Lib.hid H
  go_enter Try.func25, Try.ntmps25
  go_wp2_with (go_at_call 28; refine H.out.mono ?_; rintro e w' ⟨rfl, rfl⟩)
  go_ret2
  exact ⟨rfl, rfl⟩

theorem nil_free (i : Int) (w : World) : Calls Try.prog 10 #[.pointer none, .int .i64 i] w fun e w' => e = .returned (.int .i64 1) ∧ w = w' := by
  go_enter Try.func10, Try.ntmps10
  go_wp2
  go_ret
  exact ⟨rfl, rfl⟩

theorem nil_put (i x : Int) (w : World) : Calls Try.prog 24 #[.pointer none, .int .i64 i, .int .i64 x] w fun e w' => e = .returned (.int .i64 1) ∧ w = w' := by
  go_enter Try.func24, Try.ntmps24
  go_wp2
  go_ret
  exact ⟨rfl, rfl⟩

theorem nil_take (x : Int) (w : World) : Calls Try.prog 9 #[.pointer none, .int .i64 x] w fun e w' => e = .returned (.int .i64 (-1)) ∧ w = w' := by
  go_enter Try.func9, Try.ntmps9
  go_wp2
  go_ret
  exact ⟨rfl, rfl⟩

theorem nil_len (w : World) : Calls Try.prog 11 #[.pointer none] w fun e w' => e = .returned (.int .i64 0) ∧ w = w' := by
  go_enter Try.func11, Try.ntmps11
  go_wp2
  go_ret
  exact ⟨rfl, rfl⟩

theorem nil_cap (w : World) : Calls Try.prog 12 #[.pointer none] w fun e w' => e = .returned (.int .i64 0) ∧ w = w' := by
  go_enter Try.func12, Try.ntmps12
  go_wp2
  go_ret
  exact ⟨rfl, rfl⟩

/-- All: the arena's pointer is boxed; the function value has the box. -/
theorem all_any (v : Value) (w : World) (hv : v = .pointer none ∨ ∃ g, v = .pointer (some ⟨g, 0, none⟩)) : Calls Try.prog 27 #[v] w fun e w' => e = .returned (.func (.func 30) #[] #[.pointer (some ⟨w.heap.size, 0, none⟩)]) ∧ w' = w.alloc (.cells #[v] 24) := by
  rcases hv with rfl | ⟨g, rfl⟩
  all_goals
    go_enter Try.func27, Try.ntmps27
    go_wp2
    go_ret
    exact ⟨rfl, rfl⟩

/-- The things that are taken, with their numbers. -/
def takens {α : Type} : Nat → List (Option α) → List (Nat × α)
  | _, [] => []
  | k, none :: s => takens (k + 1) s
  | k, some x :: s => (k, x) :: takens (k + 1) s

theorem takens_append {α : Type} : ∀ (k : Nat) (s t : List (Option α)), takens k (s ++ t) = takens k s ++ takens (k + s.length) t
  | k, [], t => by simp [takens]
  | k, none :: s, t => by simp [takens, takens_append (k + 1) s t, Nat.add_assoc, Nat.add_comm 1]
  | k, some x :: s, t => by simp [takens, takens_append (k + 1) s t, Nat.add_assoc, Nat.add_comm 1]

theorem takens_some {s : List (Option Int)} {k : Nat} {x : Int} (h : s[k]? = some (some x)) : takens 0 (s.take (k + 1)) = takens 0 (s.take k) ++ [(k, x)] := by
  obtain ⟨hk, he⟩ := List.getElem?_eq_some_iff.1 h
  rw [List.take_succ_eq_append_getElem hk, he, takens_append, List.length_take, Nat.min_eq_left (by omega)]
  simp [takens]
theorem takens_none {s : List (Option Int)} {k : Nat} (h : s[k]? = some none) : takens 0 (s.take (k + 1)) = takens 0 (s.take k) := by
  obtain ⟨hk, he⟩ := List.getElem?_eq_some_iff.1 h
  rw [List.take_succ_eq_append_getElem hk, he, takens_append]
  simp [takens]
theorem takens_prefix (s : List (Option Int)) (k : Nat) : takens 0 (s.take k) <+: takens 0 s := by
  refine ⟨takens (0 + (s.take k).length) (s.drop k), ?_⟩
  rw [← takens_append, List.take_append_drop]
theorem takens_lt {s : List (Option Int)} {k : Nat} {x : Int} (h : s[k]? = some (some x)) : (takens 0 (s.take k)).length < (takens 0 s).length := by
  have := (takens_prefix s (k + 1)).length_le
  rw [takens_some h, List.length_append] at this
  simp at this
  omega

theorem own_zero2 (w : World) (e : TypeId) : (w.alloc (.cells #[] e)).ownsRow w.heap.size e 2 (.slice (some ⟨w.heap.size, 0, none⟩) 0 0) 0 [] :=
  ⟨rfl, .inr ⟨w.heap.size, 0, #[], rfl, Nat.le_refl _, heap_alloc_new w _, Nat.le_refl _, Nat.zero_le _, rfl, rfl⟩⟩

theorem places_one (s : List (Option Int)) : ∀ u ∈ s.flatMap (placeCells encI (.int .i64 0)), u.oneCell' = true := by
  intro u hu
  obtain ⟨o, _, ho⟩ := List.mem_flatMap.1 hu
  cases o <;> simp [placeCells, encI] at ho <;> rcases ho with rfl | rfl <;> rfl

attribute [local go_sem] Oper.semAt_some

/-- What All tells of an arena, as pairs. -/
def pairV (p : Nat × Int) : Array Value := #[.int .i64 (p.1 : Int), .int .i64 p.2]

set_option maxRecDepth 100000 in
set_option maxHeartbeats 2000000 in
theorem all1_in (n : Nat) (hn : 1 ≤ n) (l Bn g : Nat) (G FA : Nat → Prop) (enc : Nat × Int → Array Value) (s : List (Option Int)) (fr : List Nat) (hs : s.length ≤ 1000000) (J Jx : List (Nat × Int) → World → Prop) (W : World) (hG : ∀ k, G k → k < W.heap.size) (henc : ∀ (k : Nat) (x : Int), s[k]? = some (some x) → enc (k, x) = pairV (k, x))
    (hJ : AbidesFrom W.heap.size J)
    (hY : ∀ pre x W1, J pre W1 → pre.length < (takens 0 s).length → YieldAt Fence.wide (n - 1) Try.prog l (enc x) W1 fun e W' =>
      (e = .returned (.bool true) ∧ J (pre ++ [x]) W' ∧ KeepsCells G W1 W') ∨ (e = .returned (.bool false) ∧ Jx (pre ++ [x]) W'))
    (hBn : W.cell? ⟨Bn, 0, none⟩ = some (.pointer (some ⟨g, 0, none⟩))) (ha : ArI W FA g s fr) (h0 : J [] W) :
    CallsIn Fence.wide n Try.prog 30 #[.func (.yield l) #[] #[], .pointer (some ⟨Bn, 0, none⟩)] W fun e W' => (∃ v, e = .returned v) ∧
      ((∃ ys, ys = takens 0 s ∧ J ys W') ∨ (∃ pre, pre <+: takens 0 s ∧ Jx pre W')) := by
  obtain ⟨vp, vf, ha, hx1, hx2⟩ := ha
  clear hx1 hx2
  obtain ⟨i0, ii0, iz0, iz1, iz2⟩ := info_parts placeI_info
  have hc0 := ha.cell0
  obtain ⟨A, c, rfl, hx3⟩ := own_shape ha.places
  clear hx3
  have hsp := Sees.of_own ha.places
  have hB1 : (W.alloc (.cells #[] 66)).cell? ⟨Bn, 0, none⟩ = some (.pointer (some ⟨g, 0, none⟩)) := (((Below.refl _ W).alloc (Nat.le_refl _) _).cell (p := ⟨Bn, 0, none⟩) (World.block_lt_of_cell? W _ hBn)).trans hBn
  have hc1 : (W.alloc (.cells #[] 66)).cell? ⟨g, 0, none⟩ = some (.slice A s.length c) := (((Below.refl _ W).alloc (Nat.le_refl _) _).cell (p := ⟨g, 0, none⟩) (World.block_lt_of_cell? W _ hc0)).trans hc0
  have HG := Lib.hid hG
  have HJ := Lib.hid hJ
  have HY := Lib.hid hY
  have HEN := Lib.hid henc
  clear henc
  have HS := Lib.hid hsp
  clear hG hJ hY ha hc0 hsp
  refine callsIn_of_wp Try.func30 rfl trivial ?_ rfl
  simp only [Try.ntmps30, List.size_toArray, List.length_cons, List.length_nil, Nat.reduceAdd, Nat.reduceSub, Array.replicate_succ, Array.replicate_zero, List.push_toArray, List.append_toArray, List.nil_append, List.cons_append]
  gi_wp2_with (
    gi_at_builtin
    refine wpListIn_append_sees _ rfl _ _ _ rfl W.heap.size 66 i0 _ 2 16 Try.underlying60 ii0 iz0 iz1 iz2 rfl (by omega) _ 0 [] rfl
      (own_zero2 W 66) _ _ s.length _ _ rfl (HS.out.alloc (Nat.le_refl _) _) (places_one s) (by simp only [maxLen]; omega) (by omega) (by simp) ?_
    intro v1 w1 hown1 hg1 hat1 hnil1
    have P1 := Lib.hid (And.intro hown1 (And.intro hg1 hat1))
    obtain ⟨A1, c1, rfl, hx4⟩ := own_shape hown1
    clear hown1 hg1 hat1 hnil1 hx4)
  have hlow : W.heap.size ≤ w1.heap.size := by
    have := P1.out.2.1.size
    simp at this
    omega
  have hg01 : W.grownBy w1 none := by
    have hg := P1.out.2.1
    exact ⟨hg.os, hg.tape, hg.output, hlow, fun k hk _ => (hg.block k (by rw [World.size_alloc]; omega) (fun e => absurd (Option.some.inj e) (by show k ≠ W.heap.size; omega))).trans (Below.heap_alloc _ _ _ hk)⟩
  have J1 : J [] w1 := HJ.out [] W w1 none h0 hg01 (fun r e => by cases e)
  have O1 : w1.ownsRow W.heap.size 66 2 (.slice A1 s.length c1) s.length (s.flatMap (placeCells encI (.int .i64 0))) := by
    have := P1.out.1
    rw [Nat.zero_add, List.nil_append] at this
    exact this
  clear P1 hg01 hB1 hc1 hBn h0
  obtain ⟨len, hlen⟩ : ∃ len, s.length = len := ⟨_, rfl⟩
  rw [hlen] at O1 ⊢
  have hlenI : (len : Int) ≤ 1000000 := by omega
  have HLN := Lib.hid hlen
  clear hlen hs
  gi_loopw [14] (fun i wr => ∃ k : Nat, k ≤ len ∧ i = .int .i64 k ∧ J (takens 0 (s.take k)) wr ∧ wr.ownsRow W.heap.size 66 2 (.slice A1 len c1) len (s.flatMap (placeCells encI (.int .i64 0))) ∧ W.heap.size ≤ wr.heap.size) (fun i _ => len - (intOf i).toNat)
  case atStart => exact ⟨0, Nat.zero_le _, rfl, J1, O1, hlow⟩
  case round =>
    clear J1 O1 hlow
    obtain ⟨k, hk, rfl, hJk, hO, hlw⟩ := hrel
    by_cases hlt : k < len
    · obtain ⟨_, _, _, hA⟩ := own_slice hO
      obtain ⟨bc, rfl, hbc, _⟩ := hA (by omega)
      clear hA
      obtain ⟨o, ho⟩ : ∃ o, s[k]? = some o := ⟨_, List.getElem?_eq_getElem (by have := HLN.out; omega)⟩
      have hc0 := hO.cellAt (k * 2 + 0) (by omega)
      have hc1 := hO.cellAt (k * 2 + 1) (by omega)
      rw [places_get _ _ _ _ _ (by omega), ho] at hc0 hc1
      rw [Nat.add_zero] at hc0
      have hkI : (k : Int) < len := by omega
      have HO := Lib.hid hO
      clear hO
      cases o with
      | none =>
        replace hc0 : wr.cell? ⟨bc, k * 2, none⟩ = some (.int .i64 0) := hc0
        replace hc1 : wr.cell? ⟨bc, k * 2 + 1, none⟩ = some (.bool false) := hc1
        have HT := Lib.hid (takens_none ho)
        have J2 := HJ.out _ wr (wr.alloc (.cells #[.int .i64 0, .bool false] 66)) none hJk (World.grownBy_alloc _ _ _) (fun r e => by cases e)
        clear ho hJk
        gi_wp2
        refine ⟨fun _ h => (by cases h), ?_⟩
        gi_wp2
        go_roundw
        case rel => exact ⟨k + 1, by omega, by go_num, by rw [HT.out]; exact J2, HO.out.alloc _, by rw [World.size_alloc]; omega⟩
        case measure => simp [intOf]; omega
      | some x =>
        replace hc0 : wr.cell? ⟨bc, k * 2, none⟩ = some (.int .i64 x) := hc0
        replace hc1 : wr.cell? ⟨bc, k * 2 + 1, none⟩ = some (.bool true) := hc1
        have HT := Lib.hid (takens_some ho)
        have J2 := HJ.out _ wr (wr.alloc (.cells #[.int .i64 x, .bool true] 66)) none hJk (World.grownBy_alloc _ _ _) (fun r e => by cases e)
        obtain ⟨fn, tmps, assign, body, hy, hR⟩ := HY.out _ (k, x) _ J2 (takens_lt ho)
        have HR := Lib.hid hR
        rw [HEN.out k x ho] at hy
        unfold pairV at hy
        dsimp only at hy
        clear ho hJk hR
        gi_wp2
        refine HR.out.mono ?_
        rintro e W3 (⟨rfl, hJ3, hk3⟩ | ⟨rfl, hJx3⟩)
        · have hO3 := hk3.own (HO.out.alloc _) (fun j hj hG => by
            have h1 := HG.out j hG
            have h2 : bc = j := Option.some.inj hj
            omega)
          have hs3 := hk3.1
          rw [World.size_alloc] at hs3
          clear hk3
          gi_wp2
          go_roundw
          case rel => exact ⟨k + 1, by omega, by go_num, by rw [HT.out]; exact hJ3, hO3, by omega⟩
          case measure => simp [intOf]; omega
        · gi_wp2
          refine bodyPost_ret (results_none rfl _ _ _) rfl ?_
          exact ⟨⟨_, rfl⟩, .inr ⟨_, by rw [← HT.out]; exact takens_prefix s (k + 1), hJx3⟩⟩
    · obtain rfl : k = len := by omega
      gi_wp2
      go_end0
      exact ⟨⟨_, rfl⟩, .inl ⟨_, by rw [List.take_of_length_le (by have := HLN.out; omega)], hJk⟩⟩

set_option maxHeartbeats 1000000 in
theorem all1_nil_in (n : Nat) (l Bn : Nat) (J : List (Nat × Int) → World → Prop) (W : World) (hBn : W.cell? ⟨Bn, 0, none⟩ = some (.pointer none)) (h0 : J [] W) :
    CallsIn Fence.wide n Try.prog 30 #[.func (.yield l) #[] #[], .pointer (some ⟨Bn, 0, none⟩)] W fun e W' => (∃ v, e = .returned v) ∧ J [] W' := by
  refine callsIn_of_wp Try.func30 rfl trivial ?_ rfl
  simp only [Try.ntmps30, List.size_toArray, List.length_cons, List.length_nil, Nat.reduceAdd, Nat.reduceSub, Array.replicate_succ, Array.replicate_zero, List.push_toArray, List.append_toArray, List.nil_append, List.cons_append]
  gi_wp2
  refine bodyPost_ret (results_none rfl _ _ _) rfl ?_
  exact ⟨⟨_, rfl⟩, h0⟩

/-- All's function value, of an arena. -/
theorem all_stops_enc (n : Nat) (hn : 1 ≤ n) (Bn g : Nat) (G FA : Nat → Prop) (enc : Nat × Int → Array Value) (s : List (Option Int)) (fr : List Nat) (hs : s.length ≤ 1000000) (henc : ∀ (k : Nat) (x : Int), s[k]? = some (some x) → enc (k, x) = pairV (k, x)) (w : World) (hG : ∀ k, G k → k < w.heap.size)
    (hBn : w.cell? ⟨Bn, 0, none⟩ = some (.pointer (some ⟨g, 0, none⟩))) (ha : ArI w FA g s fr) :
    SeqStopsK Fence.wide n Try.prog 30 #[.pointer (some ⟨Bn, 0, none⟩)] enc (KeepsCells G) (fun xs => xs = takens 0 s) (fun pre => pre <+: takens 0 s) (takens 0 s).length w := fun l J Jx W hW hJ _ hY h0 =>
  all1_in n hn l Bn g G FA enc s fr hs J Jx W (fun k hk => Nat.lt_of_lt_of_le (hG k hk) hW.size) henc hJ hY ((hW.cell (p := ⟨Bn, 0, none⟩) (World.block_lt_of_cell? w _ hBn)).trans hBn) (ha.below hW) h0

theorem all_stops (n : Nat) (hn : 1 ≤ n) (Bn g : Nat) (G FA : Nat → Prop) (s : List (Option Int)) (fr : List Nat) (hs : s.length ≤ 1000000) (w : World) (hG : ∀ k, G k → k < w.heap.size)
    (hBn : w.cell? ⟨Bn, 0, none⟩ = some (.pointer (some ⟨g, 0, none⟩))) (ha : ArI w FA g s fr) :
    SeqStopsK Fence.wide n Try.prog 30 #[.pointer (some ⟨Bn, 0, none⟩)] pairV (KeepsCells G) (fun xs => xs = takens 0 s) (fun pre => pre <+: takens 0 s) (takens 0 s).length w :=
  all_stops_enc n hn Bn g G FA pairV s fr hs (fun _ _ _ => rfl) w hG hBn ha

/-- .. of a nil pointer. -/
theorem all_stops_nil (n : Nat) (Bn : Nat) (G : Nat → Prop) (w : World) (hBn : w.cell? ⟨Bn, 0, none⟩ = some (.pointer none)) :
    SeqStopsK Fence.wide n Try.prog 30 #[.pointer (some ⟨Bn, 0, none⟩)] pairV (KeepsCells G) (fun xs => xs = []) (fun _ => False) 0 w := fun l J Jx W hW _ _ _ h0 => by
  refine (all1_nil_in n l Bn J W ((hW.cell (p := ⟨Bn, 0, none⟩) (World.block_lt_of_cell? w _ hBn)).trans hBn) h0).mono ?_
  rintro e W' ⟨he, hj⟩
  exact ⟨he, .inl ⟨_, rfl, hj⟩⟩

end Go.Proofs.Yteelmlhknfbjdaa
