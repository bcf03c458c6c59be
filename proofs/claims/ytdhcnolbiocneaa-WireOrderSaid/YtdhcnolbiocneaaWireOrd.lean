/-
  The walk of the law WireOrder.
-/
import Derived.Test.YtdhcnolbiocneaaWireC
namespace Go.Proofs.Ytdhcnolbiocneaa
open Go.RowKit

theorem near (i : Int) (h : -9223372036854775808 < i) (_h2 : i ≤ 9223372036854775807) : (form 9 (zigN i)).length ≤ (form 9 (zigN (-i))).length + 1 ∧ (form 9 (zigN (-i))).length ≤ (form 9 (zigN i)).length + 1 :=
  ⟨form_next 9 _ _ (by unfold zigN; split <;> split <;> omega), form_next 9 _ _ (by unfold zigN; split <;> split <;> omega)⟩

theorem beq_false_of {a b : Int} (h : a ≠ b) : (a == b) = false := by simp [h]

set_option maxRecDepth 100000 in
set_option maxHeartbeats 2000000 in
theorem order_min (x y lx ly : Nat) (hx : x < 18446744073709551616) (hy : y < 18446744073709551616) (HX : Hid ((form 9 x).length = lx)) (HY : Hid ((form 9 y).length = ly)) (b1 : (1 : Int) ≤ lx) (b2 : (lx : Int) ≤ 10)
    (hxy : (x : Int) < y → (lx : Int) ≤ ly) (hyx : (y : Int) < x → (ly : Int) ≤ lx) (w : World) :
    Calls Try.prog 4 #[.int .u64 x, .int .u64 y, .int .i64 (-9223372036854775808)] w fun e w' => e = .returned (.bool true) ∧ Below w.heap.size w w' := by
  have H1 := Lib.hid (fun w => appendUint_any none 0 0 [] (x : Int) (by omega) (by omega) w (Sees.nil_ _ _ _ _) (by simp) (by omega))
  have H2 := Lib.hid (fun w => appendUint_any none 0 0 [] (y : Int) (by omega) (by omega) w (Sees.nil_ _ _ _ _) (by simp) (by omega))
  clear hx hy
  go_enter Try.func4, Try.ntmps4
  go_wp2_with fail
  refine (H1.out _).mono ?_
  rintro e w1 ⟨v1, rfl, ho1, hb1, hn1⟩
  rw [Int.toNat_natCast, HX.out, Nat.zero_add] at ho1
  obtain ⟨A1, c1, rfl, _⟩ := own_shape ho1
  clear ho1 hn1
  go_wp2_with fail
  refine (H2.out _).mono ?_
  rintro e w2 ⟨v2, rfl, ho2, hb2, hn2⟩
  rw [Int.toNat_natCast, HY.out, Nat.zero_add] at ho2
  obtain ⟨A2, c2, rfl, _⟩ := own_shape ho2
  have hbel2 : Below w.heap.size w w2 := hb1.trans (hb2.mono hb1.size)
  have hz2 := hbel2.size
  clear ho2 hn2 hb1 hb2
  go_wp2_with fail
  all_goals
    refine (appendInt_any none 0 0 [] (-9223372036854775808) (by omega) (by omega) _ (Sees.nil_ _ _ _ _) (by simp) (by omega)).mono ?_
    rintro e w3 ⟨v3, rfl, ho3, hb3, hn3⟩
    rw [show (form 9 (zigN (-9223372036854775808))).length = 10 from by decide, Nat.zero_add] at ho3
    obtain ⟨A3, c3, rfl, _⟩ := own_shape ho3
    have hbel3 : Below w.heap.size w w3 := hbel2.trans (hb3.mono hz2)
    clear ho3 hn3 hb3
    go_wp2_with (go_at_call 9; refine (known_any _).mono ?_; rintro e w4 ⟨rfl, hb4⟩)
    go_ret
    exact ⟨rfl, hbel3.trans (hb4.mono hbel3.size)⟩

set_option maxRecDepth 100000 in
set_option maxHeartbeats 2000000 in
theorem order_else (x y lx ly : Nat) (i : Int) (hx : x < 18446744073709551616) (hy : y < 18446744073709551616) (hi0 : -9223372036854775808 < i) (hi1 : i ≤ 9223372036854775807) (HX : Hid ((form 9 x).length = lx)) (HY : Hid ((form 9 y).length = ly)) (b1 : (1 : Int) ≤ lx) (b2 : (lx : Int) ≤ 10)
    (hxy : (x : Int) < y → (lx : Int) ≤ ly) (hyx : (y : Int) < x → (ly : Int) ≤ lx) (w : World) :
    Calls Try.prog 4 #[.int .u64 x, .int .u64 y, .int .i64 i] w fun e w' => e = .returned (.bool true) ∧ Below w.heap.size w w' := by
  have H1 := Lib.hid (fun w => appendUint_any none 0 0 [] (x : Int) (by omega) (by omega) w (Sees.nil_ _ _ _ _) (by simp) (by omega))
  have H2 := Lib.hid (fun w => appendUint_any none 0 0 [] (y : Int) (by omega) (by omega) w (Sees.nil_ _ _ _ _) (by simp) (by omega))
  have H3 := Lib.hid (fun w => appendInt_any none 0 0 [] i (by omega) hi1 w (Sees.nil_ _ _ _ _) (by simp) (by omega))
  have H4 := Lib.hid (fun w => appendInt_any none 0 0 [] (-i) (by omega) (by omega) w (Sees.nil_ _ _ _ _) (by simp) (by omega))
  have hib := beq_false_of (a := i) (b := -9223372036854775808) (by omega)
  have hneg : wrap64 (-i) = -i := IntWalk.wrap64_in _ (by omega)
  have HN := near i hi0 hi1
  obtain ⟨lu, hlu⟩ : ∃ lu, (form 9 (zigN i)).length = lu := ⟨_, rfl⟩
  obtain ⟨ld, hld⟩ : ∃ ld, (form 9 (zigN (-i))).length = ld := ⟨_, rfl⟩
  have q1 := form_le 9 (zigN i)
  have q2 := form_le 9 (zigN (-i))
  rw [hlu, hld] at HN
  rw [hlu] at q1
  rw [hld] at q2
  have HU := Lib.hid hlu; clear hlu
  have HD := Lib.hid hld; clear hld
  have d1 : (lu : Int) - ld ≤ 1 := by omega
  have d2 : (ld : Int) - lu ≤ 1 := by omega
  have d3 : (lu : Int) ≤ 10 := by omega
  have d4 : (ld : Int) ≤ 10 := by omega
  clear hx hy HN q1 q2 hi0 hi1
  go_enter Try.func4, Try.ntmps4
  go_wp2_with fail
  refine (H1.out _).mono ?_
  rintro e w1 ⟨v1, rfl, ho1, hb1, hn1⟩
  rw [Int.toNat_natCast, HX.out, Nat.zero_add] at ho1
  obtain ⟨A1, c1, rfl, _⟩ := own_shape ho1
  clear ho1 hn1
  go_wp2_with fail
  refine (H2.out _).mono ?_
  rintro e w2 ⟨v2, rfl, ho2, hb2, hn2⟩
  rw [Int.toNat_natCast, HY.out, Nat.zero_add] at ho2
  obtain ⟨A2, c2, rfl, _⟩ := own_shape ho2
  have hbel2 : Below w.heap.size w w2 := hb1.trans (hb2.mono hb1.size)
  have hz2 := hbel2.size
  clear ho2 hn2 hb1 hb2
  go_wp2_with fail
  all_goals
    refine (H3.out _).mono ?_
    rintro e w3 ⟨v3, rfl, ho3, hb3, hn3⟩
    rw [HU.out, Nat.zero_add] at ho3
    obtain ⟨A3, c3, rfl, _⟩ := own_shape ho3
    have hbel3 : Below w.heap.size w w3 := hbel2.trans (hb3.mono hz2)
    have hz3 := hbel3.size
    clear ho3 hn3 hb3
    go_wp2_with fail
    refine (H4.out _).mono ?_
    rintro e w4 ⟨v4, rfl, ho4, hb4, hn4⟩
    rw [HD.out, Nat.zero_add] at ho4
    obtain ⟨A4, c4, rfl, _⟩ := own_shape ho4
    have hbel4 : Below w.heap.size w w4 := hbel3.trans (hb4.mono hz3)
    clear ho4 hn4 hb4
    go_wp2_with (go_at_call 9; refine (known_any _).mono ?_; rintro e w5 ⟨rfl, hb5⟩)
    go_ret
    exact ⟨rfl, hbel4.trans (hb5.mono hbel4.size)⟩

theorem order_any (x y i : Int) (hx0 : 0 ≤ x) (hx : x < 18446744073709551616) (hy0 : 0 ≤ y) (hy : y < 18446744073709551616) (hi0 : -9223372036854775808 ≤ i) (hi1 : i ≤ 9223372036854775807) (w : World) :
    Calls Try.prog 4 #[.int .u64 x, .int .u64 y, .int .i64 i] w fun e w' => e = .returned (.bool true) ∧ Below w.heap.size w w' := by
  obtain ⟨x, rfl⟩ := Int.eq_ofNat_of_zero_le hx0
  obtain ⟨y, rfl⟩ := Int.eq_ofNat_of_zero_le hy0
  have p1 := form_pos 9 x
  have p2 := form_le 9 x
  have hxy : (x : Int) < y → ((form 9 x).length : Int) ≤ (form 9 y).length := fun h => by have := form_mono 9 x y (by omega); omega
  have hyx : (y : Int) < x → ((form 9 y).length : Int) ≤ (form 9 x).length := fun h => by have := form_mono 9 y x (by omega); omega
  by_cases hm : i = -9223372036854775808
  · subst hm
    exact order_min x y _ _ (by omega) (by omega) (Lib.hid rfl) (Lib.hid rfl) (by omega) (by omega) hxy hyx w
  · exact order_else x y _ _ i (by omega) (by omega) (by omega) hi1 (Lib.hid rfl) (Lib.hid rfl) (by omega) (by omega) hxy hyx w
end Go.Proofs.Ytdhcnolbiocneaa
