/-
  rubriclaw11.known.
-/
import Derived.Test.YtbioomilnjikpaaSpAd
namespace Go.Proofs.Ytbioomilnjikpaa
open Go.RowKit

theorem exec_slice3 {P : Program} {o : Oper} {ev : Operand → Value} {w w' : World} {v : Value} (t : TypeId) (x y z : Operand) (ho : o.op = .buildSlice t 3 #[(0, x), (1, y), (2, z)]) (a b c : Value) (hx : ev x = a) (hy : ev y = b) (hz : ev z = c)
    (h : (Instr.buildSlice t 3 #[(0, a), (1, b), (2, c)]).run P w = .ok v w') : (execOp ev o).run P w = .ok (.value v) w' := by
  subst hx hy hz
  unfold execOp
  simp only [ho, Sem.run_bind, List.map_toArray, List.map_cons, List.map_nil, h, Result.andThen_ok, Sem.run_pure]
theorem exec_slice2 {P : Program} {o : Oper} {ev : Operand → Value} {w w' : World} {v : Value} (t : TypeId) (x y : Operand) (ho : o.op = .buildSlice t 2 #[(0, x), (1, y)]) (a b : Value) (hx : ev x = a) (hy : ev y = b)
    (h : (Instr.buildSlice t 2 #[(0, a), (1, b)]).run P w = .ok v w') : (execOp ev o).run P w = .ok (.value v) w' := by
  subst hx hy
  unfold execOp
  simp only [ho, Sem.run_bind, List.map_toArray, List.map_cons, List.map_nil, h, Result.andThen_ok, Sem.run_pure]

/-- A new slice of spans: where it lies, what it reads as. -/
structure NewL (w w' : World) (b : Nat) (l : List Th) : Prop where
  below : Below w.heap.size w w'
  sees : Sees w' (b + 1) 2 (some ⟨b, 0, none⟩) l.length (rowT l)
  le : b + 1 ≤ w'.heap.size
  ge : w.heap.size ≤ b
theorem NewL.mk_ (w : World) (l : List Th) : NewL w (w.alloc (.cells (rowT l).toArray 34)) w.heap.size l :=
  ⟨(Below.refl _ _).alloc (Nat.le_refl _) _, Sees.things (heap_alloc_new _ _), by simp, Nat.le_refl _⟩
theorem NewL.off {w w' : World} {b : Nat} {l : List Th} (h : NewL w w' b l) {H : Nat → Prop} (hH : ∀ k, H k → k < w.heap.size) : ∀ b' o, (some ⟨b, 0, none⟩ : Option Addr) = some ⟨b', o, none⟩ → ¬ H b' := fun b' o e => by
  simp only [Option.some.injEq, Addr.mk.injEq] at e
  obtain ⟨rfl, -⟩ := e
  exact fun h' => by have := hH b h'; have := h.ge; omega

set_option maxRecDepth 100000 in
set_option maxHeartbeats 4000000 in
theorem known_any (w : World) : Calls Try.prog 9 #[] w fun e w' => e = .returned (.bool true) ∧ Below w.heap.size w w' := by
  go_enter Try.func9, Try.ntmps9
  go_wp2_with fail
  refine (newS_any w).mono ?_
  rintro e w1 ⟨g, rfl, hS1, hb1, hg1⟩
  have HS1 := Lib.hid (And.intro hS1 (⟨Step.of_below hb1 _, fun k hk => .inr (by rw [show k = g from hk]; exact hg1)⟩ : Grow (fun _ => False) w w1 (fun k => k = g)))
  clear hS1 hb1 hg1
  go_wp2_with fail
  obtain ⟨w2, hw2⟩ : ∃ v, w1.alloc (.cells #[.int .i64 3, .int .i64 1, .int .i64 2, .int .i64 1, .int .i64 1, .int .i64 2] 34) = v := ⟨_, rfl⟩
  obtain ⟨b2, hb2⟩ : ∃ v, w1.heap.size = v := ⟨_, rfl⟩
  have L2 := Lib.hid (show NewL w1 w2 b2 [⟨3, 1⟩, ⟨2, 1⟩, ⟨1, 2⟩] by rw [← hw2, ← hb2]; exact NewL.mk_ w1 [⟨3, 1⟩, ⟨2, 1⟩, ⟨1, 2⟩])
  rw [hw2, hb2]
  clear hw2 hb2
  have HP := Lib.hid (splice_any ((HS1.out.1.below L2.out.below)) (c := 3) L2.out.sees L2.out.le (fun _ => L2.out.off HS1.out.1.ob.lt) (by decide) 0 0 (by decide) (by decide) (by decide))
  rw [show spE [] 0 0 [⟨3, 1⟩, ⟨2, 1⟩, ⟨1, 2⟩] = 0 by decide, show spX [] 0 0 [⟨3, 1⟩, ⟨2, 1⟩, ⟨1, 2⟩] = [⟨5, 1⟩, ⟨1, 2⟩] by decide] at HP
  refine HP.out.mono ?_
  clear HP
  rintro e w3 ⟨H3, rfl, hS, hg⟩
  have HS3 := Lib.hid (And.intro hS (HS1.out.2.trans ((Grow.of_below L2.out.below).trans hg)))
  clear hS hg
  have HP := Lib.hid (countS_any HS3.out.1)
  go_wp2_with fail
  refine HP.out.mono ?_
  clear HP
  rintro e w4 ⟨H4, rfl, hS, hg⟩
  have HS4 := Lib.hid (And.intro hS (HS3.out.2.trans hg))
  clear hS hg
  have HP := Lib.hid (len_any HS4.out.1)
  rw [show sumT [⟨5, 1⟩, ⟨1, 2⟩] = 6 by decide] at HP
  go_wp2_with fail
  refine HP.out.mono ?_
  clear HP
  rintro e w5 ⟨H5, rfl, hS, hg⟩
  have HS5 := Lib.hid (And.intro hS (HS4.out.2.trans hg))
  clear hS hg
  have HP := Lib.hid (at_any' HS5.out.1 5 (by omega))
  rw [show atV [⟨5, 1⟩, ⟨1, 2⟩] 5 = .tuple #[.int .i64 2, .int .i64 0] by rfl] at HP
  go_wp2_with fail
  refine HP.out.mono ?_
  clear HP
  rintro e w6 ⟨H6, rfl, hS, hg⟩
  have HS6 := Lib.hid (And.intro hS (HS5.out.2.trans hg))
  clear hS hg
  go_wp2_with fail
  obtain ⟨w7, hw7⟩ : ∃ v, w6.alloc (.cells #[.int .i64 2, .int .i64 2] 34) = v := ⟨_, rfl⟩
  obtain ⟨b7, hb7⟩ : ∃ v, w6.heap.size = v := ⟨_, rfl⟩
  have L7 := Lib.hid (show NewL w6 w7 b7 [⟨2, 2⟩] by rw [← hw7, ← hb7]; exact NewL.mk_ w6 [⟨2, 2⟩])
  rw [hw7, hb7]
  clear hw7 hb7
  have HP := Lib.hid (splice_any ((HS6.out.1.below L7.out.below)) (c := 1) L7.out.sees L7.out.le (fun _ => L7.out.off HS6.out.1.ob.lt) (by decide) 1 4 (by decide) (by decide) (by decide))
  rw [show spE [⟨5, 1⟩, ⟨1, 2⟩] 1 4 [⟨2, 2⟩] = 0 by decide, show spX [⟨5, 1⟩, ⟨1, 2⟩] 1 4 [⟨2, 2⟩] = [⟨1, 1⟩, ⟨2, 2⟩, ⟨1, 1⟩, ⟨1, 2⟩] by decide] at HP
  refine HP.out.mono ?_
  clear HP
  rintro e w8 ⟨H8, rfl, hS, hg⟩
  have HS8 := Lib.hid (And.intro hS (HS6.out.2.trans ((Grow.of_below L7.out.below).trans hg)))
  clear hS hg
  have HO := Lib.hid (overS_any HS8.out.1 0 4)
  rw [show betE [⟨1, 1⟩, ⟨2, 2⟩, ⟨1, 1⟩, ⟨1, 2⟩] 0 4 = 0 by decide, show overT [⟨1, 1⟩, ⟨2, 2⟩, ⟨1, 1⟩, ⟨1, 2⟩] 0 4 = [⟨1, 1⟩, ⟨2, 2⟩, ⟨1, 1⟩] by decide] at HO
  go_wp2_with fail
  refine HO.out.mono ?_
  clear HO
  rintro e w9 ⟨v9, xs, rfl, hown, hxs, -, H9, hS, hg, hoff⟩
  obtain rfl := hxs rfl
  have HS9 := Lib.hid (And.intro hS (HS8.out.2.trans hg))
  obtain ⟨A9, c9, rfl, hc9, hm9⟩ := hown.shape
  have HO9 := Lib.hid hown
  clear hS hg hoff hown hxs
  go_wp2_with fail
  obtain ⟨w10, hw10⟩ : ∃ v, w9.alloc (.cells #[.int .i64 1, .int .i64 1, .int .i64 2, .int .i64 2, .int .i64 1, .int .i64 1] 34) = v := ⟨_, rfl⟩
  obtain ⟨b10, hb10⟩ : ∃ v, w9.heap.size = v := ⟨_, rfl⟩
  have L10 := Lib.hid (show NewL w9 w10 b10 [⟨1, 1⟩, ⟨2, 2⟩, ⟨1, 1⟩] by rw [← hw10, ← hb10]; exact NewL.mk_ w9 [⟨1, 1⟩, ⟨2, 2⟩, ⟨1, 1⟩])
  rw [hw10, hb10]
  clear hw10 hb10
  have HP := Lib.hid (same_any (c := c9) (c' := 3) ((Sees.of_own HO9.out).below L10.out.below (Nat.le_refl _)) L10.out.sees (by decide) (by decide))
  rw [show decide (([⟨1, 1⟩, ⟨2, 2⟩, ⟨1, 1⟩] : List Th) = [⟨1, 1⟩, ⟨2, 2⟩, ⟨1, 1⟩]) = true by decide] at HP
  refine HP.out.mono ?_
  clear HP
  rintro e w11 ⟨rfl, hb11⟩
  have HB := Lib.hid ((HS9.out.2.to L10.out.below).to hb11)
  clear hb11
  go_wp2_with fail
  go_ret
  exact ⟨rfl, HB.out.step.below (Nat.le_refl _) (fun _ h => h.elim)⟩

end Go.Proofs.Ytbioomilnjikpaa
