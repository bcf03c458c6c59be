/-
  The walk of rubriclaw09.known: it answers true, and writes to memory of its own alone.
-/
import Derived.Test.YtcdpbkhlkgefdaaChunkH
namespace Go.Proofs.Ytcdpbkhlkgefdaa
open Go.RowKit

/-- 'wpList_load_row' at an operation behind '&&'. -/
theorem load_rowG {P : Program} {ops : Array Oper} {rest : List Oper} {o : Oper} {a : Act} {w : World} {Q : Exit → Act → World → Prop} (hgd : Region.wanted o (yielded ops a.tmps) = true) (ty : TypeId) (x : Operand) (ho : o.op = .load ty x)
    (g : Nat) (hx : a.eval x = .pointer (some ⟨g, 0, none⟩)) (t : TypeId) (cs : Array Value) (fr : Nat × Nat) (d : TypeDesc) (hg : w.heap[g]? = some (.cells cs t fr))
    (hu : P.underlying ty = some d) (hd : (match d with | .struct _ | .array _ _ => true | _ => false) = true) (hi : (P.info? ty).map (·.size) = some cs.size)
    (h : wpList P ops Q rest (a.put o.dst (.agg cs)) w) : wpList P ops Q (o :: rest) a w :=
  wpList_step fun _ hK => by
    rw [if_pos hgd]
    exact wp_load_row ty x ho g hx t cs fr d hg hu hd hi (hK _ _ h)

theorem alloc2_setRow (w : World) (old cells : Array Value) (t : TypeId) (X : Obj) : ((w.alloc (.cells old t)).alloc X).setRow w.heap.size cells = (w.alloc (.cells cells t)).alloc X := by
  show { w with heap := ((w.heap.push (.cells old t)).push X).modify w.heap.size _ } = { w with heap := (w.heap.push (.cells cells t)).push X }
  congr 1
  apply Array.ext_getElem?
  intro i
  rw [Array.getElem?_modify, Array.getElem?_push, Array.getElem?_push, Array.getElem?_push, Array.getElem?_push, Array.size_push, Array.size_push]
  by_cases h : i = w.heap.size
  · subst h
    rw [if_pos rfl, if_neg (by omega), if_pos rfl, if_neg (by omega), if_pos rfl]; rfl
  · rw [if_neg (fun e => h e.symm), if_neg h, if_neg h]

theorem alloc2_setRow2 (w : World) (A : Obj) (old cells : Array Value) (t : TypeId) : ((w.alloc A).alloc (.cells old t)).setRow (w.heap.size + 1) cells = (w.alloc A).alloc (.cells cells t) := by
  have := alloc_setRow (w.alloc A) old cells t
  rwa [World.size_alloc] at this

theorem heap_later {w w' : World} {g : Nat} {o : Obj} (h : w.heap[g]? = some o) (hb : Below w.heap.size w w') : w'.heap[g]? = some o := (hb.block g (Array.getElem?_eq_some_iff.1 h).1).trans h

set_option maxRecDepth 100000 in
set_option maxHeartbeats 4000000 in
theorem known_any (w : World) : Calls Try.prog 9 #[] w fun e w' => e = .returned (.bool true) ∧ Below w.heap.size w w' := by
  obtain ⟨l0, hl0⟩ : ∃ l : List Int, [97, 10, 98] = l := ⟨_, rfl⟩
  obtain ⟨l1, hl1⟩ : ∃ l : List Int, [97] = l := ⟨_, rfl⟩
  obtain ⟨l2, hl2⟩ : ∃ l : List Int, [10, 98] = l := ⟨_, rfl⟩
  have l0h : l0.length ≤ 32 := by rw [← hl0]; decide
  have l1h : l1.length ≤ 32 := by rw [← hl1]; decide
  have l2h : l2.length ≤ 32 := by rw [← hl2]; decide
  have HOf := Lib.hid (of_ok (some ⟨w.heap.size, 0, none⟩) 3 3 (w.heap.size + 1) l0 (w.alloc (.cells #[.int .i32 97, .int .i32 10, .int .i32 98] 21)) (by rw [← hl0]; exact Sees.lit w _ _) (by simp) (by rw [← hl0]; decide) (by decide))
  have HN0 := fun w => Lib.hid (newlineAt_any l0 0 w l0h (by decide) (by decide))
  have HN1 := fun w => Lib.hid (newlineAt_any l0 1 w l0h (by decide) (by decide))
  have HSp := fun w => Lib.hid (split_yes l0 1 w l0h (by rw [← hl0]; decide))
  have HLn := fun w => Lib.hid (len_any l0 w l0h)
  have HNl := fun w => Lib.hid (newlines_any l0 w l0h)
  have HA1 := fun w => Lib.hid (ahead_any l0 1 w l0h (by decide))
  have HA2 := fun w => Lib.hid (ahead_any l0 2 w l0h (by decide))
  rw [show nlV (nlGo l0 0 0) = .tuple #[.int .i64 1, .bool true] by rw [← hl0]; rfl] at HN0
  rw [show nlV (nlGo l0 1 0) = .tuple #[.int .i64 0, .bool false] by rw [← hl0]; rfl] at HN1
  rw [show l0.take 1 = l1 by rw [← hl0, ← hl1]; rfl, show l0.drop 1 = l2 by rw [← hl0, ← hl2]; rfl] at HSp
  rw [show ((l0.length : Nat) : Int) = 3 by rw [← hl0]; rfl] at HLn
  rw [show nls l0 = 1 by rw [← hl0]; rfl] at HNl
  rw [show nls (l0.take (1 : Int).toNat) = 0 by rw [← hl0]; rfl] at HA1
  rw [show nls (l0.take (2 : Int).toNat) = 1 by rw [← hl0]; rfl] at HA2
  have HL1 := Lib.hid hl1
  have HL2 := Lib.hid hl2
  clear hl0 hl1 hl2
  go_enter Try.func9, Try.ntmps9
  go_wp2_with fail
  refine HOf.out.mono ?_
  rintro e w1 ⟨rfl, hb1⟩
  have K1 := Lib.hid (show Below w.heap.size w w1 from ((Below.refl _ w).alloc (Nat.le_refl _) _).trans (hb1.mono (by simp)))
  clear hb1
  go_wp2_with (first | (refine wpList_store_row rfl 26 (.tmp 1) (.tmp 13) rfl w1.heap.size (chC l0).toArray rfl rfl 26 (chC []).toArray (heap_alloc_new w1 _) (ch_info l0 l0h) (ch_size l0 l0h) (all_one l0) ?_; rw [alloc_setRow]) | (refine wpList_load_row rfl 26 (.tmp 1) rfl w1.heap.size rfl 26 (chC l0).toArray (0, 0) _ (heap_alloc_new w1 _) Try.underlying26 rfl (ch_info l0 l0h) ?_))
  obtain ⟨g, hg⟩ : ∃ g, w1.heap.size = g := ⟨_, rfl⟩
  obtain ⟨w2, hw2⟩ : ∃ w2, w1.alloc (.cells (chC l0).toArray 26) = w2 := ⟨_, rfl⟩
  have H2 := Lib.hid (show w2.heap[g]? = some (.cells (chC l0).toArray 26) by rw [← hw2, ← hg]; exact heap_alloc_new w1 _)
  have K2 := Lib.hid (show Below w.heap.size w w2 by rw [← hw2]; exact K1.out.alloc K1.out.size _)
  rw [hw2, hg]
  clear hw2 hg
  refine (HN0 _).out.mono ?_
  rintro e w3 ⟨rfl, hb3⟩
  have H3 := Lib.hid (heap_later H2.out hb3)
  have K3 := Lib.hid (K2.out.trans (hb3.mono K2.out.size))
  clear hb3
  go_wp2_with (refine wpList_load_row rfl 26 (.tmp 1) rfl g rfl 26 (chC l0).toArray (0, 0) _ H3.out Try.underlying26 rfl (ch_info l0 l0h) ?_)
  refine (HN1 _).out.mono ?_
  rintro e w4 ⟨rfl, hb4⟩
  have H4 := Lib.hid (heap_later H3.out hb4)
  have K4 := Lib.hid (K3.out.trans (hb4.mono K3.out.size))
  clear hb4
  go_wp2_with (refine wpList_load_row rfl 26 (.tmp 1) rfl g rfl 26 (chC l0).toArray (0, 0) _ H4.out Try.underlying26 rfl (ch_info l0 l0h) ?_)
  refine (HSp _).out.mono ?_
  rintro e w5 ⟨rfl, hb5⟩
  have H5 := Lib.hid (heap_later H4.out hb5)
  have K5 := Lib.hid (K4.out.trans (hb5.mono K4.out.size))
  clear hb5
  have HX := Lib.hid (show ((w5.alloc (.cells (chC l1).toArray 26)).alloc (.cells (chC l2).toArray 26)).heap[g]? = some (.cells (chC l0).toArray 26) from heap_later H5.out (((Below.refl _ _).alloc (Nat.le_refl _) _).alloc (by simp) _))
  go_wp2_with (first | (refine wpList_store_row rfl 26 (.tmp 7) (.tmp 28) rfl w5.heap.size (chC l1).toArray rfl rfl 26 (chC []).toArray (heap_alloc2_old w5 _ _) (ch_info l1 l1h) (ch_size l1 l1h) (all_one l1) ?_; rw [alloc2_setRow]) | (refine wpList_store_row rfl 26 (.tmp 8) (.tmp 29) rfl (w5.heap.size + 1) (chC l2).toArray rfl rfl 26 (chC []).toArray (heap_alloc2_new w5 _ _) (ch_info l2 l2h) (ch_size l2 l2h) (all_one l2) ?_; rw [alloc2_setRow2]) | (refine load_rowG (by rfl) 26 (.tmp 1) rfl g rfl 26 (chC l0).toArray (0, 0) _ HX.out Try.underlying26 rfl (ch_info l0 l0h) ?_))
  obtain ⟨ga, hga⟩ : ∃ ga, w5.heap.size = ga := ⟨_, rfl⟩
  obtain ⟨gb, hgb⟩ : ∃ gb, ga + 1 = gb := ⟨_, rfl⟩
  obtain ⟨w6, hw6⟩ : ∃ v, (w5.alloc (.cells (chC l1).toArray 26)).alloc (.cells (chC l2).toArray 26) = v := ⟨_, rfl⟩
  have HP6 := Lib.hid (show w6.heap[g]? = some (.cells (chC l0).toArray 26) ∧ w6.heap[ga]? = some (.cells (chC l1).toArray 26) ∧ w6.heap[gb]? = some (.cells (chC l2).toArray 26) by
    rw [← hw6]
    refine ⟨HX.out, ?_, ?_⟩
    · rw [← hga]; exact heap_alloc2_old w5 _ _
    · rw [← hgb, ← hga]; exact heap_alloc2_new w5 _ _)
  have K6 := Lib.hid (show Below w.heap.size w w6 by rw [← hw6]; exact (K5.out.alloc K5.out.size _).alloc (by have := K5.out.size; simp; omega) _)
  rw [hw6, hga, hgb]
  clear hw6 hga hgb
  refine (HLn _).out.mono ?_
  rintro e w7 ⟨rfl, hb7⟩
  have HP7 := Lib.hid (And.intro (heap_later HP6.out.1 hb7) (And.intro (heap_later HP6.out.2.1 hb7) (heap_later HP6.out.2.2 hb7)))
  have K7 := Lib.hid (K6.out.trans (hb7.mono K6.out.size))
  clear hb7
  go_wp2_with (refine load_rowG (by rfl) 26 (.tmp 1) rfl g rfl 26 (chC l0).toArray (0, 0) _ HP7.out.1 Try.underlying26 rfl (ch_info l0 l0h) ?_)
  refine (HNl _).out.mono ?_
  rintro e w8 ⟨rfl, hb8⟩
  have HP8 := Lib.hid (And.intro (heap_later HP7.out.1 hb8) (And.intro (heap_later HP7.out.2.1 hb8) (heap_later HP7.out.2.2 hb8)))
  have K8 := Lib.hid (K7.out.trans (hb8.mono K7.out.size))
  clear hb8
  go_wp2_with (refine load_rowG (by rfl) 26 (.tmp 1) rfl g rfl 26 (chC l0).toArray (0, 0) _ HP8.out.1 Try.underlying26 rfl (ch_info l0 l0h) ?_)
  refine (HA1 _).out.mono ?_
  rintro e w9 ⟨rfl, hb9⟩
  have HP9 := Lib.hid (And.intro (heap_later HP8.out.1 hb9) (And.intro (heap_later HP8.out.2.1 hb9) (heap_later HP8.out.2.2 hb9)))
  have K9 := Lib.hid (K8.out.trans (hb9.mono K8.out.size))
  clear hb9
  go_wp2_with (refine load_rowG (by rfl) 26 (.tmp 1) rfl g rfl 26 (chC l0).toArray (0, 0) _ HP9.out.1 Try.underlying26 rfl (ch_info l0 l0h) ?_)
  refine (HA2 _).out.mono ?_
  rintro e w10 ⟨rfl, hb10⟩
  have HP10 := Lib.hid (And.intro (heap_later HP9.out.1 hb10) (And.intro (heap_later HP9.out.2.1 hb10) (heap_later HP9.out.2.2 hb10)))
  have K10 := Lib.hid (K9.out.trans (hb10.mono K9.out.size))
  clear hb10
  go_wp2_with (refine load_rowG (by rfl) 26 (.tmp 7) rfl ga rfl 26 (chC l1).toArray (0, 0) _ HP10.out.2.1 Try.underlying26 rfl (ch_info l1 l1h) ?_)
  refine (runes_any l1 _ l1h).mono ?_
  rintro e w11 ⟨v11, rfl, ho11, hb11⟩
  obtain ⟨A11, c11, rfl, _⟩ := own_shape ho11
  have HO11 := Lib.hid ho11
  clear ho11
  have HP11 := Lib.hid (And.intro (heap_later HP10.out.1 hb11) (And.intro (heap_later HP10.out.2.1 hb11) (heap_later HP10.out.2.2 hb11)))
  have K11 := Lib.hid (K10.out.trans (hb11.mono K10.out.size))
  clear hb11
  go_wp2_with fail
  obtain ⟨q11, hq11⟩ : ∃ v, w11.alloc (.cells #[.int .i32 97] 21) = v := ⟨_, rfl⟩
  have hb12 : Below w11.heap.size w11 q11 := by rw [← hq11]; exact (Below.refl _ _).alloc (Nat.le_refl _) _
  have HSm11 := Lib.hid (same_any A11 (some ⟨w11.heap.size, 0, none⟩) l1.length 1 c11 1 w11.heap.size (w11.heap.size + 1) l1 [97] q11 ((Sees.of_own HO11.out).below hb12 (Nat.le_refl _)) (by rw [← hq11]; exact Sees.lit w11 _ _) (by omega) (by decide))
  rw [hq11]
  clear hq11
  refine HSm11.out.mono ?_
  rintro e w12' ⟨rfl, k11, rfl⟩
  rw [show (l1 == [97]) = true by rw [← HL1.out]; rfl]
  have hb12 : Below w11.heap.size w11 (q11.drewN k11) := below_drewN hb12 k11
  obtain ⟨w12, hw12⟩ : ∃ v, q11.drewN k11 = v := ⟨_, rfl⟩
  rw [hw12] at hb12 ⊢
  clear hw12

  have HP12 := Lib.hid (And.intro (heap_later HP11.out.1 hb12) (And.intro (heap_later HP11.out.2.1 hb12) (heap_later HP11.out.2.2 hb12)))
  have K12 := Lib.hid (K11.out.trans (hb12.mono K11.out.size))
  clear hb12
  go_wp2_with (refine load_rowG (by rfl) 26 (.tmp 8) rfl gb rfl 26 (chC l2).toArray (0, 0) _ HP12.out.2.2 Try.underlying26 rfl (ch_info l2 l2h) ?_)
  refine (runes_any l2 _ l2h).mono ?_
  rintro e w13 ⟨v13, rfl, ho13, hb13⟩
  obtain ⟨A13, c13, rfl, _⟩ := own_shape ho13
  have HO13 := Lib.hid ho13
  clear ho13
  have HP13 := Lib.hid (And.intro (heap_later HP12.out.1 hb13) (And.intro (heap_later HP12.out.2.1 hb13) (heap_later HP12.out.2.2 hb13)))
  have K13 := Lib.hid (K12.out.trans (hb13.mono K12.out.size))
  clear hb13
  go_wp2_with fail
  obtain ⟨q13, hq13⟩ : ∃ v, w13.alloc (.cells #[.int .i32 10, .int .i32 98] 21) = v := ⟨_, rfl⟩
  have hb14 : Below w13.heap.size w13 q13 := by rw [← hq13]; exact (Below.refl _ _).alloc (Nat.le_refl _) _
  have HSm13 := Lib.hid (same_any A13 (some ⟨w13.heap.size, 0, none⟩) l2.length 2 c13 2 w13.heap.size (w13.heap.size + 1) l2 [10, 98] q13 ((Sees.of_own HO13.out).below hb14 (Nat.le_refl _)) (by rw [← hq13]; exact Sees.lit w13 _ _) (by omega) (by decide))
  rw [hq13]
  clear hq13
  refine HSm13.out.mono ?_
  rintro e w14' ⟨rfl, k13, rfl⟩
  rw [show (l2 == [10, 98]) = true by rw [← HL2.out]; rfl]
  have hb14 : Below w13.heap.size w13 (q13.drewN k13) := below_drewN hb14 k13
  obtain ⟨w14, hw14⟩ : ∃ v, q13.drewN k13 = v := ⟨_, rfl⟩
  rw [hw14] at hb14 ⊢
  clear hw14

  have HP14 := Lib.hid (And.intro (heap_later HP13.out.1 hb14) (And.intro (heap_later HP13.out.2.1 hb14) (heap_later HP13.out.2.2 hb14)))
  have K14 := Lib.hid (K13.out.trans (hb14.mono K13.out.size))
  clear hb14
  go_wp2_with fail
  go_ret
  exact ⟨rfl, K14.out⟩

end Go.Proofs.Ytcdpbkhlkgefdaa
