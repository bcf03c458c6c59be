/-
  The walk of rubriclaw09.ChunkSplits.
-/
import Derived.Test.YtcdpbkhlkgefdaaChunkU
import Derived.Test.YtcdpbkhlkgefdaaChunkN
namespace Go.Proofs.Ytcdpbkhlkgefdaa
open Go.RowKit

/-- 'a != b' of two chunks. -/
theorem wpList_ne_chunk {ops : Array Oper} {rest : List Oper} {o : Oper} {a : Act} {w : World} {Q : Exit → Act → World → Prop} (hgd : Region.wanted o (yielded ops a.tmps) = true) (x y : Operand)
    (ho : o.op = .binOp .neq 26 x y 26) (l m : List Int) (hx : a.eval x = .agg (chC l).toArray) (hy : a.eval y = .agg (chC m).toArray) (hl : l.length ≤ 32) (hm : m.length ≤ 32) (r : Bool) (hr : (!(l == m)) = r)
    (h : wpList Try.prog ops Q rest (a.put o.dst (.bool r)) w) : wpList Try.prog ops Q (o :: rest) a w :=
  wpList_step fun _ hK => by
    subst hr
    rw [if_pos hgd]
    unfold Oper.wp execOp
    simp only [ho, hx, hy, Sem.run_bind, run_eqGuard_agg (P := Try.prog) w .neq 26 x y (chC l).toArray (chC m).toArray (by kernel_rfl), Result.andThen_ok, run_ne_chunk w l m hl hm]
    exact hK _ _ h

theorem below_app2 {w0 w w' : World} {e : TypeId} {v : Value} {n : Nat} {xs : List Value} (h : Below w0.heap.size w0 w) (ho : w.ownsRow w0.heap.size e 1 v n xs) (hg : w.grownBy w' v.ownBlock) : Below w0.heap.size w0 w' :=
  h.grown hg h.size (fun _ hk => own_base ho hk)

set_option maxRecDepth 100000 in
set_option maxHeartbeats 8000000 in
theorem splits_neg_long (A A2 : Option Addr) (n n2 c c2 : Nat) (la lb : List Int) (i : Int) (w : World) (hs1 : Sees w w.heap.size 1 A n (la.map r32)) (hs2 : Sees w w.heap.size 1 A2 n2 (lb.map r32)) (hn : n ≤ 32) (hn2 : n2 ≤ 32) (hnc : n ≤ c) (hea : ofE la = 0) (heb : ofE lb = 0) (hi : i < 0) (hi0 : -9223372036854775808 ≤ i) (hi1 : i ≤ 9223372036854775807) (h32 : (32 : Int) < (n : Int) + n2) :
    Calls Try.prog 8 #[.slice A n c, .slice A2 n2 c2, .int .i64 i] w fun e w' => e = .returned (.bool true) ∧ Below w.heap.size w w' := by
  have hl1 : la.length = n := by have := hs1.1; simp at this; omega
  have hl2 : lb.length = n2 := by have := hs2.1; simp at this; omega
  have lah : la.length ≤ 32 := by omega
  have lbh : lb.length ≤ 32 := by omega
  have hnI : (n : Int) ≤ 32 := by omega
  have hn2I : (n2 : Int) ≤ 32 := by omega
  have HO1 := Lib.hid (fun (w1 : World) (hb : Below w.heap.size w w1) => of_any A n c w.heap.size la w1 (hs1.below hb (Nat.le_refl _)) hb.size (by omega))
  have HO2 := Lib.hid (fun (w1 : World) (hb : Below w.heap.size w w1) => of_any A2 n2 c2 w.heap.size lb w1 (hs2.below hb (Nat.le_refl _)) hb.size (by omega))
  have HI1 := Lib.hid (fun (w1 : World) (hb : Below w.heap.size w w1) => is_any A n c w.heap.size la w1 (hs1.below hb (Nat.le_refl _)) hb.size hn)
  have HI2 := Lib.hid (fun (w1 : World) (hb : Below w.heap.size w w1) => is_any A2 n2 c2 w.heap.size lb w1 (hs2.below hb (Nat.le_refl _)) hb.size hn2)
  rw [(ofE_ok hea).1, hea] at HO1
  rw [(ofE_ok heb).1, heb] at HO2
  clear hea heb
  have HKA := Lib.hid (show spA la i = [] ∧ spB la i = [] ∧ spE la i = 5 by
    unfold spA spB spE
    rw [if_neg (by omega), if_neg (by omega), if_neg (by omega)]
    exact ⟨rfl, rfl, rfl⟩)
  have HSP := Lib.hid (fun w => split_any la i w lah)
  rw [HKA.out.1, HKA.out.2.1, HKA.out.2.2] at HSP
  obtain ⟨sa, hsa⟩ : ∃ x : List Int, [] = x := ⟨_, rfl⟩
  obtain ⟨sb, hsb⟩ : ∃ x : List Int, [] = x := ⟨_, rfl⟩
  have sah : sa.length ≤ 32 := by rw [← hsa]; decide
  have sbh : sb.length ≤ 32 := by rw [← hsb]; decide
  have HSP : RowKit.Hid (∀ w, Calls Try.prog 19 #[chV la, .int .i64 i] w fun e w' => e = .returned (.tuple #[chV sa, chV sb, .int .i64 5]) ∧ Below w.heap.size w w') := Lib.hid (by rw [← hsa, ← hsb]; exact HSP.out)
  have HNA := Lib.hid (show (!(sa == [])) = false by rw [← hsa]; rfl)
  have HNB := Lib.hid (show (!(sb == [])) = false by rw [← hsb]; rfl)
  clear hsa hsb HKA
  have HJ0 := Lib.hid (fun w => join_long la lb w lah lbh (by omega))
  obtain ⟨lx, hx⟩ : ∃ x : List Int, [] = x := ⟨_, rfl⟩
  have lxh : lx.length ≤ 32 := by rw [← hx]; decide
  have HJ : RowKit.Hid (∀ w, Calls Try.prog 20 #[chV la, chV lb] w fun e w' => e = .returned (.tuple #[chV lx, .int .i64 8]) ∧ Below w.heap.size w w') := Lib.hid (by rw [← hx]; exact HJ0.out)
  have HNX := Lib.hid (show (lx == []) = true by rw [← hx]; rfl)
  clear hx HJ0
  obtain ⟨i0, ii0, iz0, iz1, iz2⟩ := info_parts r32_info
  have HS1 := Lib.hid hs1
  have HS2 := Lib.hid hs2
  have HLL := Lib.hid (And.intro hl1 hl2)
  clear hs1 hs2 hl1 hl2
  go_enter Try.func8, Try.ntmps8
  have K0 := Lib.hid (Below.refl w.heap.size w)
  go_wp2_with fail
  refine (HO1.out w K0.out).mono ?_
  rintro e w1 ⟨rfl, hb1⟩
  have K1 := Lib.hid hb1
  clear hb1
  have hX1 : Below w1.heap.size w1 (w1.alloc (.cells (chC la).toArray 26)) := (Below.refl _ _).alloc (Nat.le_refl _) _
  clear hX1
  go_wp2_with (first | (refine wpList_store_row rfl 26 (.tmp 7) (.tmp 28) rfl w1.heap.size (chC la).toArray rfl rfl 26 (chC []).toArray (heap_alloc_new w1 _) (ch_info la lah) (ch_size la lah) (all_one la) ?_; rw [alloc_setRow]))
  obtain ⟨ga, hga⟩ : ∃ g, w1.heap.size = g := ⟨_, rfl⟩
  obtain ⟨w2, hw2⟩ : ∃ v, (w1.alloc (.cells (chC la).toArray 26)) = v := ⟨_, rfl⟩
  have P2 := Lib.hid (show w2.heap[ga]? = some (.cells (chC la).toArray 26) ∧ True by
    rw [← hw2]
    exact ⟨by rw [← hga]; exact heap_alloc_new w1 _, trivial⟩)
  have K2 := Lib.hid (show Below w.heap.size w w2 by rw [← hw2]; exact K1.out.alloc K1.out.size _)
  rw [hw2, hga]
  clear hw2 hga
  refine (HO2.out w2 K2.out).mono ?_
  rintro e w3 ⟨rfl, hb3⟩
  have K3 := Lib.hid (K2.out.trans (hb3.mono K2.out.size))
  have P3 := Lib.hid (show w3.heap[ga]? = some (.cells (chC la).toArray 26) ∧ True from ⟨heap_later P2.out.1 hb3, trivial⟩)
  clear hb3
  have hX3 : Below w3.heap.size w3 (w3.alloc (.cells (chC lb).toArray 26)) := (Below.refl _ _).alloc (Nat.le_refl _) _
  have PX3 := Lib.hid (show (w3.alloc (.cells (chC lb).toArray 26)).heap[ga]? = some (.cells (chC la).toArray 26) ∧ True from ⟨heap_later P3.out.1 hX3, trivial⟩)
  clear hX3
  go_wp2_with (first | (refine wpList_store_row rfl 26 (.tmp 9) (.tmp 33) rfl w3.heap.size (chC lb).toArray rfl rfl 26 (chC []).toArray (heap_alloc_new w3 _) (ch_info lb lbh) (ch_size lb lbh) (all_one lb) ?_; rw [alloc_setRow]) | (refine load_rowG (by rfl) 26 (.tmp 7) rfl ga rfl 26 (chC la).toArray (0, 0) _ PX3.out.1 Try.underlying26 rfl (ch_info la lah) ?_))
  obtain ⟨gb, hgb⟩ : ∃ g, w3.heap.size = g := ⟨_, rfl⟩
  obtain ⟨w4, hw4⟩ : ∃ v, (w3.alloc (.cells (chC lb).toArray 26)) = v := ⟨_, rfl⟩
  have P4 := Lib.hid (show w4.heap[ga]? = some (.cells (chC la).toArray 26) ∧ w4.heap[gb]? = some (.cells (chC lb).toArray 26) ∧ True by
    rw [← hw4]
    exact ⟨PX3.out.1, by rw [← hgb]; exact heap_alloc_new w3 _, trivial⟩)
  have K4 := Lib.hid (show Below w.heap.size w w4 by rw [← hw4]; exact K3.out.alloc K3.out.size _)
  rw [hw4, hgb]
  clear hw4 hgb PX3
  refine (HSP.out w4).mono ?_
  rintro e w5 ⟨rfl, hb5⟩
  have K5 := Lib.hid (K4.out.trans (hb5.mono K4.out.size))
  have P5 := Lib.hid (show w5.heap[ga]? = some (.cells (chC la).toArray 26) ∧ w5.heap[gb]? = some (.cells (chC lb).toArray 26) ∧ True from ⟨heap_later P4.out.1 hb5, heap_later P4.out.2.1 hb5, trivial⟩)
  clear hb5
  have hX5 : Below w5.heap.size w5 ((w5.alloc (.cells (chC sa).toArray 26)).alloc (.cells (chC sb).toArray 26)) := ((Below.refl _ _).alloc (Nat.le_refl _) _).alloc (by simp) _
  have PX5 := Lib.hid (show ((w5.alloc (.cells (chC sa).toArray 26)).alloc (.cells (chC sb).toArray 26)).heap[ga]? = some (.cells (chC la).toArray 26) ∧ ((w5.alloc (.cells (chC sa).toArray 26)).alloc (.cells (chC sb).toArray 26)).heap[gb]? = some (.cells (chC lb).toArray 26) ∧ True from ⟨heap_later P5.out.1 hX5, heap_later P5.out.2.1 hX5, trivial⟩)
  clear hX5
  go_wp2_with (first | (refine wpList_store_row rfl 26 (.tmp 11) (.tmp 46) rfl w5.heap.size (chC sa).toArray rfl rfl 26 (chC []).toArray (heap_alloc2_old w5 _ _) (ch_info sa sah) (ch_size sa sah) (all_one sa) ?_; rw [alloc2_setRow]) | (refine wpList_store_row rfl 26 (.tmp 12) (.tmp 47) rfl (w5.heap.size + 1) (chC sb).toArray rfl rfl 26 (chC []).toArray (heap_alloc2_new w5 _ _) (ch_info sb sbh) (ch_size sb sbh) (all_one sb) ?_; rw [alloc2_setRow2]) | (refine load_rowG (by rfl) 26 (.tmp 11) rfl w5.heap.size rfl 26 (chC sa).toArray (0, 0) _ (heap_alloc2_old w5 _ _) Try.underlying26 rfl (ch_info sa sah) ?_) | (refine load_rowG (by rfl) 26 (.tmp 12) rfl (w5.heap.size + 1) rfl 26 (chC sb).toArray (0, 0) _ (heap_alloc2_new w5 _ _) Try.underlying26 rfl (ch_info sb sbh) ?_) | (refine load_rowG (by rfl) 26 (.tmp 7) rfl ga rfl 26 (chC la).toArray (0, 0) _ PX5.out.1 Try.underlying26 rfl (ch_info la lah) ?_) | (refine load_rowG (by rfl) 26 (.tmp 9) rfl gb rfl 26 (chC lb).toArray (0, 0) _ PX5.out.2.1 Try.underlying26 rfl (ch_info lb lbh) ?_) | (refine wpList_ne_chunk (by rfl) (.tmp 60) (.tmp 61) rfl sa [] rfl (by with_unfolding_all rfl) sah (by decide) false HNA.out ?_) | (refine wpList_ne_chunk (by rfl) (.tmp 65) (.tmp 66) rfl sb [] rfl (by with_unfolding_all rfl) sbh (by decide) false HNB.out ?_))
  obtain ⟨gs, hgs⟩ : ∃ g, w5.heap.size = g := ⟨_, rfl⟩
  obtain ⟨gt, hgt⟩ : ∃ g, gs + 1 = g := ⟨_, rfl⟩
  obtain ⟨w6, hw6⟩ : ∃ v, ((w5.alloc (.cells (chC sa).toArray 26)).alloc (.cells (chC sb).toArray 26)) = v := ⟨_, rfl⟩
  have P6 := Lib.hid (show w6.heap[ga]? = some (.cells (chC la).toArray 26) ∧ w6.heap[gb]? = some (.cells (chC lb).toArray 26) ∧ w6.heap[gs]? = some (.cells (chC sa).toArray 26) ∧ w6.heap[gt]? = some (.cells (chC sb).toArray 26) ∧ True by
    rw [← hw6]
    exact ⟨PX5.out.1, PX5.out.2.1, by rw [← hgs]; exact heap_alloc2_old w5 _ _, by rw [← hgt, ← hgs]; exact heap_alloc2_new w5 _ _, trivial⟩)
  have K6 := Lib.hid (show Below w.heap.size w w6 by rw [← hw6]; exact (K5.out.alloc K5.out.size _).alloc (by have := K5.out.size; simp; omega) _)
  rw [hw6, hgs, hgt]
  clear hw6 hgs hgt PX5
  refine (HJ.out w6).mono ?_
  rintro e w7 ⟨rfl, hb7⟩
  have K7 := Lib.hid (K6.out.trans (hb7.mono K6.out.size))
  have P7 := Lib.hid (show w7.heap[ga]? = some (.cells (chC la).toArray 26) ∧ w7.heap[gb]? = some (.cells (chC lb).toArray 26) ∧ w7.heap[gs]? = some (.cells (chC sa).toArray 26) ∧ w7.heap[gt]? = some (.cells (chC sb).toArray 26) ∧ True from ⟨heap_later P6.out.1 hb7, heap_later P6.out.2.1 hb7, heap_later P6.out.2.2.1 hb7, heap_later P6.out.2.2.2.1 hb7, trivial⟩)
  clear hb7
  have hX7 : Below w7.heap.size w7 (w7.alloc (.cells (chC lx).toArray 26)) := (Below.refl _ _).alloc (Nat.le_refl _) _
  have PX7 := Lib.hid (show (w7.alloc (.cells (chC lx).toArray 26)).heap[ga]? = some (.cells (chC la).toArray 26) ∧ (w7.alloc (.cells (chC lx).toArray 26)).heap[gb]? = some (.cells (chC lb).toArray 26) ∧ (w7.alloc (.cells (chC lx).toArray 26)).heap[gs]? = some (.cells (chC sa).toArray 26) ∧ (w7.alloc (.cells (chC lx).toArray 26)).heap[gt]? = some (.cells (chC sb).toArray 26) ∧ True from ⟨heap_later P7.out.1 hX7, heap_later P7.out.2.1 hX7, heap_later P7.out.2.2.1 hX7, heap_later P7.out.2.2.2.1 hX7, trivial⟩)
  clear hX7
  go_wp2_with (first | (refine wpList_store_row rfl 26 (.tmp 14) (.tmp 91) rfl w7.heap.size (chC lx).toArray rfl rfl 26 (chC []).toArray (heap_alloc_new w7 _) (ch_info lx lxh) (ch_size lx lxh) (all_one lx) ?_; rw [alloc_setRow]) | (refine load_rowG (by rfl) 26 (.tmp 14) rfl w7.heap.size rfl 26 (chC lx).toArray (0, 0) _ (heap_alloc_new w7 _) Try.underlying26 rfl (ch_info lx lxh) ?_) | (refine load_rowG (by rfl) 26 (.tmp 7) rfl ga rfl 26 (chC la).toArray (0, 0) _ PX7.out.1 Try.underlying26 rfl (ch_info la lah) ?_) | (refine wpList_eq_chunk (by rfl) (.tmp 102) (.tmp 103) rfl lx [] rfl (by with_unfolding_all rfl) lxh (by decide) true HNX.out ?_))
  obtain ⟨gx, hgx⟩ : ∃ g, w7.heap.size = g := ⟨_, rfl⟩
  obtain ⟨w8, hw8⟩ : ∃ v, (w7.alloc (.cells (chC lx).toArray 26)) = v := ⟨_, rfl⟩
  have P8 := Lib.hid (show w8.heap[ga]? = some (.cells (chC la).toArray 26) ∧ w8.heap[gb]? = some (.cells (chC lb).toArray 26) ∧ w8.heap[gs]? = some (.cells (chC sa).toArray 26) ∧ w8.heap[gt]? = some (.cells (chC sb).toArray 26) ∧ w8.heap[gx]? = some (.cells (chC lx).toArray 26) ∧ True by
    rw [← hw8]
    exact ⟨PX7.out.1, PX7.out.2.1, PX7.out.2.2.1, PX7.out.2.2.2.1, by rw [← hgx]; exact heap_alloc_new w7 _, trivial⟩)
  have K8 := Lib.hid (show Below w.heap.size w w8 by rw [← hw8]; exact K7.out.alloc K7.out.size _)
  rw [hw8, hgx]
  clear hw8 hgx PX7
  refine (HI1.out w8 K8.out).mono ?_
  rintro e w9 ⟨rfl, hb9⟩
  have K9 := Lib.hid (K8.out.trans (hb9.mono K8.out.size))
  have P9 := Lib.hid (show w9.heap[ga]? = some (.cells (chC la).toArray 26) ∧ w9.heap[gb]? = some (.cells (chC lb).toArray 26) ∧ w9.heap[gs]? = some (.cells (chC sa).toArray 26) ∧ w9.heap[gt]? = some (.cells (chC sb).toArray 26) ∧ w9.heap[gx]? = some (.cells (chC lx).toArray 26) ∧ True from ⟨heap_later P8.out.1 hb9, heap_later P8.out.2.1 hb9, heap_later P8.out.2.2.1 hb9, heap_later P8.out.2.2.2.1 hb9, heap_later P8.out.2.2.2.2.1 hb9, trivial⟩)
  clear hb9
  go_wp2_with (first | (refine load_rowG (by rfl) 26 (.tmp 9) rfl gb rfl 26 (chC lb).toArray (0, 0) _ P9.out.2.1 Try.underlying26 rfl (ch_info lb lbh) ?_))
  refine (HI2.out w9 K9.out).mono ?_
  rintro e w10 ⟨rfl, hb10⟩
  have K10 := Lib.hid (K9.out.trans (hb10.mono K9.out.size))
  have P10 := Lib.hid (show w10.heap[ga]? = some (.cells (chC la).toArray 26) ∧ w10.heap[gb]? = some (.cells (chC lb).toArray 26) ∧ w10.heap[gs]? = some (.cells (chC sa).toArray 26) ∧ w10.heap[gt]? = some (.cells (chC sb).toArray 26) ∧ w10.heap[gx]? = some (.cells (chC lx).toArray 26) ∧ True from ⟨heap_later P9.out.1 hb10, heap_later P9.out.2.1 hb10, heap_later P9.out.2.2.1 hb10, heap_later P9.out.2.2.2.1 hb10, heap_later P9.out.2.2.2.2.1 hb10, trivial⟩)
  clear hb10
  go_wp2_with fail
  refine (known_any _).mono ?_
  rintro e w11 ⟨rfl, hb11⟩
  have K11 := Lib.hid (K10.out.trans (hb11.mono K10.out.size))
  have P11 := Lib.hid (show w11.heap[ga]? = some (.cells (chC la).toArray 26) ∧ w11.heap[gb]? = some (.cells (chC lb).toArray 26) ∧ w11.heap[gs]? = some (.cells (chC sa).toArray 26) ∧ w11.heap[gt]? = some (.cells (chC sb).toArray 26) ∧ w11.heap[gx]? = some (.cells (chC lx).toArray 26) ∧ True from ⟨heap_later P10.out.1 hb11, heap_later P10.out.2.1 hb11, heap_later P10.out.2.2.1 hb11, heap_later P10.out.2.2.2.1 hb11, heap_later P10.out.2.2.2.2.1 hb11, trivial⟩)
  clear hb11
  go_wp2_with fail
  go_ret
  exact ⟨rfl, K11.out⟩

set_option maxRecDepth 100000 in
set_option maxHeartbeats 8000000 in
theorem splits_neg_short (A A2 : Option Addr) (n n2 c c2 : Nat) (la lb : List Int) (i : Int) (w : World) (hs1 : Sees w w.heap.size 1 A n (la.map r32)) (hs2 : Sees w w.heap.size 1 A2 n2 (lb.map r32)) (hn : n ≤ 32) (hn2 : n2 ≤ 32) (hnc : n ≤ c) (hea : ofE la = 0) (heb : ofE lb = 0) (hi : i < 0) (hi0 : -9223372036854775808 ≤ i) (hi1 : i ≤ 9223372036854775807) (h32 : (n : Int) + n2 ≤ 32) :
    Calls Try.prog 8 #[.slice A n c, .slice A2 n2 c2, .int .i64 i] w fun e w' => e = .returned (.bool true) ∧ Below w.heap.size w w' := by
  have hl1 : la.length = n := by have := hs1.1; simp at this; omega
  have hl2 : lb.length = n2 := by have := hs2.1; simp at this; omega
  have lah : la.length ≤ 32 := by omega
  have lbh : lb.length ≤ 32 := by omega
  have hnI : (n : Int) ≤ 32 := by omega
  have hn2I : (n2 : Int) ≤ 32 := by omega
  have HO1 := Lib.hid (fun (w1 : World) (hb : Below w.heap.size w w1) => of_any A n c w.heap.size la w1 (hs1.below hb (Nat.le_refl _)) hb.size (by omega))
  have HO2 := Lib.hid (fun (w1 : World) (hb : Below w.heap.size w w1) => of_any A2 n2 c2 w.heap.size lb w1 (hs2.below hb (Nat.le_refl _)) hb.size (by omega))
  have HI1 := Lib.hid (fun (w1 : World) (hb : Below w.heap.size w w1) => is_any A n c w.heap.size la w1 (hs1.below hb (Nat.le_refl _)) hb.size hn)
  have HI2 := Lib.hid (fun (w1 : World) (hb : Below w.heap.size w w1) => is_any A2 n2 c2 w.heap.size lb w1 (hs2.below hb (Nat.le_refl _)) hb.size hn2)
  rw [(ofE_ok hea).1, hea] at HO1
  rw [(ofE_ok heb).1, heb] at HO2
  clear hea heb
  have HKA := Lib.hid (show spA la i = [] ∧ spB la i = [] ∧ spE la i = 5 by
    unfold spA spB spE
    rw [if_neg (by omega), if_neg (by omega), if_neg (by omega)]
    exact ⟨rfl, rfl, rfl⟩)
  have HSP := Lib.hid (fun w => split_any la i w lah)
  rw [HKA.out.1, HKA.out.2.1, HKA.out.2.2] at HSP
  obtain ⟨sa, hsa⟩ : ∃ x : List Int, [] = x := ⟨_, rfl⟩
  obtain ⟨sb, hsb⟩ : ∃ x : List Int, [] = x := ⟨_, rfl⟩
  have sah : sa.length ≤ 32 := by rw [← hsa]; decide
  have sbh : sb.length ≤ 32 := by rw [← hsb]; decide
  have HSP : RowKit.Hid (∀ w, Calls Try.prog 19 #[chV la, .int .i64 i] w fun e w' => e = .returned (.tuple #[chV sa, chV sb, .int .i64 5]) ∧ Below w.heap.size w w') := Lib.hid (by rw [← hsa, ← hsb]; exact HSP.out)
  have HNA := Lib.hid (show (!(sa == [])) = false by rw [← hsa]; rfl)
  have HNB := Lib.hid (show (!(sb == [])) = false by rw [← hsb]; rfl)
  clear hsa hsb HKA
  have HJ := Lib.hid (fun w => join_any la lb w (by omega))
  have hlx : (la ++ lb).length = n + n2 := by rw [List.length_append]; omega
  have HMAP := Lib.hid (show la.map r32 ++ lb.map r32 = (la ++ lb).map r32 by rw [List.map_append])
  obtain ⟨lx, hx⟩ : ∃ x, la ++ lb = x := ⟨_, rfl⟩
  rw [hx] at HJ hlx HMAP
  have lxh : lx.length ≤ 32 := by omega
  clear hx
  obtain ⟨i0, ii0, iz0, iz1, iz2⟩ := info_parts r32_info
  have HS1 := Lib.hid hs1
  have HS2 := Lib.hid hs2
  have HLL := Lib.hid (And.intro hl1 hl2)
  clear hs1 hs2 hl1 hl2
  go_enter Try.func8, Try.ntmps8
  have K0 := Lib.hid (Below.refl w.heap.size w)
  go_wp2_with fail
  refine (HO1.out w K0.out).mono ?_
  rintro e w1 ⟨rfl, hb1⟩
  have K1 := Lib.hid hb1
  clear hb1
  have hX1 : Below w1.heap.size w1 (w1.alloc (.cells (chC la).toArray 26)) := (Below.refl _ _).alloc (Nat.le_refl _) _
  clear hX1
  go_wp2_with (first | (refine wpList_store_row rfl 26 (.tmp 7) (.tmp 28) rfl w1.heap.size (chC la).toArray rfl rfl 26 (chC []).toArray (heap_alloc_new w1 _) (ch_info la lah) (ch_size la lah) (all_one la) ?_; rw [alloc_setRow]))
  obtain ⟨ga, hga⟩ : ∃ g, w1.heap.size = g := ⟨_, rfl⟩
  obtain ⟨w2, hw2⟩ : ∃ v, (w1.alloc (.cells (chC la).toArray 26)) = v := ⟨_, rfl⟩
  have P2 := Lib.hid (show w2.heap[ga]? = some (.cells (chC la).toArray 26) ∧ True by
    rw [← hw2]
    exact ⟨by rw [← hga]; exact heap_alloc_new w1 _, trivial⟩)
  have K2 := Lib.hid (show Below w.heap.size w w2 by rw [← hw2]; exact K1.out.alloc K1.out.size _)
  rw [hw2, hga]
  clear hw2 hga
  refine (HO2.out w2 K2.out).mono ?_
  rintro e w3 ⟨rfl, hb3⟩
  have K3 := Lib.hid (K2.out.trans (hb3.mono K2.out.size))
  have P3 := Lib.hid (show w3.heap[ga]? = some (.cells (chC la).toArray 26) ∧ True from ⟨heap_later P2.out.1 hb3, trivial⟩)
  clear hb3
  have hX3 : Below w3.heap.size w3 (w3.alloc (.cells (chC lb).toArray 26)) := (Below.refl _ _).alloc (Nat.le_refl _) _
  have PX3 := Lib.hid (show (w3.alloc (.cells (chC lb).toArray 26)).heap[ga]? = some (.cells (chC la).toArray 26) ∧ True from ⟨heap_later P3.out.1 hX3, trivial⟩)
  clear hX3
  go_wp2_with (first | (refine wpList_store_row rfl 26 (.tmp 9) (.tmp 33) rfl w3.heap.size (chC lb).toArray rfl rfl 26 (chC []).toArray (heap_alloc_new w3 _) (ch_info lb lbh) (ch_size lb lbh) (all_one lb) ?_; rw [alloc_setRow]) | (refine load_rowG (by rfl) 26 (.tmp 7) rfl ga rfl 26 (chC la).toArray (0, 0) _ PX3.out.1 Try.underlying26 rfl (ch_info la lah) ?_))
  obtain ⟨gb, hgb⟩ : ∃ g, w3.heap.size = g := ⟨_, rfl⟩
  obtain ⟨w4, hw4⟩ : ∃ v, (w3.alloc (.cells (chC lb).toArray 26)) = v := ⟨_, rfl⟩
  have P4 := Lib.hid (show w4.heap[ga]? = some (.cells (chC la).toArray 26) ∧ w4.heap[gb]? = some (.cells (chC lb).toArray 26) ∧ True by
    rw [← hw4]
    exact ⟨PX3.out.1, by rw [← hgb]; exact heap_alloc_new w3 _, trivial⟩)
  have K4 := Lib.hid (show Below w.heap.size w w4 by rw [← hw4]; exact K3.out.alloc K3.out.size _)
  rw [hw4, hgb]
  clear hw4 hgb PX3
  refine (HSP.out w4).mono ?_
  rintro e w5 ⟨rfl, hb5⟩
  have K5 := Lib.hid (K4.out.trans (hb5.mono K4.out.size))
  have P5 := Lib.hid (show w5.heap[ga]? = some (.cells (chC la).toArray 26) ∧ w5.heap[gb]? = some (.cells (chC lb).toArray 26) ∧ True from ⟨heap_later P4.out.1 hb5, heap_later P4.out.2.1 hb5, trivial⟩)
  clear hb5
  have hX5 : Below w5.heap.size w5 ((w5.alloc (.cells (chC sa).toArray 26)).alloc (.cells (chC sb).toArray 26)) := ((Below.refl _ _).alloc (Nat.le_refl _) _).alloc (by simp) _
  have PX5 := Lib.hid (show ((w5.alloc (.cells (chC sa).toArray 26)).alloc (.cells (chC sb).toArray 26)).heap[ga]? = some (.cells (chC la).toArray 26) ∧ ((w5.alloc (.cells (chC sa).toArray 26)).alloc (.cells (chC sb).toArray 26)).heap[gb]? = some (.cells (chC lb).toArray 26) ∧ True from ⟨heap_later P5.out.1 hX5, heap_later P5.out.2.1 hX5, trivial⟩)
  clear hX5
  go_wp2_with (first | (refine wpList_store_row rfl 26 (.tmp 11) (.tmp 46) rfl w5.heap.size (chC sa).toArray rfl rfl 26 (chC []).toArray (heap_alloc2_old w5 _ _) (ch_info sa sah) (ch_size sa sah) (all_one sa) ?_; rw [alloc2_setRow]) | (refine wpList_store_row rfl 26 (.tmp 12) (.tmp 47) rfl (w5.heap.size + 1) (chC sb).toArray rfl rfl 26 (chC []).toArray (heap_alloc2_new w5 _ _) (ch_info sb sbh) (ch_size sb sbh) (all_one sb) ?_; rw [alloc2_setRow2]) | (refine load_rowG (by rfl) 26 (.tmp 11) rfl w5.heap.size rfl 26 (chC sa).toArray (0, 0) _ (heap_alloc2_old w5 _ _) Try.underlying26 rfl (ch_info sa sah) ?_) | (refine load_rowG (by rfl) 26 (.tmp 12) rfl (w5.heap.size + 1) rfl 26 (chC sb).toArray (0, 0) _ (heap_alloc2_new w5 _ _) Try.underlying26 rfl (ch_info sb sbh) ?_) | (refine load_rowG (by rfl) 26 (.tmp 7) rfl ga rfl 26 (chC la).toArray (0, 0) _ PX5.out.1 Try.underlying26 rfl (ch_info la lah) ?_) | (refine load_rowG (by rfl) 26 (.tmp 9) rfl gb rfl 26 (chC lb).toArray (0, 0) _ PX5.out.2.1 Try.underlying26 rfl (ch_info lb lbh) ?_) | (refine wpList_ne_chunk (by rfl) (.tmp 60) (.tmp 61) rfl sa [] rfl (by with_unfolding_all rfl) sah (by decide) false HNA.out ?_) | (refine wpList_ne_chunk (by rfl) (.tmp 65) (.tmp 66) rfl sb [] rfl (by with_unfolding_all rfl) sbh (by decide) false HNB.out ?_))
  obtain ⟨gs, hgs⟩ : ∃ g, w5.heap.size = g := ⟨_, rfl⟩
  obtain ⟨gt, hgt⟩ : ∃ g, gs + 1 = g := ⟨_, rfl⟩
  obtain ⟨w6, hw6⟩ : ∃ v, ((w5.alloc (.cells (chC sa).toArray 26)).alloc (.cells (chC sb).toArray 26)) = v := ⟨_, rfl⟩
  have P6 := Lib.hid (show w6.heap[ga]? = some (.cells (chC la).toArray 26) ∧ w6.heap[gb]? = some (.cells (chC lb).toArray 26) ∧ w6.heap[gs]? = some (.cells (chC sa).toArray 26) ∧ w6.heap[gt]? = some (.cells (chC sb).toArray 26) ∧ True by
    rw [← hw6]
    exact ⟨PX5.out.1, PX5.out.2.1, by rw [← hgs]; exact heap_alloc2_old w5 _ _, by rw [← hgt, ← hgs]; exact heap_alloc2_new w5 _ _, trivial⟩)
  have K6 := Lib.hid (show Below w.heap.size w w6 by rw [← hw6]; exact (K5.out.alloc K5.out.size _).alloc (by have := K5.out.size; simp; omega) _)
  rw [hw6, hgs, hgt]
  clear hw6 hgs hgt PX5
  refine (HJ.out w6).mono ?_
  rintro e w7 ⟨rfl, hb7⟩
  have K7 := Lib.hid (K6.out.trans (hb7.mono K6.out.size))
  have P7 := Lib.hid (show w7.heap[ga]? = some (.cells (chC la).toArray 26) ∧ w7.heap[gb]? = some (.cells (chC lb).toArray 26) ∧ w7.heap[gs]? = some (.cells (chC sa).toArray 26) ∧ w7.heap[gt]? = some (.cells (chC sb).toArray 26) ∧ True from ⟨heap_later P6.out.1 hb7, heap_later P6.out.2.1 hb7, heap_later P6.out.2.2.1 hb7, heap_later P6.out.2.2.2.1 hb7, trivial⟩)
  clear hb7
  have hX7 : Below w7.heap.size w7 (w7.alloc (.cells (chC lx).toArray 26)) := (Below.refl _ _).alloc (Nat.le_refl _) _
  have PX7 := Lib.hid (show (w7.alloc (.cells (chC lx).toArray 26)).heap[ga]? = some (.cells (chC la).toArray 26) ∧ (w7.alloc (.cells (chC lx).toArray 26)).heap[gb]? = some (.cells (chC lb).toArray 26) ∧ (w7.alloc (.cells (chC lx).toArray 26)).heap[gs]? = some (.cells (chC sa).toArray 26) ∧ (w7.alloc (.cells (chC lx).toArray 26)).heap[gt]? = some (.cells (chC sb).toArray 26) ∧ True from ⟨heap_later P7.out.1 hX7, heap_later P7.out.2.1 hX7, heap_later P7.out.2.2.1 hX7, heap_later P7.out.2.2.2.1 hX7, trivial⟩)
  clear hX7
  go_wp2_with (first | (refine wpList_store_row rfl 26 (.tmp 14) (.tmp 91) rfl w7.heap.size (chC lx).toArray rfl rfl 26 (chC []).toArray (heap_alloc_new w7 _) (ch_info lx lxh) (ch_size lx lxh) (all_one lx) ?_; rw [alloc_setRow]))
  obtain ⟨gx, hgx⟩ : ∃ g, w7.heap.size = g := ⟨_, rfl⟩
  obtain ⟨w8, hw8⟩ : ∃ v, (w7.alloc (.cells (chC lx).toArray 26)) = v := ⟨_, rfl⟩
  have P8 := Lib.hid (show w8.heap[ga]? = some (.cells (chC la).toArray 26) ∧ w8.heap[gb]? = some (.cells (chC lb).toArray 26) ∧ w8.heap[gs]? = some (.cells (chC sa).toArray 26) ∧ w8.heap[gt]? = some (.cells (chC sb).toArray 26) ∧ w8.heap[gx]? = some (.cells (chC lx).toArray 26) ∧ True by
    rw [← hw8]
    exact ⟨PX7.out.1, PX7.out.2.1, PX7.out.2.2.1, PX7.out.2.2.2.1, by rw [← hgx]; exact heap_alloc_new w7 _, trivial⟩)
  have K8 := Lib.hid (show Below w.heap.size w w8 by rw [← hw8]; exact K7.out.alloc K7.out.size _)
  rw [hw8, hgx]
  clear hw8 hgx PX7
  have hV0 : Below w.heap.size w w8 := K8.out
  have hH0 : w8.heap[ga]? = some (.cells (chC la).toArray 26) ∧ w8.heap[gb]? = some (.cells (chC lb).toArray 26) ∧ w8.heap[gs]? = some (.cells (chC sa).toArray 26) ∧ w8.heap[gt]? = some (.cells (chC sb).toArray 26) ∧ w8.heap[gx]? = some (.cells (chC lx).toArray 26) ∧ True := P8.out
  refine wp_region_held_drew (S := fun w' => w'.heap[ga]? = some (.cells (chC la).toArray 26) ∧ w'.heap[gb]? = some (.cells (chC lb).toArray 26) ∧ w'.heap[gs]? = some (.cells (chC sa).toArray 26) ∧ w'.heap[gt]? = some (.cells (chC sb).toArray 26) ∧ w'.heap[gx]? = some (.cells (chC lx).toArray 26) ∧ True) (by kernel_rfl) P8.out (fun hHeld => ?_)
  try dsimp only at hHeld
  refine take_at (i := 0) (v := ?_) (some 119) rfl rfl (by kernel_rfl) (by kernel_rfl) (by kernel_rfl) (fun _ _ _ h => h) hHeld (by rfl) (fun wS hSw => ?_) ?_
  rotate_left
  · try dsimp only at hSw
    go_simp
    try with_reducible rfl
  try simp only [Act.put, List.setIfInBounds_toArray, List.set_cons_zero, List.set_cons_succ]
  refine take_at (i := 1) (v := ?_) (some 120) rfl rfl (by kernel_rfl) (by kernel_rfl) (by kernel_rfl) (fun _ _ _ h => h) hHeld (by rfl) (fun wS hSw => ?_) ?_
  rotate_left
  · try dsimp only at hSw
    go_simp
    try with_reducible rfl
  try simp only [Act.put, List.setIfInBounds_toArray, List.set_cons_zero, List.set_cons_succ]
  refine take_at (i := 2) (v := ?_) (some 121) rfl rfl (by kernel_rfl) (by kernel_rfl) (by kernel_rfl) (fun _ _ _ h => h) hHeld (by rfl) (fun wS hSw => ?_) ?_
  rotate_left
  · try dsimp only at hSw
    go_simp
    try with_reducible rfl
  try simp only [Act.put, List.setIfInBounds_toArray, List.set_cons_zero, List.set_cons_succ]
  refine take_at (i := 3) (v := ?_) (some 122) rfl rfl (by kernel_rfl) (by kernel_rfl) (by kernel_rfl) (fun _ _ _ h => h) hHeld (by rfl) (fun wS hSw => ?_) ?_
  rotate_left
  · refine exec_load_row 26 (.tmp 14) ?_ gx ?_ 26 (chC lx).toArray (0, 0) _ hSw.2.2.2.2.1 Try.underlying26 rfl (ch_info lx lxh) <;> rfl
  try simp only [Act.put, List.setIfInBounds_toArray, List.set_cons_zero, List.set_cons_succ]
  refine take_at (i := 5) (v := ?_) (some 124) rfl rfl (by kernel_rfl) (by kernel_rfl) (by kernel_rfl) (fun _ _ _ h => h) hHeld (by rfl) (fun wS hSw => ?_) ?_
  rotate_left
  · try dsimp only at hSw
    go_simp
    try with_reducible rfl
  try simp only [Act.put, List.setIfInBounds_toArray, List.set_cons_zero, List.set_cons_succ]
  refine take_at (i := 7) (v := ?_) (some 126) rfl rfl (by kernel_rfl) (by kernel_rfl) (by kernel_rfl) (fun _ _ _ h => h) hHeld (by rfl) (fun wS hSw => ?_) ?_
  rotate_left
  · try dsimp only at hSw
    go_simp
    try with_reducible rfl
  try simp only [Act.put, List.setIfInBounds_toArray, List.set_cons_zero, List.set_cons_succ]
  refine wpAnyH_ready (rs := [4]) (by kernel_rfl) (by simp) ?_
  refine AllReadyH.cons rfl (fun K hK => ?_) AllReadyH.nil
  simp only [List.getElem_toArray, List.getElem_cons_succ, List.getElem_cons_zero]
  go_simp
  try dsimp only
  obtain ⟨v1, hw1⟩ : ∃ v, (w8.alloc (.cells #[] 21)).drew = v := ⟨_, rfl⟩
  have hown1 : v1.ownsRow w8.heap.size 21 1 (.slice (some ⟨w8.heap.size, 0, none⟩) 0 0) 0 [] := by rw [← hw1]; exact own_none _ _
  have hv1 : Below w8.heap.size w8 v1 := by rw [← hw1]; exact ((Below.refl _ _).alloc (Nat.le_refl _) _).drew
  rw [hw1]
  clear hw1
  have hH1 : v1.heap[ga]? = some (.cells (chC la).toArray 26) ∧ v1.heap[gb]? = some (.cells (chC lb).toArray 26) ∧ v1.heap[gs]? = some (.cells (chC sa).toArray 26) ∧ v1.heap[gt]? = some (.cells (chC sb).toArray 26) ∧ v1.heap[gx]? = some (.cells (chC lx).toArray 26) ∧ True := ⟨heap_later hH0.1 hv1, heap_later hH0.2.1 hv1, heap_later hH0.2.2.1 hv1, heap_later hH0.2.2.2.1 hv1, heap_later hH0.2.2.2.2.1 hv1, trivial⟩
  have hV1 : Below w.heap.size w v1 := hV0.trans (hv1.mono hV0.size)
  try dsimp only
  have hOld := hHeld
  refine hK.out _ _ hH1 (fun _ => ?_)
  clear hK K
  refine wpAnyH_mono (S2 := fun w' => w'.heap[ga]? = some (.cells (chC la).toArray 26) ∧ w'.heap[gb]? = some (.cells (chC lb).toArray 26) ∧ w'.heap[gs]? = some (.cells (chC sa).toArray 26) ∧ w'.heap[gt]? = some (.cells (chC sb).toArray 26) ∧ w'.heap[gx]? = some (.cells (chC lx).toArray 26) ∧ True) (fun _ h => h) _ _ _ _ ?_
  clear hHeld
  have hHeld := hH1
  clear hOld
  try simp only [Act.put, List.setIfInBounds_toArray, List.set_cons_zero, List.set_cons_succ]
  refine wpAnyH_ready (rs := [6]) (by kernel_rfl) (by simp) ?_
  refine AllReadyH.cons rfl (fun K hK => ?_) AllReadyH.nil
  simp only [List.getElem_toArray, List.getElem_cons_succ, List.getElem_cons_zero]
  refine of_if (by rfl) ?_
  refine step_append_sees (.tmp 123) (.tmp 124) 22 rfl w8.heap.size 21 i0 _ 1 4 Try.underlying22 ii0 iz0 iz1 iz2 rfl (by omega) _ 0 [] rfl hown1 w.heap.size _ n _ _ rfl (HS1.out.below hV1 (Nat.le_refl _)) (r32_one _) (by simp only [maxLen]; omega) (by omega) hv1.size ?_
  intro u2 v2 hown2 hg2 hat2
  have hv2 : Below w8.heap.size w8 v2 := below_app2 hv1 hown1 hg2
  rw [Nat.zero_add, List.nil_append] at hown2
  obtain ⟨A5, c5, rfl, _⟩ := own_shape hown2
  clear hg2 hat2
  have hH2 : v2.heap[ga]? = some (.cells (chC la).toArray 26) ∧ v2.heap[gb]? = some (.cells (chC lb).toArray 26) ∧ v2.heap[gs]? = some (.cells (chC sa).toArray 26) ∧ v2.heap[gt]? = some (.cells (chC sb).toArray 26) ∧ v2.heap[gx]? = some (.cells (chC lx).toArray 26) ∧ True := ⟨heap_later hH0.1 hv2, heap_later hH0.2.1 hv2, heap_later hH0.2.2.1 hv2, heap_later hH0.2.2.2.1 hv2, heap_later hH0.2.2.2.2.1 hv2, trivial⟩
  have hV2 : Below w.heap.size w v2 := hV0.trans (hv2.mono hV0.size)
  try dsimp only
  have hOld := hHeld
  refine hK.out _ _ hH2 (fun _ => ?_)
  clear hK K
  refine wpAnyH_mono (S2 := fun w' => w'.heap[ga]? = some (.cells (chC la).toArray 26) ∧ w'.heap[gb]? = some (.cells (chC lb).toArray 26) ∧ w'.heap[gs]? = some (.cells (chC sa).toArray 26) ∧ w'.heap[gt]? = some (.cells (chC sb).toArray 26) ∧ w'.heap[gx]? = some (.cells (chC lx).toArray 26) ∧ True) (fun _ h => h) _ _ _ _ ?_
  clear hHeld
  have hHeld := hH2
  clear hOld
  try simp only [Act.put, List.setIfInBounds_toArray, List.set_cons_zero, List.set_cons_succ]
  refine wpAnyH_ready (rs := [8]) (by kernel_rfl) (by simp) ?_
  refine AllReadyH.cons rfl (fun K hK => ?_) AllReadyH.nil
  simp only [List.getElem_toArray, List.getElem_cons_succ, List.getElem_cons_zero]
  refine of_if (by rfl) ?_
  refine step_append_sees (.tmp 125) (.tmp 126) 22 rfl w8.heap.size 21 i0 _ 1 4 Try.underlying22 ii0 iz0 iz1 iz2 rfl (by omega) _ n (la.map r32) rfl hown2 w.heap.size _ n2 _ _ rfl (HS2.out.below hV2 (Nat.le_refl _)) (r32_one _) (by simp only [maxLen]; omega) (by omega) hv2.size ?_
  intro u3 v3 hown3 hg3 hat3
  have hv3 : Below w8.heap.size w8 v3 := below_app2 hv2 hown2 hg3
  rw [HMAP.out] at hown3
  obtain ⟨A6, c6, rfl, _⟩ := own_shape hown3
  clear hg3 hat3
  have hH3 : v3.heap[ga]? = some (.cells (chC la).toArray 26) ∧ v3.heap[gb]? = some (.cells (chC lb).toArray 26) ∧ v3.heap[gs]? = some (.cells (chC sa).toArray 26) ∧ v3.heap[gt]? = some (.cells (chC sb).toArray 26) ∧ v3.heap[gx]? = some (.cells (chC lx).toArray 26) ∧ True := ⟨heap_later hH0.1 hv3, heap_later hH0.2.1 hv3, heap_later hH0.2.2.1 hv3, heap_later hH0.2.2.2.1 hv3, heap_later hH0.2.2.2.2.1 hv3, trivial⟩
  have hV3 : Below w.heap.size w v3 := hV0.trans (hv3.mono hV0.size)
  clear hv3
  try dsimp only
  have hOld := hHeld
  refine hK.out _ _ hH3 (fun _ => ?_)
  clear hK K
  refine wpAnyH_mono (S2 := fun w' => w'.heap[ga]? = some (.cells (chC la).toArray 26) ∧ w'.heap[gb]? = some (.cells (chC lb).toArray 26) ∧ w'.heap[gs]? = some (.cells (chC sa).toArray 26) ∧ w'.heap[gt]? = some (.cells (chC sb).toArray 26) ∧ w'.heap[gx]? = some (.cells (chC lx).toArray 26) ∧ True) (fun _ h => h) _ _ _ _ ?_
  clear hHeld
  have hHeld := hH3
  clear hOld
  try simp only [Act.put, List.setIfInBounds_toArray, List.set_cons_zero, List.set_cons_succ]
  refine wpAnyH_ready (rs := [9]) (by kernel_rfl) (by simp) ?_
  refine AllReadyH.cons rfl (fun K hK => ?_) AllReadyH.nil
  simp only [List.getElem_toArray, List.getElem_cons_succ, List.getElem_cons_zero]
  go_simp
  refine (is_any A6 (n + n2) c6 _ lx v3 (Sees.of_own hown3) (Nat.le_refl _) (by omega)).mono ?_
  rintro e v4 ⟨rfl, hv4⟩
  have hH4 : v4.heap[ga]? = some (.cells (chC la).toArray 26) ∧ v4.heap[gb]? = some (.cells (chC lb).toArray 26) ∧ v4.heap[gs]? = some (.cells (chC sa).toArray 26) ∧ v4.heap[gt]? = some (.cells (chC sb).toArray 26) ∧ v4.heap[gx]? = some (.cells (chC lx).toArray 26) ∧ True := ⟨heap_later hH3.1 hv4, heap_later hH3.2.1 hv4, heap_later hH3.2.2.1 hv4, heap_later hH3.2.2.2.1 hv4, heap_later hH3.2.2.2.2.1 hv4, trivial⟩
  have hV4 : Below w.heap.size w v4 := hV3.trans (hv4.mono hV3.size)
  clear hv4
  try dsimp only
  have hOld := hHeld
  refine hK.out _ _ hH4 (fun _ => ?_)
  clear hK K
  refine wpAnyH_mono (S2 := fun w' => w'.heap[ga]? = some (.cells (chC la).toArray 26) ∧ w'.heap[gb]? = some (.cells (chC lb).toArray 26) ∧ w'.heap[gs]? = some (.cells (chC sa).toArray 26) ∧ w'.heap[gt]? = some (.cells (chC sb).toArray 26) ∧ w'.heap[gx]? = some (.cells (chC lx).toArray 26) ∧ True) (fun _ h => h) _ _ _ _ ?_
  clear hHeld
  have hHeld := hH4
  clear hOld
  try simp only [Act.put, List.setIfInBounds_toArray, List.set_cons_zero, List.set_cons_succ]
  refine take_at (i := 10) (v := ?_) (some 129) rfl rfl (by kernel_rfl) (by kernel_rfl) (by kernel_rfl) (fun _ _ _ h => h) hHeld (by rfl) (fun wS hSw => ?_) ?_
  rotate_left
  · try dsimp only at hSw
    go_simp
    try with_reducible rfl
  try simp only [Act.put, List.setIfInBounds_toArray, List.set_cons_zero, List.set_cons_succ]
  refine take_at (i := 11) (v := ?_) (some 130) rfl rfl (by kernel_rfl) (by kernel_rfl) (by kernel_rfl) (fun _ _ _ h => h) hHeld (by rfl) (fun wS hSw => ?_) ?_
  rotate_left
  · try dsimp only at hSw
    go_simp
    try with_reducible rfl
  try simp only [Act.put, List.setIfInBounds_toArray, List.set_cons_zero, List.set_cons_succ]
  refine take_at (i := 12) (v := ?_) (some 131) rfl rfl (by kernel_rfl) (by kernel_rfl) (by kernel_rfl) (fun _ _ _ h => h) hHeld (by rfl) (fun wS hSw => ?_) ?_
  rotate_left
  · refine exec_load_row 26 (.tmp 7) ?_ ga ?_ 26 (chC la).toArray (0, 0) _ hSw.1 Try.underlying26 rfl (ch_info la lah) <;> rfl
  try simp only [Act.put, List.setIfInBounds_toArray, List.set_cons_zero, List.set_cons_succ]
  refine take_at (i := 13) (v := ?_) (some 132) rfl rfl (by kernel_rfl) (by kernel_rfl) (by kernel_rfl) (fun _ _ _ h => h) hHeld (by rfl) (fun wS hSw => ?_) ?_
  rotate_left
  · try dsimp only at hSw
    go_simp
    try with_reducible rfl
  try simp only [Act.put, List.setIfInBounds_toArray, List.set_cons_zero, List.set_cons_succ]
  refine wpAnyH_ready (rs := [14]) (by kernel_rfl) (by simp) ?_
  refine AllReadyH.cons rfl (fun K hK => ?_) AllReadyH.nil
  simp only [List.getElem_toArray, List.getElem_cons_succ, List.getElem_cons_zero]
  go_simp
  refine (HI1.out v4 hV4).mono ?_
  rintro e v5 ⟨rfl, hv5⟩
  have hH5 : v5.heap[ga]? = some (.cells (chC la).toArray 26) ∧ v5.heap[gb]? = some (.cells (chC lb).toArray 26) ∧ v5.heap[gs]? = some (.cells (chC sa).toArray 26) ∧ v5.heap[gt]? = some (.cells (chC sb).toArray 26) ∧ v5.heap[gx]? = some (.cells (chC lx).toArray 26) ∧ True := ⟨heap_later hH4.1 hv5, heap_later hH4.2.1 hv5, heap_later hH4.2.2.1 hv5, heap_later hH4.2.2.2.1 hv5, heap_later hH4.2.2.2.2.1 hv5, trivial⟩
  have hV5 : Below w.heap.size w v5 := hV4.trans (hv5.mono hV4.size)
  clear hv5
  try dsimp only
  have hOld := hHeld
  refine hK.out _ _ hH5 (fun _ => ?_)
  clear hK K
  refine wpAnyH_mono (S2 := fun w' => w'.heap[ga]? = some (.cells (chC la).toArray 26) ∧ w'.heap[gb]? = some (.cells (chC lb).toArray 26) ∧ w'.heap[gs]? = some (.cells (chC sa).toArray 26) ∧ w'.heap[gt]? = some (.cells (chC sb).toArray 26) ∧ w'.heap[gx]? = some (.cells (chC lx).toArray 26) ∧ True) (fun _ h => h) _ _ _ _ ?_
  clear hHeld
  have hHeld := hH5
  clear hOld
  try simp only [Act.put, List.setIfInBounds_toArray, List.set_cons_zero, List.set_cons_succ]
  refine take_at (i := 15) (v := ?_) (some 134) rfl rfl (by kernel_rfl) (by kernel_rfl) (by kernel_rfl) (fun _ _ _ h => h) hHeld (by rfl) (fun wS hSw => ?_) ?_
  rotate_left
  · try dsimp only at hSw
    go_simp
    try with_reducible rfl
  try simp only [Act.put, List.setIfInBounds_toArray, List.set_cons_zero, List.set_cons_succ]
  refine take_at (i := 16) (v := ?_) (some 135) rfl rfl (by kernel_rfl) (by kernel_rfl) (by kernel_rfl) (fun _ _ _ h => h) hHeld (by rfl) (fun wS hSw => ?_) ?_
  rotate_left
  · try dsimp only at hSw
    go_simp
    try with_reducible rfl
  try simp only [Act.put, List.setIfInBounds_toArray, List.set_cons_zero, List.set_cons_succ]
  refine take_at (i := 17) (v := ?_) (some 136) rfl rfl (by kernel_rfl) (by kernel_rfl) (by kernel_rfl) (fun _ _ _ h => h) hHeld (by rfl) (fun wS hSw => ?_) ?_
  rotate_left
  · refine exec_load_row 26 (.tmp 9) ?_ gb ?_ 26 (chC lb).toArray (0, 0) _ hSw.2.1 Try.underlying26 rfl (ch_info lb lbh) <;> rfl
  try simp only [Act.put, List.setIfInBounds_toArray, List.set_cons_zero, List.set_cons_succ]
  refine take_at (i := 18) (v := ?_) (some 137) rfl rfl (by kernel_rfl) (by kernel_rfl) (by kernel_rfl) (fun _ _ _ h => h) hHeld (by rfl) (fun wS hSw => ?_) ?_
  rotate_left
  · try dsimp only at hSw
    go_simp
    try with_reducible rfl
  try simp only [Act.put, List.setIfInBounds_toArray, List.set_cons_zero, List.set_cons_succ]
  refine wpAnyH_ready (rs := [19]) (by kernel_rfl) (by simp) ?_
  refine AllReadyH.cons rfl (fun K hK => ?_) AllReadyH.nil
  simp only [List.getElem_toArray, List.getElem_cons_succ, List.getElem_cons_zero]
  go_simp
  refine (HI2.out v5 hV5).mono ?_
  rintro e v6 ⟨rfl, hv6⟩
  have hH6 : v6.heap[ga]? = some (.cells (chC la).toArray 26) ∧ v6.heap[gb]? = some (.cells (chC lb).toArray 26) ∧ v6.heap[gs]? = some (.cells (chC sa).toArray 26) ∧ v6.heap[gt]? = some (.cells (chC sb).toArray 26) ∧ v6.heap[gx]? = some (.cells (chC lx).toArray 26) ∧ True := ⟨heap_later hH5.1 hv6, heap_later hH5.2.1 hv6, heap_later hH5.2.2.1 hv6, heap_later hH5.2.2.2.1 hv6, heap_later hH5.2.2.2.2.1 hv6, trivial⟩
  have hV6 : Below w.heap.size w v6 := hV5.trans (hv6.mono hV5.size)
  clear hv6
  try dsimp only
  have hOld := hHeld
  refine hK.out _ _ hH6 (fun _ => ?_)
  clear hK K
  refine wpAnyH_mono (S2 := fun w' => w'.heap[ga]? = some (.cells (chC la).toArray 26) ∧ w'.heap[gb]? = some (.cells (chC lb).toArray 26) ∧ w'.heap[gs]? = some (.cells (chC sa).toArray 26) ∧ w'.heap[gt]? = some (.cells (chC sb).toArray 26) ∧ w'.heap[gx]? = some (.cells (chC lx).toArray 26) ∧ True) (fun _ h => h) _ _ _ _ ?_
  clear hHeld
  have hHeld := hH6
  clear hOld
  try simp only [Act.put, List.setIfInBounds_toArray, List.set_cons_zero, List.set_cons_succ]
  refine take_at (i := 20) (v := ?_) (some 139) rfl rfl (by kernel_rfl) (by kernel_rfl) (by kernel_rfl) (fun _ _ _ h => h) hHeld (by rfl) (fun wS hSw => ?_) ?_
  rotate_left
  · try dsimp only at hSw
    go_simp
    try with_reducible rfl
  try simp only [Act.put, List.setIfInBounds_toArray, List.set_cons_zero, List.set_cons_succ]
  refine take_at (i := 21) (v := ?_) (some 140) rfl rfl (by kernel_rfl) (by kernel_rfl) (by kernel_rfl) (fun _ _ _ h => h) hHeld (by rfl) (fun wS hSw => ?_) ?_
  rotate_left
  · try dsimp only at hSw
    go_simp
    try with_reducible rfl
  try simp only [Act.put, List.setIfInBounds_toArray, List.set_cons_zero, List.set_cons_succ]
  refine wpAnyH_ready (rs := [22]) (by kernel_rfl) (by simp) ?_
  refine AllReadyH.cons rfl (fun K hK => ?_) AllReadyH.nil
  simp only [List.getElem_toArray, List.getElem_cons_succ, List.getElem_cons_zero]
  go_simp
  refine (known_any v6).mono ?_
  rintro e v7 ⟨rfl, hv7⟩
  have hH7 : v7.heap[ga]? = some (.cells (chC la).toArray 26) ∧ v7.heap[gb]? = some (.cells (chC lb).toArray 26) ∧ v7.heap[gs]? = some (.cells (chC sa).toArray 26) ∧ v7.heap[gt]? = some (.cells (chC sb).toArray 26) ∧ v7.heap[gx]? = some (.cells (chC lx).toArray 26) ∧ True := ⟨heap_later hH6.1 hv7, heap_later hH6.2.1 hv7, heap_later hH6.2.2.1 hv7, heap_later hH6.2.2.2.1 hv7, heap_later hH6.2.2.2.2.1 hv7, trivial⟩
  have hV7 : Below w.heap.size w v7 := hV6.trans (hv7.mono hV6.size)
  clear hv7
  try dsimp only
  have hOld := hHeld
  refine hK.out _ _ hH7 (fun _ => ?_)
  clear hK K
  refine wpAnyH_mono (S2 := fun w' => w'.heap[ga]? = some (.cells (chC la).toArray 26) ∧ w'.heap[gb]? = some (.cells (chC lb).toArray 26) ∧ w'.heap[gs]? = some (.cells (chC sa).toArray 26) ∧ w'.heap[gt]? = some (.cells (chC sb).toArray 26) ∧ w'.heap[gx]? = some (.cells (chC lx).toArray 26) ∧ True) (fun _ h => h) _ _ _ _ ?_
  clear hHeld
  have hHeld := hH7
  clear hOld
  try simp only [Act.put, List.setIfInBounds_toArray, List.set_cons_zero, List.set_cons_succ]
  refine take_at (i := 23) (v := ?_) (some 142) rfl rfl (by kernel_rfl) (by kernel_rfl) (by kernel_rfl) (fun _ _ _ h => h) hHeld (by rfl) (fun wS hSw => ?_) ?_
  rotate_left
  · try dsimp only at hSw
    go_simp
    try with_reducible rfl
  try simp only [Act.put, List.setIfInBounds_toArray, List.set_cons_zero, List.set_cons_succ]
  refine take_at (i := 24) (v := ?_) (some 6) rfl rfl (by kernel_rfl) (by kernel_rfl) (by kernel_rfl) (fun _ _ _ h => h) hHeld (by rfl) (fun wS hSw => ?_) ?_
  rotate_left
  · try dsimp only at hSw
    go_simp
    try with_reducible rfl
  try simp only [Act.put, List.setIfInBounds_toArray, List.set_cons_zero, List.set_cons_succ]
  refine wpAnyH_done (by kernel_rfl) ?_ _
  obtain ⟨w9, hw9⟩ : ∃ v, v7 = v := ⟨_, rfl⟩
  have P9 := Lib.hid (show w9.heap[ga]? = some (.cells (chC la).toArray 26) ∧ w9.heap[gb]? = some (.cells (chC lb).toArray 26) ∧ w9.heap[gs]? = some (.cells (chC sa).toArray 26) ∧ w9.heap[gt]? = some (.cells (chC sb).toArray 26) ∧ w9.heap[gx]? = some (.cells (chC lx).toArray 26) ∧ True by rw [← hw9]; exact hH7)
  have K9 := Lib.hid (show Below w.heap.size w w9 by rw [← hw9]; exact hV7)
  rw [hw9]
  clear hw9 hHeld hV0 hH0 hV1 hH1 hV2 hH2 hV3 hH3 hV4 hH4 hV5 hH5 hV6 hH6 hV7 hH7
  go_wp2_with fail
  go_ret
  exact ⟨rfl, K9.out⟩

set_option maxRecDepth 100000 in
set_option maxHeartbeats 8000000 in
theorem splits_big_long (A A2 : Option Addr) (n n2 c c2 : Nat) (la lb : List Int) (i : Int) (w : World) (hs1 : Sees w w.heap.size 1 A n (la.map r32)) (hs2 : Sees w w.heap.size 1 A2 n2 (lb.map r32)) (hn : n ≤ 32) (hn2 : n2 ≤ 32) (hnc : n ≤ c) (hea : ofE la = 0) (heb : ofE lb = 0) (hi : (n : Int) < i) (hi0 : -9223372036854775808 ≤ i) (hi1 : i ≤ 9223372036854775807) (h32 : (32 : Int) < (n : Int) + n2) :
    Calls Try.prog 8 #[.slice A n c, .slice A2 n2 c2, .int .i64 i] w fun e w' => e = .returned (.bool true) ∧ Below w.heap.size w w' := by
  have hl1 : la.length = n := by have := hs1.1; simp at this; omega
  have hl2 : lb.length = n2 := by have := hs2.1; simp at this; omega
  have lah : la.length ≤ 32 := by omega
  have lbh : lb.length ≤ 32 := by omega
  have hnI : (n : Int) ≤ 32 := by omega
  have hn2I : (n2 : Int) ≤ 32 := by omega
  have HO1 := Lib.hid (fun (w1 : World) (hb : Below w.heap.size w w1) => of_any A n c w.heap.size la w1 (hs1.below hb (Nat.le_refl _)) hb.size (by omega))
  have HO2 := Lib.hid (fun (w1 : World) (hb : Below w.heap.size w w1) => of_any A2 n2 c2 w.heap.size lb w1 (hs2.below hb (Nat.le_refl _)) hb.size (by omega))
  have HI1 := Lib.hid (fun (w1 : World) (hb : Below w.heap.size w w1) => is_any A n c w.heap.size la w1 (hs1.below hb (Nat.le_refl _)) hb.size hn)
  have HI2 := Lib.hid (fun (w1 : World) (hb : Below w.heap.size w w1) => is_any A2 n2 c2 w.heap.size lb w1 (hs2.below hb (Nat.le_refl _)) hb.size hn2)
  rw [(ofE_ok hea).1, hea] at HO1
  rw [(ofE_ok heb).1, heb] at HO2
  clear hea heb
  have HKA := Lib.hid (show spA la i = [] ∧ spB la i = [] ∧ spE la i = 5 by
    unfold spA spB spE
    rw [if_neg (by omega), if_neg (by omega), if_neg (by omega)]
    exact ⟨rfl, rfl, rfl⟩)
  have HSP := Lib.hid (fun w => split_any la i w lah)
  rw [HKA.out.1, HKA.out.2.1, HKA.out.2.2] at HSP
  obtain ⟨sa, hsa⟩ : ∃ x : List Int, [] = x := ⟨_, rfl⟩
  obtain ⟨sb, hsb⟩ : ∃ x : List Int, [] = x := ⟨_, rfl⟩
  have sah : sa.length ≤ 32 := by rw [← hsa]; decide
  have sbh : sb.length ≤ 32 := by rw [← hsb]; decide
  have HSP : RowKit.Hid (∀ w, Calls Try.prog 19 #[chV la, .int .i64 i] w fun e w' => e = .returned (.tuple #[chV sa, chV sb, .int .i64 5]) ∧ Below w.heap.size w w') := Lib.hid (by rw [← hsa, ← hsb]; exact HSP.out)
  have HNA := Lib.hid (show (!(sa == [])) = false by rw [← hsa]; rfl)
  have HNB := Lib.hid (show (!(sb == [])) = false by rw [← hsb]; rfl)
  clear hsa hsb HKA
  have HJ0 := Lib.hid (fun w => join_long la lb w lah lbh (by omega))
  obtain ⟨lx, hx⟩ : ∃ x : List Int, [] = x := ⟨_, rfl⟩
  have lxh : lx.length ≤ 32 := by rw [← hx]; decide
  have HJ : RowKit.Hid (∀ w, Calls Try.prog 20 #[chV la, chV lb] w fun e w' => e = .returned (.tuple #[chV lx, .int .i64 8]) ∧ Below w.heap.size w w') := Lib.hid (by rw [← hx]; exact HJ0.out)
  have HNX := Lib.hid (show (lx == []) = true by rw [← hx]; rfl)
  clear hx HJ0
  obtain ⟨i0, ii0, iz0, iz1, iz2⟩ := info_parts r32_info
  have HS1 := Lib.hid hs1
  have HS2 := Lib.hid hs2
  have HLL := Lib.hid (And.intro hl1 hl2)
  clear hs1 hs2 hl1 hl2
  go_enter Try.func8, Try.ntmps8
  have K0 := Lib.hid (Below.refl w.heap.size w)
  go_wp2_with fail
  refine (HO1.out w K0.out).mono ?_
  rintro e w1 ⟨rfl, hb1⟩
  have K1 := Lib.hid hb1
  clear hb1
  have hX1 : Below w1.heap.size w1 (w1.alloc (.cells (chC la).toArray 26)) := (Below.refl _ _).alloc (Nat.le_refl _) _
  clear hX1
  go_wp2_with (first | (refine wpList_store_row rfl 26 (.tmp 7) (.tmp 28) rfl w1.heap.size (chC la).toArray rfl rfl 26 (chC []).toArray (heap_alloc_new w1 _) (ch_info la lah) (ch_size la lah) (all_one la) ?_; rw [alloc_setRow]))
  obtain ⟨ga, hga⟩ : ∃ g, w1.heap.size = g := ⟨_, rfl⟩
  obtain ⟨w2, hw2⟩ : ∃ v, (w1.alloc (.cells (chC la).toArray 26)) = v := ⟨_, rfl⟩
  have P2 := Lib.hid (show w2.heap[ga]? = some (.cells (chC la).toArray 26) ∧ True by
    rw [← hw2]
    exact ⟨by rw [← hga]; exact heap_alloc_new w1 _, trivial⟩)
  have K2 := Lib.hid (show Below w.heap.size w w2 by rw [← hw2]; exact K1.out.alloc K1.out.size _)
  rw [hw2, hga]
  clear hw2 hga
  refine (HO2.out w2 K2.out).mono ?_
  rintro e w3 ⟨rfl, hb3⟩
  have K3 := Lib.hid (K2.out.trans (hb3.mono K2.out.size))
  have P3 := Lib.hid (show w3.heap[ga]? = some (.cells (chC la).toArray 26) ∧ True from ⟨heap_later P2.out.1 hb3, trivial⟩)
  clear hb3
  have hX3 : Below w3.heap.size w3 (w3.alloc (.cells (chC lb).toArray 26)) := (Below.refl _ _).alloc (Nat.le_refl _) _
  have PX3 := Lib.hid (show (w3.alloc (.cells (chC lb).toArray 26)).heap[ga]? = some (.cells (chC la).toArray 26) ∧ True from ⟨heap_later P3.out.1 hX3, trivial⟩)
  clear hX3
  go_wp2_with (first | (refine wpList_store_row rfl 26 (.tmp 9) (.tmp 33) rfl w3.heap.size (chC lb).toArray rfl rfl 26 (chC []).toArray (heap_alloc_new w3 _) (ch_info lb lbh) (ch_size lb lbh) (all_one lb) ?_; rw [alloc_setRow]) | (refine load_rowG (by rfl) 26 (.tmp 7) rfl ga rfl 26 (chC la).toArray (0, 0) _ PX3.out.1 Try.underlying26 rfl (ch_info la lah) ?_))
  obtain ⟨gb, hgb⟩ : ∃ g, w3.heap.size = g := ⟨_, rfl⟩
  obtain ⟨w4, hw4⟩ : ∃ v, (w3.alloc (.cells (chC lb).toArray 26)) = v := ⟨_, rfl⟩
  have P4 := Lib.hid (show w4.heap[ga]? = some (.cells (chC la).toArray 26) ∧ w4.heap[gb]? = some (.cells (chC lb).toArray 26) ∧ True by
    rw [← hw4]
    exact ⟨PX3.out.1, by rw [← hgb]; exact heap_alloc_new w3 _, trivial⟩)
  have K4 := Lib.hid (show Below w.heap.size w w4 by rw [← hw4]; exact K3.out.alloc K3.out.size _)
  rw [hw4, hgb]
  clear hw4 hgb PX3
  refine (HSP.out w4).mono ?_
  rintro e w5 ⟨rfl, hb5⟩
  have K5 := Lib.hid (K4.out.trans (hb5.mono K4.out.size))
  have P5 := Lib.hid (show w5.heap[ga]? = some (.cells (chC la).toArray 26) ∧ w5.heap[gb]? = some (.cells (chC lb).toArray 26) ∧ True from ⟨heap_later P4.out.1 hb5, heap_later P4.out.2.1 hb5, trivial⟩)
  clear hb5
  have hX5 : Below w5.heap.size w5 ((w5.alloc (.cells (chC sa).toArray 26)).alloc (.cells (chC sb).toArray 26)) := ((Below.refl _ _).alloc (Nat.le_refl _) _).alloc (by simp) _
  have PX5 := Lib.hid (show ((w5.alloc (.cells (chC sa).toArray 26)).alloc (.cells (chC sb).toArray 26)).heap[ga]? = some (.cells (chC la).toArray 26) ∧ ((w5.alloc (.cells (chC sa).toArray 26)).alloc (.cells (chC sb).toArray 26)).heap[gb]? = some (.cells (chC lb).toArray 26) ∧ True from ⟨heap_later P5.out.1 hX5, heap_later P5.out.2.1 hX5, trivial⟩)
  clear hX5
  go_wp2_with (first | (refine wpList_store_row rfl 26 (.tmp 11) (.tmp 46) rfl w5.heap.size (chC sa).toArray rfl rfl 26 (chC []).toArray (heap_alloc2_old w5 _ _) (ch_info sa sah) (ch_size sa sah) (all_one sa) ?_; rw [alloc2_setRow]) | (refine wpList_store_row rfl 26 (.tmp 12) (.tmp 47) rfl (w5.heap.size + 1) (chC sb).toArray rfl rfl 26 (chC []).toArray (heap_alloc2_new w5 _ _) (ch_info sb sbh) (ch_size sb sbh) (all_one sb) ?_; rw [alloc2_setRow2]) | (refine load_rowG (by rfl) 26 (.tmp 11) rfl w5.heap.size rfl 26 (chC sa).toArray (0, 0) _ (heap_alloc2_old w5 _ _) Try.underlying26 rfl (ch_info sa sah) ?_) | (refine load_rowG (by rfl) 26 (.tmp 12) rfl (w5.heap.size + 1) rfl 26 (chC sb).toArray (0, 0) _ (heap_alloc2_new w5 _ _) Try.underlying26 rfl (ch_info sb sbh) ?_) | (refine load_rowG (by rfl) 26 (.tmp 7) rfl ga rfl 26 (chC la).toArray (0, 0) _ PX5.out.1 Try.underlying26 rfl (ch_info la lah) ?_) | (refine load_rowG (by rfl) 26 (.tmp 9) rfl gb rfl 26 (chC lb).toArray (0, 0) _ PX5.out.2.1 Try.underlying26 rfl (ch_info lb lbh) ?_) | (refine wpList_ne_chunk (by rfl) (.tmp 60) (.tmp 61) rfl sa [] rfl (by with_unfolding_all rfl) sah (by decide) false HNA.out ?_) | (refine wpList_ne_chunk (by rfl) (.tmp 65) (.tmp 66) rfl sb [] rfl (by with_unfolding_all rfl) sbh (by decide) false HNB.out ?_))
  obtain ⟨gs, hgs⟩ : ∃ g, w5.heap.size = g := ⟨_, rfl⟩
  obtain ⟨gt, hgt⟩ : ∃ g, gs + 1 = g := ⟨_, rfl⟩
  obtain ⟨w6, hw6⟩ : ∃ v, ((w5.alloc (.cells (chC sa).toArray 26)).alloc (.cells (chC sb).toArray 26)) = v := ⟨_, rfl⟩
  have P6 := Lib.hid (show w6.heap[ga]? = some (.cells (chC la).toArray 26) ∧ w6.heap[gb]? = some (.cells (chC lb).toArray 26) ∧ w6.heap[gs]? = some (.cells (chC sa).toArray 26) ∧ w6.heap[gt]? = some (.cells (chC sb).toArray 26) ∧ True by
    rw [← hw6]
    exact ⟨PX5.out.1, PX5.out.2.1, by rw [← hgs]; exact heap_alloc2_old w5 _ _, by rw [← hgt, ← hgs]; exact heap_alloc2_new w5 _ _, trivial⟩)
  have K6 := Lib.hid (show Below w.heap.size w w6 by rw [← hw6]; exact (K5.out.alloc K5.out.size _).alloc (by have := K5.out.size; simp; omega) _)
  rw [hw6, hgs, hgt]
  clear hw6 hgs hgt PX5
  refine (HJ.out w6).mono ?_
  rintro e w7 ⟨rfl, hb7⟩
  have K7 := Lib.hid (K6.out.trans (hb7.mono K6.out.size))
  have P7 := Lib.hid (show w7.heap[ga]? = some (.cells (chC la).toArray 26) ∧ w7.heap[gb]? = some (.cells (chC lb).toArray 26) ∧ w7.heap[gs]? = some (.cells (chC sa).toArray 26) ∧ w7.heap[gt]? = some (.cells (chC sb).toArray 26) ∧ True from ⟨heap_later P6.out.1 hb7, heap_later P6.out.2.1 hb7, heap_later P6.out.2.2.1 hb7, heap_later P6.out.2.2.2.1 hb7, trivial⟩)
  clear hb7
  have hX7 : Below w7.heap.size w7 (w7.alloc (.cells (chC lx).toArray 26)) := (Below.refl _ _).alloc (Nat.le_refl _) _
  have PX7 := Lib.hid (show (w7.alloc (.cells (chC lx).toArray 26)).heap[ga]? = some (.cells (chC la).toArray 26) ∧ (w7.alloc (.cells (chC lx).toArray 26)).heap[gb]? = some (.cells (chC lb).toArray 26) ∧ (w7.alloc (.cells (chC lx).toArray 26)).heap[gs]? = some (.cells (chC sa).toArray 26) ∧ (w7.alloc (.cells (chC lx).toArray 26)).heap[gt]? = some (.cells (chC sb).toArray 26) ∧ True from ⟨heap_later P7.out.1 hX7, heap_later P7.out.2.1 hX7, heap_later P7.out.2.2.1 hX7, heap_later P7.out.2.2.2.1 hX7, trivial⟩)
  clear hX7
  go_wp2_with (first | (refine wpList_store_row rfl 26 (.tmp 14) (.tmp 91) rfl w7.heap.size (chC lx).toArray rfl rfl 26 (chC []).toArray (heap_alloc_new w7 _) (ch_info lx lxh) (ch_size lx lxh) (all_one lx) ?_; rw [alloc_setRow]) | (refine load_rowG (by rfl) 26 (.tmp 14) rfl w7.heap.size rfl 26 (chC lx).toArray (0, 0) _ (heap_alloc_new w7 _) Try.underlying26 rfl (ch_info lx lxh) ?_) | (refine load_rowG (by rfl) 26 (.tmp 7) rfl ga rfl 26 (chC la).toArray (0, 0) _ PX7.out.1 Try.underlying26 rfl (ch_info la lah) ?_) | (refine wpList_eq_chunk (by rfl) (.tmp 102) (.tmp 103) rfl lx [] rfl (by with_unfolding_all rfl) lxh (by decide) true HNX.out ?_))
  obtain ⟨gx, hgx⟩ : ∃ g, w7.heap.size = g := ⟨_, rfl⟩
  obtain ⟨w8, hw8⟩ : ∃ v, (w7.alloc (.cells (chC lx).toArray 26)) = v := ⟨_, rfl⟩
  have P8 := Lib.hid (show w8.heap[ga]? = some (.cells (chC la).toArray 26) ∧ w8.heap[gb]? = some (.cells (chC lb).toArray 26) ∧ w8.heap[gs]? = some (.cells (chC sa).toArray 26) ∧ w8.heap[gt]? = some (.cells (chC sb).toArray 26) ∧ w8.heap[gx]? = some (.cells (chC lx).toArray 26) ∧ True by
    rw [← hw8]
    exact ⟨PX7.out.1, PX7.out.2.1, PX7.out.2.2.1, PX7.out.2.2.2.1, by rw [← hgx]; exact heap_alloc_new w7 _, trivial⟩)
  have K8 := Lib.hid (show Below w.heap.size w w8 by rw [← hw8]; exact K7.out.alloc K7.out.size _)
  rw [hw8, hgx]
  clear hw8 hgx PX7
  refine (HI1.out w8 K8.out).mono ?_
  rintro e w9 ⟨rfl, hb9⟩
  have K9 := Lib.hid (K8.out.trans (hb9.mono K8.out.size))
  have P9 := Lib.hid (show w9.heap[ga]? = some (.cells (chC la).toArray 26) ∧ w9.heap[gb]? = some (.cells (chC lb).toArray 26) ∧ w9.heap[gs]? = some (.cells (chC sa).toArray 26) ∧ w9.heap[gt]? = some (.cells (chC sb).toArray 26) ∧ w9.heap[gx]? = some (.cells (chC lx).toArray 26) ∧ True from ⟨heap_later P8.out.1 hb9, heap_later P8.out.2.1 hb9, heap_later P8.out.2.2.1 hb9, heap_later P8.out.2.2.2.1 hb9, heap_later P8.out.2.2.2.2.1 hb9, trivial⟩)
  clear hb9
  go_wp2_with (first | (refine load_rowG (by rfl) 26 (.tmp 9) rfl gb rfl 26 (chC lb).toArray (0, 0) _ P9.out.2.1 Try.underlying26 rfl (ch_info lb lbh) ?_))
  refine (HI2.out w9 K9.out).mono ?_
  rintro e w10 ⟨rfl, hb10⟩
  have K10 := Lib.hid (K9.out.trans (hb10.mono K9.out.size))
  have P10 := Lib.hid (show w10.heap[ga]? = some (.cells (chC la).toArray 26) ∧ w10.heap[gb]? = some (.cells (chC lb).toArray 26) ∧ w10.heap[gs]? = some (.cells (chC sa).toArray 26) ∧ w10.heap[gt]? = some (.cells (chC sb).toArray 26) ∧ w10.heap[gx]? = some (.cells (chC lx).toArray 26) ∧ True from ⟨heap_later P9.out.1 hb10, heap_later P9.out.2.1 hb10, heap_later P9.out.2.2.1 hb10, heap_later P9.out.2.2.2.1 hb10, heap_later P9.out.2.2.2.2.1 hb10, trivial⟩)
  clear hb10
  go_wp2_with fail
  refine (known_any _).mono ?_
  rintro e w11 ⟨rfl, hb11⟩
  have K11 := Lib.hid (K10.out.trans (hb11.mono K10.out.size))
  have P11 := Lib.hid (show w11.heap[ga]? = some (.cells (chC la).toArray 26) ∧ w11.heap[gb]? = some (.cells (chC lb).toArray 26) ∧ w11.heap[gs]? = some (.cells (chC sa).toArray 26) ∧ w11.heap[gt]? = some (.cells (chC sb).toArray 26) ∧ w11.heap[gx]? = some (.cells (chC lx).toArray 26) ∧ True from ⟨heap_later P10.out.1 hb11, heap_later P10.out.2.1 hb11, heap_later P10.out.2.2.1 hb11, heap_later P10.out.2.2.2.1 hb11, heap_later P10.out.2.2.2.2.1 hb11, trivial⟩)
  clear hb11
  go_wp2_with fail
  go_ret
  exact ⟨rfl, K11.out⟩

set_option maxRecDepth 100000 in
set_option maxHeartbeats 8000000 in
theorem splits_big_short (A A2 : Option Addr) (n n2 c c2 : Nat) (la lb : List Int) (i : Int) (w : World) (hs1 : Sees w w.heap.size 1 A n (la.map r32)) (hs2 : Sees w w.heap.size 1 A2 n2 (lb.map r32)) (hn : n ≤ 32) (hn2 : n2 ≤ 32) (hnc : n ≤ c) (hea : ofE la = 0) (heb : ofE lb = 0) (hi : (n : Int) < i) (hi0 : -9223372036854775808 ≤ i) (hi1 : i ≤ 9223372036854775807) (h32 : (n : Int) + n2 ≤ 32) :
    Calls Try.prog 8 #[.slice A n c, .slice A2 n2 c2, .int .i64 i] w fun e w' => e = .returned (.bool true) ∧ Below w.heap.size w w' := by
  have hl1 : la.length = n := by have := hs1.1; simp at this; omega
  have hl2 : lb.length = n2 := by have := hs2.1; simp at this; omega
  have lah : la.length ≤ 32 := by omega
  have lbh : lb.length ≤ 32 := by omega
  have hnI : (n : Int) ≤ 32 := by omega
  have hn2I : (n2 : Int) ≤ 32 := by omega
  have HO1 := Lib.hid (fun (w1 : World) (hb : Below w.heap.size w w1) => of_any A n c w.heap.size la w1 (hs1.below hb (Nat.le_refl _)) hb.size (by omega))
  have HO2 := Lib.hid (fun (w1 : World) (hb : Below w.heap.size w w1) => of_any A2 n2 c2 w.heap.size lb w1 (hs2.below hb (Nat.le_refl _)) hb.size (by omega))
  have HI1 := Lib.hid (fun (w1 : World) (hb : Below w.heap.size w w1) => is_any A n c w.heap.size la w1 (hs1.below hb (Nat.le_refl _)) hb.size hn)
  have HI2 := Lib.hid (fun (w1 : World) (hb : Below w.heap.size w w1) => is_any A2 n2 c2 w.heap.size lb w1 (hs2.below hb (Nat.le_refl _)) hb.size hn2)
  rw [(ofE_ok hea).1, hea] at HO1
  rw [(ofE_ok heb).1, heb] at HO2
  clear hea heb
  have HKA := Lib.hid (show spA la i = [] ∧ spB la i = [] ∧ spE la i = 5 by
    unfold spA spB spE
    rw [if_neg (by omega), if_neg (by omega), if_neg (by omega)]
    exact ⟨rfl, rfl, rfl⟩)
  have HSP := Lib.hid (fun w => split_any la i w lah)
  rw [HKA.out.1, HKA.out.2.1, HKA.out.2.2] at HSP
  obtain ⟨sa, hsa⟩ : ∃ x : List Int, [] = x := ⟨_, rfl⟩
  obtain ⟨sb, hsb⟩ : ∃ x : List Int, [] = x := ⟨_, rfl⟩
  have sah : sa.length ≤ 32 := by rw [← hsa]; decide
  have sbh : sb.length ≤ 32 := by rw [← hsb]; decide
  have HSP : RowKit.Hid (∀ w, Calls Try.prog 19 #[chV la, .int .i64 i] w fun e w' => e = .returned (.tuple #[chV sa, chV sb, .int .i64 5]) ∧ Below w.heap.size w w') := Lib.hid (by rw [← hsa, ← hsb]; exact HSP.out)
  have HNA := Lib.hid (show (!(sa == [])) = false by rw [← hsa]; rfl)
  have HNB := Lib.hid (show (!(sb == [])) = false by rw [← hsb]; rfl)
  clear hsa hsb HKA
  have HJ := Lib.hid (fun w => join_any la lb w (by omega))
  have hlx : (la ++ lb).length = n + n2 := by rw [List.length_append]; omega
  have HMAP := Lib.hid (show la.map r32 ++ lb.map r32 = (la ++ lb).map r32 by rw [List.map_append])
  obtain ⟨lx, hx⟩ : ∃ x, la ++ lb = x := ⟨_, rfl⟩
  rw [hx] at HJ hlx HMAP
  have lxh : lx.length ≤ 32 := by omega
  clear hx
  obtain ⟨i0, ii0, iz0, iz1, iz2⟩ := info_parts r32_info
  have HS1 := Lib.hid hs1
  have HS2 := Lib.hid hs2
  have HLL := Lib.hid (And.intro hl1 hl2)
  clear hs1 hs2 hl1 hl2
  go_enter Try.func8, Try.ntmps8
  have K0 := Lib.hid (Below.refl w.heap.size w)
  go_wp2_with fail
  refine (HO1.out w K0.out).mono ?_
  rintro e w1 ⟨rfl, hb1⟩
  have K1 := Lib.hid hb1
  clear hb1
  have hX1 : Below w1.heap.size w1 (w1.alloc (.cells (chC la).toArray 26)) := (Below.refl _ _).alloc (Nat.le_refl _) _
  clear hX1
  go_wp2_with (first | (refine wpList_store_row rfl 26 (.tmp 7) (.tmp 28) rfl w1.heap.size (chC la).toArray rfl rfl 26 (chC []).toArray (heap_alloc_new w1 _) (ch_info la lah) (ch_size la lah) (all_one la) ?_; rw [alloc_setRow]))
  obtain ⟨ga, hga⟩ : ∃ g, w1.heap.size = g := ⟨_, rfl⟩
  obtain ⟨w2, hw2⟩ : ∃ v, (w1.alloc (.cells (chC la).toArray 26)) = v := ⟨_, rfl⟩
  have P2 := Lib.hid (show w2.heap[ga]? = some (.cells (chC la).toArray 26) ∧ True by
    rw [← hw2]
    exact ⟨by rw [← hga]; exact heap_alloc_new w1 _, trivial⟩)
  have K2 := Lib.hid (show Below w.heap.size w w2 by rw [← hw2]; exact K1.out.alloc K1.out.size _)
  rw [hw2, hga]
  clear hw2 hga
  refine (HO2.out w2 K2.out).mono ?_
  rintro e w3 ⟨rfl, hb3⟩
  have K3 := Lib.hid (K2.out.trans (hb3.mono K2.out.size))
  have P3 := Lib.hid (show w3.heap[ga]? = some (.cells (chC la).toArray 26) ∧ True from ⟨heap_later P2.out.1 hb3, trivial⟩)
  clear hb3
  have hX3 : Below w3.heap.size w3 (w3.alloc (.cells (chC lb).toArray 26)) := (Below.refl _ _).alloc (Nat.le_refl _) _
  have PX3 := Lib.hid (show (w3.alloc (.cells (chC lb).toArray 26)).heap[ga]? = some (.cells (chC la).toArray 26) ∧ True from ⟨heap_later P3.out.1 hX3, trivial⟩)
  clear hX3
  go_wp2_with (first | (refine wpList_store_row rfl 26 (.tmp 9) (.tmp 33) rfl w3.heap.size (chC lb).toArray rfl rfl 26 (chC []).toArray (heap_alloc_new w3 _) (ch_info lb lbh) (ch_size lb lbh) (all_one lb) ?_; rw [alloc_setRow]) | (refine load_rowG (by rfl) 26 (.tmp 7) rfl ga rfl 26 (chC la).toArray (0, 0) _ PX3.out.1 Try.underlying26 rfl (ch_info la lah) ?_))
  obtain ⟨gb, hgb⟩ : ∃ g, w3.heap.size = g := ⟨_, rfl⟩
  obtain ⟨w4, hw4⟩ : ∃ v, (w3.alloc (.cells (chC lb).toArray 26)) = v := ⟨_, rfl⟩
  have P4 := Lib.hid (show w4.heap[ga]? = some (.cells (chC la).toArray 26) ∧ w4.heap[gb]? = some (.cells (chC lb).toArray 26) ∧ True by
    rw [← hw4]
    exact ⟨PX3.out.1, by rw [← hgb]; exact heap_alloc_new w3 _, trivial⟩)
  have K4 := Lib.hid (show Below w.heap.size w w4 by rw [← hw4]; exact K3.out.alloc K3.out.size _)
  rw [hw4, hgb]
  clear hw4 hgb PX3
  refine (HSP.out w4).mono ?_
  rintro e w5 ⟨rfl, hb5⟩
  have K5 := Lib.hid (K4.out.trans (hb5.mono K4.out.size))
  have P5 := Lib.hid (show w5.heap[ga]? = some (.cells (chC la).toArray 26) ∧ w5.heap[gb]? = some (.cells (chC lb).toArray 26) ∧ True from ⟨heap_later P4.out.1 hb5, heap_later P4.out.2.1 hb5, trivial⟩)
  clear hb5
  have hX5 : Below w5.heap.size w5 ((w5.alloc (.cells (chC sa).toArray 26)).alloc (.cells (chC sb).toArray 26)) := ((Below.refl _ _).alloc (Nat.le_refl _) _).alloc (by simp) _
  have PX5 := Lib.hid (show ((w5.alloc (.cells (chC sa).toArray 26)).alloc (.cells (chC sb).toArray 26)).heap[ga]? = some (.cells (chC la).toArray 26) ∧ ((w5.alloc (.cells (chC sa).toArray 26)).alloc (.cells (chC sb).toArray 26)).heap[gb]? = some (.cells (chC lb).toArray 26) ∧ True from ⟨heap_later P5.out.1 hX5, heap_later P5.out.2.1 hX5, trivial⟩)
  clear hX5
  go_wp2_with (first | (refine wpList_store_row rfl 26 (.tmp 11) (.tmp 46) rfl w5.heap.size (chC sa).toArray rfl rfl 26 (chC []).toArray (heap_alloc2_old w5 _ _) (ch_info sa sah) (ch_size sa sah) (all_one sa) ?_; rw [alloc2_setRow]) | (refine wpList_store_row rfl 26 (.tmp 12) (.tmp 47) rfl (w5.heap.size + 1) (chC sb).toArray rfl rfl 26 (chC []).toArray (heap_alloc2_new w5 _ _) (ch_info sb sbh) (ch_size sb sbh) (all_one sb) ?_; rw [alloc2_setRow2]) | (refine load_rowG (by rfl) 26 (.tmp 11) rfl w5.heap.size rfl 26 (chC sa).toArray (0, 0) _ (heap_alloc2_old w5 _ _) Try.underlying26 rfl (ch_info sa sah) ?_) | (refine load_rowG (by rfl) 26 (.tmp 12) rfl (w5.heap.size + 1) rfl 26 (chC sb).toArray (0, 0) _ (heap_alloc2_new w5 _ _) Try.underlying26 rfl (ch_info sb sbh) ?_) | (refine load_rowG (by rfl) 26 (.tmp 7) rfl ga rfl 26 (chC la).toArray (0, 0) _ PX5.out.1 Try.underlying26 rfl (ch_info la lah) ?_) | (refine load_rowG (by rfl) 26 (.tmp 9) rfl gb rfl 26 (chC lb).toArray (0, 0) _ PX5.out.2.1 Try.underlying26 rfl (ch_info lb lbh) ?_) | (refine wpList_ne_chunk (by rfl) (.tmp 60) (.tmp 61) rfl sa [] rfl (by with_unfolding_all rfl) sah (by decide) false HNA.out ?_) | (refine wpList_ne_chunk (by rfl) (.tmp 65) (.tmp 66) rfl sb [] rfl (by with_unfolding_all rfl) sbh (by decide) false HNB.out ?_))
  obtain ⟨gs, hgs⟩ : ∃ g, w5.heap.size = g := ⟨_, rfl⟩
  obtain ⟨gt, hgt⟩ : ∃ g, gs + 1 = g := ⟨_, rfl⟩
  obtain ⟨w6, hw6⟩ : ∃ v, ((w5.alloc (.cells (chC sa).toArray 26)).alloc (.cells (chC sb).toArray 26)) = v := ⟨_, rfl⟩
  have P6 := Lib.hid (show w6.heap[ga]? = some (.cells (chC la).toArray 26) ∧ w6.heap[gb]? = some (.cells (chC lb).toArray 26) ∧ w6.heap[gs]? = some (.cells (chC sa).toArray 26) ∧ w6.heap[gt]? = some (.cells (chC sb).toArray 26) ∧ True by
    rw [← hw6]
    exact ⟨PX5.out.1, PX5.out.2.1, by rw [← hgs]; exact heap_alloc2_old w5 _ _, by rw [← hgt, ← hgs]; exact heap_alloc2_new w5 _ _, trivial⟩)
  have K6 := Lib.hid (show Below w.heap.size w w6 by rw [← hw6]; exact (K5.out.alloc K5.out.size _).alloc (by have := K5.out.size; simp; omega) _)
  rw [hw6, hgs, hgt]
  clear hw6 hgs hgt PX5
  refine (HJ.out w6).mono ?_
  rintro e w7 ⟨rfl, hb7⟩
  have K7 := Lib.hid (K6.out.trans (hb7.mono K6.out.size))
  have P7 := Lib.hid (show w7.heap[ga]? = some (.cells (chC la).toArray 26) ∧ w7.heap[gb]? = some (.cells (chC lb).toArray 26) ∧ w7.heap[gs]? = some (.cells (chC sa).toArray 26) ∧ w7.heap[gt]? = some (.cells (chC sb).toArray 26) ∧ True from ⟨heap_later P6.out.1 hb7, heap_later P6.out.2.1 hb7, heap_later P6.out.2.2.1 hb7, heap_later P6.out.2.2.2.1 hb7, trivial⟩)
  clear hb7
  have hX7 : Below w7.heap.size w7 (w7.alloc (.cells (chC lx).toArray 26)) := (Below.refl _ _).alloc (Nat.le_refl _) _
  have PX7 := Lib.hid (show (w7.alloc (.cells (chC lx).toArray 26)).heap[ga]? = some (.cells (chC la).toArray 26) ∧ (w7.alloc (.cells (chC lx).toArray 26)).heap[gb]? = some (.cells (chC lb).toArray 26) ∧ (w7.alloc (.cells (chC lx).toArray 26)).heap[gs]? = some (.cells (chC sa).toArray 26) ∧ (w7.alloc (.cells (chC lx).toArray 26)).heap[gt]? = some (.cells (chC sb).toArray 26) ∧ True from ⟨heap_later P7.out.1 hX7, heap_later P7.out.2.1 hX7, heap_later P7.out.2.2.1 hX7, heap_later P7.out.2.2.2.1 hX7, trivial⟩)
  clear hX7
  go_wp2_with (first | (refine wpList_store_row rfl 26 (.tmp 14) (.tmp 91) rfl w7.heap.size (chC lx).toArray rfl rfl 26 (chC []).toArray (heap_alloc_new w7 _) (ch_info lx lxh) (ch_size lx lxh) (all_one lx) ?_; rw [alloc_setRow]))
  obtain ⟨gx, hgx⟩ : ∃ g, w7.heap.size = g := ⟨_, rfl⟩
  obtain ⟨w8, hw8⟩ : ∃ v, (w7.alloc (.cells (chC lx).toArray 26)) = v := ⟨_, rfl⟩
  have P8 := Lib.hid (show w8.heap[ga]? = some (.cells (chC la).toArray 26) ∧ w8.heap[gb]? = some (.cells (chC lb).toArray 26) ∧ w8.heap[gs]? = some (.cells (chC sa).toArray 26) ∧ w8.heap[gt]? = some (.cells (chC sb).toArray 26) ∧ w8.heap[gx]? = some (.cells (chC lx).toArray 26) ∧ True by
    rw [← hw8]
    exact ⟨PX7.out.1, PX7.out.2.1, PX7.out.2.2.1, PX7.out.2.2.2.1, by rw [← hgx]; exact heap_alloc_new w7 _, trivial⟩)
  have K8 := Lib.hid (show Below w.heap.size w w8 by rw [← hw8]; exact K7.out.alloc K7.out.size _)
  rw [hw8, hgx]
  clear hw8 hgx PX7
  have hV0 : Below w.heap.size w w8 := K8.out
  have hH0 : w8.heap[ga]? = some (.cells (chC la).toArray 26) ∧ w8.heap[gb]? = some (.cells (chC lb).toArray 26) ∧ w8.heap[gs]? = some (.cells (chC sa).toArray 26) ∧ w8.heap[gt]? = some (.cells (chC sb).toArray 26) ∧ w8.heap[gx]? = some (.cells (chC lx).toArray 26) ∧ True := P8.out
  refine wp_region_held_drew (S := fun w' => w'.heap[ga]? = some (.cells (chC la).toArray 26) ∧ w'.heap[gb]? = some (.cells (chC lb).toArray 26) ∧ w'.heap[gs]? = some (.cells (chC sa).toArray 26) ∧ w'.heap[gt]? = some (.cells (chC sb).toArray 26) ∧ w'.heap[gx]? = some (.cells (chC lx).toArray 26) ∧ True) (by kernel_rfl) P8.out (fun hHeld => ?_)
  try dsimp only at hHeld
  refine take_at (i := 0) (v := ?_) (some 119) rfl rfl (by kernel_rfl) (by kernel_rfl) (by kernel_rfl) (fun _ _ _ h => h) hHeld (by rfl) (fun wS hSw => ?_) ?_
  rotate_left
  · try dsimp only at hSw
    go_simp
    try with_reducible rfl
  try simp only [Act.put, List.setIfInBounds_toArray, List.set_cons_zero, List.set_cons_succ]
  refine take_at (i := 1) (v := ?_) (some 120) rfl rfl (by kernel_rfl) (by kernel_rfl) (by kernel_rfl) (fun _ _ _ h => h) hHeld (by rfl) (fun wS hSw => ?_) ?_
  rotate_left
  · try dsimp only at hSw
    go_simp
    try with_reducible rfl
  try simp only [Act.put, List.setIfInBounds_toArray, List.set_cons_zero, List.set_cons_succ]
  refine take_at (i := 2) (v := ?_) (some 121) rfl rfl (by kernel_rfl) (by kernel_rfl) (by kernel_rfl) (fun _ _ _ h => h) hHeld (by rfl) (fun wS hSw => ?_) ?_
  rotate_left
  · try dsimp only at hSw
    go_simp
    try with_reducible rfl
  try simp only [Act.put, List.setIfInBounds_toArray, List.set_cons_zero, List.set_cons_succ]
  refine take_at (i := 3) (v := ?_) (some 122) rfl rfl (by kernel_rfl) (by kernel_rfl) (by kernel_rfl) (fun _ _ _ h => h) hHeld (by rfl) (fun wS hSw => ?_) ?_
  rotate_left
  · refine exec_load_row 26 (.tmp 14) ?_ gx ?_ 26 (chC lx).toArray (0, 0) _ hSw.2.2.2.2.1 Try.underlying26 rfl (ch_info lx lxh) <;> rfl
  try simp only [Act.put, List.setIfInBounds_toArray, List.set_cons_zero, List.set_cons_succ]
  refine take_at (i := 5) (v := ?_) (some 124) rfl rfl (by kernel_rfl) (by kernel_rfl) (by kernel_rfl) (fun _ _ _ h => h) hHeld (by rfl) (fun wS hSw => ?_) ?_
  rotate_left
  · try dsimp only at hSw
    go_simp
    try with_reducible rfl
  try simp only [Act.put, List.setIfInBounds_toArray, List.set_cons_zero, List.set_cons_succ]
  refine take_at (i := 7) (v := ?_) (some 126) rfl rfl (by kernel_rfl) (by kernel_rfl) (by kernel_rfl) (fun _ _ _ h => h) hHeld (by rfl) (fun wS hSw => ?_) ?_
  rotate_left
  · try dsimp only at hSw
    go_simp
    try with_reducible rfl
  try simp only [Act.put, List.setIfInBounds_toArray, List.set_cons_zero, List.set_cons_succ]
  refine wpAnyH_ready (rs := [4]) (by kernel_rfl) (by simp) ?_
  refine AllReadyH.cons rfl (fun K hK => ?_) AllReadyH.nil
  simp only [List.getElem_toArray, List.getElem_cons_succ, List.getElem_cons_zero]
  go_simp
  try dsimp only
  obtain ⟨v1, hw1⟩ : ∃ v, (w8.alloc (.cells #[] 21)).drew = v := ⟨_, rfl⟩
  have hown1 : v1.ownsRow w8.heap.size 21 1 (.slice (some ⟨w8.heap.size, 0, none⟩) 0 0) 0 [] := by rw [← hw1]; exact own_none _ _
  have hv1 : Below w8.heap.size w8 v1 := by rw [← hw1]; exact ((Below.refl _ _).alloc (Nat.le_refl _) _).drew
  rw [hw1]
  clear hw1
  have hH1 : v1.heap[ga]? = some (.cells (chC la).toArray 26) ∧ v1.heap[gb]? = some (.cells (chC lb).toArray 26) ∧ v1.heap[gs]? = some (.cells (chC sa).toArray 26) ∧ v1.heap[gt]? = some (.cells (chC sb).toArray 26) ∧ v1.heap[gx]? = some (.cells (chC lx).toArray 26) ∧ True := ⟨heap_later hH0.1 hv1, heap_later hH0.2.1 hv1, heap_later hH0.2.2.1 hv1, heap_later hH0.2.2.2.1 hv1, heap_later hH0.2.2.2.2.1 hv1, trivial⟩
  have hV1 : Below w.heap.size w v1 := hV0.trans (hv1.mono hV0.size)
  try dsimp only
  have hOld := hHeld
  refine hK.out _ _ hH1 (fun _ => ?_)
  clear hK K
  refine wpAnyH_mono (S2 := fun w' => w'.heap[ga]? = some (.cells (chC la).toArray 26) ∧ w'.heap[gb]? = some (.cells (chC lb).toArray 26) ∧ w'.heap[gs]? = some (.cells (chC sa).toArray 26) ∧ w'.heap[gt]? = some (.cells (chC sb).toArray 26) ∧ w'.heap[gx]? = some (.cells (chC lx).toArray 26) ∧ True) (fun _ h => h) _ _ _ _ ?_
  clear hHeld
  have hHeld := hH1
  clear hOld
  try simp only [Act.put, List.setIfInBounds_toArray, List.set_cons_zero, List.set_cons_succ]
  refine wpAnyH_ready (rs := [6]) (by kernel_rfl) (by simp) ?_
  refine AllReadyH.cons rfl (fun K hK => ?_) AllReadyH.nil
  simp only [List.getElem_toArray, List.getElem_cons_succ, List.getElem_cons_zero]
  refine of_if (by rfl) ?_
  refine step_append_sees (.tmp 123) (.tmp 124) 22 rfl w8.heap.size 21 i0 _ 1 4 Try.underlying22 ii0 iz0 iz1 iz2 rfl (by omega) _ 0 [] rfl hown1 w.heap.size _ n _ _ rfl (HS1.out.below hV1 (Nat.le_refl _)) (r32_one _) (by simp only [maxLen]; omega) (by omega) hv1.size ?_
  intro u2 v2 hown2 hg2 hat2
  have hv2 : Below w8.heap.size w8 v2 := below_app2 hv1 hown1 hg2
  rw [Nat.zero_add, List.nil_append] at hown2
  obtain ⟨A5, c5, rfl, _⟩ := own_shape hown2
  clear hg2 hat2
  have hH2 : v2.heap[ga]? = some (.cells (chC la).toArray 26) ∧ v2.heap[gb]? = some (.cells (chC lb).toArray 26) ∧ v2.heap[gs]? = some (.cells (chC sa).toArray 26) ∧ v2.heap[gt]? = some (.cells (chC sb).toArray 26) ∧ v2.heap[gx]? = some (.cells (chC lx).toArray 26) ∧ True := ⟨heap_later hH0.1 hv2, heap_later hH0.2.1 hv2, heap_later hH0.2.2.1 hv2, heap_later hH0.2.2.2.1 hv2, heap_later hH0.2.2.2.2.1 hv2, trivial⟩
  have hV2 : Below w.heap.size w v2 := hV0.trans (hv2.mono hV0.size)
  try dsimp only
  have hOld := hHeld
  refine hK.out _ _ hH2 (fun _ => ?_)
  clear hK K
  refine wpAnyH_mono (S2 := fun w' => w'.heap[ga]? = some (.cells (chC la).toArray 26) ∧ w'.heap[gb]? = some (.cells (chC lb).toArray 26) ∧ w'.heap[gs]? = some (.cells (chC sa).toArray 26) ∧ w'.heap[gt]? = some (.cells (chC sb).toArray 26) ∧ w'.heap[gx]? = some (.cells (chC lx).toArray 26) ∧ True) (fun _ h => h) _ _ _ _ ?_
  clear hHeld
  have hHeld := hH2
  clear hOld
  try simp only [Act.put, List.setIfInBounds_toArray, List.set_cons_zero, List.set_cons_succ]
  refine wpAnyH_ready (rs := [8]) (by kernel_rfl) (by simp) ?_
  refine AllReadyH.cons rfl (fun K hK => ?_) AllReadyH.nil
  simp only [List.getElem_toArray, List.getElem_cons_succ, List.getElem_cons_zero]
  refine of_if (by rfl) ?_
  refine step_append_sees (.tmp 125) (.tmp 126) 22 rfl w8.heap.size 21 i0 _ 1 4 Try.underlying22 ii0 iz0 iz1 iz2 rfl (by omega) _ n (la.map r32) rfl hown2 w.heap.size _ n2 _ _ rfl (HS2.out.below hV2 (Nat.le_refl _)) (r32_one _) (by simp only [maxLen]; omega) (by omega) hv2.size ?_
  intro u3 v3 hown3 hg3 hat3
  have hv3 : Below w8.heap.size w8 v3 := below_app2 hv2 hown2 hg3
  rw [HMAP.out] at hown3
  obtain ⟨A6, c6, rfl, _⟩ := own_shape hown3
  clear hg3 hat3
  have hH3 : v3.heap[ga]? = some (.cells (chC la).toArray 26) ∧ v3.heap[gb]? = some (.cells (chC lb).toArray 26) ∧ v3.heap[gs]? = some (.cells (chC sa).toArray 26) ∧ v3.heap[gt]? = some (.cells (chC sb).toArray 26) ∧ v3.heap[gx]? = some (.cells (chC lx).toArray 26) ∧ True := ⟨heap_later hH0.1 hv3, heap_later hH0.2.1 hv3, heap_later hH0.2.2.1 hv3, heap_later hH0.2.2.2.1 hv3, heap_later hH0.2.2.2.2.1 hv3, trivial⟩
  have hV3 : Below w.heap.size w v3 := hV0.trans (hv3.mono hV0.size)
  clear hv3
  try dsimp only
  have hOld := hHeld
  refine hK.out _ _ hH3 (fun _ => ?_)
  clear hK K
  refine wpAnyH_mono (S2 := fun w' => w'.heap[ga]? = some (.cells (chC la).toArray 26) ∧ w'.heap[gb]? = some (.cells (chC lb).toArray 26) ∧ w'.heap[gs]? = some (.cells (chC sa).toArray 26) ∧ w'.heap[gt]? = some (.cells (chC sb).toArray 26) ∧ w'.heap[gx]? = some (.cells (chC lx).toArray 26) ∧ True) (fun _ h => h) _ _ _ _ ?_
  clear hHeld
  have hHeld := hH3
  clear hOld
  try simp only [Act.put, List.setIfInBounds_toArray, List.set_cons_zero, List.set_cons_succ]
  refine wpAnyH_ready (rs := [9]) (by kernel_rfl) (by simp) ?_
  refine AllReadyH.cons rfl (fun K hK => ?_) AllReadyH.nil
  simp only [List.getElem_toArray, List.getElem_cons_succ, List.getElem_cons_zero]
  go_simp
  refine (is_any A6 (n + n2) c6 _ lx v3 (Sees.of_own hown3) (Nat.le_refl _) (by omega)).mono ?_
  rintro e v4 ⟨rfl, hv4⟩
  have hH4 : v4.heap[ga]? = some (.cells (chC la).toArray 26) ∧ v4.heap[gb]? = some (.cells (chC lb).toArray 26) ∧ v4.heap[gs]? = some (.cells (chC sa).toArray 26) ∧ v4.heap[gt]? = some (.cells (chC sb).toArray 26) ∧ v4.heap[gx]? = some (.cells (chC lx).toArray 26) ∧ True := ⟨heap_later hH3.1 hv4, heap_later hH3.2.1 hv4, heap_later hH3.2.2.1 hv4, heap_later hH3.2.2.2.1 hv4, heap_later hH3.2.2.2.2.1 hv4, trivial⟩
  have hV4 : Below w.heap.size w v4 := hV3.trans (hv4.mono hV3.size)
  clear hv4
  try dsimp only
  have hOld := hHeld
  refine hK.out _ _ hH4 (fun _ => ?_)
  clear hK K
  refine wpAnyH_mono (S2 := fun w' => w'.heap[ga]? = some (.cells (chC la).toArray 26) ∧ w'.heap[gb]? = some (.cells (chC lb).toArray 26) ∧ w'.heap[gs]? = some (.cells (chC sa).toArray 26) ∧ w'.heap[gt]? = some (.cells (chC sb).toArray 26) ∧ w'.heap[gx]? = some (.cells (chC lx).toArray 26) ∧ True) (fun _ h => h) _ _ _ _ ?_
  clear hHeld
  have hHeld := hH4
  clear hOld
  try simp only [Act.put, List.setIfInBounds_toArray, List.set_cons_zero, List.set_cons_succ]
  refine take_at (i := 10) (v := ?_) (some 129) rfl rfl (by kernel_rfl) (by kernel_rfl) (by kernel_rfl) (fun _ _ _ h => h) hHeld (by rfl) (fun wS hSw => ?_) ?_
  rotate_left
  · try dsimp only at hSw
    go_simp
    try with_reducible rfl
  try simp only [Act.put, List.setIfInBounds_toArray, List.set_cons_zero, List.set_cons_succ]
  refine take_at (i := 11) (v := ?_) (some 130) rfl rfl (by kernel_rfl) (by kernel_rfl) (by kernel_rfl) (fun _ _ _ h => h) hHeld (by rfl) (fun wS hSw => ?_) ?_
  rotate_left
  · try dsimp only at hSw
    go_simp
    try with_reducible rfl
  try simp only [Act.put, List.setIfInBounds_toArray, List.set_cons_zero, List.set_cons_succ]
  refine take_at (i := 12) (v := ?_) (some 131) rfl rfl (by kernel_rfl) (by kernel_rfl) (by kernel_rfl) (fun _ _ _ h => h) hHeld (by rfl) (fun wS hSw => ?_) ?_
  rotate_left
  · refine exec_load_row 26 (.tmp 7) ?_ ga ?_ 26 (chC la).toArray (0, 0) _ hSw.1 Try.underlying26 rfl (ch_info la lah) <;> rfl
  try simp only [Act.put, List.setIfInBounds_toArray, List.set_cons_zero, List.set_cons_succ]
  refine take_at (i := 13) (v := ?_) (some 132) rfl rfl (by kernel_rfl) (by kernel_rfl) (by kernel_rfl) (fun _ _ _ h => h) hHeld (by rfl) (fun wS hSw => ?_) ?_
  rotate_left
  · try dsimp only at hSw
    go_simp
    try with_reducible rfl
  try simp only [Act.put, List.setIfInBounds_toArray, List.set_cons_zero, List.set_cons_succ]
  refine wpAnyH_ready (rs := [14]) (by kernel_rfl) (by simp) ?_
  refine AllReadyH.cons rfl (fun K hK => ?_) AllReadyH.nil
  simp only [List.getElem_toArray, List.getElem_cons_succ, List.getElem_cons_zero]
  go_simp
  refine (HI1.out v4 hV4).mono ?_
  rintro e v5 ⟨rfl, hv5⟩
  have hH5 : v5.heap[ga]? = some (.cells (chC la).toArray 26) ∧ v5.heap[gb]? = some (.cells (chC lb).toArray 26) ∧ v5.heap[gs]? = some (.cells (chC sa).toArray 26) ∧ v5.heap[gt]? = some (.cells (chC sb).toArray 26) ∧ v5.heap[gx]? = some (.cells (chC lx).toArray 26) ∧ True := ⟨heap_later hH4.1 hv5, heap_later hH4.2.1 hv5, heap_later hH4.2.2.1 hv5, heap_later hH4.2.2.2.1 hv5, heap_later hH4.2.2.2.2.1 hv5, trivial⟩
  have hV5 : Below w.heap.size w v5 := hV4.trans (hv5.mono hV4.size)
  clear hv5
  try dsimp only
  have hOld := hHeld
  refine hK.out _ _ hH5 (fun _ => ?_)
  clear hK K
  refine wpAnyH_mono (S2 := fun w' => w'.heap[ga]? = some (.cells (chC la).toArray 26) ∧ w'.heap[gb]? = some (.cells (chC lb).toArray 26) ∧ w'.heap[gs]? = some (.cells (chC sa).toArray 26) ∧ w'.heap[gt]? = some (.cells (chC sb).toArray 26) ∧ w'.heap[gx]? = some (.cells (chC lx).toArray 26) ∧ True) (fun _ h => h) _ _ _ _ ?_
  clear hHeld
  have hHeld := hH5
  clear hOld
  try simp only [Act.put, List.setIfInBounds_toArray, List.set_cons_zero, List.set_cons_succ]
  refine take_at (i := 15) (v := ?_) (some 134) rfl rfl (by kernel_rfl) (by kernel_rfl) (by kernel_rfl) (fun _ _ _ h => h) hHeld (by rfl) (fun wS hSw => ?_) ?_
  rotate_left
  · try dsimp only at hSw
    go_simp
    try with_reducible rfl
  try simp only [Act.put, List.setIfInBounds_toArray, List.set_cons_zero, List.set_cons_succ]
  refine take_at (i := 16) (v := ?_) (some 135) rfl rfl (by kernel_rfl) (by kernel_rfl) (by kernel_rfl) (fun _ _ _ h => h) hHeld (by rfl) (fun wS hSw => ?_) ?_
  rotate_left
  · try dsimp only at hSw
    go_simp
    try with_reducible rfl
  try simp only [Act.put, List.setIfInBounds_toArray, List.set_cons_zero, List.set_cons_succ]
  refine take_at (i := 17) (v := ?_) (some 136) rfl rfl (by kernel_rfl) (by kernel_rfl) (by kernel_rfl) (fun _ _ _ h => h) hHeld (by rfl) (fun wS hSw => ?_) ?_
  rotate_left
  · refine exec_load_row 26 (.tmp 9) ?_ gb ?_ 26 (chC lb).toArray (0, 0) _ hSw.2.1 Try.underlying26 rfl (ch_info lb lbh) <;> rfl
  try simp only [Act.put, List.setIfInBounds_toArray, List.set_cons_zero, List.set_cons_succ]
  refine take_at (i := 18) (v := ?_) (some 137) rfl rfl (by kernel_rfl) (by kernel_rfl) (by kernel_rfl) (fun _ _ _ h => h) hHeld (by rfl) (fun wS hSw => ?_) ?_
  rotate_left
  · try dsimp only at hSw
    go_simp
    try with_reducible rfl
  try simp only [Act.put, List.setIfInBounds_toArray, List.set_cons_zero, List.set_cons_succ]
  refine wpAnyH_ready (rs := [19]) (by kernel_rfl) (by simp) ?_
  refine AllReadyH.cons rfl (fun K hK => ?_) AllReadyH.nil
  simp only [List.getElem_toArray, List.getElem_cons_succ, List.getElem_cons_zero]
  go_simp
  refine (HI2.out v5 hV5).mono ?_
  rintro e v6 ⟨rfl, hv6⟩
  have hH6 : v6.heap[ga]? = some (.cells (chC la).toArray 26) ∧ v6.heap[gb]? = some (.cells (chC lb).toArray 26) ∧ v6.heap[gs]? = some (.cells (chC sa).toArray 26) ∧ v6.heap[gt]? = some (.cells (chC sb).toArray 26) ∧ v6.heap[gx]? = some (.cells (chC lx).toArray 26) ∧ True := ⟨heap_later hH5.1 hv6, heap_later hH5.2.1 hv6, heap_later hH5.2.2.1 hv6, heap_later hH5.2.2.2.1 hv6, heap_later hH5.2.2.2.2.1 hv6, trivial⟩
  have hV6 : Below w.heap.size w v6 := hV5.trans (hv6.mono hV5.size)
  clear hv6
  try dsimp only
  have hOld := hHeld
  refine hK.out _ _ hH6 (fun _ => ?_)
  clear hK K
  refine wpAnyH_mono (S2 := fun w' => w'.heap[ga]? = some (.cells (chC la).toArray 26) ∧ w'.heap[gb]? = some (.cells (chC lb).toArray 26) ∧ w'.heap[gs]? = some (.cells (chC sa).toArray 26) ∧ w'.heap[gt]? = some (.cells (chC sb).toArray 26) ∧ w'.heap[gx]? = some (.cells (chC lx).toArray 26) ∧ True) (fun _ h => h) _ _ _ _ ?_
  clear hHeld
  have hHeld := hH6
  clear hOld
  try simp only [Act.put, List.setIfInBounds_toArray, List.set_cons_zero, List.set_cons_succ]
  refine take_at (i := 20) (v := ?_) (some 139) rfl rfl (by kernel_rfl) (by kernel_rfl) (by kernel_rfl) (fun _ _ _ h => h) hHeld (by rfl) (fun wS hSw => ?_) ?_
  rotate_left
  · try dsimp only at hSw
    go_simp
    try with_reducible rfl
  try simp only [Act.put, List.setIfInBounds_toArray, List.set_cons_zero, List.set_cons_succ]
  refine take_at (i := 21) (v := ?_) (some 140) rfl rfl (by kernel_rfl) (by kernel_rfl) (by kernel_rfl) (fun _ _ _ h => h) hHeld (by rfl) (fun wS hSw => ?_) ?_
  rotate_left
  · try dsimp only at hSw
    go_simp
    try with_reducible rfl
  try simp only [Act.put, List.setIfInBounds_toArray, List.set_cons_zero, List.set_cons_succ]
  refine wpAnyH_ready (rs := [22]) (by kernel_rfl) (by simp) ?_
  refine AllReadyH.cons rfl (fun K hK => ?_) AllReadyH.nil
  simp only [List.getElem_toArray, List.getElem_cons_succ, List.getElem_cons_zero]
  go_simp
  refine (known_any v6).mono ?_
  rintro e v7 ⟨rfl, hv7⟩
  have hH7 : v7.heap[ga]? = some (.cells (chC la).toArray 26) ∧ v7.heap[gb]? = some (.cells (chC lb).toArray 26) ∧ v7.heap[gs]? = some (.cells (chC sa).toArray 26) ∧ v7.heap[gt]? = some (.cells (chC sb).toArray 26) ∧ v7.heap[gx]? = some (.cells (chC lx).toArray 26) ∧ True := ⟨heap_later hH6.1 hv7, heap_later hH6.2.1 hv7, heap_later hH6.2.2.1 hv7, heap_later hH6.2.2.2.1 hv7, heap_later hH6.2.2.2.2.1 hv7, trivial⟩
  have hV7 : Below w.heap.size w v7 := hV6.trans (hv7.mono hV6.size)
  clear hv7
  try dsimp only
  have hOld := hHeld
  refine hK.out _ _ hH7 (fun _ => ?_)
  clear hK K
  refine wpAnyH_mono (S2 := fun w' => w'.heap[ga]? = some (.cells (chC la).toArray 26) ∧ w'.heap[gb]? = some (.cells (chC lb).toArray 26) ∧ w'.heap[gs]? = some (.cells (chC sa).toArray 26) ∧ w'.heap[gt]? = some (.cells (chC sb).toArray 26) ∧ w'.heap[gx]? = some (.cells (chC lx).toArray 26) ∧ True) (fun _ h => h) _ _ _ _ ?_
  clear hHeld
  have hHeld := hH7
  clear hOld
  try simp only [Act.put, List.setIfInBounds_toArray, List.set_cons_zero, List.set_cons_succ]
  refine take_at (i := 23) (v := ?_) (some 142) rfl rfl (by kernel_rfl) (by kernel_rfl) (by kernel_rfl) (fun _ _ _ h => h) hHeld (by rfl) (fun wS hSw => ?_) ?_
  rotate_left
  · try dsimp only at hSw
    go_simp
    try with_reducible rfl
  try simp only [Act.put, List.setIfInBounds_toArray, List.set_cons_zero, List.set_cons_succ]
  refine take_at (i := 24) (v := ?_) (some 6) rfl rfl (by kernel_rfl) (by kernel_rfl) (by kernel_rfl) (fun _ _ _ h => h) hHeld (by rfl) (fun wS hSw => ?_) ?_
  rotate_left
  · try dsimp only at hSw
    go_simp
    try with_reducible rfl
  try simp only [Act.put, List.setIfInBounds_toArray, List.set_cons_zero, List.set_cons_succ]
  refine wpAnyH_done (by kernel_rfl) ?_ _
  obtain ⟨w9, hw9⟩ : ∃ v, v7 = v := ⟨_, rfl⟩
  have P9 := Lib.hid (show w9.heap[ga]? = some (.cells (chC la).toArray 26) ∧ w9.heap[gb]? = some (.cells (chC lb).toArray 26) ∧ w9.heap[gs]? = some (.cells (chC sa).toArray 26) ∧ w9.heap[gt]? = some (.cells (chC sb).toArray 26) ∧ w9.heap[gx]? = some (.cells (chC lx).toArray 26) ∧ True by rw [← hw9]; exact hH7)
  have K9 := Lib.hid (show Below w.heap.size w w9 by rw [← hw9]; exact hV7)
  rw [hw9]
  clear hw9 hHeld hV0 hH0 hV1 hH1 hV2 hH2 hV3 hH3 hV4 hH4 hV5 hH5 hV6 hH6 hV7 hH7
  go_wp2_with fail
  go_ret
  exact ⟨rfl, K9.out⟩

set_option maxRecDepth 100000 in
set_option maxHeartbeats 8000000 in
theorem splits_in_long (A A2 : Option Addr) (n n2 c c2 : Nat) (la lb : List Int) (k : Nat) (w : World) (hs1 : Sees w w.heap.size 1 A n (la.map r32)) (hs2 : Sees w w.heap.size 1 A2 n2 (lb.map r32)) (hn : n ≤ 32) (hn2 : n2 ≤ 32) (hnc : n ≤ c) (hea : ofE la = 0) (heb : ofE lb = 0) (hk : k ≤ n) (h32 : (32 : Int) < (n : Int) + n2) :
    Calls Try.prog 8 #[.slice A n c, .slice A2 n2 c2, .int .i64 (k : Int)] w fun e w' => e = .returned (.bool true) ∧ Below w.heap.size w w' := by
  have hl1 : la.length = n := by have := hs1.1; simp at this; omega
  have hl2 : lb.length = n2 := by have := hs2.1; simp at this; omega
  have lah : la.length ≤ 32 := by omega
  have lbh : lb.length ≤ 32 := by omega
  have hnI : (n : Int) ≤ 32 := by omega
  have hn2I : (n2 : Int) ≤ 32 := by omega
  have HO1 := Lib.hid (fun (w1 : World) (hb : Below w.heap.size w w1) => of_any A n c w.heap.size la w1 (hs1.below hb (Nat.le_refl _)) hb.size (by omega))
  have HO2 := Lib.hid (fun (w1 : World) (hb : Below w.heap.size w w1) => of_any A2 n2 c2 w.heap.size lb w1 (hs2.below hb (Nat.le_refl _)) hb.size (by omega))
  have HI1 := Lib.hid (fun (w1 : World) (hb : Below w.heap.size w w1) => is_any A n c w.heap.size la w1 (hs1.below hb (Nat.le_refl _)) hb.size hn)
  have HI2 := Lib.hid (fun (w1 : World) (hb : Below w.heap.size w w1) => is_any A2 n2 c2 w.heap.size lb w1 (hs2.below hb (Nat.le_refl _)) hb.size hn2)
  rw [(ofE_ok hea).1, hea] at HO1
  rw [(ofE_ok heb).1, heb] at HO2
  clear hea heb
  have HKA := Lib.hid (show spA la (k : Int) = la.take k ∧ spB la (k : Int) = la.drop k ∧ spE la (k : Int) = 0 by
    unfold spA spB spE
    rw [if_pos (by omega), if_pos (by omega), if_pos (by omega)]
    exact ⟨by rw [Int.toNat_natCast], by rw [Int.toNat_natCast], rfl⟩)
  have hkI : (k : Int) ≤ n := by omega
  have hk0 : ¬ ((k : Int) < 0) := by omega
  have hk1 : ¬ ((k : Int) > (n : Int)) := by omega
  have hkc : k ≤ c := by omega
  have HSP := Lib.hid (fun w => split_any la (k : Int) w lah)
  rw [HKA.out.1, HKA.out.2.1, HKA.out.2.2] at HSP
  have hsA := hs1.prefix_ (k := k) (by omega)
  have hsB := hs1.cut (k := k) (cap := c) (by omega) hnc
  rw [← List.map_take] at hsA
  rw [← List.map_drop] at hsB
  obtain ⟨sa, hsa⟩ : ∃ x, la.take k = x := ⟨_, rfl⟩
  obtain ⟨sb, hsb⟩ : ∃ x, la.drop k = x := ⟨_, rfl⟩
  have sah : sa.length ≤ 32 := by rw [← hsa]; simp; omega
  have sbh : sb.length ≤ 32 := by rw [← hsb]; simp; omega
  rw [hsa] at hsA HSP
  rw [hsb] at hsB HSP
  obtain ⟨A4, hA4⟩ : ∃ x, (if c = k then A else A.map (·.add k)) = x := ⟨_, rfl⟩
  rw [hA4] at hsB
  have HIA := Lib.hid (fun (w1 : World) (hb : Below w.heap.size w w1) => is_any A k c w.heap.size sa w1 (hsA.below hb (Nat.le_refl _)) hb.size (by omega))
  have HIB := Lib.hid (fun (w1 : World) (hb : Below w.heap.size w w1) => is_any A4 (n - k) (c - k) w.heap.size sb w1 (hsB.below hb (Nat.le_refl _)) hb.size (by omega))
  clear hsA hsB hsa hsb HKA
  have HJ0 := Lib.hid (fun w => join_long la lb w lah lbh (by omega))
  obtain ⟨lx, hx⟩ : ∃ x : List Int, [] = x := ⟨_, rfl⟩
  have lxh : lx.length ≤ 32 := by rw [← hx]; decide
  have HJ : RowKit.Hid (∀ w, Calls Try.prog 20 #[chV la, chV lb] w fun e w' => e = .returned (.tuple #[chV lx, .int .i64 8]) ∧ Below w.heap.size w w') := Lib.hid (by rw [← hx]; exact HJ0.out)
  have HNX := Lib.hid (show (lx == []) = true by rw [← hx]; rfl)
  clear hx HJ0
  obtain ⟨i0, ii0, iz0, iz1, iz2⟩ := info_parts r32_info
  have HS1 := Lib.hid hs1
  have HS2 := Lib.hid hs2
  have HLL := Lib.hid (And.intro hl1 hl2)
  clear hs1 hs2 hl1 hl2
  go_enter Try.func8, Try.ntmps8
  have K0 := Lib.hid (Below.refl w.heap.size w)
  go_wp2_with fail
  refine (HO1.out w K0.out).mono ?_
  rintro e w1 ⟨rfl, hb1⟩
  have K1 := Lib.hid hb1
  clear hb1
  have hX1 : Below w1.heap.size w1 (w1.alloc (.cells (chC la).toArray 26)) := (Below.refl _ _).alloc (Nat.le_refl _) _
  clear hX1
  go_wp2_with (first | (refine wpList_store_row rfl 26 (.tmp 7) (.tmp 28) rfl w1.heap.size (chC la).toArray rfl rfl 26 (chC []).toArray (heap_alloc_new w1 _) (ch_info la lah) (ch_size la lah) (all_one la) ?_; rw [alloc_setRow]))
  obtain ⟨ga, hga⟩ : ∃ g, w1.heap.size = g := ⟨_, rfl⟩
  obtain ⟨w2, hw2⟩ : ∃ v, (w1.alloc (.cells (chC la).toArray 26)) = v := ⟨_, rfl⟩
  have P2 := Lib.hid (show w2.heap[ga]? = some (.cells (chC la).toArray 26) ∧ True by
    rw [← hw2]
    exact ⟨by rw [← hga]; exact heap_alloc_new w1 _, trivial⟩)
  have K2 := Lib.hid (show Below w.heap.size w w2 by rw [← hw2]; exact K1.out.alloc K1.out.size _)
  rw [hw2, hga]
  clear hw2 hga
  refine (HO2.out w2 K2.out).mono ?_
  rintro e w3 ⟨rfl, hb3⟩
  have K3 := Lib.hid (K2.out.trans (hb3.mono K2.out.size))
  have P3 := Lib.hid (show w3.heap[ga]? = some (.cells (chC la).toArray 26) ∧ True from ⟨heap_later P2.out.1 hb3, trivial⟩)
  clear hb3
  have hX3 : Below w3.heap.size w3 (w3.alloc (.cells (chC lb).toArray 26)) := (Below.refl _ _).alloc (Nat.le_refl _) _
  have PX3 := Lib.hid (show (w3.alloc (.cells (chC lb).toArray 26)).heap[ga]? = some (.cells (chC la).toArray 26) ∧ True from ⟨heap_later P3.out.1 hX3, trivial⟩)
  clear hX3
  go_wp2_with (first | (refine wpList_store_row rfl 26 (.tmp 9) (.tmp 33) rfl w3.heap.size (chC lb).toArray rfl rfl 26 (chC []).toArray (heap_alloc_new w3 _) (ch_info lb lbh) (ch_size lb lbh) (all_one lb) ?_; rw [alloc_setRow]) | (refine load_rowG (by rfl) 26 (.tmp 7) rfl ga rfl 26 (chC la).toArray (0, 0) _ PX3.out.1 Try.underlying26 rfl (ch_info la lah) ?_))
  obtain ⟨gb, hgb⟩ : ∃ g, w3.heap.size = g := ⟨_, rfl⟩
  obtain ⟨w4, hw4⟩ : ∃ v, (w3.alloc (.cells (chC lb).toArray 26)) = v := ⟨_, rfl⟩
  have P4 := Lib.hid (show w4.heap[ga]? = some (.cells (chC la).toArray 26) ∧ w4.heap[gb]? = some (.cells (chC lb).toArray 26) ∧ True by
    rw [← hw4]
    exact ⟨PX3.out.1, by rw [← hgb]; exact heap_alloc_new w3 _, trivial⟩)
  have K4 := Lib.hid (show Below w.heap.size w w4 by rw [← hw4]; exact K3.out.alloc K3.out.size _)
  rw [hw4, hgb]
  clear hw4 hgb PX3
  refine (HSP.out w4).mono ?_
  rintro e w5 ⟨rfl, hb5⟩
  have K5 := Lib.hid (K4.out.trans (hb5.mono K4.out.size))
  have P5 := Lib.hid (show w5.heap[ga]? = some (.cells (chC la).toArray 26) ∧ w5.heap[gb]? = some (.cells (chC lb).toArray 26) ∧ True from ⟨heap_later P4.out.1 hb5, heap_later P4.out.2.1 hb5, trivial⟩)
  clear hb5
  have hX5 : Below w5.heap.size w5 ((w5.alloc (.cells (chC sa).toArray 26)).alloc (.cells (chC sb).toArray 26)) := ((Below.refl _ _).alloc (Nat.le_refl _) _).alloc (by simp) _
  have PX5 := Lib.hid (show ((w5.alloc (.cells (chC sa).toArray 26)).alloc (.cells (chC sb).toArray 26)).heap[ga]? = some (.cells (chC la).toArray 26) ∧ ((w5.alloc (.cells (chC sa).toArray 26)).alloc (.cells (chC sb).toArray 26)).heap[gb]? = some (.cells (chC lb).toArray 26) ∧ True from ⟨heap_later P5.out.1 hX5, heap_later P5.out.2.1 hX5, trivial⟩)
  clear hX5
  go_wp2_with (first | (refine wpList_store_row rfl 26 (.tmp 11) (.tmp 46) rfl w5.heap.size (chC sa).toArray rfl rfl 26 (chC []).toArray (heap_alloc2_old w5 _ _) (ch_info sa sah) (ch_size sa sah) (all_one sa) ?_; rw [alloc2_setRow]) | (refine wpList_store_row rfl 26 (.tmp 12) (.tmp 47) rfl (w5.heap.size + 1) (chC sb).toArray rfl rfl 26 (chC []).toArray (heap_alloc2_new w5 _ _) (ch_info sb sbh) (ch_size sb sbh) (all_one sb) ?_; rw [alloc2_setRow2]))
  obtain ⟨gs, hgs⟩ : ∃ g, w5.heap.size = g := ⟨_, rfl⟩
  obtain ⟨gt, hgt⟩ : ∃ g, gs + 1 = g := ⟨_, rfl⟩
  obtain ⟨w6, hw6⟩ : ∃ v, ((w5.alloc (.cells (chC sa).toArray 26)).alloc (.cells (chC sb).toArray 26)) = v := ⟨_, rfl⟩
  have P6 := Lib.hid (show w6.heap[ga]? = some (.cells (chC la).toArray 26) ∧ w6.heap[gb]? = some (.cells (chC lb).toArray 26) ∧ w6.heap[gs]? = some (.cells (chC sa).toArray 26) ∧ w6.heap[gt]? = some (.cells (chC sb).toArray 26) ∧ True by
    rw [← hw6]
    exact ⟨PX5.out.1, PX5.out.2.1, by rw [← hgs]; exact heap_alloc2_old w5 _ _, by rw [← hgt, ← hgs]; exact heap_alloc2_new w5 _ _, trivial⟩)
  have K6 := Lib.hid (show Below w.heap.size w w6 by rw [← hw6]; exact (K5.out.alloc K5.out.size _).alloc (by have := K5.out.size; simp; omega) _)
  rw [hw6, hgs, hgt]
  clear hw6 hgs hgt PX5
  have hV0 : Below w.heap.size w w6.drew := K6.out.drew
  have hH0 : w6.drew.heap[ga]? = some (.cells (chC la).toArray 26) ∧ w6.drew.heap[gb]? = some (.cells (chC lb).toArray 26) ∧ w6.drew.heap[gs]? = some (.cells (chC sa).toArray 26) ∧ w6.drew.heap[gt]? = some (.cells (chC sb).toArray 26) ∧ True := P6.out
  refine wp_region_held_drew (S := fun w' => w'.heap[ga]? = some (.cells (chC la).toArray 26) ∧ w'.heap[gb]? = some (.cells (chC lb).toArray 26) ∧ w'.heap[gs]? = some (.cells (chC sa).toArray 26) ∧ w'.heap[gt]? = some (.cells (chC sb).toArray 26) ∧ True) (by kernel_rfl) P6.out (fun hHeld => ?_)
  try dsimp only at hHeld
  refine take_at (i := 0) (v := ?_) (some 69) rfl rfl (by kernel_rfl) (by kernel_rfl) (by kernel_rfl) (fun _ _ _ h => h) hHeld (by rfl) (fun wS hSw => ?_) ?_
  rotate_left
  · try dsimp only at hSw
    go_simp
    try with_reducible rfl
  try simp only [Act.put, List.setIfInBounds_toArray, List.set_cons_zero, List.set_cons_succ]
  refine take_at (i := 1) (v := ?_) (some 70) rfl rfl (by kernel_rfl) (by kernel_rfl) (by kernel_rfl) (fun _ _ _ h => h) hHeld (by rfl) (fun wS hSw => ?_) ?_
  rotate_left
  · try dsimp only at hSw
    go_simp
    try with_reducible rfl
  try simp only [Act.put, List.setIfInBounds_toArray, List.set_cons_zero, List.set_cons_succ]
  refine take_at (i := 2) (v := ?_) (some 71) rfl rfl (by kernel_rfl) (by kernel_rfl) (by kernel_rfl) (fun _ _ _ h => h) hHeld (by rfl) (fun wS hSw => ?_) ?_
  rotate_left
  · try dsimp only at hSw
    go_simp
    try with_reducible rfl
  try simp only [Act.put, List.setIfInBounds_toArray, List.set_cons_zero, List.set_cons_succ]
  refine take_at (i := 3) (v := ?_) (some 72) rfl rfl (by kernel_rfl) (by kernel_rfl) (by kernel_rfl) (fun _ _ _ h => h) hHeld (by rfl) (fun wS hSw => ?_) ?_
  rotate_left
  · refine exec_load_row 26 (.tmp 11) ?_ gs ?_ 26 (chC sa).toArray (0, 0) _ hSw.2.2.1 Try.underlying26 rfl (ch_info sa sah) <;> rfl
  try simp only [Act.put, List.setIfInBounds_toArray, List.set_cons_zero, List.set_cons_succ]
  refine take_at (i := 4) (v := ?_) (some 73) rfl rfl (by kernel_rfl) (by kernel_rfl) (by kernel_rfl) (fun _ _ _ h => h) hHeld (by rfl) (fun wS hSw => ?_) ?_
  rotate_left
  · try dsimp only at hSw
    go_simp
    try with_reducible rfl
  try simp only [Act.put, List.setIfInBounds_toArray, List.set_cons_zero, List.set_cons_succ]
  refine take_at (i := 5) (v := ?_) (some 74) rfl rfl (by kernel_rfl) (by kernel_rfl) (by kernel_rfl) (fun _ _ _ h => h) hHeld (by rfl) (fun wS hSw => ?_) ?_
  rotate_left
  · try dsimp only at hSw
    go_simp
    try with_reducible rfl
  try simp only [Act.put, List.setIfInBounds_toArray, List.set_cons_zero, List.set_cons_succ]
  refine take_at (i := 6) (v := ?_) (some 75) rfl rfl (by kernel_rfl) (by kernel_rfl) (by kernel_rfl) (fun _ _ _ h => h) hHeld (by rfl) (fun wS hSw => ?_) ?_
  rotate_left
  · try dsimp only at hSw
    go_simp
    try with_reducible rfl
  try simp only [Act.put, List.setIfInBounds_toArray, List.set_cons_zero, List.set_cons_succ]
  refine wpAnyH_ready (rs := [7]) (by kernel_rfl) (by simp) ?_
  refine AllReadyH.cons rfl (fun K hK => ?_) AllReadyH.nil
  simp only [List.getElem_toArray, List.getElem_cons_succ, List.getElem_cons_zero]
  go_simp
  refine (HIA.out _ hV0).mono ?_
  rintro e v1 ⟨rfl, hv1⟩
  have hH1 : v1.heap[ga]? = some (.cells (chC la).toArray 26) ∧ v1.heap[gb]? = some (.cells (chC lb).toArray 26) ∧ v1.heap[gs]? = some (.cells (chC sa).toArray 26) ∧ v1.heap[gt]? = some (.cells (chC sb).toArray 26) ∧ True := ⟨heap_later hH0.1 hv1, heap_later hH0.2.1 hv1, heap_later hH0.2.2.1 hv1, heap_later hH0.2.2.2.1 hv1, trivial⟩
  have hV1 : Below w.heap.size w v1 := hV0.trans (hv1.mono hV0.size)
  clear hv1
  try dsimp only
  have hOld := hHeld
  refine hK.out _ _ hH1 (fun _ => ?_)
  clear hK K
  refine wpAnyH_mono (S2 := fun w' => w'.heap[ga]? = some (.cells (chC la).toArray 26) ∧ w'.heap[gb]? = some (.cells (chC lb).toArray 26) ∧ w'.heap[gs]? = some (.cells (chC sa).toArray 26) ∧ w'.heap[gt]? = some (.cells (chC sb).toArray 26) ∧ True) (fun _ h => h) _ _ _ _ ?_
  clear hHeld
  have hHeld := hH1
  clear hOld
  try simp only [Act.put, List.setIfInBounds_toArray, List.set_cons_zero, List.set_cons_succ]
  refine take_at (i := 8) (v := ?_) (some 77) rfl rfl (by kernel_rfl) (by kernel_rfl) (by kernel_rfl) (fun _ _ _ h => h) hHeld (by rfl) (fun wS hSw => ?_) ?_
  rotate_left
  · try dsimp only at hSw
    go_simp
    try with_reducible rfl
  try simp only [Act.put, List.setIfInBounds_toArray, List.set_cons_zero, List.set_cons_succ]
  refine take_at (i := 9) (v := ?_) (some 78) rfl rfl (by kernel_rfl) (by kernel_rfl) (by kernel_rfl) (fun _ _ _ h => h) hHeld (by rfl) (fun wS hSw => ?_) ?_
  rotate_left
  · try dsimp only at hSw
    go_simp
    try with_reducible rfl
  try simp only [Act.put, List.setIfInBounds_toArray, List.set_cons_zero, List.set_cons_succ]
  refine take_at (i := 10) (v := ?_) (some 79) rfl rfl (by kernel_rfl) (by kernel_rfl) (by kernel_rfl) (fun _ _ _ h => h) hHeld (by rfl) (fun wS hSw => ?_) ?_
  rotate_left
  · try dsimp only at hSw
    go_simp
    try with_reducible rfl
  try simp only [Act.put, List.setIfInBounds_toArray, List.set_cons_zero, List.set_cons_succ]
  refine take_at (i := 11) (v := ?_) (some 80) rfl rfl (by kernel_rfl) (by kernel_rfl) (by kernel_rfl) (fun _ _ _ h => h) hHeld (by rfl) (fun wS hSw => ?_) ?_
  rotate_left
  · refine exec_load_row 26 (.tmp 12) ?_ gt ?_ 26 (chC sb).toArray (0, 0) _ hSw.2.2.2.1 Try.underlying26 rfl (ch_info sb sbh) <;> rfl
  try simp only [Act.put, List.setIfInBounds_toArray, List.set_cons_zero, List.set_cons_succ]
  refine take_at (i := 12) (v := ?_) (some 81) rfl rfl (by kernel_rfl) (by kernel_rfl) (by kernel_rfl) (fun _ _ _ h => h) hHeld (by rfl) (fun wS hSw => ?_) ?_
  rotate_left
  · try dsimp only at hSw
    go_simp
    try with_reducible rfl
  try simp only [Act.put, List.setIfInBounds_toArray, List.set_cons_zero, List.set_cons_succ]
  refine take_at (i := 13) (v := ?_) (some 82) rfl rfl (by kernel_rfl) (by kernel_rfl) (by kernel_rfl) (fun _ _ _ h => h) hHeld (by rfl) (fun wS hSw => ?_) ?_
  rotate_left
  · try dsimp only at hSw
    go_simp
    try with_reducible rfl
  try simp only [Act.put, List.setIfInBounds_toArray, List.set_cons_zero, List.set_cons_succ]
  refine take_at (i := 14) (v := ?_) (some 83) rfl rfl (by kernel_rfl) (by kernel_rfl) (by kernel_rfl) (fun _ _ _ h => h) hHeld (by rfl) (fun wS hSw => ?_) ?_
  rotate_left
  · try dsimp only at hSw
    go_simp
    try with_reducible rfl
  try simp only [Act.put, List.setIfInBounds_toArray, List.set_cons_zero, List.set_cons_succ]
  refine wpAnyH_ready (rs := [15]) (by kernel_rfl) (by simp) ?_
  refine AllReadyH.cons rfl (fun K hK => ?_) AllReadyH.nil
  simp only [List.getElem_toArray, List.getElem_cons_succ, List.getElem_cons_zero]
  go_simp
  refine (HIB.out _ hV1).mono ?_
  rintro e v2 ⟨rfl, hv2⟩
  have hH2 : v2.heap[ga]? = some (.cells (chC la).toArray 26) ∧ v2.heap[gb]? = some (.cells (chC lb).toArray 26) ∧ v2.heap[gs]? = some (.cells (chC sa).toArray 26) ∧ v2.heap[gt]? = some (.cells (chC sb).toArray 26) ∧ True := ⟨heap_later hH1.1 hv2, heap_later hH1.2.1 hv2, heap_later hH1.2.2.1 hv2, heap_later hH1.2.2.2.1 hv2, trivial⟩
  have hV2 : Below w.heap.size w v2 := hV1.trans (hv2.mono hV1.size)
  clear hv2
  try dsimp only
  have hOld := hHeld
  refine hK.out _ _ hH2 (fun _ => ?_)
  clear hK K
  refine wpAnyH_mono (S2 := fun w' => w'.heap[ga]? = some (.cells (chC la).toArray 26) ∧ w'.heap[gb]? = some (.cells (chC lb).toArray 26) ∧ w'.heap[gs]? = some (.cells (chC sa).toArray 26) ∧ w'.heap[gt]? = some (.cells (chC sb).toArray 26) ∧ True) (fun _ h => h) _ _ _ _ ?_
  clear hHeld
  have hHeld := hH2
  clear hOld
  try simp only [Act.put, List.setIfInBounds_toArray, List.set_cons_zero, List.set_cons_succ]
  refine take_at (i := 16) (v := ?_) (some 85) rfl rfl (by kernel_rfl) (by kernel_rfl) (by kernel_rfl) (fun _ _ _ h => h) hHeld (by rfl) (fun wS hSw => ?_) ?_
  rotate_left
  · try dsimp only at hSw
    go_simp
    try with_reducible rfl
  try simp only [Act.put, List.setIfInBounds_toArray, List.set_cons_zero, List.set_cons_succ]
  refine take_at (i := 17) (v := ?_) (some 86) rfl rfl (by kernel_rfl) (by kernel_rfl) (by kernel_rfl) (fun _ _ _ h => h) hHeld (by rfl) (fun wS hSw => ?_) ?_
  rotate_left
  · try dsimp only at hSw
    go_simp
    try with_reducible rfl
  try simp only [Act.put, List.setIfInBounds_toArray, List.set_cons_zero, List.set_cons_succ]
  refine wpAnyH_done (by kernel_rfl) ?_ _
  obtain ⟨w7, hw7⟩ : ∃ v, v2 = v := ⟨_, rfl⟩
  have P7 := Lib.hid (show w7.heap[ga]? = some (.cells (chC la).toArray 26) ∧ w7.heap[gb]? = some (.cells (chC lb).toArray 26) ∧ w7.heap[gs]? = some (.cells (chC sa).toArray 26) ∧ w7.heap[gt]? = some (.cells (chC sb).toArray 26) ∧ True by rw [← hw7]; exact hH2)
  have K7 := Lib.hid (show Below w.heap.size w w7 by rw [← hw7]; exact hV2)
  rw [hw7]
  clear hw7 hHeld hV0 hH0 hV1 hH1 hV2 hH2
  go_wp2_with (first | (refine load_rowG (by rfl) 26 (.tmp 7) rfl ga rfl 26 (chC la).toArray (0, 0) _ P7.out.1 Try.underlying26 rfl (ch_info la lah) ?_) | (refine load_rowG (by rfl) 26 (.tmp 9) rfl gb rfl 26 (chC lb).toArray (0, 0) _ P7.out.2.1 Try.underlying26 rfl (ch_info lb lbh) ?_))
  refine (HJ.out w7).mono ?_
  rintro e w8 ⟨rfl, hb8⟩
  have K8 := Lib.hid (K7.out.trans (hb8.mono K7.out.size))
  have P8 := Lib.hid (show w8.heap[ga]? = some (.cells (chC la).toArray 26) ∧ w8.heap[gb]? = some (.cells (chC lb).toArray 26) ∧ w8.heap[gs]? = some (.cells (chC sa).toArray 26) ∧ w8.heap[gt]? = some (.cells (chC sb).toArray 26) ∧ True from ⟨heap_later P7.out.1 hb8, heap_later P7.out.2.1 hb8, heap_later P7.out.2.2.1 hb8, heap_later P7.out.2.2.2.1 hb8, trivial⟩)
  clear hb8
  have hX8 : Below w8.heap.size w8 (w8.alloc (.cells (chC lx).toArray 26)) := (Below.refl _ _).alloc (Nat.le_refl _) _
  have PX8 := Lib.hid (show (w8.alloc (.cells (chC lx).toArray 26)).heap[ga]? = some (.cells (chC la).toArray 26) ∧ (w8.alloc (.cells (chC lx).toArray 26)).heap[gb]? = some (.cells (chC lb).toArray 26) ∧ (w8.alloc (.cells (chC lx).toArray 26)).heap[gs]? = some (.cells (chC sa).toArray 26) ∧ (w8.alloc (.cells (chC lx).toArray 26)).heap[gt]? = some (.cells (chC sb).toArray 26) ∧ True from ⟨heap_later P8.out.1 hX8, heap_later P8.out.2.1 hX8, heap_later P8.out.2.2.1 hX8, heap_later P8.out.2.2.2.1 hX8, trivial⟩)
  clear hX8
  go_wp2_with (first | (refine wpList_store_row rfl 26 (.tmp 14) (.tmp 91) rfl w8.heap.size (chC lx).toArray rfl rfl 26 (chC []).toArray (heap_alloc_new w8 _) (ch_info lx lxh) (ch_size lx lxh) (all_one lx) ?_; rw [alloc_setRow]) | (refine load_rowG (by rfl) 26 (.tmp 14) rfl w8.heap.size rfl 26 (chC lx).toArray (0, 0) _ (heap_alloc_new w8 _) Try.underlying26 rfl (ch_info lx lxh) ?_) | (refine load_rowG (by rfl) 26 (.tmp 7) rfl ga rfl 26 (chC la).toArray (0, 0) _ PX8.out.1 Try.underlying26 rfl (ch_info la lah) ?_) | (refine wpList_eq_chunk (by rfl) (.tmp 102) (.tmp 103) rfl lx [] rfl (by with_unfolding_all rfl) lxh (by decide) true HNX.out ?_))
  obtain ⟨gx, hgx⟩ : ∃ g, w8.heap.size = g := ⟨_, rfl⟩
  obtain ⟨w9, hw9⟩ : ∃ v, (w8.alloc (.cells (chC lx).toArray 26)) = v := ⟨_, rfl⟩
  have P9 := Lib.hid (show w9.heap[ga]? = some (.cells (chC la).toArray 26) ∧ w9.heap[gb]? = some (.cells (chC lb).toArray 26) ∧ w9.heap[gs]? = some (.cells (chC sa).toArray 26) ∧ w9.heap[gt]? = some (.cells (chC sb).toArray 26) ∧ w9.heap[gx]? = some (.cells (chC lx).toArray 26) ∧ True by
    rw [← hw9]
    exact ⟨PX8.out.1, PX8.out.2.1, PX8.out.2.2.1, PX8.out.2.2.2.1, by rw [← hgx]; exact heap_alloc_new w8 _, trivial⟩)
  have K9 := Lib.hid (show Below w.heap.size w w9 by rw [← hw9]; exact K8.out.alloc K8.out.size _)
  rw [hw9, hgx]
  clear hw9 hgx PX8
  refine (HI1.out w9 K9.out).mono ?_
  rintro e w10 ⟨rfl, hb10⟩
  have K10 := Lib.hid (K9.out.trans (hb10.mono K9.out.size))
  have P10 := Lib.hid (show w10.heap[ga]? = some (.cells (chC la).toArray 26) ∧ w10.heap[gb]? = some (.cells (chC lb).toArray 26) ∧ w10.heap[gs]? = some (.cells (chC sa).toArray 26) ∧ w10.heap[gt]? = some (.cells (chC sb).toArray 26) ∧ w10.heap[gx]? = some (.cells (chC lx).toArray 26) ∧ True from ⟨heap_later P9.out.1 hb10, heap_later P9.out.2.1 hb10, heap_later P9.out.2.2.1 hb10, heap_later P9.out.2.2.2.1 hb10, heap_later P9.out.2.2.2.2.1 hb10, trivial⟩)
  clear hb10
  go_wp2_with (first | (refine load_rowG (by rfl) 26 (.tmp 9) rfl gb rfl 26 (chC lb).toArray (0, 0) _ P10.out.2.1 Try.underlying26 rfl (ch_info lb lbh) ?_))
  refine (HI2.out w10 K10.out).mono ?_
  rintro e w11 ⟨rfl, hb11⟩
  have K11 := Lib.hid (K10.out.trans (hb11.mono K10.out.size))
  have P11 := Lib.hid (show w11.heap[ga]? = some (.cells (chC la).toArray 26) ∧ w11.heap[gb]? = some (.cells (chC lb).toArray 26) ∧ w11.heap[gs]? = some (.cells (chC sa).toArray 26) ∧ w11.heap[gt]? = some (.cells (chC sb).toArray 26) ∧ w11.heap[gx]? = some (.cells (chC lx).toArray 26) ∧ True from ⟨heap_later P10.out.1 hb11, heap_later P10.out.2.1 hb11, heap_later P10.out.2.2.1 hb11, heap_later P10.out.2.2.2.1 hb11, heap_later P10.out.2.2.2.2.1 hb11, trivial⟩)
  clear hb11
  go_wp2_with fail
  refine (known_any _).mono ?_
  rintro e w12 ⟨rfl, hb12⟩
  have K12 := Lib.hid (K11.out.trans (hb12.mono K11.out.size))
  have P12 := Lib.hid (show w12.heap[ga]? = some (.cells (chC la).toArray 26) ∧ w12.heap[gb]? = some (.cells (chC lb).toArray 26) ∧ w12.heap[gs]? = some (.cells (chC sa).toArray 26) ∧ w12.heap[gt]? = some (.cells (chC sb).toArray 26) ∧ w12.heap[gx]? = some (.cells (chC lx).toArray 26) ∧ True from ⟨heap_later P11.out.1 hb12, heap_later P11.out.2.1 hb12, heap_later P11.out.2.2.1 hb12, heap_later P11.out.2.2.2.1 hb12, heap_later P11.out.2.2.2.2.1 hb12, trivial⟩)
  clear hb12
  go_wp2_with fail
  go_ret
  exact ⟨rfl, K12.out⟩

set_option maxRecDepth 100000 in
set_option maxHeartbeats 8000000 in
theorem splits_in_short (A A2 : Option Addr) (n n2 c c2 : Nat) (la lb : List Int) (k : Nat) (w : World) (hs1 : Sees w w.heap.size 1 A n (la.map r32)) (hs2 : Sees w w.heap.size 1 A2 n2 (lb.map r32)) (hn : n ≤ 32) (hn2 : n2 ≤ 32) (hnc : n ≤ c) (hea : ofE la = 0) (heb : ofE lb = 0) (hk : k ≤ n) (h32 : (n : Int) + n2 ≤ 32) :
    Calls Try.prog 8 #[.slice A n c, .slice A2 n2 c2, .int .i64 (k : Int)] w fun e w' => e = .returned (.bool true) ∧ Below w.heap.size w w' := by
  have hl1 : la.length = n := by have := hs1.1; simp at this; omega
  have hl2 : lb.length = n2 := by have := hs2.1; simp at this; omega
  have lah : la.length ≤ 32 := by omega
  have lbh : lb.length ≤ 32 := by omega
  have hnI : (n : Int) ≤ 32 := by omega
  have hn2I : (n2 : Int) ≤ 32 := by omega
  have HO1 := Lib.hid (fun (w1 : World) (hb : Below w.heap.size w w1) => of_any A n c w.heap.size la w1 (hs1.below hb (Nat.le_refl _)) hb.size (by omega))
  have HO2 := Lib.hid (fun (w1 : World) (hb : Below w.heap.size w w1) => of_any A2 n2 c2 w.heap.size lb w1 (hs2.below hb (Nat.le_refl _)) hb.size (by omega))
  have HI1 := Lib.hid (fun (w1 : World) (hb : Below w.heap.size w w1) => is_any A n c w.heap.size la w1 (hs1.below hb (Nat.le_refl _)) hb.size hn)
  have HI2 := Lib.hid (fun (w1 : World) (hb : Below w.heap.size w w1) => is_any A2 n2 c2 w.heap.size lb w1 (hs2.below hb (Nat.le_refl _)) hb.size hn2)
  rw [(ofE_ok hea).1, hea] at HO1
  rw [(ofE_ok heb).1, heb] at HO2
  clear hea heb
  have HKA := Lib.hid (show spA la (k : Int) = la.take k ∧ spB la (k : Int) = la.drop k ∧ spE la (k : Int) = 0 by
    unfold spA spB spE
    rw [if_pos (by omega), if_pos (by omega), if_pos (by omega)]
    exact ⟨by rw [Int.toNat_natCast], by rw [Int.toNat_natCast], rfl⟩)
  have hkI : (k : Int) ≤ n := by omega
  have hk0 : ¬ ((k : Int) < 0) := by omega
  have hk1 : ¬ ((k : Int) > (n : Int)) := by omega
  have hkc : k ≤ c := by omega
  have HSP := Lib.hid (fun w => split_any la (k : Int) w lah)
  rw [HKA.out.1, HKA.out.2.1, HKA.out.2.2] at HSP
  have hsA := hs1.prefix_ (k := k) (by omega)
  have hsB := hs1.cut (k := k) (cap := c) (by omega) hnc
  rw [← List.map_take] at hsA
  rw [← List.map_drop] at hsB
  obtain ⟨sa, hsa⟩ : ∃ x, la.take k = x := ⟨_, rfl⟩
  obtain ⟨sb, hsb⟩ : ∃ x, la.drop k = x := ⟨_, rfl⟩
  have sah : sa.length ≤ 32 := by rw [← hsa]; simp; omega
  have sbh : sb.length ≤ 32 := by rw [← hsb]; simp; omega
  rw [hsa] at hsA HSP
  rw [hsb] at hsB HSP
  obtain ⟨A4, hA4⟩ : ∃ x, (if c = k then A else A.map (·.add k)) = x := ⟨_, rfl⟩
  rw [hA4] at hsB
  have HIA := Lib.hid (fun (w1 : World) (hb : Below w.heap.size w w1) => is_any A k c w.heap.size sa w1 (hsA.below hb (Nat.le_refl _)) hb.size (by omega))
  have HIB := Lib.hid (fun (w1 : World) (hb : Below w.heap.size w w1) => is_any A4 (n - k) (c - k) w.heap.size sb w1 (hsB.below hb (Nat.le_refl _)) hb.size (by omega))
  clear hsA hsB hsa hsb HKA
  have HJ := Lib.hid (fun w => join_any la lb w (by omega))
  have hlx : (la ++ lb).length = n + n2 := by rw [List.length_append]; omega
  have HMAP := Lib.hid (show la.map r32 ++ lb.map r32 = (la ++ lb).map r32 by rw [List.map_append])
  obtain ⟨lx, hx⟩ : ∃ x, la ++ lb = x := ⟨_, rfl⟩
  rw [hx] at HJ hlx HMAP
  have lxh : lx.length ≤ 32 := by omega
  clear hx
  obtain ⟨i0, ii0, iz0, iz1, iz2⟩ := info_parts r32_info
  have HS1 := Lib.hid hs1
  have HS2 := Lib.hid hs2
  have HLL := Lib.hid (And.intro hl1 hl2)
  clear hs1 hs2 hl1 hl2
  go_enter Try.func8, Try.ntmps8
  have K0 := Lib.hid (Below.refl w.heap.size w)
  go_wp2_with fail
  refine (HO1.out w K0.out).mono ?_
  rintro e w1 ⟨rfl, hb1⟩
  have K1 := Lib.hid hb1
  clear hb1
  have hX1 : Below w1.heap.size w1 (w1.alloc (.cells (chC la).toArray 26)) := (Below.refl _ _).alloc (Nat.le_refl _) _
  clear hX1
  go_wp2_with (first | (refine wpList_store_row rfl 26 (.tmp 7) (.tmp 28) rfl w1.heap.size (chC la).toArray rfl rfl 26 (chC []).toArray (heap_alloc_new w1 _) (ch_info la lah) (ch_size la lah) (all_one la) ?_; rw [alloc_setRow]))
  obtain ⟨ga, hga⟩ : ∃ g, w1.heap.size = g := ⟨_, rfl⟩
  obtain ⟨w2, hw2⟩ : ∃ v, (w1.alloc (.cells (chC la).toArray 26)) = v := ⟨_, rfl⟩
  have P2 := Lib.hid (show w2.heap[ga]? = some (.cells (chC la).toArray 26) ∧ True by
    rw [← hw2]
    exact ⟨by rw [← hga]; exact heap_alloc_new w1 _, trivial⟩)
  have K2 := Lib.hid (show Below w.heap.size w w2 by rw [← hw2]; exact K1.out.alloc K1.out.size _)
  rw [hw2, hga]
  clear hw2 hga
  refine (HO2.out w2 K2.out).mono ?_
  rintro e w3 ⟨rfl, hb3⟩
  have K3 := Lib.hid (K2.out.trans (hb3.mono K2.out.size))
  have P3 := Lib.hid (show w3.heap[ga]? = some (.cells (chC la).toArray 26) ∧ True from ⟨heap_later P2.out.1 hb3, trivial⟩)
  clear hb3
  have hX3 : Below w3.heap.size w3 (w3.alloc (.cells (chC lb).toArray 26)) := (Below.refl _ _).alloc (Nat.le_refl _) _
  have PX3 := Lib.hid (show (w3.alloc (.cells (chC lb).toArray 26)).heap[ga]? = some (.cells (chC la).toArray 26) ∧ True from ⟨heap_later P3.out.1 hX3, trivial⟩)
  clear hX3
  go_wp2_with (first | (refine wpList_store_row rfl 26 (.tmp 9) (.tmp 33) rfl w3.heap.size (chC lb).toArray rfl rfl 26 (chC []).toArray (heap_alloc_new w3 _) (ch_info lb lbh) (ch_size lb lbh) (all_one lb) ?_; rw [alloc_setRow]) | (refine load_rowG (by rfl) 26 (.tmp 7) rfl ga rfl 26 (chC la).toArray (0, 0) _ PX3.out.1 Try.underlying26 rfl (ch_info la lah) ?_))
  obtain ⟨gb, hgb⟩ : ∃ g, w3.heap.size = g := ⟨_, rfl⟩
  obtain ⟨w4, hw4⟩ : ∃ v, (w3.alloc (.cells (chC lb).toArray 26)) = v := ⟨_, rfl⟩
  have P4 := Lib.hid (show w4.heap[ga]? = some (.cells (chC la).toArray 26) ∧ w4.heap[gb]? = some (.cells (chC lb).toArray 26) ∧ True by
    rw [← hw4]
    exact ⟨PX3.out.1, by rw [← hgb]; exact heap_alloc_new w3 _, trivial⟩)
  have K4 := Lib.hid (show Below w.heap.size w w4 by rw [← hw4]; exact K3.out.alloc K3.out.size _)
  rw [hw4, hgb]
  clear hw4 hgb PX3
  refine (HSP.out w4).mono ?_
  rintro e w5 ⟨rfl, hb5⟩
  have K5 := Lib.hid (K4.out.trans (hb5.mono K4.out.size))
  have P5 := Lib.hid (show w5.heap[ga]? = some (.cells (chC la).toArray 26) ∧ w5.heap[gb]? = some (.cells (chC lb).toArray 26) ∧ True from ⟨heap_later P4.out.1 hb5, heap_later P4.out.2.1 hb5, trivial⟩)
  clear hb5
  have hX5 : Below w5.heap.size w5 ((w5.alloc (.cells (chC sa).toArray 26)).alloc (.cells (chC sb).toArray 26)) := ((Below.refl _ _).alloc (Nat.le_refl _) _).alloc (by simp) _
  have PX5 := Lib.hid (show ((w5.alloc (.cells (chC sa).toArray 26)).alloc (.cells (chC sb).toArray 26)).heap[ga]? = some (.cells (chC la).toArray 26) ∧ ((w5.alloc (.cells (chC sa).toArray 26)).alloc (.cells (chC sb).toArray 26)).heap[gb]? = some (.cells (chC lb).toArray 26) ∧ True from ⟨heap_later P5.out.1 hX5, heap_later P5.out.2.1 hX5, trivial⟩)
  clear hX5
  go_wp2_with (first | (refine wpList_store_row rfl 26 (.tmp 11) (.tmp 46) rfl w5.heap.size (chC sa).toArray rfl rfl 26 (chC []).toArray (heap_alloc2_old w5 _ _) (ch_info sa sah) (ch_size sa sah) (all_one sa) ?_; rw [alloc2_setRow]) | (refine wpList_store_row rfl 26 (.tmp 12) (.tmp 47) rfl (w5.heap.size + 1) (chC sb).toArray rfl rfl 26 (chC []).toArray (heap_alloc2_new w5 _ _) (ch_info sb sbh) (ch_size sb sbh) (all_one sb) ?_; rw [alloc2_setRow2]))
  obtain ⟨gs, hgs⟩ : ∃ g, w5.heap.size = g := ⟨_, rfl⟩
  obtain ⟨gt, hgt⟩ : ∃ g, gs + 1 = g := ⟨_, rfl⟩
  obtain ⟨w6, hw6⟩ : ∃ v, ((w5.alloc (.cells (chC sa).toArray 26)).alloc (.cells (chC sb).toArray 26)) = v := ⟨_, rfl⟩
  have P6 := Lib.hid (show w6.heap[ga]? = some (.cells (chC la).toArray 26) ∧ w6.heap[gb]? = some (.cells (chC lb).toArray 26) ∧ w6.heap[gs]? = some (.cells (chC sa).toArray 26) ∧ w6.heap[gt]? = some (.cells (chC sb).toArray 26) ∧ True by
    rw [← hw6]
    exact ⟨PX5.out.1, PX5.out.2.1, by rw [← hgs]; exact heap_alloc2_old w5 _ _, by rw [← hgt, ← hgs]; exact heap_alloc2_new w5 _ _, trivial⟩)
  have K6 := Lib.hid (show Below w.heap.size w w6 by rw [← hw6]; exact (K5.out.alloc K5.out.size _).alloc (by have := K5.out.size; simp; omega) _)
  rw [hw6, hgs, hgt]
  clear hw6 hgs hgt PX5
  have hV0 : Below w.heap.size w w6.drew := K6.out.drew
  have hH0 : w6.drew.heap[ga]? = some (.cells (chC la).toArray 26) ∧ w6.drew.heap[gb]? = some (.cells (chC lb).toArray 26) ∧ w6.drew.heap[gs]? = some (.cells (chC sa).toArray 26) ∧ w6.drew.heap[gt]? = some (.cells (chC sb).toArray 26) ∧ True := P6.out
  refine wp_region_held_drew (S := fun w' => w'.heap[ga]? = some (.cells (chC la).toArray 26) ∧ w'.heap[gb]? = some (.cells (chC lb).toArray 26) ∧ w'.heap[gs]? = some (.cells (chC sa).toArray 26) ∧ w'.heap[gt]? = some (.cells (chC sb).toArray 26) ∧ True) (by kernel_rfl) P6.out (fun hHeld => ?_)
  try dsimp only at hHeld
  refine take_at (i := 0) (v := ?_) (some 69) rfl rfl (by kernel_rfl) (by kernel_rfl) (by kernel_rfl) (fun _ _ _ h => h) hHeld (by rfl) (fun wS hSw => ?_) ?_
  rotate_left
  · try dsimp only at hSw
    go_simp
    try with_reducible rfl
  try simp only [Act.put, List.setIfInBounds_toArray, List.set_cons_zero, List.set_cons_succ]
  refine take_at (i := 1) (v := ?_) (some 70) rfl rfl (by kernel_rfl) (by kernel_rfl) (by kernel_rfl) (fun _ _ _ h => h) hHeld (by rfl) (fun wS hSw => ?_) ?_
  rotate_left
  · try dsimp only at hSw
    go_simp
    try with_reducible rfl
  try simp only [Act.put, List.setIfInBounds_toArray, List.set_cons_zero, List.set_cons_succ]
  refine take_at (i := 2) (v := ?_) (some 71) rfl rfl (by kernel_rfl) (by kernel_rfl) (by kernel_rfl) (fun _ _ _ h => h) hHeld (by rfl) (fun wS hSw => ?_) ?_
  rotate_left
  · try dsimp only at hSw
    go_simp
    try with_reducible rfl
  try simp only [Act.put, List.setIfInBounds_toArray, List.set_cons_zero, List.set_cons_succ]
  refine take_at (i := 3) (v := ?_) (some 72) rfl rfl (by kernel_rfl) (by kernel_rfl) (by kernel_rfl) (fun _ _ _ h => h) hHeld (by rfl) (fun wS hSw => ?_) ?_
  rotate_left
  · refine exec_load_row 26 (.tmp 11) ?_ gs ?_ 26 (chC sa).toArray (0, 0) _ hSw.2.2.1 Try.underlying26 rfl (ch_info sa sah) <;> rfl
  try simp only [Act.put, List.setIfInBounds_toArray, List.set_cons_zero, List.set_cons_succ]
  refine take_at (i := 4) (v := ?_) (some 73) rfl rfl (by kernel_rfl) (by kernel_rfl) (by kernel_rfl) (fun _ _ _ h => h) hHeld (by rfl) (fun wS hSw => ?_) ?_
  rotate_left
  · try dsimp only at hSw
    go_simp
    try with_reducible rfl
  try simp only [Act.put, List.setIfInBounds_toArray, List.set_cons_zero, List.set_cons_succ]
  refine take_at (i := 5) (v := ?_) (some 74) rfl rfl (by kernel_rfl) (by kernel_rfl) (by kernel_rfl) (fun _ _ _ h => h) hHeld (by rfl) (fun wS hSw => ?_) ?_
  rotate_left
  · try dsimp only at hSw
    go_simp
    try with_reducible rfl
  try simp only [Act.put, List.setIfInBounds_toArray, List.set_cons_zero, List.set_cons_succ]
  refine take_at (i := 6) (v := ?_) (some 75) rfl rfl (by kernel_rfl) (by kernel_rfl) (by kernel_rfl) (fun _ _ _ h => h) hHeld (by rfl) (fun wS hSw => ?_) ?_
  rotate_left
  · try dsimp only at hSw
    go_simp
    try with_reducible rfl
  try simp only [Act.put, List.setIfInBounds_toArray, List.set_cons_zero, List.set_cons_succ]
  refine wpAnyH_ready (rs := [7]) (by kernel_rfl) (by simp) ?_
  refine AllReadyH.cons rfl (fun K hK => ?_) AllReadyH.nil
  simp only [List.getElem_toArray, List.getElem_cons_succ, List.getElem_cons_zero]
  go_simp
  refine (HIA.out _ hV0).mono ?_
  rintro e v1 ⟨rfl, hv1⟩
  have hH1 : v1.heap[ga]? = some (.cells (chC la).toArray 26) ∧ v1.heap[gb]? = some (.cells (chC lb).toArray 26) ∧ v1.heap[gs]? = some (.cells (chC sa).toArray 26) ∧ v1.heap[gt]? = some (.cells (chC sb).toArray 26) ∧ True := ⟨heap_later hH0.1 hv1, heap_later hH0.2.1 hv1, heap_later hH0.2.2.1 hv1, heap_later hH0.2.2.2.1 hv1, trivial⟩
  have hV1 : Below w.heap.size w v1 := hV0.trans (hv1.mono hV0.size)
  clear hv1
  try dsimp only
  have hOld := hHeld
  refine hK.out _ _ hH1 (fun _ => ?_)
  clear hK K
  refine wpAnyH_mono (S2 := fun w' => w'.heap[ga]? = some (.cells (chC la).toArray 26) ∧ w'.heap[gb]? = some (.cells (chC lb).toArray 26) ∧ w'.heap[gs]? = some (.cells (chC sa).toArray 26) ∧ w'.heap[gt]? = some (.cells (chC sb).toArray 26) ∧ True) (fun _ h => h) _ _ _ _ ?_
  clear hHeld
  have hHeld := hH1
  clear hOld
  try simp only [Act.put, List.setIfInBounds_toArray, List.set_cons_zero, List.set_cons_succ]
  refine take_at (i := 8) (v := ?_) (some 77) rfl rfl (by kernel_rfl) (by kernel_rfl) (by kernel_rfl) (fun _ _ _ h => h) hHeld (by rfl) (fun wS hSw => ?_) ?_
  rotate_left
  · try dsimp only at hSw
    go_simp
    try with_reducible rfl
  try simp only [Act.put, List.setIfInBounds_toArray, List.set_cons_zero, List.set_cons_succ]
  refine take_at (i := 9) (v := ?_) (some 78) rfl rfl (by kernel_rfl) (by kernel_rfl) (by kernel_rfl) (fun _ _ _ h => h) hHeld (by rfl) (fun wS hSw => ?_) ?_
  rotate_left
  · try dsimp only at hSw
    go_simp
    try with_reducible rfl
  try simp only [Act.put, List.setIfInBounds_toArray, List.set_cons_zero, List.set_cons_succ]
  refine take_at (i := 10) (v := ?_) (some 79) rfl rfl (by kernel_rfl) (by kernel_rfl) (by kernel_rfl) (fun _ _ _ h => h) hHeld (by rfl) (fun wS hSw => ?_) ?_
  rotate_left
  · try dsimp only at hSw
    go_simp
    try with_reducible rfl
  try simp only [Act.put, List.setIfInBounds_toArray, List.set_cons_zero, List.set_cons_succ]
  refine take_at (i := 11) (v := ?_) (some 80) rfl rfl (by kernel_rfl) (by kernel_rfl) (by kernel_rfl) (fun _ _ _ h => h) hHeld (by rfl) (fun wS hSw => ?_) ?_
  rotate_left
  · refine exec_load_row 26 (.tmp 12) ?_ gt ?_ 26 (chC sb).toArray (0, 0) _ hSw.2.2.2.1 Try.underlying26 rfl (ch_info sb sbh) <;> rfl
  try simp only [Act.put, List.setIfInBounds_toArray, List.set_cons_zero, List.set_cons_succ]
  refine take_at (i := 12) (v := ?_) (some 81) rfl rfl (by kernel_rfl) (by kernel_rfl) (by kernel_rfl) (fun _ _ _ h => h) hHeld (by rfl) (fun wS hSw => ?_) ?_
  rotate_left
  · try dsimp only at hSw
    go_simp
    try with_reducible rfl
  try simp only [Act.put, List.setIfInBounds_toArray, List.set_cons_zero, List.set_cons_succ]
  refine take_at (i := 13) (v := ?_) (some 82) rfl rfl (by kernel_rfl) (by kernel_rfl) (by kernel_rfl) (fun _ _ _ h => h) hHeld (by rfl) (fun wS hSw => ?_) ?_
  rotate_left
  · try dsimp only at hSw
    go_simp
    try with_reducible rfl
  try simp only [Act.put, List.setIfInBounds_toArray, List.set_cons_zero, List.set_cons_succ]
  refine take_at (i := 14) (v := ?_) (some 83) rfl rfl (by kernel_rfl) (by kernel_rfl) (by kernel_rfl) (fun _ _ _ h => h) hHeld (by rfl) (fun wS hSw => ?_) ?_
  rotate_left
  · try dsimp only at hSw
    go_simp
    try with_reducible rfl
  try simp only [Act.put, List.setIfInBounds_toArray, List.set_cons_zero, List.set_cons_succ]
  refine wpAnyH_ready (rs := [15]) (by kernel_rfl) (by simp) ?_
  refine AllReadyH.cons rfl (fun K hK => ?_) AllReadyH.nil
  simp only [List.getElem_toArray, List.getElem_cons_succ, List.getElem_cons_zero]
  go_simp
  refine (HIB.out _ hV1).mono ?_
  rintro e v2 ⟨rfl, hv2⟩
  have hH2 : v2.heap[ga]? = some (.cells (chC la).toArray 26) ∧ v2.heap[gb]? = some (.cells (chC lb).toArray 26) ∧ v2.heap[gs]? = some (.cells (chC sa).toArray 26) ∧ v2.heap[gt]? = some (.cells (chC sb).toArray 26) ∧ True := ⟨heap_later hH1.1 hv2, heap_later hH1.2.1 hv2, heap_later hH1.2.2.1 hv2, heap_later hH1.2.2.2.1 hv2, trivial⟩
  have hV2 : Below w.heap.size w v2 := hV1.trans (hv2.mono hV1.size)
  clear hv2
  try dsimp only
  have hOld := hHeld
  refine hK.out _ _ hH2 (fun _ => ?_)
  clear hK K
  refine wpAnyH_mono (S2 := fun w' => w'.heap[ga]? = some (.cells (chC la).toArray 26) ∧ w'.heap[gb]? = some (.cells (chC lb).toArray 26) ∧ w'.heap[gs]? = some (.cells (chC sa).toArray 26) ∧ w'.heap[gt]? = some (.cells (chC sb).toArray 26) ∧ True) (fun _ h => h) _ _ _ _ ?_
  clear hHeld
  have hHeld := hH2
  clear hOld
  try simp only [Act.put, List.setIfInBounds_toArray, List.set_cons_zero, List.set_cons_succ]
  refine take_at (i := 16) (v := ?_) (some 85) rfl rfl (by kernel_rfl) (by kernel_rfl) (by kernel_rfl) (fun _ _ _ h => h) hHeld (by rfl) (fun wS hSw => ?_) ?_
  rotate_left
  · try dsimp only at hSw
    go_simp
    try with_reducible rfl
  try simp only [Act.put, List.setIfInBounds_toArray, List.set_cons_zero, List.set_cons_succ]
  refine take_at (i := 17) (v := ?_) (some 86) rfl rfl (by kernel_rfl) (by kernel_rfl) (by kernel_rfl) (fun _ _ _ h => h) hHeld (by rfl) (fun wS hSw => ?_) ?_
  rotate_left
  · try dsimp only at hSw
    go_simp
    try with_reducible rfl
  try simp only [Act.put, List.setIfInBounds_toArray, List.set_cons_zero, List.set_cons_succ]
  refine wpAnyH_done (by kernel_rfl) ?_ _
  obtain ⟨w7, hw7⟩ : ∃ v, v2 = v := ⟨_, rfl⟩
  have P7 := Lib.hid (show w7.heap[ga]? = some (.cells (chC la).toArray 26) ∧ w7.heap[gb]? = some (.cells (chC lb).toArray 26) ∧ w7.heap[gs]? = some (.cells (chC sa).toArray 26) ∧ w7.heap[gt]? = some (.cells (chC sb).toArray 26) ∧ True by rw [← hw7]; exact hH2)
  have K7 := Lib.hid (show Below w.heap.size w w7 by rw [← hw7]; exact hV2)
  rw [hw7]
  clear hw7 hHeld hV0 hH0 hV1 hH1 hV2 hH2
  go_wp2_with (first | (refine load_rowG (by rfl) 26 (.tmp 7) rfl ga rfl 26 (chC la).toArray (0, 0) _ P7.out.1 Try.underlying26 rfl (ch_info la lah) ?_) | (refine load_rowG (by rfl) 26 (.tmp 9) rfl gb rfl 26 (chC lb).toArray (0, 0) _ P7.out.2.1 Try.underlying26 rfl (ch_info lb lbh) ?_))
  refine (HJ.out w7).mono ?_
  rintro e w8 ⟨rfl, hb8⟩
  have K8 := Lib.hid (K7.out.trans (hb8.mono K7.out.size))
  have P8 := Lib.hid (show w8.heap[ga]? = some (.cells (chC la).toArray 26) ∧ w8.heap[gb]? = some (.cells (chC lb).toArray 26) ∧ w8.heap[gs]? = some (.cells (chC sa).toArray 26) ∧ w8.heap[gt]? = some (.cells (chC sb).toArray 26) ∧ True from ⟨heap_later P7.out.1 hb8, heap_later P7.out.2.1 hb8, heap_later P7.out.2.2.1 hb8, heap_later P7.out.2.2.2.1 hb8, trivial⟩)
  clear hb8
  have hX8 : Below w8.heap.size w8 (w8.alloc (.cells (chC lx).toArray 26)) := (Below.refl _ _).alloc (Nat.le_refl _) _
  have PX8 := Lib.hid (show (w8.alloc (.cells (chC lx).toArray 26)).heap[ga]? = some (.cells (chC la).toArray 26) ∧ (w8.alloc (.cells (chC lx).toArray 26)).heap[gb]? = some (.cells (chC lb).toArray 26) ∧ (w8.alloc (.cells (chC lx).toArray 26)).heap[gs]? = some (.cells (chC sa).toArray 26) ∧ (w8.alloc (.cells (chC lx).toArray 26)).heap[gt]? = some (.cells (chC sb).toArray 26) ∧ True from ⟨heap_later P8.out.1 hX8, heap_later P8.out.2.1 hX8, heap_later P8.out.2.2.1 hX8, heap_later P8.out.2.2.2.1 hX8, trivial⟩)
  clear hX8
  go_wp2_with (first | (refine wpList_store_row rfl 26 (.tmp 14) (.tmp 91) rfl w8.heap.size (chC lx).toArray rfl rfl 26 (chC []).toArray (heap_alloc_new w8 _) (ch_info lx lxh) (ch_size lx lxh) (all_one lx) ?_; rw [alloc_setRow]))
  obtain ⟨gx, hgx⟩ : ∃ g, w8.heap.size = g := ⟨_, rfl⟩
  obtain ⟨w9, hw9⟩ : ∃ v, (w8.alloc (.cells (chC lx).toArray 26)) = v := ⟨_, rfl⟩
  have P9 := Lib.hid (show w9.heap[ga]? = some (.cells (chC la).toArray 26) ∧ w9.heap[gb]? = some (.cells (chC lb).toArray 26) ∧ w9.heap[gs]? = some (.cells (chC sa).toArray 26) ∧ w9.heap[gt]? = some (.cells (chC sb).toArray 26) ∧ w9.heap[gx]? = some (.cells (chC lx).toArray 26) ∧ True by
    rw [← hw9]
    exact ⟨PX8.out.1, PX8.out.2.1, PX8.out.2.2.1, PX8.out.2.2.2.1, by rw [← hgx]; exact heap_alloc_new w8 _, trivial⟩)
  have K9 := Lib.hid (show Below w.heap.size w w9 by rw [← hw9]; exact K8.out.alloc K8.out.size _)
  rw [hw9, hgx]
  clear hw9 hgx PX8
  have hV0 : Below w.heap.size w w9 := K9.out
  have hH0 : w9.heap[ga]? = some (.cells (chC la).toArray 26) ∧ w9.heap[gb]? = some (.cells (chC lb).toArray 26) ∧ w9.heap[gs]? = some (.cells (chC sa).toArray 26) ∧ w9.heap[gt]? = some (.cells (chC sb).toArray 26) ∧ w9.heap[gx]? = some (.cells (chC lx).toArray 26) ∧ True := P9.out
  refine wp_region_held_drew (S := fun w' => w'.heap[ga]? = some (.cells (chC la).toArray 26) ∧ w'.heap[gb]? = some (.cells (chC lb).toArray 26) ∧ w'.heap[gs]? = some (.cells (chC sa).toArray 26) ∧ w'.heap[gt]? = some (.cells (chC sb).toArray 26) ∧ w'.heap[gx]? = some (.cells (chC lx).toArray 26) ∧ True) (by kernel_rfl) P9.out (fun hHeld => ?_)
  try dsimp only at hHeld
  refine take_at (i := 0) (v := ?_) (some 119) rfl rfl (by kernel_rfl) (by kernel_rfl) (by kernel_rfl) (fun _ _ _ h => h) hHeld (by rfl) (fun wS hSw => ?_) ?_
  rotate_left
  · try dsimp only at hSw
    go_simp
    try with_reducible rfl
  try simp only [Act.put, List.setIfInBounds_toArray, List.set_cons_zero, List.set_cons_succ]
  refine take_at (i := 1) (v := ?_) (some 120) rfl rfl (by kernel_rfl) (by kernel_rfl) (by kernel_rfl) (fun _ _ _ h => h) hHeld (by rfl) (fun wS hSw => ?_) ?_
  rotate_left
  · try dsimp only at hSw
    go_simp
    try with_reducible rfl
  try simp only [Act.put, List.setIfInBounds_toArray, List.set_cons_zero, List.set_cons_succ]
  refine take_at (i := 2) (v := ?_) (some 121) rfl rfl (by kernel_rfl) (by kernel_rfl) (by kernel_rfl) (fun _ _ _ h => h) hHeld (by rfl) (fun wS hSw => ?_) ?_
  rotate_left
  · try dsimp only at hSw
    go_simp
    try with_reducible rfl
  try simp only [Act.put, List.setIfInBounds_toArray, List.set_cons_zero, List.set_cons_succ]
  refine take_at (i := 3) (v := ?_) (some 122) rfl rfl (by kernel_rfl) (by kernel_rfl) (by kernel_rfl) (fun _ _ _ h => h) hHeld (by rfl) (fun wS hSw => ?_) ?_
  rotate_left
  · refine exec_load_row 26 (.tmp 14) ?_ gx ?_ 26 (chC lx).toArray (0, 0) _ hSw.2.2.2.2.1 Try.underlying26 rfl (ch_info lx lxh) <;> rfl
  try simp only [Act.put, List.setIfInBounds_toArray, List.set_cons_zero, List.set_cons_succ]
  refine take_at (i := 5) (v := ?_) (some 124) rfl rfl (by kernel_rfl) (by kernel_rfl) (by kernel_rfl) (fun _ _ _ h => h) hHeld (by rfl) (fun wS hSw => ?_) ?_
  rotate_left
  · try dsimp only at hSw
    go_simp
    try with_reducible rfl
  try simp only [Act.put, List.setIfInBounds_toArray, List.set_cons_zero, List.set_cons_succ]
  refine take_at (i := 7) (v := ?_) (some 126) rfl rfl (by kernel_rfl) (by kernel_rfl) (by kernel_rfl) (fun _ _ _ h => h) hHeld (by rfl) (fun wS hSw => ?_) ?_
  rotate_left
  · try dsimp only at hSw
    go_simp
    try with_reducible rfl
  try simp only [Act.put, List.setIfInBounds_toArray, List.set_cons_zero, List.set_cons_succ]
  refine wpAnyH_ready (rs := [4]) (by kernel_rfl) (by simp) ?_
  refine AllReadyH.cons rfl (fun K hK => ?_) AllReadyH.nil
  simp only [List.getElem_toArray, List.getElem_cons_succ, List.getElem_cons_zero]
  go_simp
  try dsimp only
  obtain ⟨v1, hw1⟩ : ∃ v, (w9.alloc (.cells #[] 21)).drew = v := ⟨_, rfl⟩
  have hown1 : v1.ownsRow w9.heap.size 21 1 (.slice (some ⟨w9.heap.size, 0, none⟩) 0 0) 0 [] := by rw [← hw1]; exact own_none _ _
  have hv1 : Below w9.heap.size w9 v1 := by rw [← hw1]; exact ((Below.refl _ _).alloc (Nat.le_refl _) _).drew
  rw [hw1]
  clear hw1
  have hH1 : v1.heap[ga]? = some (.cells (chC la).toArray 26) ∧ v1.heap[gb]? = some (.cells (chC lb).toArray 26) ∧ v1.heap[gs]? = some (.cells (chC sa).toArray 26) ∧ v1.heap[gt]? = some (.cells (chC sb).toArray 26) ∧ v1.heap[gx]? = some (.cells (chC lx).toArray 26) ∧ True := ⟨heap_later hH0.1 hv1, heap_later hH0.2.1 hv1, heap_later hH0.2.2.1 hv1, heap_later hH0.2.2.2.1 hv1, heap_later hH0.2.2.2.2.1 hv1, trivial⟩
  have hV1 : Below w.heap.size w v1 := hV0.trans (hv1.mono hV0.size)
  try dsimp only
  have hOld := hHeld
  refine hK.out _ _ hH1 (fun _ => ?_)
  clear hK K
  refine wpAnyH_mono (S2 := fun w' => w'.heap[ga]? = some (.cells (chC la).toArray 26) ∧ w'.heap[gb]? = some (.cells (chC lb).toArray 26) ∧ w'.heap[gs]? = some (.cells (chC sa).toArray 26) ∧ w'.heap[gt]? = some (.cells (chC sb).toArray 26) ∧ w'.heap[gx]? = some (.cells (chC lx).toArray 26) ∧ True) (fun _ h => h) _ _ _ _ ?_
  clear hHeld
  have hHeld := hH1
  clear hOld
  try simp only [Act.put, List.setIfInBounds_toArray, List.set_cons_zero, List.set_cons_succ]
  refine wpAnyH_ready (rs := [6]) (by kernel_rfl) (by simp) ?_
  refine AllReadyH.cons rfl (fun K hK => ?_) AllReadyH.nil
  simp only [List.getElem_toArray, List.getElem_cons_succ, List.getElem_cons_zero]
  refine of_if (by rfl) ?_
  refine step_append_sees (.tmp 123) (.tmp 124) 22 rfl w9.heap.size 21 i0 _ 1 4 Try.underlying22 ii0 iz0 iz1 iz2 rfl (by omega) _ 0 [] rfl hown1 w.heap.size _ n _ _ rfl (HS1.out.below hV1 (Nat.le_refl _)) (r32_one _) (by simp only [maxLen]; omega) (by omega) hv1.size ?_
  intro u2 v2 hown2 hg2 hat2
  have hv2 : Below w9.heap.size w9 v2 := below_app2 hv1 hown1 hg2
  rw [Nat.zero_add, List.nil_append] at hown2
  obtain ⟨A5, c5, rfl, _⟩ := own_shape hown2
  clear hg2 hat2
  have hH2 : v2.heap[ga]? = some (.cells (chC la).toArray 26) ∧ v2.heap[gb]? = some (.cells (chC lb).toArray 26) ∧ v2.heap[gs]? = some (.cells (chC sa).toArray 26) ∧ v2.heap[gt]? = some (.cells (chC sb).toArray 26) ∧ v2.heap[gx]? = some (.cells (chC lx).toArray 26) ∧ True := ⟨heap_later hH0.1 hv2, heap_later hH0.2.1 hv2, heap_later hH0.2.2.1 hv2, heap_later hH0.2.2.2.1 hv2, heap_later hH0.2.2.2.2.1 hv2, trivial⟩
  have hV2 : Below w.heap.size w v2 := hV0.trans (hv2.mono hV0.size)
  try dsimp only
  have hOld := hHeld
  refine hK.out _ _ hH2 (fun _ => ?_)
  clear hK K
  refine wpAnyH_mono (S2 := fun w' => w'.heap[ga]? = some (.cells (chC la).toArray 26) ∧ w'.heap[gb]? = some (.cells (chC lb).toArray 26) ∧ w'.heap[gs]? = some (.cells (chC sa).toArray 26) ∧ w'.heap[gt]? = some (.cells (chC sb).toArray 26) ∧ w'.heap[gx]? = some (.cells (chC lx).toArray 26) ∧ True) (fun _ h => h) _ _ _ _ ?_
  clear hHeld
  have hHeld := hH2
  clear hOld
  try simp only [Act.put, List.setIfInBounds_toArray, List.set_cons_zero, List.set_cons_succ]
  refine wpAnyH_ready (rs := [8]) (by kernel_rfl) (by simp) ?_
  refine AllReadyH.cons rfl (fun K hK => ?_) AllReadyH.nil
  simp only [List.getElem_toArray, List.getElem_cons_succ, List.getElem_cons_zero]
  refine of_if (by rfl) ?_
  refine step_append_sees (.tmp 125) (.tmp 126) 22 rfl w9.heap.size 21 i0 _ 1 4 Try.underlying22 ii0 iz0 iz1 iz2 rfl (by omega) _ n (la.map r32) rfl hown2 w.heap.size _ n2 _ _ rfl (HS2.out.below hV2 (Nat.le_refl _)) (r32_one _) (by simp only [maxLen]; omega) (by omega) hv2.size ?_
  intro u3 v3 hown3 hg3 hat3
  have hv3 : Below w9.heap.size w9 v3 := below_app2 hv2 hown2 hg3
  rw [HMAP.out] at hown3
  obtain ⟨A6, c6, rfl, _⟩ := own_shape hown3
  clear hg3 hat3
  have hH3 : v3.heap[ga]? = some (.cells (chC la).toArray 26) ∧ v3.heap[gb]? = some (.cells (chC lb).toArray 26) ∧ v3.heap[gs]? = some (.cells (chC sa).toArray 26) ∧ v3.heap[gt]? = some (.cells (chC sb).toArray 26) ∧ v3.heap[gx]? = some (.cells (chC lx).toArray 26) ∧ True := ⟨heap_later hH0.1 hv3, heap_later hH0.2.1 hv3, heap_later hH0.2.2.1 hv3, heap_later hH0.2.2.2.1 hv3, heap_later hH0.2.2.2.2.1 hv3, trivial⟩
  have hV3 : Below w.heap.size w v3 := hV0.trans (hv3.mono hV0.size)
  clear hv3
  try dsimp only
  have hOld := hHeld
  refine hK.out _ _ hH3 (fun _ => ?_)
  clear hK K
  refine wpAnyH_mono (S2 := fun w' => w'.heap[ga]? = some (.cells (chC la).toArray 26) ∧ w'.heap[gb]? = some (.cells (chC lb).toArray 26) ∧ w'.heap[gs]? = some (.cells (chC sa).toArray 26) ∧ w'.heap[gt]? = some (.cells (chC sb).toArray 26) ∧ w'.heap[gx]? = some (.cells (chC lx).toArray 26) ∧ True) (fun _ h => h) _ _ _ _ ?_
  clear hHeld
  have hHeld := hH3
  clear hOld
  try simp only [Act.put, List.setIfInBounds_toArray, List.set_cons_zero, List.set_cons_succ]
  refine wpAnyH_ready (rs := [9]) (by kernel_rfl) (by simp) ?_
  refine AllReadyH.cons rfl (fun K hK => ?_) AllReadyH.nil
  simp only [List.getElem_toArray, List.getElem_cons_succ, List.getElem_cons_zero]
  go_simp
  refine (is_any A6 (n + n2) c6 _ lx v3 (Sees.of_own hown3) (Nat.le_refl _) (by omega)).mono ?_
  rintro e v4 ⟨rfl, hv4⟩
  have hH4 : v4.heap[ga]? = some (.cells (chC la).toArray 26) ∧ v4.heap[gb]? = some (.cells (chC lb).toArray 26) ∧ v4.heap[gs]? = some (.cells (chC sa).toArray 26) ∧ v4.heap[gt]? = some (.cells (chC sb).toArray 26) ∧ v4.heap[gx]? = some (.cells (chC lx).toArray 26) ∧ True := ⟨heap_later hH3.1 hv4, heap_later hH3.2.1 hv4, heap_later hH3.2.2.1 hv4, heap_later hH3.2.2.2.1 hv4, heap_later hH3.2.2.2.2.1 hv4, trivial⟩
  have hV4 : Below w.heap.size w v4 := hV3.trans (hv4.mono hV3.size)
  clear hv4
  try dsimp only
  have hOld := hHeld
  refine hK.out _ _ hH4 (fun _ => ?_)
  clear hK K
  refine wpAnyH_mono (S2 := fun w' => w'.heap[ga]? = some (.cells (chC la).toArray 26) ∧ w'.heap[gb]? = some (.cells (chC lb).toArray 26) ∧ w'.heap[gs]? = some (.cells (chC sa).toArray 26) ∧ w'.heap[gt]? = some (.cells (chC sb).toArray 26) ∧ w'.heap[gx]? = some (.cells (chC lx).toArray 26) ∧ True) (fun _ h => h) _ _ _ _ ?_
  clear hHeld
  have hHeld := hH4
  clear hOld
  try simp only [Act.put, List.setIfInBounds_toArray, List.set_cons_zero, List.set_cons_succ]
  refine take_at (i := 10) (v := ?_) (some 129) rfl rfl (by kernel_rfl) (by kernel_rfl) (by kernel_rfl) (fun _ _ _ h => h) hHeld (by rfl) (fun wS hSw => ?_) ?_
  rotate_left
  · try dsimp only at hSw
    go_simp
    try with_reducible rfl
  try simp only [Act.put, List.setIfInBounds_toArray, List.set_cons_zero, List.set_cons_succ]
  refine take_at (i := 11) (v := ?_) (some 130) rfl rfl (by kernel_rfl) (by kernel_rfl) (by kernel_rfl) (fun _ _ _ h => h) hHeld (by rfl) (fun wS hSw => ?_) ?_
  rotate_left
  · try dsimp only at hSw
    go_simp
    try with_reducible rfl
  try simp only [Act.put, List.setIfInBounds_toArray, List.set_cons_zero, List.set_cons_succ]
  refine take_at (i := 12) (v := ?_) (some 131) rfl rfl (by kernel_rfl) (by kernel_rfl) (by kernel_rfl) (fun _ _ _ h => h) hHeld (by rfl) (fun wS hSw => ?_) ?_
  rotate_left
  · refine exec_load_row 26 (.tmp 7) ?_ ga ?_ 26 (chC la).toArray (0, 0) _ hSw.1 Try.underlying26 rfl (ch_info la lah) <;> rfl
  try simp only [Act.put, List.setIfInBounds_toArray, List.set_cons_zero, List.set_cons_succ]
  refine take_at (i := 13) (v := ?_) (some 132) rfl rfl (by kernel_rfl) (by kernel_rfl) (by kernel_rfl) (fun _ _ _ h => h) hHeld (by rfl) (fun wS hSw => ?_) ?_
  rotate_left
  · try dsimp only at hSw
    go_simp
    try with_reducible rfl
  try simp only [Act.put, List.setIfInBounds_toArray, List.set_cons_zero, List.set_cons_succ]
  refine wpAnyH_ready (rs := [14]) (by kernel_rfl) (by simp) ?_
  refine AllReadyH.cons rfl (fun K hK => ?_) AllReadyH.nil
  simp only [List.getElem_toArray, List.getElem_cons_succ, List.getElem_cons_zero]
  go_simp
  refine (HI1.out v4 hV4).mono ?_
  rintro e v5 ⟨rfl, hv5⟩
  have hH5 : v5.heap[ga]? = some (.cells (chC la).toArray 26) ∧ v5.heap[gb]? = some (.cells (chC lb).toArray 26) ∧ v5.heap[gs]? = some (.cells (chC sa).toArray 26) ∧ v5.heap[gt]? = some (.cells (chC sb).toArray 26) ∧ v5.heap[gx]? = some (.cells (chC lx).toArray 26) ∧ True := ⟨heap_later hH4.1 hv5, heap_later hH4.2.1 hv5, heap_later hH4.2.2.1 hv5, heap_later hH4.2.2.2.1 hv5, heap_later hH4.2.2.2.2.1 hv5, trivial⟩
  have hV5 : Below w.heap.size w v5 := hV4.trans (hv5.mono hV4.size)
  clear hv5
  try dsimp only
  have hOld := hHeld
  refine hK.out _ _ hH5 (fun _ => ?_)
  clear hK K
  refine wpAnyH_mono (S2 := fun w' => w'.heap[ga]? = some (.cells (chC la).toArray 26) ∧ w'.heap[gb]? = some (.cells (chC lb).toArray 26) ∧ w'.heap[gs]? = some (.cells (chC sa).toArray 26) ∧ w'.heap[gt]? = some (.cells (chC sb).toArray 26) ∧ w'.heap[gx]? = some (.cells (chC lx).toArray 26) ∧ True) (fun _ h => h) _ _ _ _ ?_
  clear hHeld
  have hHeld := hH5
  clear hOld
  try simp only [Act.put, List.setIfInBounds_toArray, List.set_cons_zero, List.set_cons_succ]
  refine take_at (i := 15) (v := ?_) (some 134) rfl rfl (by kernel_rfl) (by kernel_rfl) (by kernel_rfl) (fun _ _ _ h => h) hHeld (by rfl) (fun wS hSw => ?_) ?_
  rotate_left
  · try dsimp only at hSw
    go_simp
    try with_reducible rfl
  try simp only [Act.put, List.setIfInBounds_toArray, List.set_cons_zero, List.set_cons_succ]
  refine take_at (i := 16) (v := ?_) (some 135) rfl rfl (by kernel_rfl) (by kernel_rfl) (by kernel_rfl) (fun _ _ _ h => h) hHeld (by rfl) (fun wS hSw => ?_) ?_
  rotate_left
  · try dsimp only at hSw
    go_simp
    try with_reducible rfl
  try simp only [Act.put, List.setIfInBounds_toArray, List.set_cons_zero, List.set_cons_succ]
  refine take_at (i := 17) (v := ?_) (some 136) rfl rfl (by kernel_rfl) (by kernel_rfl) (by kernel_rfl) (fun _ _ _ h => h) hHeld (by rfl) (fun wS hSw => ?_) ?_
  rotate_left
  · refine exec_load_row 26 (.tmp 9) ?_ gb ?_ 26 (chC lb).toArray (0, 0) _ hSw.2.1 Try.underlying26 rfl (ch_info lb lbh) <;> rfl
  try simp only [Act.put, List.setIfInBounds_toArray, List.set_cons_zero, List.set_cons_succ]
  refine take_at (i := 18) (v := ?_) (some 137) rfl rfl (by kernel_rfl) (by kernel_rfl) (by kernel_rfl) (fun _ _ _ h => h) hHeld (by rfl) (fun wS hSw => ?_) ?_
  rotate_left
  · try dsimp only at hSw
    go_simp
    try with_reducible rfl
  try simp only [Act.put, List.setIfInBounds_toArray, List.set_cons_zero, List.set_cons_succ]
  refine wpAnyH_ready (rs := [19]) (by kernel_rfl) (by simp) ?_
  refine AllReadyH.cons rfl (fun K hK => ?_) AllReadyH.nil
  simp only [List.getElem_toArray, List.getElem_cons_succ, List.getElem_cons_zero]
  go_simp
  refine (HI2.out v5 hV5).mono ?_
  rintro e v6 ⟨rfl, hv6⟩
  have hH6 : v6.heap[ga]? = some (.cells (chC la).toArray 26) ∧ v6.heap[gb]? = some (.cells (chC lb).toArray 26) ∧ v6.heap[gs]? = some (.cells (chC sa).toArray 26) ∧ v6.heap[gt]? = some (.cells (chC sb).toArray 26) ∧ v6.heap[gx]? = some (.cells (chC lx).toArray 26) ∧ True := ⟨heap_later hH5.1 hv6, heap_later hH5.2.1 hv6, heap_later hH5.2.2.1 hv6, heap_later hH5.2.2.2.1 hv6, heap_later hH5.2.2.2.2.1 hv6, trivial⟩
  have hV6 : Below w.heap.size w v6 := hV5.trans (hv6.mono hV5.size)
  clear hv6
  try dsimp only
  have hOld := hHeld
  refine hK.out _ _ hH6 (fun _ => ?_)
  clear hK K
  refine wpAnyH_mono (S2 := fun w' => w'.heap[ga]? = some (.cells (chC la).toArray 26) ∧ w'.heap[gb]? = some (.cells (chC lb).toArray 26) ∧ w'.heap[gs]? = some (.cells (chC sa).toArray 26) ∧ w'.heap[gt]? = some (.cells (chC sb).toArray 26) ∧ w'.heap[gx]? = some (.cells (chC lx).toArray 26) ∧ True) (fun _ h => h) _ _ _ _ ?_
  clear hHeld
  have hHeld := hH6
  clear hOld
  try simp only [Act.put, List.setIfInBounds_toArray, List.set_cons_zero, List.set_cons_succ]
  refine take_at (i := 20) (v := ?_) (some 139) rfl rfl (by kernel_rfl) (by kernel_rfl) (by kernel_rfl) (fun _ _ _ h => h) hHeld (by rfl) (fun wS hSw => ?_) ?_
  rotate_left
  · try dsimp only at hSw
    go_simp
    try with_reducible rfl
  try simp only [Act.put, List.setIfInBounds_toArray, List.set_cons_zero, List.set_cons_succ]
  refine take_at (i := 21) (v := ?_) (some 140) rfl rfl (by kernel_rfl) (by kernel_rfl) (by kernel_rfl) (fun _ _ _ h => h) hHeld (by rfl) (fun wS hSw => ?_) ?_
  rotate_left
  · try dsimp only at hSw
    go_simp
    try with_reducible rfl
  try simp only [Act.put, List.setIfInBounds_toArray, List.set_cons_zero, List.set_cons_succ]
  refine wpAnyH_ready (rs := [22]) (by kernel_rfl) (by simp) ?_
  refine AllReadyH.cons rfl (fun K hK => ?_) AllReadyH.nil
  simp only [List.getElem_toArray, List.getElem_cons_succ, List.getElem_cons_zero]
  go_simp
  refine (known_any v6).mono ?_
  rintro e v7 ⟨rfl, hv7⟩
  have hH7 : v7.heap[ga]? = some (.cells (chC la).toArray 26) ∧ v7.heap[gb]? = some (.cells (chC lb).toArray 26) ∧ v7.heap[gs]? = some (.cells (chC sa).toArray 26) ∧ v7.heap[gt]? = some (.cells (chC sb).toArray 26) ∧ v7.heap[gx]? = some (.cells (chC lx).toArray 26) ∧ True := ⟨heap_later hH6.1 hv7, heap_later hH6.2.1 hv7, heap_later hH6.2.2.1 hv7, heap_later hH6.2.2.2.1 hv7, heap_later hH6.2.2.2.2.1 hv7, trivial⟩
  have hV7 : Below w.heap.size w v7 := hV6.trans (hv7.mono hV6.size)
  clear hv7
  try dsimp only
  have hOld := hHeld
  refine hK.out _ _ hH7 (fun _ => ?_)
  clear hK K
  refine wpAnyH_mono (S2 := fun w' => w'.heap[ga]? = some (.cells (chC la).toArray 26) ∧ w'.heap[gb]? = some (.cells (chC lb).toArray 26) ∧ w'.heap[gs]? = some (.cells (chC sa).toArray 26) ∧ w'.heap[gt]? = some (.cells (chC sb).toArray 26) ∧ w'.heap[gx]? = some (.cells (chC lx).toArray 26) ∧ True) (fun _ h => h) _ _ _ _ ?_
  clear hHeld
  have hHeld := hH7
  clear hOld
  try simp only [Act.put, List.setIfInBounds_toArray, List.set_cons_zero, List.set_cons_succ]
  refine take_at (i := 23) (v := ?_) (some 142) rfl rfl (by kernel_rfl) (by kernel_rfl) (by kernel_rfl) (fun _ _ _ h => h) hHeld (by rfl) (fun wS hSw => ?_) ?_
  rotate_left
  · try dsimp only at hSw
    go_simp
    try with_reducible rfl
  try simp only [Act.put, List.setIfInBounds_toArray, List.set_cons_zero, List.set_cons_succ]
  refine take_at (i := 24) (v := ?_) (some 6) rfl rfl (by kernel_rfl) (by kernel_rfl) (by kernel_rfl) (fun _ _ _ h => h) hHeld (by rfl) (fun wS hSw => ?_) ?_
  rotate_left
  · try dsimp only at hSw
    go_simp
    try with_reducible rfl
  try simp only [Act.put, List.setIfInBounds_toArray, List.set_cons_zero, List.set_cons_succ]
  refine wpAnyH_done (by kernel_rfl) ?_ _
  obtain ⟨w10, hw10⟩ : ∃ v, v7 = v := ⟨_, rfl⟩
  have P10 := Lib.hid (show w10.heap[ga]? = some (.cells (chC la).toArray 26) ∧ w10.heap[gb]? = some (.cells (chC lb).toArray 26) ∧ w10.heap[gs]? = some (.cells (chC sa).toArray 26) ∧ w10.heap[gt]? = some (.cells (chC sb).toArray 26) ∧ w10.heap[gx]? = some (.cells (chC lx).toArray 26) ∧ True by rw [← hw10]; exact hH7)
  have K10 := Lib.hid (show Below w.heap.size w w10 by rw [← hw10]; exact hV7)
  rw [hw10]
  clear hw10 hHeld hV0 hH0 hV1 hH1 hV2 hH2 hV3 hH3 hV4 hH4 hV5 hH5 hV6 hH6 hV7 hH7
  go_wp2_with fail
  go_ret
  exact ⟨rfl, K10.out⟩

set_option maxRecDepth 100000 in
set_option maxHeartbeats 4000000 in
theorem splits_bad (A A2 : Option Addr) (n n2 c c2 : Nat) (k1 k2 : List Int) (i : Int) (w : World) (hs1 : Sees w w.heap.size 1 A n (k1.map r32)) (hs2 : Sees w w.heap.size 1 A2 n2 (k2.map r32)) (hn : n ≤ 1000) (hn2 : n2 ≤ 1000) (h : ofE k1 ≠ 0 ∨ ofE k2 ≠ 0) :
    Calls Try.prog 8 #[.slice A n c, .slice A2 n2 c2, .int .i64 i] w fun e w' => e = .returned (.bool true) ∧ Below w.heap.size w w' := by
  have lah : (ofC k1).length ≤ 32 := ofC_len k1
  have lbh : (ofC k2).length ≤ 32 := ofC_len k2
  have hnI : (n : Int) ≤ 1000 := by omega
  have hn2I : (n2 : Int) ≤ 1000 := by omega
  have HO1 := Lib.hid (fun (w1 : World) (hb : Below w.heap.size w w1) => of_any A n c w.heap.size k1 w1 (hs1.below hb (Nat.le_refl _)) hb.size hn)
  have HO2 := Lib.hid (fun (w1 : World) (hb : Below w.heap.size w w1) => of_any A2 n2 c2 w.heap.size k2 w1 (hs2.below hb (Nat.le_refl _)) hb.size hn2)
  obtain ⟨la, hla⟩ : ∃ x, ofC k1 = x := ⟨_, rfl⟩
  obtain ⟨lb, hlb⟩ : ∃ x, ofC k2 = x := ⟨_, rfl⟩
  obtain ⟨ea, hea⟩ : ∃ x, ofE k1 = x := ⟨_, rfl⟩
  obtain ⟨eb, heb⟩ : ∃ x, ofE k2 = x := ⟨_, rfl⟩
  rw [hla, hea] at HO1
  rw [hlb, heb] at HO2
  rw [hla] at lah
  rw [hlb] at lbh
  rw [hea, heb] at h
  clear hla hlb hea heb hs1 hs2
  go_enter Try.func8, Try.ntmps8
  have K0 := Lib.hid (Below.refl w.heap.size w)
  go_wp2_with fail
  refine (HO1.out w K0.out).mono ?_
  rintro e w1 ⟨rfl, hb1⟩
  have K1 := Lib.hid hb1
  clear hb1
  have hX1 : Below w1.heap.size w1 (w1.alloc (.cells (chC la).toArray 26)) := (Below.refl _ _).alloc (Nat.le_refl _) _
  clear hX1
  go_wp2_with (first | (refine wpList_store_row rfl 26 (.tmp 7) (.tmp 28) rfl w1.heap.size (chC la).toArray rfl rfl 26 (chC []).toArray (heap_alloc_new w1 _) (ch_info la lah) (ch_size la lah) (all_one la) ?_; rw [alloc_setRow]))
  obtain ⟨ga, hga⟩ : ∃ g, w1.heap.size = g := ⟨_, rfl⟩
  obtain ⟨w2, hw2⟩ : ∃ v, (w1.alloc (.cells (chC la).toArray 26)) = v := ⟨_, rfl⟩
  have P2 := Lib.hid (show w2.heap[ga]? = some (.cells (chC la).toArray 26) ∧ True by
    rw [← hw2]
    exact ⟨by rw [← hga]; exact heap_alloc_new w1 _, trivial⟩)
  have K2 := Lib.hid (show Below w.heap.size w w2 by rw [← hw2]; exact K1.out.alloc K1.out.size _)
  rw [hw2, hga]
  clear hw2 hga
  refine (HO2.out w2 K2.out).mono ?_
  rintro e w3 ⟨rfl, hb3⟩
  have K3 := Lib.hid (K2.out.trans (hb3.mono K2.out.size))
  have P3 := Lib.hid (show w3.heap[ga]? = some (.cells (chC la).toArray 26) ∧ True from ⟨heap_later P2.out.1 hb3, trivial⟩)
  clear hb3
  have hcase : (ea != 0) = true ∨ ((ea != 0) = false ∧ (eb != 0) = true) := by
    simp only [bne_iff_ne, bne_eq_false_iff_eq]
    omega
  clear h
  rcases hcase with e1 | ⟨e1, e2⟩
  · go_wp2_with (refine wpList_store_row rfl 26 (.tmp 9) (.tmp 33) rfl w3.heap.size (chC lb).toArray rfl rfl 26 (chC []).toArray (heap_alloc_new w3 _) (ch_info lb lbh) (ch_size lb lbh) (all_one lb) ?_; rw [alloc_setRow])
    refine (known_any _).mono ?_
    rintro e w9 ⟨rfl, hb9⟩
    go_wp2_with fail
    go_ret
    exact ⟨rfl, (K3.out.alloc K3.out.size _).trans (hb9.mono (by have := K3.out.size; simp; omega))⟩
  · go_wp2_with (refine wpList_store_row rfl 26 (.tmp 9) (.tmp 33) rfl w3.heap.size (chC lb).toArray rfl rfl 26 (chC []).toArray (heap_alloc_new w3 _) (ch_info lb lbh) (ch_size lb lbh) (all_one lb) ?_; rw [alloc_setRow])
    refine (known_any _).mono ?_
    rintro e w9 ⟨rfl, hb9⟩
    go_wp2_with fail
    go_ret
    exact ⟨rfl, (K3.out.alloc K3.out.size _).trans (hb9.mono (by have := K3.out.size; simp; omega))⟩

set_option maxHeartbeats 1000000 in
theorem splits_over (A A2 : Option Addr) (n n2 c c2 : Nat) (i : Int) (w : World) (h : 1000 < n ∨ 1000 < n2) (hn : (n : Int) ≤ 9223372036854775807) (hn2 : (n2 : Int) ≤ 9223372036854775807) :
    Calls Try.prog 8 #[.slice A n c, .slice A2 n2 c2, .int .i64 i] w fun e w' => e = .returned (.bool true) ∧ Below w.heap.size w w' := by
  have hh : (1000 : Int) < n ∨ (¬ (1000 : Int) < n ∧ (1000 : Int) < n2) := by omega
  clear h
  rcases hh with h | ⟨h, h2⟩
  all_goals
    go_enter Try.func8, Try.ntmps8
    go_wp2_with fail
    refine (known_any _).mono ?_
    rintro e w' ⟨rfl, hb⟩
    go_wp2_with fail
    go_ret
    exact ⟨rfl, hb⟩

theorem chunkSplits_law (A A2 : Option Addr) (n n2 c c2 : Nat) (k1 k2 : List Int) (i : Int) (w : World) (hs1 : Sees w w.heap.size 1 A n (k1.map r32)) (hs2 : Sees w w.heap.size 1 A2 n2 (k2.map r32)) (hnc : n ≤ c)
    (hn : (n : Int) ≤ 9223372036854775807) (hn2 : (n2 : Int) ≤ 9223372036854775807) (hi0 : -9223372036854775808 ≤ i) (hi1 : i ≤ 9223372036854775807) :
    Calls Try.prog 8 #[.slice A n c, .slice A2 n2 c2, .int .i64 i] w fun e w' => e = .returned (.bool true) ∧ Below w.heap.size w w' := by
  by_cases h : 1000 < n ∨ 1000 < n2
  · exact splits_over A A2 n n2 c c2 i w h hn hn2
  · by_cases he : ofE k1 = 0 ∧ ofE k2 = 0
    · have hl1 : k1.length = n := by have := hs1.1; simp at this; omega
      have hl2 : k2.length = n2 := by have := hs2.1; simp at this; omega
      have h1 := (ofE_ok he.1).2
      have h2 := (ofE_ok he.2).2
      by_cases hlow : i < 0
      · by_cases h32 : (n : Int) + n2 ≤ 32
        · exact splits_neg_short A A2 n n2 c c2 k1 k2 i w hs1 hs2 (by omega) (by omega) hnc he.1 he.2 hlow hi0 hi1 h32
        · exact splits_neg_long A A2 n n2 c c2 k1 k2 i w hs1 hs2 (by omega) (by omega) hnc he.1 he.2 hlow hi0 hi1 (by omega)
      · by_cases hbig : (n : Int) < i
        · by_cases h32 : (n : Int) + n2 ≤ 32
          · exact splits_big_short A A2 n n2 c c2 k1 k2 i w hs1 hs2 (by omega) (by omega) hnc he.1 he.2 hbig hi0 hi1 h32
          · exact splits_big_long A A2 n n2 c c2 k1 k2 i w hs1 hs2 (by omega) (by omega) hnc he.1 he.2 hbig hi0 hi1 (by omega)
        · obtain ⟨k, rfl⟩ : ∃ k : Nat, i = (k : Int) := ⟨i.toNat, by omega⟩
          by_cases h32 : (n : Int) + n2 ≤ 32
          · exact splits_in_short A A2 n n2 c c2 k1 k2 k w hs1 hs2 (by omega) (by omega) hnc he.1 he.2 (by omega) h32
          · exact splits_in_long A A2 n n2 c c2 k1 k2 k w hs1 hs2 (by omega) (by omega) hnc he.1 he.2 (by omega) (by omega)
    · exact splits_bad A A2 n n2 c c2 k1 k2 i w hs1 hs2 (by omega) (by omega) (by omega)

end Go.Proofs.Ytcdpbkhlkgefdaa
