/-
  The walk of rubriclaw09.ChunkJoins.
-/
import Derived.Test.YtcdpbkhlkgefdaaChunkN
namespace Go.Proofs.Ytcdpbkhlkgefdaa
open Go.RowKit

set_option maxRecDepth 100000 in
set_option maxHeartbeats 8000000 in
theorem chunkJoins_any (A A2 A3 : Option Addr) (n n2 n3 c c2 c3 : Nat) (k1 k2 k3 : List Int) (w : World) (hs1 : Sees w w.heap.size 1 A n (k1.map r32)) (hs2 : Sees w w.heap.size 1 A2 n2 (k2.map r32)) (hs3 : Sees w w.heap.size 1 A3 n3 (k3.map r32)) (hn : n ≤ 100) (hn2 : n2 ≤ 100) (hn3 : n3 ≤ 100) :
    Calls Try.prog 7 #[.slice A n c, .slice A2 n2 c2, .slice A3 n3 c3] w fun e w' => e = .returned (.bool true) ∧ Below w.heap.size w w' := by
  have hl1 : k1.length = n := by have := hs1.1; simp at this; omega
  have hl2 : k2.length = n2 := by have := hs2.1; simp at this; omega
  have hl3 : k3.length = n3 := by have := hs3.1; simp at this; omega
  have hnI : (n : Int) ≤ 100 := by omega
  have hn2I : (n2 : Int) ≤ 100 := by omega
  have hn3I : (n3 : Int) ≤ 100 := by omega
  have HO1 := Lib.hid (fun (w1 : World) (hb : Below w.heap.size w w1) => of_any A n c w.heap.size k1 w1 (hs1.below hb (Nat.le_refl _)) hb.size (by omega))
  have HO2 := Lib.hid (fun (w1 : World) (hb : Below w.heap.size w w1) => of_any A2 n2 c2 w.heap.size k2 w1 (hs2.below hb (Nat.le_refl _)) hb.size (by omega))
  have HO3 := Lib.hid (fun (w1 : World) (hb : Below w.heap.size w w1) => of_any A3 n3 c3 w.heap.size k3 w1 (hs3.below hb (Nat.le_refl _)) hb.size (by omega))
  obtain ⟨la, hla⟩ : ∃ x, ofC k1 = x := ⟨_, rfl⟩
  obtain ⟨lb, hlb⟩ : ∃ x, ofC k2 = x := ⟨_, rfl⟩
  obtain ⟨lc, hlc⟩ : ∃ x, ofC k3 = x := ⟨_, rfl⟩
  obtain ⟨ea, hea⟩ : ∃ x, ofE k1 = x := ⟨_, rfl⟩
  obtain ⟨eb, heb⟩ : ∃ x, ofE k2 = x := ⟨_, rfl⟩
  obtain ⟨ec, hec⟩ : ∃ x, ofE k3 = x := ⟨_, rfl⟩
  have lah : la.length ≤ 32 := by rw [← hla]; exact ofC_len k1
  have lbh : lb.length ≤ 32 := by rw [← hlb]; exact ofC_len k2
  have lch : lc.length ≤ 32 := by rw [← hlc]; exact ofC_len k3
  rw [hla, hea] at HO1
  rw [hlb, heb] at HO2
  rw [hlc, hec] at HO3
  have HE1 := Lib.hid (show ea = 0 → la.length = n by intro h; rw [← hla, (ofE_ok (hea.trans h)).1, hl1])
  have HE2 := Lib.hid (show eb = 0 → lb.length = n2 by intro h; rw [← hlb, (ofE_ok (heb.trans h)).1, hl2])
  have HE3 := Lib.hid (show ec = 0 → lc.length = n3 by intro h; rw [← hlc, (ofE_ok (hec.trans h)).1, hl3])
  clear hla hlb hlc hea heb hec hl1 hl2 hl3 hs1 hs2 hs3
  go_enter Try.func7, Try.ntmps7
  have K0 := Lib.hid (Below.refl w.heap.size w)
  go_wp2_with fail
  refine (HO1.out w K0.out).mono ?_
  rintro e w1 ⟨rfl, hb1⟩
  have K1 := Lib.hid hb1
  clear hb1
  have hX2 : Below w1.heap.size w1 (w1.alloc (.cells (chC la).toArray 26)) := (Below.refl _ _).alloc (Nat.le_refl _) _
  clear hX2
  go_wp2_with (first | (refine wpList_store_row rfl 26 (.tmp 7) (.tmp 38) rfl w1.heap.size (chC la).toArray rfl rfl 26 (chC []).toArray (heap_alloc_new w1 _) (ch_info la lah) (ch_size la lah) (all_one la) ?_; rw [alloc_setRow]))
  obtain ⟨ga, hga⟩ : ∃ g, w1.heap.size = g := ⟨_, rfl⟩
  obtain ⟨w2, hw2⟩ : ∃ v, w1.alloc (.cells (chC la).toArray 26) = v := ⟨_, rfl⟩
  have P2 := Lib.hid (show w2.heap[ga]? = some (.cells (chC la).toArray 26) ∧ True by
    rw [← hw2]
    exact ⟨by rw [← hga]; exact heap_alloc_new w1 _, trivial⟩)
  have K2 := Lib.hid (show Below w.heap.size w w2 by rw [← hw2]; exact K1.out.alloc K1.out.size _)
  rw [hw2, hga]
  clear hw2 hga
  refine (HO2.out w2 K2.out).mono ?_
  rintro e w3 ⟨rfl, hb3⟩
  have K3 := Lib.hid (K2.out.trans (hb3.mono K2.out.size))
  have P3 := Lib.hid (show w3.heap[ga]? = some (.cells (chC la).toArray 26) ∧ True from ⟨heap_later P2.out.1 hb3, trivial⟩)
  clear hb3
  have hX4 : Below w3.heap.size w3 (w3.alloc (.cells (chC lb).toArray 26)) := (Below.refl _ _).alloc (Nat.le_refl _) _
  have PX4 := Lib.hid (show (w3.alloc (.cells (chC lb).toArray 26)).heap[ga]? = some (.cells (chC la).toArray 26) ∧ True from ⟨heap_later P3.out.1 hX4, trivial⟩)
  clear hX4
  go_wp2_with (first | (refine wpList_store_row rfl 26 (.tmp 9) (.tmp 43) rfl w3.heap.size (chC lb).toArray rfl rfl 26 (chC []).toArray (heap_alloc_new w3 _) (ch_info lb lbh) (ch_size lb lbh) (all_one lb) ?_; rw [alloc_setRow]))
  obtain ⟨gb, hgb⟩ : ∃ g, w3.heap.size = g := ⟨_, rfl⟩
  obtain ⟨w4, hw4⟩ : ∃ v, w3.alloc (.cells (chC lb).toArray 26) = v := ⟨_, rfl⟩
  have P4 := Lib.hid (show w4.heap[ga]? = some (.cells (chC la).toArray 26) ∧ w4.heap[gb]? = some (.cells (chC lb).toArray 26) ∧ True by
    rw [← hw4]
    exact ⟨PX4.out.1, by rw [← hgb]; exact heap_alloc_new w3 _, trivial⟩)
  have K4 := Lib.hid (show Below w.heap.size w w4 by rw [← hw4]; exact K3.out.alloc K3.out.size _)
  rw [hw4, hgb]
  clear hw4 hgb PX4
  refine (HO3.out w4 K4.out).mono ?_
  rintro e w5 ⟨rfl, hb5⟩
  have K5 := Lib.hid (K4.out.trans (hb5.mono K4.out.size))
  have P5 := Lib.hid (show w5.heap[ga]? = some (.cells (chC la).toArray 26) ∧ w5.heap[gb]? = some (.cells (chC lb).toArray 26) ∧ True from ⟨heap_later P4.out.1 hb5, heap_later P4.out.2.1 hb5, trivial⟩)
  clear hb5
  have hcase : (ea != 0) = true ∨ ((ea != 0) = false ∧ (eb != 0) = true) ∨ ((ea != 0) = false ∧ (eb != 0) = false ∧ (ec != 0) = true) ∨ (ea = 0 ∧ eb = 0 ∧ ec = 0 ∧ (32 : Int) < (n : Int) + n2 + n3) ∨ (ea = 0 ∧ eb = 0 ∧ ec = 0 ∧ (n : Int) + n2 + n3 ≤ 32) := by
    simp only [bne_iff_ne, bne_eq_false_iff_eq]
    omega
  rcases hcase with e1 | ⟨e1, e2⟩ | ⟨e1, e2, e3⟩ | ⟨rfl, rfl, rfl, h32⟩ | ⟨rfl, rfl, rfl, h32⟩
  · clear HE1 HE2 HE3
    go_wp2_with (refine wpList_store_row rfl 26 (.tmp 11) (.tmp 48) rfl w5.heap.size (chC lc).toArray rfl rfl 26 (chC []).toArray (heap_alloc_new w5 _) (ch_info lc lch) (ch_size lc lch) (all_one lc) ?_; rw [alloc_setRow])
    refine (known_any _).mono ?_
    rintro e w9 ⟨rfl, hb9⟩
    go_wp2_with fail
    go_ret
    exact ⟨rfl, (K5.out.alloc K5.out.size _).trans (hb9.mono (by have := K5.out.size; simp; omega))⟩
  · clear HE1 HE2 HE3
    go_wp2_with (refine wpList_store_row rfl 26 (.tmp 11) (.tmp 48) rfl w5.heap.size (chC lc).toArray rfl rfl 26 (chC []).toArray (heap_alloc_new w5 _) (ch_info lc lch) (ch_size lc lch) (all_one lc) ?_; rw [alloc_setRow])
    refine (known_any _).mono ?_
    rintro e w9 ⟨rfl, hb9⟩
    go_wp2_with fail
    go_ret
    exact ⟨rfl, (K5.out.alloc K5.out.size _).trans (hb9.mono (by have := K5.out.size; simp; omega))⟩
  · clear HE1 HE2 HE3
    go_wp2_with (refine wpList_store_row rfl 26 (.tmp 11) (.tmp 48) rfl w5.heap.size (chC lc).toArray rfl rfl 26 (chC []).toArray (heap_alloc_new w5 _) (ch_info lc lch) (ch_size lc lch) (all_one lc) ?_; rw [alloc_setRow])
    refine (known_any _).mono ?_
    rintro e w9 ⟨rfl, hb9⟩
    go_wp2_with fail
    go_ret
    exact ⟨rfl, (K5.out.alloc K5.out.size _).trans (hb9.mono (by have := K5.out.size; simp; omega))⟩
  · clear HE1 HE2 HE3
    go_wp2_with (refine wpList_store_row rfl 26 (.tmp 11) (.tmp 48) rfl w5.heap.size (chC lc).toArray rfl rfl 26 (chC []).toArray (heap_alloc_new w5 _) (ch_info lc lch) (ch_size lc lch) (all_one lc) ?_; rw [alloc_setRow])
    refine (known_any _).mono ?_
    rintro e w9 ⟨rfl, hb9⟩
    go_wp2_with fail
    go_ret
    exact ⟨rfl, (K5.out.alloc K5.out.size _).trans (hb9.mono (by have := K5.out.size; simp; omega))⟩
  have hla := HE1.out rfl
  have hlb := HE2.out rfl
  have hlc := HE3.out rfl
  obtain ⟨lx, hlx⟩ : ∃ x, la ++ lb = x := ⟨_, rfl⟩
  obtain ⟨ly, hly⟩ : ∃ x, lb ++ lc = x := ⟨_, rfl⟩
  obtain ⟨lp, hlp⟩ : ∃ x, lx ++ lc = x := ⟨_, rfl⟩
  obtain ⟨lq, hlq⟩ : ∃ x, la ++ ly = x := ⟨_, rfl⟩
  have hxl : lx.length = n + n2 := by rw [← hlx, List.length_append]; omega
  have hyl : ly.length = n2 + n3 := by rw [← hly, List.length_append]; omega
  have lxh : lx.length ≤ 32 := by omega
  have lyh : ly.length ≤ 32 := by omega
  have lph : lp.length ≤ 32 := by rw [← hlp, List.length_append]; omega
  have lqh : lq.length ≤ 32 := by rw [← hlq, List.length_append]; omega
  have HJ1 := Lib.hid (fun w => join_any la lb w (by omega))
  have HJ2 := Lib.hid (fun w => join_any lb lc w (by omega))
  have HJ3 := Lib.hid (fun w => join_any lx lc w (by omega))
  have HJ4 := Lib.hid (fun w => join_any la ly w (by omega))
  rw [hlx] at HJ1
  rw [hly] at HJ2
  rw [hlp] at HJ3
  rw [hlq] at HJ4
  have HEQ := Lib.hid (show (lp == lq) = true by rw [← hlp, ← hlq, ← hlx, ← hly, List.append_assoc]; simp)
  have HNp := Lib.hid (fun w => newlines_any lp w lph)
  rw [show nls lp = nls la + nls lb + nls lc by rw [← hlp, ← hlx, nls_append, nls_append]] at HNp
  have HNa := Lib.hid (fun w => newlines_any la w lah)
  have HNb := Lib.hid (fun w => newlines_any lb w lbh)
  have HNc := Lib.hid (fun w => newlines_any lc w lch)
  have hna := nls_le la
  have hnb := nls_le lb
  have hnc := nls_le lc
  clear hlx hly hlp hlq hla hlb hlc hxl hyl HE1 HE2 HE3 HO1 HO2 HO3
  have hX6 : Below w5.heap.size w5 (w5.alloc (.cells (chC lc).toArray 26)) := (Below.refl _ _).alloc (Nat.le_refl _) _
  have PX6 := Lib.hid (show (w5.alloc (.cells (chC lc).toArray 26)).heap[ga]? = some (.cells (chC la).toArray 26) ∧ (w5.alloc (.cells (chC lc).toArray 26)).heap[gb]? = some (.cells (chC lb).toArray 26) ∧ True from ⟨heap_later P5.out.1 hX6, heap_later P5.out.2.1 hX6, trivial⟩)
  clear hX6
  go_wp2_with (first | (refine wpList_store_row rfl 26 (.tmp 11) (.tmp 48) rfl w5.heap.size (chC lc).toArray rfl rfl 26 (chC []).toArray (heap_alloc_new w5 _) (ch_info lc lch) (ch_size lc lch) (all_one lc) ?_; rw [alloc_setRow]) | (refine wpList_load_row rfl 26 (.tmp 7) rfl ga rfl 26 (chC la).toArray (0, 0) _ PX6.out.1 Try.underlying26 rfl (ch_info la lah) ?_) | (refine wpList_load_row rfl 26 (.tmp 9) rfl gb rfl 26 (chC lb).toArray (0, 0) _ PX6.out.2.1 Try.underlying26 rfl (ch_info lb lbh) ?_))
  obtain ⟨gc, hgc⟩ : ∃ g, w5.heap.size = g := ⟨_, rfl⟩
  obtain ⟨w6, hw6⟩ : ∃ v, w5.alloc (.cells (chC lc).toArray 26) = v := ⟨_, rfl⟩
  have P6 := Lib.hid (show w6.heap[ga]? = some (.cells (chC la).toArray 26) ∧ w6.heap[gb]? = some (.cells (chC lb).toArray 26) ∧ w6.heap[gc]? = some (.cells (chC lc).toArray 26) ∧ True by
    rw [← hw6]
    exact ⟨PX6.out.1, PX6.out.2.1, by rw [← hgc]; exact heap_alloc_new w5 _, trivial⟩)
  have K6 := Lib.hid (show Below w.heap.size w w6 by rw [← hw6]; exact K5.out.alloc K5.out.size _)
  rw [hw6, hgc]
  clear hw6 hgc PX6
  refine (HJ1.out w6).mono ?_
  rintro e w7 ⟨rfl, hb7⟩
  have K7 := Lib.hid (K6.out.trans (hb7.mono K6.out.size))
  have P7 := Lib.hid (show w7.heap[ga]? = some (.cells (chC la).toArray 26) ∧ w7.heap[gb]? = some (.cells (chC lb).toArray 26) ∧ w7.heap[gc]? = some (.cells (chC lc).toArray 26) ∧ True from ⟨heap_later P6.out.1 hb7, heap_later P6.out.2.1 hb7, heap_later P6.out.2.2.1 hb7, trivial⟩)
  clear hb7
  have hX8 : Below w7.heap.size w7 (w7.alloc (.cells (chC lx).toArray 26)) := (Below.refl _ _).alloc (Nat.le_refl _) _
  have PX8 := Lib.hid (show (w7.alloc (.cells (chC lx).toArray 26)).heap[ga]? = some (.cells (chC la).toArray 26) ∧ (w7.alloc (.cells (chC lx).toArray 26)).heap[gb]? = some (.cells (chC lb).toArray 26) ∧ (w7.alloc (.cells (chC lx).toArray 26)).heap[gc]? = some (.cells (chC lc).toArray 26) ∧ True from ⟨heap_later P7.out.1 hX8, heap_later P7.out.2.1 hX8, heap_later P7.out.2.2.1 hX8, trivial⟩)
  clear hX8
  go_wp2_with (first | (refine wpList_store_row rfl 26 (.tmp 13) (.tmp 76) rfl w7.heap.size (chC lx).toArray rfl rfl 26 (chC []).toArray (heap_alloc_new w7 _) (ch_info lx lxh) (ch_size lx lxh) (all_one lx) ?_; rw [alloc_setRow]) | (refine wpList_load_row rfl 26 (.tmp 9) rfl gb rfl 26 (chC lb).toArray (0, 0) _ PX8.out.2.1 Try.underlying26 rfl (ch_info lb lbh) ?_) | (refine wpList_load_row rfl 26 (.tmp 11) rfl gc rfl 26 (chC lc).toArray (0, 0) _ PX8.out.2.2.1 Try.underlying26 rfl (ch_info lc lch) ?_))
  obtain ⟨gx, hgx⟩ : ∃ g, w7.heap.size = g := ⟨_, rfl⟩
  obtain ⟨w8, hw8⟩ : ∃ v, w7.alloc (.cells (chC lx).toArray 26) = v := ⟨_, rfl⟩
  have P8 := Lib.hid (show w8.heap[ga]? = some (.cells (chC la).toArray 26) ∧ w8.heap[gb]? = some (.cells (chC lb).toArray 26) ∧ w8.heap[gc]? = some (.cells (chC lc).toArray 26) ∧ w8.heap[gx]? = some (.cells (chC lx).toArray 26) ∧ True by
    rw [← hw8]
    exact ⟨PX8.out.1, PX8.out.2.1, PX8.out.2.2.1, by rw [← hgx]; exact heap_alloc_new w7 _, trivial⟩)
  have K8 := Lib.hid (show Below w.heap.size w w8 by rw [← hw8]; exact K7.out.alloc K7.out.size _)
  rw [hw8, hgx]
  clear hw8 hgx PX8
  refine (HJ2.out w8).mono ?_
  rintro e w9 ⟨rfl, hb9⟩
  have K9 := Lib.hid (K8.out.trans (hb9.mono K8.out.size))
  have P9 := Lib.hid (show w9.heap[ga]? = some (.cells (chC la).toArray 26) ∧ w9.heap[gb]? = some (.cells (chC lb).toArray 26) ∧ w9.heap[gc]? = some (.cells (chC lc).toArray 26) ∧ w9.heap[gx]? = some (.cells (chC lx).toArray 26) ∧ True from ⟨heap_later P8.out.1 hb9, heap_later P8.out.2.1 hb9, heap_later P8.out.2.2.1 hb9, heap_later P8.out.2.2.2.1 hb9, trivial⟩)
  clear hb9
  have hX10 : Below w9.heap.size w9 (w9.alloc (.cells (chC ly).toArray 26)) := (Below.refl _ _).alloc (Nat.le_refl _) _
  have PX10 := Lib.hid (show (w9.alloc (.cells (chC ly).toArray 26)).heap[ga]? = some (.cells (chC la).toArray 26) ∧ (w9.alloc (.cells (chC ly).toArray 26)).heap[gb]? = some (.cells (chC lb).toArray 26) ∧ (w9.alloc (.cells (chC ly).toArray 26)).heap[gc]? = some (.cells (chC lc).toArray 26) ∧ (w9.alloc (.cells (chC ly).toArray 26)).heap[gx]? = some (.cells (chC lx).toArray 26) ∧ True from ⟨heap_later P9.out.1 hX10, heap_later P9.out.2.1 hX10, heap_later P9.out.2.2.1 hX10, heap_later P9.out.2.2.2.1 hX10, trivial⟩)
  clear hX10
  go_wp2_with (first | (refine wpList_store_row rfl 26 (.tmp 15) (.tmp 82) rfl w9.heap.size (chC ly).toArray rfl rfl 26 (chC []).toArray (heap_alloc_new w9 _) (ch_info ly lyh) (ch_size ly lyh) (all_one ly) ?_; rw [alloc_setRow]) | (refine wpList_load_row rfl 26 (.tmp 11) rfl gc rfl 26 (chC lc).toArray (0, 0) _ PX10.out.2.2.1 Try.underlying26 rfl (ch_info lc lch) ?_) | (refine wpList_load_row rfl 26 (.tmp 13) rfl gx rfl 26 (chC lx).toArray (0, 0) _ PX10.out.2.2.2.1 Try.underlying26 rfl (ch_info lx lxh) ?_))
  obtain ⟨gy, hgy⟩ : ∃ g, w9.heap.size = g := ⟨_, rfl⟩
  obtain ⟨w10, hw10⟩ : ∃ v, w9.alloc (.cells (chC ly).toArray 26) = v := ⟨_, rfl⟩
  have P10 := Lib.hid (show w10.heap[ga]? = some (.cells (chC la).toArray 26) ∧ w10.heap[gb]? = some (.cells (chC lb).toArray 26) ∧ w10.heap[gc]? = some (.cells (chC lc).toArray 26) ∧ w10.heap[gx]? = some (.cells (chC lx).toArray 26) ∧ w10.heap[gy]? = some (.cells (chC ly).toArray 26) ∧ True by
    rw [← hw10]
    exact ⟨PX10.out.1, PX10.out.2.1, PX10.out.2.2.1, PX10.out.2.2.2.1, by rw [← hgy]; exact heap_alloc_new w9 _, trivial⟩)
  have K10 := Lib.hid (show Below w.heap.size w w10 by rw [← hw10]; exact K9.out.alloc K9.out.size _)
  rw [hw10, hgy]
  clear hw10 hgy PX10
  refine (HJ3.out w10).mono ?_
  rintro e w11 ⟨rfl, hb11⟩
  have K11 := Lib.hid (K10.out.trans (hb11.mono K10.out.size))
  have P11 := Lib.hid (show w11.heap[ga]? = some (.cells (chC la).toArray 26) ∧ w11.heap[gb]? = some (.cells (chC lb).toArray 26) ∧ w11.heap[gc]? = some (.cells (chC lc).toArray 26) ∧ w11.heap[gx]? = some (.cells (chC lx).toArray 26) ∧ w11.heap[gy]? = some (.cells (chC ly).toArray 26) ∧ True from ⟨heap_later P10.out.1 hb11, heap_later P10.out.2.1 hb11, heap_later P10.out.2.2.1 hb11, heap_later P10.out.2.2.2.1 hb11, heap_later P10.out.2.2.2.2.1 hb11, trivial⟩)
  clear hb11
  have hX12 : Below w11.heap.size w11 (w11.alloc (.cells (chC lp).toArray 26)) := (Below.refl _ _).alloc (Nat.le_refl _) _
  have PX12 := Lib.hid (show (w11.alloc (.cells (chC lp).toArray 26)).heap[ga]? = some (.cells (chC la).toArray 26) ∧ (w11.alloc (.cells (chC lp).toArray 26)).heap[gb]? = some (.cells (chC lb).toArray 26) ∧ (w11.alloc (.cells (chC lp).toArray 26)).heap[gc]? = some (.cells (chC lc).toArray 26) ∧ (w11.alloc (.cells (chC lp).toArray 26)).heap[gx]? = some (.cells (chC lx).toArray 26) ∧ (w11.alloc (.cells (chC lp).toArray 26)).heap[gy]? = some (.cells (chC ly).toArray 26) ∧ True from ⟨heap_later P11.out.1 hX12, heap_later P11.out.2.1 hX12, heap_later P11.out.2.2.1 hX12, heap_later P11.out.2.2.2.1 hX12, heap_later P11.out.2.2.2.2.1 hX12, trivial⟩)
  clear hX12
  go_wp2_with (first | (refine wpList_store_row rfl 26 (.tmp 17) (.tmp 88) rfl w11.heap.size (chC lp).toArray rfl rfl 26 (chC []).toArray (heap_alloc_new w11 _) (ch_info lp lph) (ch_size lp lph) (all_one lp) ?_; rw [alloc_setRow]) | (refine wpList_load_row rfl 26 (.tmp 7) rfl ga rfl 26 (chC la).toArray (0, 0) _ PX12.out.1 Try.underlying26 rfl (ch_info la lah) ?_) | (refine wpList_load_row rfl 26 (.tmp 15) rfl gy rfl 26 (chC ly).toArray (0, 0) _ PX12.out.2.2.2.2.1 Try.underlying26 rfl (ch_info ly lyh) ?_))
  obtain ⟨gp, hgp⟩ : ∃ g, w11.heap.size = g := ⟨_, rfl⟩
  obtain ⟨w12, hw12⟩ : ∃ v, w11.alloc (.cells (chC lp).toArray 26) = v := ⟨_, rfl⟩
  have P12 := Lib.hid (show w12.heap[ga]? = some (.cells (chC la).toArray 26) ∧ w12.heap[gb]? = some (.cells (chC lb).toArray 26) ∧ w12.heap[gc]? = some (.cells (chC lc).toArray 26) ∧ w12.heap[gx]? = some (.cells (chC lx).toArray 26) ∧ w12.heap[gy]? = some (.cells (chC ly).toArray 26) ∧ w12.heap[gp]? = some (.cells (chC lp).toArray 26) ∧ True by
    rw [← hw12]
    exact ⟨PX12.out.1, PX12.out.2.1, PX12.out.2.2.1, PX12.out.2.2.2.1, PX12.out.2.2.2.2.1, by rw [← hgp]; exact heap_alloc_new w11 _, trivial⟩)
  have K12 := Lib.hid (show Below w.heap.size w w12 by rw [← hw12]; exact K11.out.alloc K11.out.size _)
  rw [hw12, hgp]
  clear hw12 hgp PX12
  refine (HJ4.out w12).mono ?_
  rintro e w13 ⟨rfl, hb13⟩
  have K13 := Lib.hid (K12.out.trans (hb13.mono K12.out.size))
  have P13 := Lib.hid (show w13.heap[ga]? = some (.cells (chC la).toArray 26) ∧ w13.heap[gb]? = some (.cells (chC lb).toArray 26) ∧ w13.heap[gc]? = some (.cells (chC lc).toArray 26) ∧ w13.heap[gx]? = some (.cells (chC lx).toArray 26) ∧ w13.heap[gy]? = some (.cells (chC ly).toArray 26) ∧ w13.heap[gp]? = some (.cells (chC lp).toArray 26) ∧ True from ⟨heap_later P12.out.1 hb13, heap_later P12.out.2.1 hb13, heap_later P12.out.2.2.1 hb13, heap_later P12.out.2.2.2.1 hb13, heap_later P12.out.2.2.2.2.1 hb13, heap_later P12.out.2.2.2.2.2.1 hb13, trivial⟩)
  clear hb13
  have hX14 : Below w13.heap.size w13 (w13.alloc (.cells (chC lq).toArray 26)) := (Below.refl _ _).alloc (Nat.le_refl _) _
  have PX14 := Lib.hid (show (w13.alloc (.cells (chC lq).toArray 26)).heap[ga]? = some (.cells (chC la).toArray 26) ∧ (w13.alloc (.cells (chC lq).toArray 26)).heap[gb]? = some (.cells (chC lb).toArray 26) ∧ (w13.alloc (.cells (chC lq).toArray 26)).heap[gc]? = some (.cells (chC lc).toArray 26) ∧ (w13.alloc (.cells (chC lq).toArray 26)).heap[gx]? = some (.cells (chC lx).toArray 26) ∧ (w13.alloc (.cells (chC lq).toArray 26)).heap[gy]? = some (.cells (chC ly).toArray 26) ∧ (w13.alloc (.cells (chC lq).toArray 26)).heap[gp]? = some (.cells (chC lp).toArray 26) ∧ True from ⟨heap_later P13.out.1 hX14, heap_later P13.out.2.1 hX14, heap_later P13.out.2.2.1 hX14, heap_later P13.out.2.2.2.1 hX14, heap_later P13.out.2.2.2.2.1 hX14, heap_later P13.out.2.2.2.2.2.1 hX14, trivial⟩)
  clear hX14
  go_wp2_with (first | (refine wpList_store_row rfl 26 (.tmp 19) (.tmp 94) rfl w13.heap.size (chC lq).toArray rfl rfl 26 (chC []).toArray (heap_alloc_new w13 _) (ch_info lq lqh) (ch_size lq lqh) (all_one lq) ?_; rw [alloc_setRow]))
  obtain ⟨gq, hgq⟩ : ∃ g, w13.heap.size = g := ⟨_, rfl⟩
  obtain ⟨w14, hw14⟩ : ∃ v, w13.alloc (.cells (chC lq).toArray 26) = v := ⟨_, rfl⟩
  have P14 := Lib.hid (show w14.heap[ga]? = some (.cells (chC la).toArray 26) ∧ w14.heap[gb]? = some (.cells (chC lb).toArray 26) ∧ w14.heap[gc]? = some (.cells (chC lc).toArray 26) ∧ w14.heap[gx]? = some (.cells (chC lx).toArray 26) ∧ w14.heap[gy]? = some (.cells (chC ly).toArray 26) ∧ w14.heap[gp]? = some (.cells (chC lp).toArray 26) ∧ w14.heap[gq]? = some (.cells (chC lq).toArray 26) ∧ True by
    rw [← hw14]
    exact ⟨PX14.out.1, PX14.out.2.1, PX14.out.2.2.1, PX14.out.2.2.2.1, PX14.out.2.2.2.2.1, PX14.out.2.2.2.2.2.1, by rw [← hgq]; exact heap_alloc_new w13 _, trivial⟩)
  have K14 := Lib.hid (show Below w.heap.size w w14 by rw [← hw14]; exact K13.out.alloc K13.out.size _)
  rw [hw14, hgq]
  clear hw14 hgq PX14
  have hV0 : Below w.heap.size w w14.drew := K14.out.drew
  have g1 : IntKind.i64.wrap (nls la + nls lb) = nls la + nls lb := IntWalk.i64_in _ (by omega)
  have g2 : IntKind.i64.wrap (nls la + nls lb + nls lc) = nls la + nls lb + nls lc := IntWalk.i64_in _ (by omega)
  refine wp_region_held_drew (S := fun w' => w'.heap[ga]? = some (.cells (chC la).toArray 26) ∧ w'.heap[gb]? = some (.cells (chC lb).toArray 26) ∧ w'.heap[gc]? = some (.cells (chC lc).toArray 26) ∧ w'.heap[gx]? = some (.cells (chC lx).toArray 26) ∧ w'.heap[gy]? = some (.cells (chC ly).toArray 26) ∧ w'.heap[gp]? = some (.cells (chC lp).toArray 26) ∧ w'.heap[gq]? = some (.cells (chC lq).toArray 26) ∧ True) (by kernel_rfl) P14.out (fun hHeld => ?_)
  try dsimp only at hHeld
  refine take_at (i := 0) (v := ?_) (some 96) rfl rfl (by kernel_rfl) (by kernel_rfl) (by kernel_rfl) (fun _ _ _ h => h) hHeld (by rfl) (fun wS hSw => ?_) ?_
  rotate_left
  · try dsimp only at hSw
    go_simp
    try with_reducible rfl
  try simp only [Act.put, List.setIfInBounds_toArray, List.set_cons_zero, List.set_cons_succ]
  refine take_at (i := 1) (v := ?_) (some 97) rfl rfl (by kernel_rfl) (by kernel_rfl) (by kernel_rfl) (fun _ _ _ h => h) hHeld (by rfl) (fun wS hSw => ?_) ?_
  rotate_left
  · try dsimp only at hSw
    go_simp
    try with_reducible rfl
  try simp only [Act.put, List.setIfInBounds_toArray, List.set_cons_zero, List.set_cons_succ]
  refine take_at (i := 2) (v := ?_) (some 98) rfl rfl (by kernel_rfl) (by kernel_rfl) (by kernel_rfl) (fun _ _ _ h => h) hHeld (by rfl) (fun wS hSw => ?_) ?_
  rotate_left
  · try dsimp only at hSw
    go_simp
    try with_reducible rfl
  try simp only [Act.put, List.setIfInBounds_toArray, List.set_cons_zero, List.set_cons_succ]
  refine take_at (i := 3) (v := ?_) (some 99) rfl rfl (by kernel_rfl) (by kernel_rfl) (by kernel_rfl) (fun _ _ _ h => h) hHeld (by rfl) (fun wS hSw => ?_) ?_
  rotate_left
  · try dsimp only at hSw
    go_simp
    try with_reducible rfl
  try simp only [Act.put, List.setIfInBounds_toArray, List.set_cons_zero, List.set_cons_succ]
  refine take_at (i := 4) (v := ?_) (some 100) rfl rfl (by kernel_rfl) (by kernel_rfl) (by kernel_rfl) (fun _ _ _ h => h) hHeld (by rfl) (fun wS hSw => ?_) ?_
  rotate_left
  · try dsimp only at hSw
    go_simp
    try with_reducible rfl
  try simp only [Act.put, List.setIfInBounds_toArray, List.set_cons_zero, List.set_cons_succ]
  refine take_at (i := 5) (v := ?_) (some 101) rfl rfl (by kernel_rfl) (by kernel_rfl) (by kernel_rfl) (fun _ _ _ h => h) hHeld (by rfl) (fun wS hSw => ?_) ?_
  rotate_left
  · try dsimp only at hSw
    go_simp
    try with_reducible rfl
  try simp only [Act.put, List.setIfInBounds_toArray, List.set_cons_zero, List.set_cons_succ]
  refine take_at (i := 6) (v := ?_) (some 102) rfl rfl (by kernel_rfl) (by kernel_rfl) (by kernel_rfl) (fun _ _ _ h => h) hHeld (by rfl) (fun wS hSw => ?_) ?_
  rotate_left
  · try dsimp only at hSw
    go_simp
    try with_reducible rfl
  try simp only [Act.put, List.setIfInBounds_toArray, List.set_cons_zero, List.set_cons_succ]
  refine take_at (i := 7) (v := ?_) (some 103) rfl rfl (by kernel_rfl) (by kernel_rfl) (by kernel_rfl) (fun _ _ _ h => h) hHeld (by rfl) (fun wS hSw => ?_) ?_
  rotate_left
  · try dsimp only at hSw
    go_simp
    try with_reducible rfl
  try simp only [Act.put, List.setIfInBounds_toArray, List.set_cons_zero, List.set_cons_succ]
  refine take_at (i := 8) (v := ?_) (some 104) rfl rfl (by kernel_rfl) (by kernel_rfl) (by kernel_rfl) (fun _ _ _ h => h) hHeld (by rfl) (fun wS hSw => ?_) ?_
  rotate_left
  · try dsimp only at hSw
    go_simp
    try with_reducible rfl
  try simp only [Act.put, List.setIfInBounds_toArray, List.set_cons_zero, List.set_cons_succ]
  refine take_at (i := 9) (v := ?_) (some 105) rfl rfl (by kernel_rfl) (by kernel_rfl) (by kernel_rfl) (fun _ _ _ h => h) hHeld (by rfl) (fun wS hSw => ?_) ?_
  rotate_left
  · try dsimp only at hSw
    go_simp
    try with_reducible rfl
  try simp only [Act.put, List.setIfInBounds_toArray, List.set_cons_zero, List.set_cons_succ]
  refine take_at (i := 10) (v := ?_) (some 106) rfl rfl (by kernel_rfl) (by kernel_rfl) (by kernel_rfl) (fun _ _ _ h => h) hHeld (by rfl) (fun wS hSw => ?_) ?_
  rotate_left
  · try dsimp only at hSw
    go_simp
    try with_reducible rfl
  try simp only [Act.put, List.setIfInBounds_toArray, List.set_cons_zero, List.set_cons_succ]
  refine take_at (i := 11) (v := ?_) (some 107) rfl rfl (by kernel_rfl) (by kernel_rfl) (by kernel_rfl) (fun _ _ _ h => h) hHeld (by rfl) (fun wS hSw => ?_) ?_
  rotate_left
  · try dsimp only at hSw
    go_simp
    try with_reducible rfl
  try simp only [Act.put, List.setIfInBounds_toArray, List.set_cons_zero, List.set_cons_succ]
  refine take_at (i := 12) (v := ?_) (some 108) rfl rfl (by kernel_rfl) (by kernel_rfl) (by kernel_rfl) (fun _ _ _ h => h) hHeld (by rfl) (fun wS hSw => ?_) ?_
  rotate_left
  · try dsimp only at hSw
    go_simp
    try with_reducible rfl
  try simp only [Act.put, List.setIfInBounds_toArray, List.set_cons_zero, List.set_cons_succ]
  refine take_at (i := 13) (v := ?_) (some 109) rfl rfl (by kernel_rfl) (by kernel_rfl) (by kernel_rfl) (fun _ _ _ h => h) hHeld (by rfl) (fun wS hSw => ?_) ?_
  rotate_left
  · try dsimp only at hSw
    go_simp
    try with_reducible rfl
  try simp only [Act.put, List.setIfInBounds_toArray, List.set_cons_zero, List.set_cons_succ]
  refine take_at (i := 14) (v := ?_) (some 110) rfl rfl (by kernel_rfl) (by kernel_rfl) (by kernel_rfl) (fun _ _ _ h => h) hHeld (by rfl) (fun wS hSw => ?_) ?_
  rotate_left
  · try dsimp only at hSw
    go_simp
    try with_reducible rfl
  try simp only [Act.put, List.setIfInBounds_toArray, List.set_cons_zero, List.set_cons_succ]
  refine take_at (i := 15) (v := ?_) (some 111) rfl rfl (by kernel_rfl) (by kernel_rfl) (by kernel_rfl) (fun _ _ _ h => h) hHeld (by rfl) (fun wS hSw => ?_) ?_
  rotate_left
  · refine exec_load_row 26 (.tmp 17) ?_ gp ?_ 26 (chC lp).toArray (0, 0) _ hSw.2.2.2.2.2.1 Try.underlying26 rfl (ch_info lp lph) <;> rfl
  try simp only [Act.put, List.setIfInBounds_toArray, List.set_cons_zero, List.set_cons_succ]
  refine take_at (i := 16) (v := ?_) (some 112) rfl rfl (by kernel_rfl) (by kernel_rfl) (by kernel_rfl) (fun _ _ _ h => h) hHeld (by rfl) (fun wS hSw => ?_) ?_
  rotate_left
  · refine exec_load_row 26 (.tmp 19) ?_ gq ?_ 26 (chC lq).toArray (0, 0) _ hSw.2.2.2.2.2.2.1 Try.underlying26 rfl (ch_info lq lqh) <;> rfl
  try simp only [Act.put, List.setIfInBounds_toArray, List.set_cons_zero, List.set_cons_succ]
  refine take_at (i := 17) (v := ?_) (some 113) rfl rfl (by kernel_rfl) (by kernel_rfl) (by kernel_rfl) (fun _ _ _ h => h) hHeld (by rfl) (fun wS hSw => ?_) ?_
  rotate_left
  · refine exec_eq_chunk (.tmp 111) (.tmp 112) ?_ lp lq ?_ ?_ lph lqh true HEQ.out <;> rfl
  try simp only [Act.put, List.setIfInBounds_toArray, List.set_cons_zero, List.set_cons_succ]
  refine take_at (i := 18) (v := ?_) (some 114) rfl rfl (by kernel_rfl) (by kernel_rfl) (by kernel_rfl) (fun _ _ _ h => h) hHeld (by rfl) (fun wS hSw => ?_) ?_
  rotate_left
  · try dsimp only at hSw
    go_simp
    try with_reducible rfl
  try simp only [Act.put, List.setIfInBounds_toArray, List.set_cons_zero, List.set_cons_succ]
  refine take_at (i := 19) (v := ?_) (some 115) rfl rfl (by kernel_rfl) (by kernel_rfl) (by kernel_rfl) (fun _ _ _ h => h) hHeld (by rfl) (fun wS hSw => ?_) ?_
  rotate_left
  · try dsimp only at hSw
    go_simp
    try with_reducible rfl
  try simp only [Act.put, List.setIfInBounds_toArray, List.set_cons_zero, List.set_cons_succ]
  refine take_at (i := 20) (v := ?_) (some 116) rfl rfl (by kernel_rfl) (by kernel_rfl) (by kernel_rfl) (fun _ _ _ h => h) hHeld (by rfl) (fun wS hSw => ?_) ?_
  rotate_left
  · refine exec_load_row 26 (.tmp 17) ?_ gp ?_ 26 (chC lp).toArray (0, 0) _ hSw.2.2.2.2.2.1 Try.underlying26 rfl (ch_info lp lph) <;> rfl
  try simp only [Act.put, List.setIfInBounds_toArray, List.set_cons_zero, List.set_cons_succ]
  refine take_at (i := 22) (v := ?_) (some 118) rfl rfl (by kernel_rfl) (by kernel_rfl) (by kernel_rfl) (fun _ _ _ h => h) hHeld (by rfl) (fun wS hSw => ?_) ?_
  rotate_left
  · refine exec_load_row 26 (.tmp 7) ?_ ga ?_ 26 (chC la).toArray (0, 0) _ hSw.1 Try.underlying26 rfl (ch_info la lah) <;> rfl
  try simp only [Act.put, List.setIfInBounds_toArray, List.set_cons_zero, List.set_cons_succ]
  refine take_at (i := 24) (v := ?_) (some 120) rfl rfl (by kernel_rfl) (by kernel_rfl) (by kernel_rfl) (fun _ _ _ h => h) hHeld (by rfl) (fun wS hSw => ?_) ?_
  rotate_left
  · refine exec_load_row 26 (.tmp 9) ?_ gb ?_ 26 (chC lb).toArray (0, 0) _ hSw.2.1 Try.underlying26 rfl (ch_info lb lbh) <;> rfl
  try simp only [Act.put, List.setIfInBounds_toArray, List.set_cons_zero, List.set_cons_succ]
  refine take_at (i := 27) (v := ?_) (some 123) rfl rfl (by kernel_rfl) (by kernel_rfl) (by kernel_rfl) (fun _ _ _ h => h) hHeld (by rfl) (fun wS hSw => ?_) ?_
  rotate_left
  · refine exec_load_row 26 (.tmp 11) ?_ gc ?_ 26 (chC lc).toArray (0, 0) _ hSw.2.2.1 Try.underlying26 rfl (ch_info lc lch) <;> rfl
  try simp only [Act.put, List.setIfInBounds_toArray, List.set_cons_zero, List.set_cons_succ]
  refine wpAnyH_ready (rs := [21]) (by kernel_rfl) (by simp) ?_
  refine AllReadyH.cons rfl (fun K hK => ?_) AllReadyH.nil
  simp only [List.getElem_toArray, List.getElem_cons_succ, List.getElem_cons_zero]
  go_simp
  refine (HNp.out _).mono ?_
  rintro e v1 ⟨rfl, hv1⟩
  have hH1 : v1.heap[ga]? = some (.cells (chC la).toArray 26) ∧ v1.heap[gb]? = some (.cells (chC lb).toArray 26) ∧ v1.heap[gc]? = some (.cells (chC lc).toArray 26) ∧ v1.heap[gx]? = some (.cells (chC lx).toArray 26) ∧ v1.heap[gy]? = some (.cells (chC ly).toArray 26) ∧ v1.heap[gp]? = some (.cells (chC lp).toArray 26) ∧ v1.heap[gq]? = some (.cells (chC lq).toArray 26) ∧ True := ⟨heap_later hHeld.1 hv1, heap_later hHeld.2.1 hv1, heap_later hHeld.2.2.1 hv1, heap_later hHeld.2.2.2.1 hv1, heap_later hHeld.2.2.2.2.1 hv1, heap_later hHeld.2.2.2.2.2.1 hv1, heap_later hHeld.2.2.2.2.2.2.1 hv1, trivial⟩
  have hV1 : Below w.heap.size w v1 := hV0.trans (hv1.mono hV0.size)
  clear hv1
  dsimp only
  have hOld := hHeld
  refine hK.out _ _ hH1 (fun _ => ?_)
  clear hK K
  refine wpAnyH_mono (S2 := fun w' => w'.heap[ga]? = some (.cells (chC la).toArray 26) ∧ w'.heap[gb]? = some (.cells (chC lb).toArray 26) ∧ w'.heap[gc]? = some (.cells (chC lc).toArray 26) ∧ w'.heap[gx]? = some (.cells (chC lx).toArray 26) ∧ w'.heap[gy]? = some (.cells (chC ly).toArray 26) ∧ w'.heap[gp]? = some (.cells (chC lp).toArray 26) ∧ w'.heap[gq]? = some (.cells (chC lq).toArray 26) ∧ True) (fun _ h => h) _ _ _ _ ?_
  clear hHeld
  have hHeld := hH1
  clear hOld
  try simp only [Act.put, List.setIfInBounds_toArray, List.set_cons_zero, List.set_cons_succ]
  refine wpAnyH_ready (rs := [23]) (by kernel_rfl) (by simp) ?_
  refine AllReadyH.cons rfl (fun K hK => ?_) AllReadyH.nil
  simp only [List.getElem_toArray, List.getElem_cons_succ, List.getElem_cons_zero]
  go_simp
  refine (HNa.out _).mono ?_
  rintro e v2 ⟨rfl, hv2⟩
  have hH2 : v2.heap[ga]? = some (.cells (chC la).toArray 26) ∧ v2.heap[gb]? = some (.cells (chC lb).toArray 26) ∧ v2.heap[gc]? = some (.cells (chC lc).toArray 26) ∧ v2.heap[gx]? = some (.cells (chC lx).toArray 26) ∧ v2.heap[gy]? = some (.cells (chC ly).toArray 26) ∧ v2.heap[gp]? = some (.cells (chC lp).toArray 26) ∧ v2.heap[gq]? = some (.cells (chC lq).toArray 26) ∧ True := ⟨heap_later hHeld.1 hv2, heap_later hHeld.2.1 hv2, heap_later hHeld.2.2.1 hv2, heap_later hHeld.2.2.2.1 hv2, heap_later hHeld.2.2.2.2.1 hv2, heap_later hHeld.2.2.2.2.2.1 hv2, heap_later hHeld.2.2.2.2.2.2.1 hv2, trivial⟩
  have hV2 : Below w.heap.size w v2 := hV1.trans (hv2.mono hV1.size)
  clear hv2
  dsimp only
  have hOld := hHeld
  refine hK.out _ _ hH2 (fun _ => ?_)
  clear hK K
  refine wpAnyH_mono (S2 := fun w' => w'.heap[ga]? = some (.cells (chC la).toArray 26) ∧ w'.heap[gb]? = some (.cells (chC lb).toArray 26) ∧ w'.heap[gc]? = some (.cells (chC lc).toArray 26) ∧ w'.heap[gx]? = some (.cells (chC lx).toArray 26) ∧ w'.heap[gy]? = some (.cells (chC ly).toArray 26) ∧ w'.heap[gp]? = some (.cells (chC lp).toArray 26) ∧ w'.heap[gq]? = some (.cells (chC lq).toArray 26) ∧ True) (fun _ h => h) _ _ _ _ ?_
  clear hHeld
  have hHeld := hH2
  clear hOld
  try simp only [Act.put, List.setIfInBounds_toArray, List.set_cons_zero, List.set_cons_succ]
  refine wpAnyH_ready (rs := [25]) (by kernel_rfl) (by simp) ?_
  refine AllReadyH.cons rfl (fun K hK => ?_) AllReadyH.nil
  simp only [List.getElem_toArray, List.getElem_cons_succ, List.getElem_cons_zero]
  go_simp
  refine (HNb.out _).mono ?_
  rintro e v3 ⟨rfl, hv3⟩
  have hH3 : v3.heap[ga]? = some (.cells (chC la).toArray 26) ∧ v3.heap[gb]? = some (.cells (chC lb).toArray 26) ∧ v3.heap[gc]? = some (.cells (chC lc).toArray 26) ∧ v3.heap[gx]? = some (.cells (chC lx).toArray 26) ∧ v3.heap[gy]? = some (.cells (chC ly).toArray 26) ∧ v3.heap[gp]? = some (.cells (chC lp).toArray 26) ∧ v3.heap[gq]? = some (.cells (chC lq).toArray 26) ∧ True := ⟨heap_later hHeld.1 hv3, heap_later hHeld.2.1 hv3, heap_later hHeld.2.2.1 hv3, heap_later hHeld.2.2.2.1 hv3, heap_later hHeld.2.2.2.2.1 hv3, heap_later hHeld.2.2.2.2.2.1 hv3, heap_later hHeld.2.2.2.2.2.2.1 hv3, trivial⟩
  have hV3 : Below w.heap.size w v3 := hV2.trans (hv3.mono hV2.size)
  clear hv3
  dsimp only
  have hOld := hHeld
  refine hK.out _ _ hH3 (fun _ => ?_)
  clear hK K
  refine wpAnyH_mono (S2 := fun w' => w'.heap[ga]? = some (.cells (chC la).toArray 26) ∧ w'.heap[gb]? = some (.cells (chC lb).toArray 26) ∧ w'.heap[gc]? = some (.cells (chC lc).toArray 26) ∧ w'.heap[gx]? = some (.cells (chC lx).toArray 26) ∧ w'.heap[gy]? = some (.cells (chC ly).toArray 26) ∧ w'.heap[gp]? = some (.cells (chC lp).toArray 26) ∧ w'.heap[gq]? = some (.cells (chC lq).toArray 26) ∧ True) (fun _ h => h) _ _ _ _ ?_
  clear hHeld
  have hHeld := hH3
  clear hOld
  try simp only [Act.put, List.setIfInBounds_toArray, List.set_cons_zero, List.set_cons_succ]
  refine take_at (i := 26) (v := ?_) (some 122) rfl rfl (by kernel_rfl) (by kernel_rfl) (by kernel_rfl) (fun _ _ _ h => h) hHeld (by rfl) (fun wS hSw => ?_) ?_
  rotate_left
  · try dsimp only at hSw
    go_simp
    try with_reducible rfl
  try simp only [Act.put, List.setIfInBounds_toArray, List.set_cons_zero, List.set_cons_succ]
  refine wpAnyH_ready (rs := [28]) (by kernel_rfl) (by simp) ?_
  refine AllReadyH.cons rfl (fun K hK => ?_) AllReadyH.nil
  simp only [List.getElem_toArray, List.getElem_cons_succ, List.getElem_cons_zero]
  go_simp
  refine (HNc.out _).mono ?_
  rintro e v4 ⟨rfl, hv4⟩
  have hH4 : v4.heap[ga]? = some (.cells (chC la).toArray 26) ∧ v4.heap[gb]? = some (.cells (chC lb).toArray 26) ∧ v4.heap[gc]? = some (.cells (chC lc).toArray 26) ∧ v4.heap[gx]? = some (.cells (chC lx).toArray 26) ∧ v4.heap[gy]? = some (.cells (chC ly).toArray 26) ∧ v4.heap[gp]? = some (.cells (chC lp).toArray 26) ∧ v4.heap[gq]? = some (.cells (chC lq).toArray 26) ∧ True := ⟨heap_later hHeld.1 hv4, heap_later hHeld.2.1 hv4, heap_later hHeld.2.2.1 hv4, heap_later hHeld.2.2.2.1 hv4, heap_later hHeld.2.2.2.2.1 hv4, heap_later hHeld.2.2.2.2.2.1 hv4, heap_later hHeld.2.2.2.2.2.2.1 hv4, trivial⟩
  have hV4 : Below w.heap.size w v4 := hV3.trans (hv4.mono hV3.size)
  clear hv4
  dsimp only
  have hOld := hHeld
  refine hK.out _ _ hH4 (fun _ => ?_)
  clear hK K
  refine wpAnyH_mono (S2 := fun w' => w'.heap[ga]? = some (.cells (chC la).toArray 26) ∧ w'.heap[gb]? = some (.cells (chC lb).toArray 26) ∧ w'.heap[gc]? = some (.cells (chC lc).toArray 26) ∧ w'.heap[gx]? = some (.cells (chC lx).toArray 26) ∧ w'.heap[gy]? = some (.cells (chC ly).toArray 26) ∧ w'.heap[gp]? = some (.cells (chC lp).toArray 26) ∧ w'.heap[gq]? = some (.cells (chC lq).toArray 26) ∧ True) (fun _ h => h) _ _ _ _ ?_
  clear hHeld
  have hHeld := hH4
  clear hOld
  try simp only [Act.put, List.setIfInBounds_toArray, List.set_cons_zero, List.set_cons_succ]
  refine take_at (i := 29) (v := ?_) (some 125) rfl rfl (by kernel_rfl) (by kernel_rfl) (by kernel_rfl) (fun _ _ _ h => h) hHeld (by rfl) (fun wS hSw => ?_) ?_
  rotate_left
  · try dsimp only at hSw
    go_simp
    try with_reducible rfl
  try simp only [Act.put, List.setIfInBounds_toArray, List.set_cons_zero, List.set_cons_succ]
  refine take_at (i := 30) (v := ?_) (some 126) rfl rfl (by kernel_rfl) (by kernel_rfl) (by kernel_rfl) (fun _ _ _ h => h) hHeld (by rfl) (fun wS hSw => ?_) ?_
  rotate_left
  · try dsimp only at hSw
    go_simp
    try with_reducible rfl
  try simp only [Act.put, List.setIfInBounds_toArray, List.set_cons_zero, List.set_cons_succ]
  refine take_at (i := 31) (v := ?_) (some 127) rfl rfl (by kernel_rfl) (by kernel_rfl) (by kernel_rfl) (fun _ _ _ h => h) hHeld (by rfl) (fun wS hSw => ?_) ?_
  rotate_left
  · try dsimp only at hSw
    go_simp
    try with_reducible rfl
  try simp only [Act.put, List.setIfInBounds_toArray, List.set_cons_zero, List.set_cons_succ]
  refine take_at (i := 32) (v := ?_) (some 128) rfl rfl (by kernel_rfl) (by kernel_rfl) (by kernel_rfl) (fun _ _ _ h => h) hHeld (by rfl) (fun wS hSw => ?_) ?_
  rotate_left
  · try dsimp only at hSw
    go_simp
    try with_reducible rfl
  try simp only [Act.put, List.setIfInBounds_toArray, List.set_cons_zero, List.set_cons_succ]
  refine wpAnyH_ready (rs := [33]) (by kernel_rfl) (by simp) ?_
  refine AllReadyH.cons rfl (fun K hK => ?_) AllReadyH.nil
  simp only [List.getElem_toArray, List.getElem_cons_succ, List.getElem_cons_zero]
  go_simp
  refine (known_any _).mono ?_
  rintro e v5 ⟨rfl, hv5⟩
  have hH5 : v5.heap[ga]? = some (.cells (chC la).toArray 26) ∧ v5.heap[gb]? = some (.cells (chC lb).toArray 26) ∧ v5.heap[gc]? = some (.cells (chC lc).toArray 26) ∧ v5.heap[gx]? = some (.cells (chC lx).toArray 26) ∧ v5.heap[gy]? = some (.cells (chC ly).toArray 26) ∧ v5.heap[gp]? = some (.cells (chC lp).toArray 26) ∧ v5.heap[gq]? = some (.cells (chC lq).toArray 26) ∧ True := ⟨heap_later hHeld.1 hv5, heap_later hHeld.2.1 hv5, heap_later hHeld.2.2.1 hv5, heap_later hHeld.2.2.2.1 hv5, heap_later hHeld.2.2.2.2.1 hv5, heap_later hHeld.2.2.2.2.2.1 hv5, heap_later hHeld.2.2.2.2.2.2.1 hv5, trivial⟩
  have hV5 : Below w.heap.size w v5 := hV4.trans (hv5.mono hV4.size)
  clear hv5
  dsimp only
  have hOld := hHeld
  refine hK.out _ _ hH5 (fun _ => ?_)
  clear hK K
  refine wpAnyH_mono (S2 := fun w' => w'.heap[ga]? = some (.cells (chC la).toArray 26) ∧ w'.heap[gb]? = some (.cells (chC lb).toArray 26) ∧ w'.heap[gc]? = some (.cells (chC lc).toArray 26) ∧ w'.heap[gx]? = some (.cells (chC lx).toArray 26) ∧ w'.heap[gy]? = some (.cells (chC ly).toArray 26) ∧ w'.heap[gp]? = some (.cells (chC lp).toArray 26) ∧ w'.heap[gq]? = some (.cells (chC lq).toArray 26) ∧ True) (fun _ h => h) _ _ _ _ ?_
  clear hHeld
  have hHeld := hH5
  clear hOld
  try simp only [Act.put, List.setIfInBounds_toArray, List.set_cons_zero, List.set_cons_succ]
  refine take_at (i := 34) (v := ?_) (some 130) rfl rfl (by kernel_rfl) (by kernel_rfl) (by kernel_rfl) (fun _ _ _ h => h) hHeld (by rfl) (fun wS hSw => ?_) ?_
  rotate_left
  · try dsimp only at hSw
    go_simp
    try with_reducible rfl
  try simp only [Act.put, List.setIfInBounds_toArray, List.set_cons_zero, List.set_cons_succ]
  refine take_at (i := 35) (v := ?_) (some 6) rfl rfl (by kernel_rfl) (by kernel_rfl) (by kernel_rfl) (fun _ _ _ h => h) hHeld (by rfl) (fun wS hSw => ?_) ?_
  rotate_left
  · try dsimp only at hSw
    go_simp
    try with_reducible rfl
  try simp only [Act.put, List.setIfInBounds_toArray, List.set_cons_zero, List.set_cons_succ]
  refine wpAnyH_done (by kernel_rfl) ?_ _
  go_wp2_with fail
  go_ret
  exact ⟨rfl, hV5⟩

set_option maxHeartbeats 1000000 in
theorem chunkJoins_out (A A2 A3 : Option Addr) (n n2 n3 c c2 c3 : Nat) (w : World) (h : 100 < n ∨ 100 < n2 ∨ 100 < n3) (hn : (n : Int) ≤ 9223372036854775807) (hn2 : (n2 : Int) ≤ 9223372036854775807) (hn3 : (n3 : Int) ≤ 9223372036854775807) :
    Calls Try.prog 7 #[.slice A n c, .slice A2 n2 c2, .slice A3 n3 c3] w fun e w' => e = .returned (.bool true) ∧ Below w.heap.size w w' := by
  have hh : (100 : Int) < n ∨ (¬ (100 : Int) < n ∧ (100 : Int) < n2) ∨ (¬ (100 : Int) < n ∧ ¬ (100 : Int) < n2 ∧ (100 : Int) < n3) := by omega
  clear h
  rcases hh with h | ⟨h, h2⟩ | ⟨h, h2, h3⟩
  all_goals
    go_enter Try.func7, Try.ntmps7
    go_wp2_with fail
    refine (known_any _).mono ?_
    rintro e w' ⟨rfl, hb⟩
    go_wp2_with fail
    go_ret
    exact ⟨rfl, hb⟩

theorem chunkJoins_law (A A2 A3 : Option Addr) (n n2 n3 c c2 c3 : Nat) (k1 k2 k3 : List Int) (w : World) (hs1 : Sees w w.heap.size 1 A n (k1.map r32)) (hs2 : Sees w w.heap.size 1 A2 n2 (k2.map r32)) (hs3 : Sees w w.heap.size 1 A3 n3 (k3.map r32))
    (hn : (n : Int) ≤ 9223372036854775807) (hn2 : (n2 : Int) ≤ 9223372036854775807) (hn3 : (n3 : Int) ≤ 9223372036854775807) :
    Calls Try.prog 7 #[.slice A n c, .slice A2 n2 c2, .slice A3 n3 c3] w fun e w' => e = .returned (.bool true) ∧ Below w.heap.size w w' := by
  by_cases h : 100 < n ∨ 100 < n2 ∨ 100 < n3
  · exact chunkJoins_out A A2 A3 n n2 n3 c c2 c3 w h hn hn2 hn3
  · exact chunkJoins_any A A2 A3 n n2 n3 c c2 c3 k1 k2 k3 w hs1 hs2 hs3 (by omega) (by omega) (by omega)

end Go.Proofs.Ytcdpbkhlkgefdaa
