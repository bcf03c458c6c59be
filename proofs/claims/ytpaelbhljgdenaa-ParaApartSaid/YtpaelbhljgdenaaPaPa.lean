/-
  The walk of rubriclaw13.ParaApart.
-/
import Derived.Test.YtpaelbhljgdenaaPaOo
namespace Go.Proofs.Ytpaelbhljgdenaa
open Go.RowKit

theorem betP_of_len {X Y : List (List At)} (h : X.length ≤ Y.length) {i j : Int} (e : betP X i j = 0) : betP Y i j = 0 := by
  obtain ⟨h0, h1, h2⟩ := betP_zero e
  unfold betP
  rw [if_pos (by omega)]
theorem insX_len {X L : List (List At)} {i : Int} (e : betP X i i = 0) : (insX X i L).length = X.length + L.length := by
  obtain ⟨h0, h1, h2⟩ := betP_zero e
  unfold insX
  rw [if_pos e, List.length_append, List.length_append, List.length_take, List.length_drop]
  omega

/-- Plainly: put in behind what is patched. -/
theorem apart_law1 {X : List (List At)} {ak bk bm : Int} (e1 : betP X bk bm = 0) (hba : bm ≤ ak) {p0 : List Ch} (e2 : betP (patX X bk bm p0) ak ak = 0) (L : List (List At)) (p : List Ch) :
    betP X ak ak = 0 ∧ betP (insX X ak L) bk bm = 0 ∧ patX (insX X ak L) bk bm p = insX (patX X bk bm p) ak L := by
  have e3 : betP X ak ak = 0 := betP_of_len (by rw [patX_len]; exact Nat.le_refl _) e2
  have e4 : betP (patX X bk bm p) ak ak = 0 := betP_of_len (by rw [patX_len]; exact Nat.le_refl _) e3
  have e5 : betP (insX X ak L) bk bm = 0 := betP_of_len (by rw [insX_len e3]; omega) e1
  refine ⟨e3, e5, ?_⟩
  obtain ⟨h0, h1, h2⟩ := betP_zero e1
  obtain ⟨g0, -, g2⟩ := betP_zero e3
  have hl : (X.take ak.toNat).length = ak.toNat := by rw [List.length_take]; omega
  unfold patX insX
  unfold insX at e5
  unfold patX at e4
  rw [if_pos e3] at e5 ⊢
  rw [if_pos e1] at e4 ⊢
  rw [if_pos e5, if_pos e4]
  have k1 : bk.toNat ≤ ak.toNat := by omega
  have k2 : bm.toNat ≤ ak.toNat := by omega
  have k3 : bk.toNat ≤ bm.toNat := by omega
  have k4 : ak.toNat ≤ X.length := by omega
  generalize ak.toNat = u at *
  generalize bk.toNat = v at *
  generalize bm.toNat = s at *
  clear e1 e2 e3 e4 e5
  have t1 : (X.take u ++ L ++ X.drop u).take v = X.take v := by
    rw [List.append_assoc, List.take_append_of_le_length (by omega), List.take_take, Nat.min_eq_left k1]
  have t2 : ((X.take u ++ L ++ X.drop u).drop v).take (s - v) = (X.drop v).take (s - v) := by
    rw [List.append_assoc, List.drop_append_of_le_length (by omega), List.take_append_of_le_length (by rw [List.length_drop]; omega), List.drop_take, List.take_take, Nat.min_eq_left (by omega)]
  have t3 : (X.take u ++ L ++ X.drop u).drop s = (X.drop s).take (u - s) ++ L ++ X.drop u := by
    rw [List.append_assoc, List.drop_append_of_le_length (by omega), List.drop_take, List.append_assoc]
  have t4 : (X.take v ++ List.map (fun a => applyP a p) ((X.drop v).take (s - v))).length = s := by
    rw [List.length_append, List.length_take, List.length_map, List.length_take, List.length_drop]; omega
  rw [t1, t2, t3]
  have t5 : (X.take v ++ List.map (fun a => applyP a p) ((X.drop v).take (s - v)) ++ X.drop s).take u = X.take v ++ List.map (fun a => applyP a p) ((X.drop v).take (s - v)) ++ (X.drop s).take (u - s) := by
    rw [List.take_append, t4, List.take_of_length_le (by rw [t4]; exact k2)]
  have t6 : (X.take v ++ List.map (fun a => applyP a p) ((X.drop v).take (s - v)) ++ X.drop s).drop u = X.drop u := by
    rw [List.drop_append, t4, List.drop_of_length_le (by rw [t4]; exact k2), List.nil_append, List.drop_drop, show s + (u - s) = u by omega]
  rw [t5, t6]
  simp only [List.append_assoc]

set_option maxRecDepth 100000 in
set_option maxHeartbeats 16000000 in
theorem apart_law (A : Option Addr) (c : Nat) (ops : List OpS) (a b : OpS) (w : World) (hs : Sees w w.heap.size 5 A ops.length (ops.flatMap OpS.cells)) (hok : ∀ o ∈ ops, o.Ok w) (hoa : a.Ok w) (hob : b.Ok w) (hsz : ops.length * 72 ≤ 140737488351232) :
    Calls Try.prog 4 #[.slice A ops.length c, .agg a.cells.toArray, .agg b.cells.toArray] w fun e w' => e = .returned (.bool true) ∧ Below w.heap.size w w' := by
  obtain ⟨i0, ii0, iz0, iz1, iz2⟩ := info_parts op_info
  have HS := Lib.hid hs
  have HO := Lib.hid hok
  have HOa := Lib.hid hoa
  have HOb := Lib.hid hob
  obtain ⟨n, hn⟩ : ∃ n, ops.length = n := ⟨_, rfl⟩
  have HN := Lib.hid hn
  rw [hn] at HS hsz ⊢
  have HSZ := Lib.hid hsz
  obtain ⟨b1, hb1⟩ : ∃ v, w.heap.size = v := ⟨_, rfl⟩
  obtain ⟨w1, hw1⟩ : ∃ v, w.alloc (.cells #[.int .i64 a.kind, .int .i64 a.k, .int .i64 a.m, .slice a.A a.xs.length a.c, .slice a.A2 a.p.length a.c2] 26) = v := ⟨_, rfl⟩
  have S1 := Lib.hid (show Star w [boxI b1 (.cells #[.int .i64 a.kind, .int .i64 a.k, .int .i64 a.m, .slice a.A a.xs.length a.c, .slice a.A2 a.p.length a.c2] 26)] w1 from Star.add (Star.nil_ w) (by rw [← hw1]; exact (Below.refl _ _).alloc (Nat.le_refl _) _) (show w1.heap[b1]? = _ by rw [← hw1, ← hb1]; exact heap_alloc_new w _) (fun k hk => by have hk : k = b1 := hk; omega))
  obtain ⟨b2, hb2⟩ : ∃ v, w1.heap.size = v := ⟨_, rfl⟩
  obtain ⟨w2, hw2⟩ : ∃ v, w1.alloc (.cells #[.int .i64 b.kind, .int .i64 b.k, .int .i64 b.m, .slice b.A b.xs.length b.c, .slice b.A2 b.p.length b.c2] 26) = v := ⟨_, rfl⟩
  have S2 := Lib.hid (show Star w [boxI b2 (.cells #[.int .i64 b.kind, .int .i64 b.k, .int .i64 b.m, .slice b.A b.xs.length b.c, .slice b.A2 b.p.length b.c2] 26), boxI b1 (.cells #[.int .i64 a.kind, .int .i64 a.k, .int .i64 a.m, .slice a.A a.xs.length a.c, .slice a.A2 a.p.length a.c2] 26)] w2 from Star.add S1.out (by rw [← hw2]; exact (Below.refl _ _).alloc (Nat.le_refl _) _) (show w2.heap[b2]? = _ by rw [← hw2, ← hb2]; exact heap_alloc_new w1 _) (fun k hk => by have hk : k = b2 := hk; omega))
  have ea : (Value.agg a.cells.toArray) = .agg #[.int .i64 a.kind, .int .i64 a.k, .int .i64 a.m, .slice a.A a.xs.length a.c, .slice a.A2 a.p.length a.c2] := rfl
  have eb : (Value.agg b.cells.toArray) = .agg #[.int .i64 b.kind, .int .i64 b.k, .int .i64 b.m, .slice b.A b.xs.length b.c, .slice b.A2 b.p.length b.c2] := rfl
  rw [ea, eb]
  clear ea eb hs hok hoa hob hn hsz S1
  go_enter Try.func4, Try.ntmps4
  go_wp2_with fail
  refine (newP_star S2.out).mono ?_
  rintro e w3 ⟨g, rfl, h3⟩
  have S3 := Lib.hid h3
  clear h3 S2 hw1 hw2 hb1 hb2
  go_wp2_with fail
  refine (newP_star S3.out).mono ?_
  rintro e w4 ⟨q, rfl, h4⟩
  have S4 := Lib.hid h4.swap
  clear h4 S3
  obtain ⟨b5, hb5⟩ : ∃ v, w4.heap.size = v := ⟨_, rfl⟩
  obtain ⟨w5, hw5⟩ : ∃ v, w4.alloc (.cells ([a, b].flatMap OpS.cells).toArray 26) = v := ⟨_, rfl⟩
  have HQA := Lib.hid (show w4.heap[b1]? = some (.cells a.cells.toArray 26) from S4.out.all (boxI b1 (.cells #[.int .i64 a.kind, .int .i64 a.k, .int .i64 a.m, .slice a.A a.xs.length a.c, .slice a.A2 a.p.length a.c2] 26)) (by simp))
  have HQB := Lib.hid (show w4.heap[b2]? = some (.cells b.cells.toArray 26) from S4.out.all (boxI b2 (.cells #[.int .i64 b.kind, .int .i64 b.k, .int .i64 b.m, .slice b.A b.xs.length b.c, .slice b.A2 b.p.length b.c2] 26)) (by simp))
  have HR := Lib.hid (run_ops2 a b w4)
  rw [hw5, hb5] at HR
  have HOW := Lib.hid (ops_own (k := 2) (new := [a, b]) rfl (by decide) hb5 hw5)
  have HGR := Lib.hid (fun (v : Value) (w6 : World) => ops_grown (w := w4) (w2 := w6) (v := v) (new := [a, b]) (ops := ops) rfl HN.out hb5 hw5)
  have HS5 := Lib.hid (show Sees w5 w.heap.size 5 A n (ops.flatMap OpS.cells) from HS.out.below (S4.out.below.trans (show Below w.heap.size w4 w5 from by rw [← hw5]; exact (Below.refl _ _).alloc S4.out.below.size _)) (Nat.le_refl _))
  have HLB := Lib.hid (show b5 ≤ w5.heap.size by rw [← hw5, ← hb5]; simp)
  have HB5 := Lib.hid (And.intro hb5 hw5)
  clear hb5 hw5
  go_wp2_with (first
    | (refine wpList_known _ rfl (exec_load_row 26 (.tmp 4) rfl b1 rfl 26 a.cells.toArray (0, 0) _ HQA.out Try.underlying26 rfl (op_infoA a)) ?_)
    | (refine wpList_known _ rfl (exec_load_row 26 (.tmp 5) rfl b2 rfl 26 b.cells.toArray (0, 0) _ HQB.out Try.underlying26 rfl (op_infoA b)) ?_)
    | (refine wpList_known _ rfl (v := .slice (some ⟨b5, 0, none⟩) 2 2) (w' := w5) (exec_slice2 22 (.tmp 25) (.tmp 26) rfl (.agg a.cells.toArray) (.agg b.cells.toArray) rfl rfl HR.out) ?_)
    | (refine wpList_append_when rfl _ _ _ rfl b5 26 i0 _ 5 72 Try.underlying22 ii0 iz0 iz1 iz2 rfl (by omega) (.slice (some ⟨b5, 0, none⟩) 2 2) 2 ([a, b].flatMap OpS.cells) rfl HOW.out w.heap.size A n c (ops.flatMap OpS.cells) rfl HS5.out (ops_one ops) (by have := HSZ.out; simp only [maxLen]; omega) (by have := HSZ.out; omega) HLB.out ?_
       intro v6 w6 hown6 hgr6 _ _
       obtain ⟨hb6, A6, c6, rfl, hs6⟩ := HGR.out v6 w6 hown6 hgr6
       have S6 := Lib.hid (S4.out.later hb6)
       have HSm := Lib.hid (small_any (c := c6) S6.out.below hs6 (Nat.le_refl _) (fun o ho => by
         rcases List.mem_append.1 ho with e | e
         · rcases List.mem_cons.1 e with e | e
           · rw [e]; exact HOa.out
           · rw [List.mem_singleton.1 e]; exact HOb.out
         · exact HO.out o e))
       obtain ⟨n6, hn6⟩ : ∃ v, ([a, b] ++ ops).length = v := ⟨_, rfl⟩
       rw [hn6] at HSm ⊢
       clear hown6 hgr6 hb6 hs6 hn6 HGR HOW))
  refine HSm.out.mono ?_
  clear HSm HR HS5 HLB HQA HQB HB5 HSZ S4
  rintro e w7 ⟨sm, rfl, hsm, hb7⟩
  have S7 := Lib.hid (S6.out.later hb7)
  have HSM := Lib.hid hsm
  clear hb7 hsm S6
  cases sm with
  | false =>
    go_wp2_with fail
    refine (known_any _).mono ?_
    rintro e wz ⟨rfl, hbz⟩
    have HB := Lib.hid (S7.out.later hbz).below
    clear hbz
    go_wp2_with fail
    go_ret
    exact ⟨rfl, HB.out⟩
  | true =>
    have HSX := Lib.hid (show ops.length ≤ 58 ∧ True from ⟨by have := (HSM.out rfl).1; rw [List.length_append, show [a, b].length = 2 from rfl] at this; omega, trivial⟩)
    have HSL := Lib.hid (smallL.tail (HSM.out rfl))
    have HSA := Lib.hid ((HSM.out rfl).2 a (by simp))
    have HSb := Lib.hid ((HSM.out rfl).2 b (by simp))
    have S0 := Lib.hid (show Star w [paI (fun k => k = g) g [] (7200 + 2 * 0) (70 * (0 + 1)), paI (fun k => k = q) q [] (7200 + 2 * 0) (70 * (0 + 1)), boxI b2 (.cells #[.int .i64 b.kind, .int .i64 b.k, .int .i64 b.m, .slice b.A b.xs.length b.c, .slice b.A2 b.p.length b.c2] 26), boxI b1 (.cells #[.int .i64 a.kind, .int .i64 a.k, .int .i64 a.m, .slice a.A a.xs.length a.c, .slice a.A2 a.p.length a.c2] 26)] w7 from pa_more (A := [paI (fun k => k = g) g [] (7200 + 2 * 0) (70 * (0 + 1))]) (B := [boxI b2 (.cells #[.int .i64 b.kind, .int .i64 b.k, .int .i64 b.m, .slice b.A b.xs.length b.c, .slice b.A2 b.p.length b.c2] 26), boxI b1 (.cells #[.int .i64 a.kind, .int .i64 a.k, .int .i64 a.m, .slice a.A a.xs.length a.c, .slice a.A2 a.p.length a.c2] 26)]) (pa_more (A := []) (B := [paI (fun k => k = q) q [] 0 0, boxI b2 (.cells #[.int .i64 b.kind, .int .i64 b.k, .int .i64 b.m, .slice b.A b.xs.length b.c, .slice b.A2 b.p.length b.c2] 26), boxI b1 (.cells #[.int .i64 a.kind, .int .i64 a.k, .int .i64 a.m, .slice a.A a.xs.length a.c, .slice a.A2 a.p.length a.c2] 26)]) S7.out (by omega) (by omega)) (by omega) (by omega))
    clear S7 HSM
    go_wp2_with fail
    go_loopw [44] (fun vk wr => ∃ (k : Nat) (X : List (List At)) (Kg Kq : Nat → Prop), k ≤ n ∧ vk = .int .i64 k ∧ Star w [paI Kg g X (7200 + 2 * k) (70 * (k + 1)), paI Kq q X (7200 + 2 * k) (70 * (k + 1)), boxI b2 (.cells #[.int .i64 b.kind, .int .i64 b.k, .int .i64 b.m, .slice b.A b.xs.length b.c, .slice b.A2 b.p.length b.c2] 26), boxI b1 (.cells #[.int .i64 a.kind, .int .i64 a.k, .int .i64 a.m, .slice a.A a.xs.length a.c, .slice a.A2 a.p.length a.c2] 26)] wr ∧ PX X k) (fun vk _ => n - (intOf vk).toNat)
    case atStart => exact ⟨0, [], _, _, Nat.zero_le _, rfl, S0.out, PX.nil_⟩
    case round =>
      obtain ⟨k, X, Kg, Kq, hk, rfl, hS, hX⟩ := hrel
      by_cases hlt : k < n
      · have hkI : (k : Int) < n := by omega
        have hn60 := HSL.out.1
        obtain ⟨o, ho⟩ : ∃ o, ops[k]? = some o := ⟨_, List.getElem?_eq_getElem (by rw [HN.out]; exact hlt)⟩
        have HOk := Lib.hid (HO.out o (List.mem_of_getElem? ho))
        have HSo := Lib.hid (HSL.out.2 o (List.mem_of_getElem? ho))
        obtain ⟨b0, f, rfl, hbl, hr⟩ := op_range HS.out ho
        have HRr := Lib.hid (show wr.rangeAt b0 (f + k * 5) o.cells from fun j v hv => (hS.below.cell (p := ⟨b0, f + k * 5 + j, none⟩) hbl).trans (hr j v hv))
        obtain ⟨bx, hbx⟩ : ∃ v, wr.heap.size = v := ⟨_, rfl⟩
        obtain ⟨w6, hw6⟩ : ∃ v, wr.alloc (.cells o.cells.toArray 26) = v := ⟨_, rfl⟩
        have S6 := Lib.hid (show Star w (boxI bx (.cells #[.int .i64 o.kind, .int .i64 o.k, .int .i64 o.m, .slice o.A o.xs.length o.c, .slice o.A2 o.p.length o.c2] 26) :: [paI Kg g X (7200 + 2 * k) (70 * (k + 1)), paI Kq q X (7200 + 2 * k) (70 * (k + 1)), boxI b2 (.cells #[.int .i64 b.kind, .int .i64 b.k, .int .i64 b.m, .slice b.A b.xs.length b.c, .slice b.A2 b.p.length b.c2] 26), boxI b1 (.cells #[.int .i64 a.kind, .int .i64 a.k, .int .i64 a.m, .slice a.A a.xs.length a.c, .slice a.A2 a.p.length a.c2] 26)]) w6 from hS.add (by rw [← hw6]; exact (Below.refl _ _).alloc (Nat.le_refl _) _) (show w6.heap[bx]? = _ by rw [← hw6, ← hbx]; exact heap_alloc_new wr _) (fun k hk => by have hk : k = bx := hk; omega))
        have hq6 : w6.heap[bx]? = some (.cells #[.int .i64 o.kind, .int .i64 o.k, .int .i64 o.m, .slice o.A o.xs.length o.c, .slice o.A2 o.p.length o.c2] 26) := S6.out.all (boxI bx (.cells #[.int .i64 o.kind, .int .i64 o.k, .int .i64 o.m, .slice o.A o.xs.length o.c, .slice o.A2 o.p.length o.c2] 26)) (by simp)
        have e0 : w6.cell? ⟨bx, 0, none⟩ = some (.int .i64 o.kind) := by rw [cell_of_row w6 bx 0 _ _ _ hq6]; rfl
        have e1 : w6.cell? ⟨bx, 1, none⟩ = some (.int .i64 o.k) := by rw [cell_of_row w6 bx 1 _ _ _ hq6]; rfl
        have e2 : w6.cell? ⟨bx, 2, none⟩ = some (.int .i64 o.m) := by rw [cell_of_row w6 bx 2 _ _ _ hq6]; rfl
        have e3 : w6.cell? ⟨bx, 3, none⟩ = some (.slice o.A o.xs.length o.c) := by rw [cell_of_row w6 bx 3 _ _ _ hq6]; rfl
        have e4 : w6.cell? ⟨bx, 4, none⟩ = some (.slice o.A2 o.p.length o.c2) := by rw [cell_of_row w6 bx 4 _ _ _ hq6]; rfl
        have HE := Lib.hid (And.intro hw6 hbx)
        have HX := Lib.hid hX
        have hk59 : k ≤ 59 := by rw [HN.out] at hn60; omega
        clear ho hr hbx hw6 hq6 hS hX hn60
        by_cases hk2 : o.kind = 2
        · rw [hk2] at e0
          go_wp2_with (first
            | (refine wpList_load_mid rfl 26 (.tmp 46) rfl b0 (f + k * 5) rfl o.cells _ HRr.out Try.underlying26 rfl (op_infoL o) ?_)
            | (refine wpList_store_row rfl 26 (.tmp 10) (.tmp 47) rfl wr.heap.size o.cells.toArray rfl rfl 26 _ (heap_alloc_new wr _) (op_infoA o) (by rfl) (all_oneCell_toArray o.one) ?_; rw [alloc_setRow, HE.out.1, HE.out.2]))
          refine (del_scr (A := [boxI bx (.cells #[.int .i64 o.kind, .int .i64 o.k, .int .i64 o.m, .slice o.A o.xs.length o.c, .slice o.A2 o.p.length o.c2] 26)]) (B := [paI Kq q X (7200 + 2 * k) (70 * (k + 1)), boxI b2 (.cells #[.int .i64 b.kind, .int .i64 b.k, .int .i64 b.m, .slice b.A b.xs.length b.c, .slice b.A2 b.p.length b.c2] 26), boxI b1 (.cells #[.int .i64 a.kind, .int .i64 a.k, .int .i64 a.m, .slice a.A a.xs.length a.c, .slice a.A2 a.p.length a.c2] 26)]) S6.out HX.out hk59 o.k o.m).mono ?_
          rintro e w7 ⟨K7, rfl, h7⟩
          have hq7 : w7.heap[bx]? = some (.cells #[.int .i64 o.kind, .int .i64 o.k, .int .i64 o.m, .slice o.A o.xs.length o.c, .slice o.A2 o.p.length o.c2] 26) := h7.all (boxI bx (.cells #[.int .i64 o.kind, .int .i64 o.k, .int .i64 o.m, .slice o.A o.xs.length o.c, .slice o.A2 o.p.length o.c2] 26)) (by simp)
          have d0 : w7.cell? ⟨bx, 0, none⟩ = some (.int .i64 o.kind) := by rw [cell_of_row w7 bx 0 _ _ _ hq7]; rfl
          have d1 : w7.cell? ⟨bx, 1, none⟩ = some (.int .i64 o.k) := by rw [cell_of_row w7 bx 1 _ _ _ hq7]; rfl
          have d2 : w7.cell? ⟨bx, 2, none⟩ = some (.int .i64 o.m) := by rw [cell_of_row w7 bx 2 _ _ _ hq7]; rfl
          have d3 : w7.cell? ⟨bx, 3, none⟩ = some (.slice o.A o.xs.length o.c) := by rw [cell_of_row w7 bx 3 _ _ _ hq7]; rfl
          have d4 : w7.cell? ⟨bx, 4, none⟩ = some (.slice o.A2 o.p.length o.c2) := by rw [cell_of_row w7 bx 4 _ _ _ hq7]; rfl
          have S7 := Lib.hid h7
          clear h7 hq7 e0 e1 e2 e3 e4
          go_wp2_with fail
          refine (del_scr (A := [boxI bx (.cells #[.int .i64 o.kind, .int .i64 o.k, .int .i64 o.m, .slice o.A o.xs.length o.c, .slice o.A2 o.p.length o.c2] 26), paI K7 g (delX X o.k o.m) (7200 + 2 * (k + 1)) (70 * (k + 1 + 1))]) (B := [boxI b2 (.cells #[.int .i64 b.kind, .int .i64 b.k, .int .i64 b.m, .slice b.A b.xs.length b.c, .slice b.A2 b.p.length b.c2] 26), boxI b1 (.cells #[.int .i64 a.kind, .int .i64 a.k, .int .i64 a.m, .slice a.A a.xs.length a.c, .slice a.A2 a.p.length a.c2] 26)]) S7.out HX.out hk59 o.k o.m).mono ?_
          rintro e w8 ⟨K8, rfl, h8⟩
          have S8 := Lib.hid (show Star w [paI K7 g (delX X o.k o.m) (7200 + 2 * (k + 1)) (70 * (k + 1 + 1)), paI K8 q (delX X o.k o.m) (7200 + 2 * (k + 1)) (70 * (k + 1 + 1)), boxI b2 (.cells #[.int .i64 b.kind, .int .i64 b.k, .int .i64 b.m, .slice b.A b.xs.length b.c, .slice b.A2 b.p.length b.c2] 26), boxI b1 (.cells #[.int .i64 a.kind, .int .i64 a.k, .int .i64 a.m, .slice a.A a.xs.length a.c, .slice a.A2 a.p.length a.c2] 26)] w8 from Star.drop (A := []) h8)
          clear h8 d0 d1 d2 d3 d4
          go_wp2_with fail
          go_roundw
          case rel => exact ⟨k + 1, _, _, _, by omega, by go_num, S8.out, HX.out.del o.k o.m⟩
          case measure => simp [intOf]; omega
        · have hkf2 : (o.kind == 2) = false := by simp [hk2]
          go_wp2_with (first
            | (refine wpList_load_mid rfl 26 (.tmp 46) rfl b0 (f + k * 5) rfl o.cells _ HRr.out Try.underlying26 rfl (op_infoL o) ?_)
            | (refine wpList_store_row rfl 26 (.tmp 10) (.tmp 47) rfl wr.heap.size o.cells.toArray rfl rfl 26 _ (heap_alloc_new wr _) (op_infoA o) (by rfl) (all_oneCell_toArray o.one) ?_; rw [alloc_setRow, HE.out.1, HE.out.2]))
          refine (ins_scr (A := [boxI bx (.cells #[.int .i64 o.kind, .int .i64 o.k, .int .i64 o.m, .slice o.A o.xs.length o.c, .slice o.A2 o.p.length o.c2] 26)]) (B := [paI Kq q X (7200 + 2 * k) (70 * (k + 1)), boxI b2 (.cells #[.int .i64 b.kind, .int .i64 b.k, .int .i64 b.m, .slice b.A b.xs.length b.c, .slice b.A2 b.p.length b.c2] 26), boxI b1 (.cells #[.int .i64 a.kind, .int .i64 a.k, .int .i64 a.m, .slice a.A a.xs.length a.c, .slice a.A2 a.p.length a.c2] 26)]) S6.out HX.out hk59 HOk.out HSo.out o.k).mono ?_
          rintro e w7 ⟨K7, rfl, h7⟩
          have hq7 : w7.heap[bx]? = some (.cells #[.int .i64 o.kind, .int .i64 o.k, .int .i64 o.m, .slice o.A o.xs.length o.c, .slice o.A2 o.p.length o.c2] 26) := h7.all (boxI bx (.cells #[.int .i64 o.kind, .int .i64 o.k, .int .i64 o.m, .slice o.A o.xs.length o.c, .slice o.A2 o.p.length o.c2] 26)) (by simp)
          have d0 : w7.cell? ⟨bx, 0, none⟩ = some (.int .i64 o.kind) := by rw [cell_of_row w7 bx 0 _ _ _ hq7]; rfl
          have d1 : w7.cell? ⟨bx, 1, none⟩ = some (.int .i64 o.k) := by rw [cell_of_row w7 bx 1 _ _ _ hq7]; rfl
          have d2 : w7.cell? ⟨bx, 2, none⟩ = some (.int .i64 o.m) := by rw [cell_of_row w7 bx 2 _ _ _ hq7]; rfl
          have d3 : w7.cell? ⟨bx, 3, none⟩ = some (.slice o.A o.xs.length o.c) := by rw [cell_of_row w7 bx 3 _ _ _ hq7]; rfl
          have d4 : w7.cell? ⟨bx, 4, none⟩ = some (.slice o.A2 o.p.length o.c2) := by rw [cell_of_row w7 bx 4 _ _ _ hq7]; rfl
          have S7 := Lib.hid h7
          clear h7 hq7 e0 e1 e2 e3 e4
          go_wp2_with fail
          refine (ins_scr (A := [boxI bx (.cells #[.int .i64 o.kind, .int .i64 o.k, .int .i64 o.m, .slice o.A o.xs.length o.c, .slice o.A2 o.p.length o.c2] 26), paI K7 g (insX X o.k o.L) (7200 + 2 * (k + 1)) (70 * (k + 1 + 1))]) (B := [boxI b2 (.cells #[.int .i64 b.kind, .int .i64 b.k, .int .i64 b.m, .slice b.A b.xs.length b.c, .slice b.A2 b.p.length b.c2] 26), boxI b1 (.cells #[.int .i64 a.kind, .int .i64 a.k, .int .i64 a.m, .slice a.A a.xs.length a.c, .slice a.A2 a.p.length a.c2] 26)]) S7.out HX.out hk59 HOk.out HSo.out o.k).mono ?_
          rintro e w8 ⟨K8, rfl, h8⟩
          have S8 := Lib.hid (show Star w [paI K7 g (insX X o.k o.L) (7200 + 2 * (k + 1)) (70 * (k + 1 + 1)), paI K8 q (insX X o.k o.L) (7200 + 2 * (k + 1)) (70 * (k + 1 + 1)), boxI b2 (.cells #[.int .i64 b.kind, .int .i64 b.k, .int .i64 b.m, .slice b.A b.xs.length b.c, .slice b.A2 b.p.length b.c2] 26), boxI b1 (.cells #[.int .i64 a.kind, .int .i64 a.k, .int .i64 a.m, .slice a.A a.xs.length a.c, .slice a.A2 a.p.length a.c2] 26)] w8 from Star.drop (A := []) h8)
          clear h8 d0 d1 d2 d3 d4
          go_wp2_with fail
          go_roundw
          case rel => exact ⟨k + 1, _, _, _, by omega, by go_num, S8.out, HX.out.ins HSo.out HOk.out.sets.len.symm o.k⟩
          case measure => simp [intOf]; omega
      · obtain rfl : k = n := by omega
        have HSa := Lib.hid hS
        have HXa := Lib.hid hX
        have hk58 : k ≤ 58 := by have := HSX.out.1; rw [HN.out] at this; omega
        have qa : wr.heap[b1]? = some (.cells #[.int .i64 a.kind, .int .i64 a.k, .int .i64 a.m, .slice a.A a.xs.length a.c, .slice a.A2 a.p.length a.c2] 26) := hS.all (boxI b1 (.cells #[.int .i64 a.kind, .int .i64 a.k, .int .i64 a.m, .slice a.A a.xs.length a.c, .slice a.A2 a.p.length a.c2] 26)) (by simp)
        have qb : wr.heap[b2]? = some (.cells #[.int .i64 b.kind, .int .i64 b.k, .int .i64 b.m, .slice b.A b.xs.length b.c, .slice b.A2 b.p.length b.c2] 26) := hS.all (boxI b2 (.cells #[.int .i64 b.kind, .int .i64 b.k, .int .i64 b.m, .slice b.A b.xs.length b.c, .slice b.A2 b.p.length b.c2] 26)) (by simp)
        have c11 : wr.cell? ⟨b1, 1, none⟩ = some (.int .i64 a.k) := by rw [cell_of_row wr b1 1 _ _ _ qa]; rfl
        have c13 : wr.cell? ⟨b1, 3, none⟩ = some (.slice a.A a.xs.length a.c) := by rw [cell_of_row wr b1 3 _ _ _ qa]; rfl
        have c21 : wr.cell? ⟨b2, 1, none⟩ = some (.int .i64 b.k) := by rw [cell_of_row wr b2 1 _ _ _ qb]; rfl
        have c22 : wr.cell? ⟨b2, 2, none⟩ = some (.int .i64 b.m) := by rw [cell_of_row wr b2 2 _ _ _ qb]; rfl
        have c24 : wr.cell? ⟨b2, 4, none⟩ = some (.slice b.A2 b.p.length b.c2) := by rw [cell_of_row wr b2 4 _ _ _ qb]; rfl
        clear qa qb
        clear hS hX
        by_cases hba : a.k < b.m
        · clear hk58
          go_wp2_with fail
          refine (known_any _).mono ?_
          rintro e wz ⟨rfl, hbz⟩
          have HB := Lib.hid (HSa.out.later hbz).below
          clear hbz
          go_wp2_with fail
          go_ret
          exact ⟨rfl, HB.out⟩
        have hba' : b.m ≤ a.k := by omega
        go_wp2_with fail
        refine (pat_scr (A := []) (B := [paI Kq q X (7200 + 2 * (k)) (70 * (k + 1)), boxI b2 (.cells #[.int .i64 b.kind, .int .i64 b.k, .int .i64 b.m, .slice b.A b.xs.length b.c, .slice b.A2 b.p.length b.c2] 26), boxI b1 (.cells #[.int .i64 a.kind, .int .i64 a.k, .int .i64 a.m, .slice a.A a.xs.length a.c, .slice a.A2 a.p.length a.c2] 26)]) HSa.out HXa.out (by omega) HOb.out HSb.out b.k b.m).mono ?_
        rintro e wa ⟨Ka, rfl, hwa⟩
        have Sa := Lib.hid (show Star w [paI Ka g (patX X b.k b.m b.p) (7200 + 2 * (k + 1)) (70 * (k + 1 + 1)), paI Kq q X (7200 + 2 * (k)) (70 * (k + 1)), boxI b2 (.cells #[.int .i64 b.kind, .int .i64 b.k, .int .i64 b.m, .slice b.A b.xs.length b.c, .slice b.A2 b.p.length b.c2] 26), boxI b1 (.cells #[.int .i64 a.kind, .int .i64 a.k, .int .i64 a.m, .slice a.A a.xs.length a.c, .slice a.A2 a.p.length a.c2] 26)] wa from hwa)
        clear hwa c11 c13 c21 c22 c24
        have HXb := Lib.hid (HXa.out.pat HSb.out.2.2.1 b.k b.m)
        rcases betP_or X b.k b.m with e1 | e1
        rotate_left
        · rw [e1]
          go_wp2_with fail
          refine (known_any _).mono ?_
          rintro e wz ⟨rfl, hbz⟩
          have HB := Lib.hid (Sa.out.later hbz).below
          clear hbz
          go_wp2_with fail
          go_ret
          exact ⟨rfl, HB.out⟩
        have E1 := Lib.hid e1
        rw [e1]
        have qa : wa.heap[b1]? = some (.cells #[.int .i64 a.kind, .int .i64 a.k, .int .i64 a.m, .slice a.A a.xs.length a.c, .slice a.A2 a.p.length a.c2] 26) := Sa.out.all (boxI b1 (.cells #[.int .i64 a.kind, .int .i64 a.k, .int .i64 a.m, .slice a.A a.xs.length a.c, .slice a.A2 a.p.length a.c2] 26)) (by simp)
        have qb : wa.heap[b2]? = some (.cells #[.int .i64 b.kind, .int .i64 b.k, .int .i64 b.m, .slice b.A b.xs.length b.c, .slice b.A2 b.p.length b.c2] 26) := Sa.out.all (boxI b2 (.cells #[.int .i64 b.kind, .int .i64 b.k, .int .i64 b.m, .slice b.A b.xs.length b.c, .slice b.A2 b.p.length b.c2] 26)) (by simp)
        have c11 : wa.cell? ⟨b1, 1, none⟩ = some (.int .i64 a.k) := by rw [cell_of_row wa b1 1 _ _ _ qa]; rfl
        have c13 : wa.cell? ⟨b1, 3, none⟩ = some (.slice a.A a.xs.length a.c) := by rw [cell_of_row wa b1 3 _ _ _ qa]; rfl
        have c21 : wa.cell? ⟨b2, 1, none⟩ = some (.int .i64 b.k) := by rw [cell_of_row wa b2 1 _ _ _ qb]; rfl
        have c22 : wa.cell? ⟨b2, 2, none⟩ = some (.int .i64 b.m) := by rw [cell_of_row wa b2 2 _ _ _ qb]; rfl
        have c24 : wa.cell? ⟨b2, 4, none⟩ = some (.slice b.A2 b.p.length b.c2) := by rw [cell_of_row wa b2 4 _ _ _ qb]; rfl
        clear qa qb
        clear e1
        go_wp2_with fail
        refine (ins_scr (A := []) (B := [paI Kq q X (7200 + 2 * (k)) (70 * (k + 1)), boxI b2 (.cells #[.int .i64 b.kind, .int .i64 b.k, .int .i64 b.m, .slice b.A b.xs.length b.c, .slice b.A2 b.p.length b.c2] 26), boxI b1 (.cells #[.int .i64 a.kind, .int .i64 a.k, .int .i64 a.m, .slice a.A a.xs.length a.c, .slice a.A2 a.p.length a.c2] 26)]) Sa.out HXb.out (by omega) HOa.out HSA.out a.k).mono ?_
        rintro e wb ⟨Kb, rfl, hwb⟩
        have Sb := Lib.hid (show Star w [paI Kb g (insX (patX X b.k b.m b.p) a.k a.L) (7200 + 2 * (k + 1 + 1)) (70 * (k + 1 + 1 + 1)), paI Kq q X (7200 + 2 * (k)) (70 * (k + 1)), boxI b2 (.cells #[.int .i64 b.kind, .int .i64 b.k, .int .i64 b.m, .slice b.A b.xs.length b.c, .slice b.A2 b.p.length b.c2] 26), boxI b1 (.cells #[.int .i64 a.kind, .int .i64 a.k, .int .i64 a.m, .slice a.A a.xs.length a.c, .slice a.A2 a.p.length a.c2] 26)] wb from hwb)
        clear hwb c11 c13 c21 c22 c24
        rcases betP_or (patX X b.k b.m b.p) a.k a.k with e2 | e2
        rotate_left
        · rw [e2]
          go_wp2_with fail
          refine (known_any _).mono ?_
          rintro e wz ⟨rfl, hbz⟩
          have HB := Lib.hid (Sb.out.later hbz).below
          clear hbz
          go_wp2_with fail
          go_ret
          exact ⟨rfl, HB.out⟩
        have E2 := Lib.hid (apart_law1 E1.out hba' e2 a.L b.p)
        rw [e2]
        have qa : wb.heap[b1]? = some (.cells #[.int .i64 a.kind, .int .i64 a.k, .int .i64 a.m, .slice a.A a.xs.length a.c, .slice a.A2 a.p.length a.c2] 26) := Sb.out.all (boxI b1 (.cells #[.int .i64 a.kind, .int .i64 a.k, .int .i64 a.m, .slice a.A a.xs.length a.c, .slice a.A2 a.p.length a.c2] 26)) (by simp)
        have qb : wb.heap[b2]? = some (.cells #[.int .i64 b.kind, .int .i64 b.k, .int .i64 b.m, .slice b.A b.xs.length b.c, .slice b.A2 b.p.length b.c2] 26) := Sb.out.all (boxI b2 (.cells #[.int .i64 b.kind, .int .i64 b.k, .int .i64 b.m, .slice b.A b.xs.length b.c, .slice b.A2 b.p.length b.c2] 26)) (by simp)
        have c11 : wb.cell? ⟨b1, 1, none⟩ = some (.int .i64 a.k) := by rw [cell_of_row wb b1 1 _ _ _ qa]; rfl
        have c13 : wb.cell? ⟨b1, 3, none⟩ = some (.slice a.A a.xs.length a.c) := by rw [cell_of_row wb b1 3 _ _ _ qa]; rfl
        have c21 : wb.cell? ⟨b2, 1, none⟩ = some (.int .i64 b.k) := by rw [cell_of_row wb b2 1 _ _ _ qb]; rfl
        have c22 : wb.cell? ⟨b2, 2, none⟩ = some (.int .i64 b.m) := by rw [cell_of_row wb b2 2 _ _ _ qb]; rfl
        have c24 : wb.cell? ⟨b2, 4, none⟩ = some (.slice b.A2 b.p.length b.c2) := by rw [cell_of_row wb b2 4 _ _ _ qb]; rfl
        clear qa qb
        clear e2 hba hba'
        go_wp2_with fail
        refine (ins_scr (A := [paI Kb g (insX (patX X b.k b.m b.p) a.k a.L) (7200 + 2 * (k + 1 + 1)) (70 * (k + 1 + 1 + 1))]) (B := [boxI b2 (.cells #[.int .i64 b.kind, .int .i64 b.k, .int .i64 b.m, .slice b.A b.xs.length b.c, .slice b.A2 b.p.length b.c2] 26), boxI b1 (.cells #[.int .i64 a.kind, .int .i64 a.k, .int .i64 a.m, .slice a.A a.xs.length a.c, .slice a.A2 a.p.length a.c2] 26)]) Sb.out HXa.out (by omega) HOa.out HSA.out a.k).mono ?_
        rintro e wc ⟨Kc, rfl, hwc⟩
        have Sc := Lib.hid (show Star w [paI Kb g (insX (patX X b.k b.m b.p) a.k a.L) (7200 + 2 * (k + 1 + 1)) (70 * (k + 1 + 1 + 1)), paI Kc q (insX X a.k a.L) (7200 + 2 * (k + 1)) (70 * (k + 1 + 1)), boxI b2 (.cells #[.int .i64 b.kind, .int .i64 b.k, .int .i64 b.m, .slice b.A b.xs.length b.c, .slice b.A2 b.p.length b.c2] 26), boxI b1 (.cells #[.int .i64 a.kind, .int .i64 a.k, .int .i64 a.m, .slice a.A a.xs.length a.c, .slice a.A2 a.p.length a.c2] 26)] wc from hwc)
        clear hwc c11 c13 c21 c22 c24
        rw [E2.out.1]
        have HXc := Lib.hid (HXa.out.ins HSA.out HOa.out.sets.len.symm a.k)
        have qa : wc.heap[b1]? = some (.cells #[.int .i64 a.kind, .int .i64 a.k, .int .i64 a.m, .slice a.A a.xs.length a.c, .slice a.A2 a.p.length a.c2] 26) := Sc.out.all (boxI b1 (.cells #[.int .i64 a.kind, .int .i64 a.k, .int .i64 a.m, .slice a.A a.xs.length a.c, .slice a.A2 a.p.length a.c2] 26)) (by simp)
        have qb : wc.heap[b2]? = some (.cells #[.int .i64 b.kind, .int .i64 b.k, .int .i64 b.m, .slice b.A b.xs.length b.c, .slice b.A2 b.p.length b.c2] 26) := Sc.out.all (boxI b2 (.cells #[.int .i64 b.kind, .int .i64 b.k, .int .i64 b.m, .slice b.A b.xs.length b.c, .slice b.A2 b.p.length b.c2] 26)) (by simp)
        have c11 : wc.cell? ⟨b1, 1, none⟩ = some (.int .i64 a.k) := by rw [cell_of_row wc b1 1 _ _ _ qa]; rfl
        have c13 : wc.cell? ⟨b1, 3, none⟩ = some (.slice a.A a.xs.length a.c) := by rw [cell_of_row wc b1 3 _ _ _ qa]; rfl
        have c21 : wc.cell? ⟨b2, 1, none⟩ = some (.int .i64 b.k) := by rw [cell_of_row wc b2 1 _ _ _ qb]; rfl
        have c22 : wc.cell? ⟨b2, 2, none⟩ = some (.int .i64 b.m) := by rw [cell_of_row wc b2 2 _ _ _ qb]; rfl
        have c24 : wc.cell? ⟨b2, 4, none⟩ = some (.slice b.A2 b.p.length b.c2) := by rw [cell_of_row wc b2 4 _ _ _ qb]; rfl
        clear qa qb
        go_wp2_with fail
        refine (pat_scr (A := [paI Kb g (insX (patX X b.k b.m b.p) a.k a.L) (7200 + 2 * (k + 1 + 1)) (70 * (k + 1 + 1 + 1))]) (B := [boxI b2 (.cells #[.int .i64 b.kind, .int .i64 b.k, .int .i64 b.m, .slice b.A b.xs.length b.c, .slice b.A2 b.p.length b.c2] 26), boxI b1 (.cells #[.int .i64 a.kind, .int .i64 a.k, .int .i64 a.m, .slice a.A a.xs.length a.c, .slice a.A2 a.p.length a.c2] 26)]) Sc.out HXc.out (by omega) HOb.out HSb.out b.k b.m).mono ?_
        rintro e wd ⟨Kd, rfl, hwd⟩
        have Sd0 := Lib.hid (show Star w [paI Kb g (insX (patX X b.k b.m b.p) a.k a.L) (7200 + 2 * (k + 1 + 1)) (70 * (k + 1 + 1 + 1)), paI Kd q (patX (insX X a.k a.L) b.k b.m b.p) (7200 + 2 * (k + 1 + 1)) (70 * (k + 1 + 1 + 1)), boxI b2 (.cells #[.int .i64 b.kind, .int .i64 b.k, .int .i64 b.m, .slice b.A b.xs.length b.c, .slice b.A2 b.p.length b.c2] 26), boxI b1 (.cells #[.int .i64 a.kind, .int .i64 a.k, .int .i64 a.m, .slice a.A a.xs.length a.c, .slice a.A2 a.p.length a.c2] 26)] wd from hwd)
        clear hwd c11 c13 c21 c22 c24
        rw [E2.out.2.1]
        have hLP := (HXc.out.pat HSb.out.2.2.1 b.k b.m).len
        rw [E2.out.2.2] at Sd0
        rw [E2.out.2.2] at hLP
        obtain ⟨Y, hY⟩ : ∃ Y, (insX (patX X b.k b.m b.p) a.k a.L) = Y := ⟨_, rfl⟩
        rw [hY] at Sd0 hLP
        obtain ⟨N9, hN9⟩ : ∃ v, 7200 + 2 * (k + 1 + 1) = v := ⟨_, rfl⟩
        obtain ⟨M9, hM9⟩ : ∃ v, 70 * (k + 1 + 1 + 1) = v := ⟨_, rfl⟩
        rw [hN9, hM9] at Sd0
        have hM : M9 ≤ 1000000 := by omega
        have Sd := Lib.hid Sd0.out
        clear Sd0 Sa Sb Sc E1 E2 HXb HXc hN9 hM9 hY
        obtain ⟨ny, hny⟩ : ∃ v, Y.length = v := ⟨_, rfl⟩
        have HNY := Lib.hid hny
        have hny2 : ny ≤ 3600 := by omega
        have HLg := Lib.hid (len_star (A := []) (B := [paI Kd q Y N9 M9, boxI b2 (.cells #[.int .i64 b.kind, .int .i64 b.k, .int .i64 b.m, .slice b.A b.xs.length b.c, .slice b.A2 b.p.length b.c2] 26), boxI b1 (.cells #[.int .i64 a.kind, .int .i64 a.k, .int .i64 a.m, .slice a.A a.xs.length a.c, .slice a.A2 a.p.length a.c2] 26)]) Sd.out)
        rw [hny] at HLg
        clear hLP hny
        go_wp2_with fail
        refine HLg.out.mono ?_
        clear HLg Sd
        rintro e we ⟨Ke, rfl, he⟩
        have HLq := Lib.hid (len_star (A := [paI Ke g Y N9 M9]) (B := [boxI b2 (.cells #[.int .i64 b.kind, .int .i64 b.k, .int .i64 b.m, .slice b.A b.xs.length b.c, .slice b.A2 b.p.length b.c2] 26), boxI b1 (.cells #[.int .i64 a.kind, .int .i64 a.k, .int .i64 a.m, .slice a.A a.xs.length a.c, .slice a.A2 a.p.length a.c2] 26)]) he)
        rw [HNY.out] at HLq
        clear he
        go_wp2_with fail
        refine HLq.out.mono ?_
        clear HLq
        rintro e wf ⟨Kf, rfl, hf⟩
        have HLg := Lib.hid (len_star (A := []) (B := [paI Kf q Y N9 M9, boxI b2 (.cells #[.int .i64 b.kind, .int .i64 b.k, .int .i64 b.m, .slice b.A b.xs.length b.c, .slice b.A2 b.p.length b.c2] 26), boxI b1 (.cells #[.int .i64 a.kind, .int .i64 a.k, .int .i64 a.m, .slice a.A a.xs.length a.c, .slice a.A2 a.p.length a.c2] 26)]) hf)
        rw [HNY.out] at HLg
        clear hf
        go_wp2_with fail
        refine HLg.out.mono ?_
        clear HLg
        rintro e wh ⟨Kh, rfl, hh⟩
        have Sh := Lib.hid (show Star w [paI Kh g Y N9 M9, paI Kf q Y N9 M9, boxI b2 (.cells #[.int .i64 b.kind, .int .i64 b.k, .int .i64 b.m, .slice b.A b.xs.length b.c, .slice b.A2 b.p.length b.c2] 26), boxI b1 (.cells #[.int .i64 a.kind, .int .i64 a.k, .int .i64 a.m, .slice a.A a.xs.length a.c, .slice a.A2 a.p.length a.c2] 26)] wh from hh)
        clear hh
        go_wp2_with fail
        go_loopw [129] (fun vm wy => ∃ (m : Nat) (K L : Nat → Prop), m ≤ ny ∧ vm = .int .i64 m ∧ Star w [paI K g Y N9 M9, paI L q Y N9 M9, boxI b2 (.cells #[.int .i64 b.kind, .int .i64 b.k, .int .i64 b.m, .slice b.A b.xs.length b.c, .slice b.A2 b.p.length b.c2] 26), boxI b1 (.cells #[.int .i64 a.kind, .int .i64 a.k, .int .i64 a.m, .slice a.A a.xs.length a.c, .slice a.A2 a.p.length a.c2] 26)] wy) (fun vm _ => ny - (intOf vm).toNat)
        case atStart => exact ⟨0, Kh, Kf, Nat.zero_le _, rfl, Sh.out⟩
        case round =>
          rename World => wy
          obtain ⟨m, K, L, hm, rfl, hS⟩ := hrel
          by_cases hmC : m < ny
          · have hmI : (m : Int) < (ny : Int) := by omega
            have hat : atE Y (m : Int) = 0 := by unfold atE; rw [if_pos (by have := HNY.out; omega)]
            have hle : (atA Y (m : Int)).length ≤ 1000000 := by
              have h1 : ParS wy K g Y N9 M9 := hS.all (paI K g Y N9 M9) (by simp)
              unfold atA
              split
              · cases hq : Y[(m : Int).toNat]? with
                | none => simp
                | some q => exact Nat.le_trans (h1.le q (List.mem_of_getElem? hq)) hM
              · simp
            have HA1 := Lib.hid (at_star (A := []) (B := [paI L q Y N9 M9, boxI b2 (.cells #[.int .i64 b.kind, .int .i64 b.k, .int .i64 b.m, .slice b.A b.xs.length b.c, .slice b.A2 b.p.length b.c2] 26), boxI b1 (.cells #[.int .i64 a.kind, .int .i64 a.k, .int .i64 a.m, .slice a.A a.xs.length a.c, .slice a.A2 a.p.length a.c2] 26)]) hS hM (m : Int) (by omega))
            rw [hat] at HA1
            have HAT := Lib.hid hat
            have HLE := Lib.hid hle
            clear hS hat hle
            go_wp2_with fail
            refine HA1.out.mono ?_
            clear HA1
            rintro e w1 ⟨K1, v1, rfl, h1⟩
            obtain ⟨A1, c1, rfl, hs1⟩ := set_shape (show (setI v1 wy.heap.size (atA Y m)).P w1 from h1.all _ (List.mem_cons_self))
            obtain ⟨Z, hZ⟩ : ∃ Z, atA Y (m : Int) = Z := ⟨_, rfl⟩
            rw [hZ] at h1 hs1 HLE ⊢
            obtain ⟨nz, hnz⟩ : ∃ v, Z.length = v := ⟨_, rfl⟩
            have HNZ := Lib.hid (And.intro hnz hZ)
            have HA2 := Lib.hid (at_star (A := [setI (.slice A1 Z.length c1) wy.heap.size Z, paI K1 g Y N9 M9]) (B := [boxI b2 (.cells #[.int .i64 b.kind, .int .i64 b.k, .int .i64 b.m, .slice b.A b.xs.length b.c, .slice b.A2 b.p.length b.c2] 26), boxI b1 (.cells #[.int .i64 a.kind, .int .i64 a.k, .int .i64 a.m, .slice a.A a.xs.length a.c, .slice a.A2 a.p.length a.c2] 26)]) h1 hM (m : Int) (by omega))
            rw [HAT.out, hZ] at HA2
            rw [hnz] at HA2
            have HS1 := Lib.hid hs1
            rw [hnz] at HS1
            rw [hnz]
            clear h1 hs1 hnz hZ
            go_wp2_with fail
            refine HA2.out.mono ?_
            clear HA2
            rintro e w2 ⟨K2, v2, rfl, h2⟩
            obtain ⟨A2, c2, rfl, hs2⟩ := set_shape (show (setI v2 w1.heap.size Z).P w2 from h2.all _ (List.mem_cons_self))
            have hs1 := (show (setI (.slice A1 nz c1) wy.heap.size Z).P w2 from h2.all _ (by simp))
            have hs1' : Sees w2 w2.heap.size 5 A1 Z.length (rowA Z) := Sees.of_own (c := c1) (show w2.ownsRow wy.heap.size 72 5 (.slice A1 Z.length c1) Z.length (rowA Z) from by rw [HNZ.out.1]; have h3 := hs1; unfold setI rowI at h3; rw [HNZ.out.1] at h3; exact h3)
            have HSm := Lib.hid (show Calls Try.prog 16 #[.slice A1 Z.length c1, .slice A2 Z.length c2] w2 (fun e w' => e = .returned (.bool true) ∧ Below w2.heap.size w2 w') from by
              have h3 := same05_any (c := c1) (c' := c2) hs1' hs2 HLE.out HLE.out
              simpa using h3)
            have S2 := Lib.hid (show Star w [paI K1 g Y N9 M9, paI K2 q Y N9 M9, boxI b2 (.cells #[.int .i64 b.kind, .int .i64 b.k, .int .i64 b.m, .slice b.A b.xs.length b.c, .slice b.A2 b.p.length b.c2] 26), boxI b1 (.cells #[.int .i64 a.kind, .int .i64 a.k, .int .i64 a.m, .slice a.A a.xs.length a.c, .slice a.A2 a.p.length a.c2] 26)] w2 from Star.drop (A := []) (Star.drop (A := []) h2))
            rw [HNZ.out.1] at HSm ⊢
            clear h2 hs1 hs1' hs2
            go_wp2_with fail
            refine HSm.out.mono ?_
            clear HSm
            rintro e w3 ⟨rfl, hb3⟩
            have S3 := Lib.hid (S2.out.later hb3)
            clear hb3
            go_wp2_with fail
            go_roundw
            case rel => exact ⟨m + 1, _, _, by omega, by go_num, S3.out⟩
            case measure => simp [intOf]; omega
          · obtain rfl : m = ny := by omega
            have HS9 := Lib.hid hS
            clear hS
            go_wp2_with fail
            refine (known_any _).mono ?_
            rintro e wz ⟨rfl, hbz⟩
            have HB := Lib.hid (HS9.out.later hbz).below
            clear hbz
            go_wp2_with fail
            go_ret
            exact ⟨rfl, HB.out⟩

end Go.Proofs.Ytpaelbhljgdenaa
