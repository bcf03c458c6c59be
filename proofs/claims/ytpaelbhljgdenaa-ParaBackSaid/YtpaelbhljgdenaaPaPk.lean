/-
  The walk of rubriclaw13.ParaBack.
-/
import Derived.Test.YtpaelbhljgdenaaPaOo
import Derived.Deep.CutRange
namespace Go.Proofs.Ytpaelbhljgdenaa
open Go.RowKit

theorem run_ne_val (b c d : Int) (s : ByteArray) (w : World) : (binOp .neq 44 (.agg #[.int .u8 b, .int .i64 c, .int .u64 d, .string s]) (.agg #[.int .u8 b, .int .i64 c, .int .u64 d, .string s])).run Try.prog w = .ok (.bool false) w := by
  rw [run_neq_struct]
  have h : (Op.equalIn 10000 44 (.agg #[.int .u8 b, .int .i64 c, .int .u64 d, .string s]) (.agg #[.int .u8 b, .int .i64 c, .int .u64 d, .string s])).run Try.prog w = .ok true w := by
    simp [go_sem]
  rw [h]
  rfl
theorem exec_ne_val {o : Oper} {ev : Operand → Value} {w : World} (p q : Operand) (ho : o.op = .binOp .neq 44 p q 44) (x y : Vl) (hx : ev p = .agg x.cells.toArray) (hy : ev q = .agg y.cells.toArray) (r : Bool) (hr : x = y ∧ r = false) :
    (execOp ev o).run Try.prog w = .ok (.value (.bool r)) w := by
  obtain ⟨rfl, rfl⟩ := hr
  obtain ⟨b, c, d, s⟩ := x
  have hx : ev p = .agg #[.int .u8 b, .int .i64 c, .int .u64 d, .string s] := hx
  have hy : ev q = .agg #[.int .u8 b, .int .i64 c, .int .u64 d, .string s] := hy
  unfold execOp
  simp only [ho, hx, hy, Sem.run_bind, run_eqGuard_agg (P := Try.prog) w .neq 44 p q #[.int .u8 b, .int .i64 c, .int .u64 d, .string s] #[.int .u8 b, .int .i64 c, .int .u64 d, .string s] (by kernel_rfl), Result.andThen_ok, run_ne_val, Sem.run_pure]

theorem getV_shape (g : Option Vl) : ∃ (u : Vl) (th : Bool), getV g = .tuple #[.agg u.cells.toArray, .bool th] ∧ (th = g.isSome) ∧ ∀ v, g = some v → u = v := by
  cases g with
  | none => exact ⟨⟨0, 0, 0, ⟨#[]⟩⟩, false, rfl, rfl, fun v h => by cases h⟩
  | some v => exact ⟨v, true, rfl, rfl, fun v' h => by cases h; rfl⟩

theorem atA_get {X : List (List At)} {m : Nat} (h : m < X.length) : X[m]? = some (atA X (m : Int)) := by
  unfold atA
  rw [if_pos (by omega), show (m : Int).toNat = m by omega, List.getElem?_eq_getElem h]
  rfl
theorem over_all {X : List (List At)} {n : Nat} (h : X.length = n) : overX X 0 n = X ∧ betP X 0 n = 0 := by
  have h1 : betP X 0 n = 0 := by unfold betP; rw [if_pos (by omega)]
  refine ⟨?_, h1⟩
  unfold overX
  rw [if_pos h1, show (0 : Int).toNat = 0 from rfl, show (n : Int).toNat = n by omega, List.drop_zero, Nat.sub_zero, List.take_of_length_le (by omega)]
theorem back_law1 {X : List (List At)} {i : Int} (e : betP X i i = 0) (L : List (List At)) : delX (insX X i L) i (i + (L.length : Int)) = X ∧ betP (insX X i L) i (i + (L.length : Int)) = 0 := by
  have hl := insX_len (L := L) e
  obtain ⟨h0, h1, h2⟩ := betP_zero e
  have e2 : betP (insX X i L) i (i + (L.length : Int)) = 0 := by unfold betP; rw [if_pos (by omega)]
  refine ⟨?_, e2⟩
  unfold delX
  rw [if_pos e2]
  unfold insX
  rw [if_pos e, show (i + (L.length : Int)).toNat = i.toNat + L.length by omega]
  have hu : (X.take i.toNat).length = i.toNat := by rw [List.length_take]; omega
  rw [List.append_assoc, List.take_append_of_le_length (by omega), List.take_take, Nat.min_self, ← List.append_assoc, List.drop_append, List.length_append, hu, List.drop_of_length_le (by rw [List.length_append]; omega), List.nil_append, show i.toNat + L.length - (i.toNat + L.length) = 0 by omega, List.drop_zero, List.take_append_drop]
theorem pat_get {X : List (List At)} {i j : Int} {p : List Ch} (e : betP X i j = 0) (m : Nat) : (patX X i j p)[m]? = if i ≤ (m : Int) ∧ (m : Int) < j then X[m]?.map (fun a => applyP a p) else X[m]? := by
  obtain ⟨h0, h1, h2⟩ := betP_zero e
  unfold patX
  rw [if_pos e]
  have l1 : (X.take i.toNat).length = i.toNat := by rw [List.length_take]; omega
  have l2 : (List.map (fun a => applyP a p) ((X.drop i.toNat).take (j.toNat - i.toNat))).length = j.toNat - i.toNat := by rw [List.length_map, List.length_take, List.length_drop]; omega
  by_cases c1 : m < i.toNat
  · rw [List.append_assoc, List.getElem?_append_left (by omega), List.getElem?_take_of_lt c1, if_neg (by omega)]
  · by_cases c2 : m < j.toNat
    · rw [List.append_assoc, List.getElem?_append_right (by omega), List.getElem?_append_left (by omega), l1, List.getElem?_map, List.getElem?_take_of_lt (by omega), List.getElem?_drop, if_pos (by omega), show i.toNat + (m - i.toNat) = m by omega]
    · rw [List.getElem?_append_right (by rw [List.length_append]; omega), List.length_append, l1, l2, List.getElem?_drop, if_neg (by omega), show j.toNat + (m - (i.toNat + (j.toNat - i.toNat))) = m by omega]
theorem pat_out {X : List (List At)} {i j : Int} {p : List Ch} (e : betP X i j = 0) {m : Nat} (h : (m : Int) < i ∨ j ≤ m) : atA (patX X i j p) (m : Int) = atA X (m : Int) := by
  unfold atA
  rw [if_pos (by omega), if_pos (by omega), show (m : Int).toNat = m by omega, pat_get e, if_neg (by omega)]
theorem pat_in {X : List (List At)} {i j : Int} {p : List Ch} (e : betP X i j = 0) {m : Nat} (h1 : i ≤ (m : Int)) (h2 : (m : Int) < j) : atA (patX X i j p) (m : Int) = applyP (atA X (m : Int)) p := by
  obtain ⟨g0, g1, g2⟩ := betP_zero e
  unfold atA
  rw [if_pos (by omega), if_pos (by omega), show (m : Int).toNat = m by omega, pat_get e, if_pos ⟨h1, h2⟩, List.getElem?_eq_getElem (by omega)]
  rfl

set_option maxRecDepth 100000 in
set_option maxHeartbeats 16000000 in
theorem back_law (A : Option Addr) (c : Nat) (ops : List OpS) (y : OpS) (w : World) (hs : Sees w w.heap.size 5 A ops.length (ops.flatMap OpS.cells)) (hok : ∀ y ∈ ops, y.Ok w) (hoo : y.Ok w) (hsz : ops.length * 72 ≤ 140737488351232) :
    Calls Try.prog 3 #[.slice A ops.length c, .agg y.cells.toArray] w fun e w' => e = .returned (.bool true) ∧ Below w.heap.size w w' := by
  obtain ⟨i0, ii0, iz0, iz1, iz2⟩ := info_parts op_info
  have HS := Lib.hid hs
  have HO := Lib.hid hok
  have HOy := Lib.hid hoo
  obtain ⟨n, hn⟩ : ∃ n, ops.length = n := ⟨_, rfl⟩
  have HN := Lib.hid hn
  rw [hn] at HS hsz ⊢
  have HSZ := Lib.hid hsz
  obtain ⟨b1, hb1⟩ : ∃ v, w.heap.size = v := ⟨_, rfl⟩
  obtain ⟨w1, hw1⟩ : ∃ v, w.alloc (.cells #[.int .i64 y.kind, .int .i64 y.k, .int .i64 y.m, .slice y.A y.xs.length y.c, .slice y.A2 y.p.length y.c2] 26) = v := ⟨_, rfl⟩
  have S1 := Lib.hid (show Star w [boxI b1 (.cells #[.int .i64 y.kind, .int .i64 y.k, .int .i64 y.m, .slice y.A y.xs.length y.c, .slice y.A2 y.p.length y.c2] 26)] w1 from Star.add (Star.nil_ w) (by rw [← hw1]; exact (Below.refl _ _).alloc (Nat.le_refl _) _) (show w1.heap[b1]? = _ by rw [← hw1, ← hb1]; exact heap_alloc_new w _) (fun k hk => by have hk : k = b1 := hk; omega))
  have ea : (Value.agg y.cells.toArray) = .agg #[.int .i64 y.kind, .int .i64 y.k, .int .i64 y.m, .slice y.A y.xs.length y.c, .slice y.A2 y.p.length y.c2] := rfl
  rw [ea]
  clear ea hs hok hoo hn hsz
  go_enter Try.func3, Try.ntmps3
  go_wp2_with fail
  refine (newP_star S1.out).mono ?_
  rintro e w4 ⟨g, rfl, h4⟩
  have S4 := Lib.hid h4
  clear h4 S1 hw1 hb1
  obtain ⟨b5, hb5⟩ : ∃ v, w4.heap.size = v := ⟨_, rfl⟩
  obtain ⟨w5, hw5⟩ : ∃ v, w4.alloc (.cells ([y].flatMap OpS.cells).toArray 26) = v := ⟨_, rfl⟩
  have HQA := Lib.hid (show w4.heap[b1]? = some (.cells y.cells.toArray 26) from S4.out.all (boxI b1 (.cells #[.int .i64 y.kind, .int .i64 y.k, .int .i64 y.m, .slice y.A y.xs.length y.c, .slice y.A2 y.p.length y.c2] 26)) (by simp))
  have HR := Lib.hid (run_ops1 y w4)
  rw [hw5, hb5] at HR
  have HOW := Lib.hid (ops_own (k := 1) (new := [y]) rfl (by decide) hb5 hw5)
  have HGR := Lib.hid (fun (v : Value) (w6 : World) => ops_grown (w := w4) (w2 := w6) (v := v) (new := [y]) (ops := ops) rfl HN.out hb5 hw5)
  have HS5 := Lib.hid (show Sees w5 w.heap.size 5 A n (ops.flatMap OpS.cells) from HS.out.below (S4.out.below.trans (show Below w.heap.size w4 w5 from by rw [← hw5]; exact (Below.refl _ _).alloc S4.out.below.size _)) (Nat.le_refl _))
  have HLB := Lib.hid (show b5 ≤ w5.heap.size by rw [← hw5, ← hb5]; simp)
  clear hb5 hw5
  go_wp2_with (first
    | (refine wpList_known _ rfl (exec_load_row 26 (.tmp 3) rfl b1 rfl 26 y.cells.toArray (0, 0) _ HQA.out Try.underlying26 rfl (op_infoA y)) ?_)
    | (refine wpList_known _ rfl (v := .slice (some ⟨b5, 0, none⟩) 1 1) (w' := w5) (exec_slice1 22 (.tmp 24) rfl (.agg y.cells.toArray) rfl HR.out) ?_)
    | (refine wpList_append_when rfl _ _ _ rfl b5 26 i0 _ 5 72 Try.underlying22 ii0 iz0 iz1 iz2 rfl (by omega) (.slice (some ⟨b5, 0, none⟩) 1 1) 1 ([y].flatMap OpS.cells) rfl HOW.out w.heap.size A n c (ops.flatMap OpS.cells) rfl HS5.out (ops_one ops) (by have := HSZ.out; simp only [maxLen]; omega) (by have := HSZ.out; omega) HLB.out ?_
       intro v6 w6 hown6 hgr6 _ _
       obtain ⟨hb6, A6, c6, rfl, hs6⟩ := HGR.out v6 w6 hown6 hgr6
       have S6 := Lib.hid (S4.out.later hb6)
       have HSm := Lib.hid (small_any (c := c6) S6.out.below hs6 (Nat.le_refl _) (fun x ho => by
         rcases List.mem_append.1 ho with e | e
         · rw [List.mem_singleton.1 e]; exact HOy.out
         · exact HO.out x e))
       obtain ⟨n6, hn6⟩ : ∃ v, ([y] ++ ops).length = v := ⟨_, rfl⟩
       rw [hn6] at HSm ⊢
       clear hown6 hgr6 hb6 hs6 hn6 HGR HOW))
  refine HSm.out.mono ?_
  clear HSm HR HS5 HLB HQA HSZ S4
  rintro e w7 ⟨sm, rfl, hsm, hb7⟩
  have S7 := Lib.hid (S6.out.later hb7)
  have HSM := Lib.hid hsm
  clear hb7 hsm S6
  cases sm with
  | false =>
    go_wp2_with fail
    refine (known_any _).mono ?_
    rintro e wz ⟨rfl, hbz⟩
    have HB := Lib.hid (S7.out.later hbz).below
    clear hbz
    go_wp2_with fail
    go_ret
    exact ⟨rfl, HB.out⟩
  | true =>
    have HSX := Lib.hid (show ops.length ≤ 59 by have := (HSM.out rfl).1; rw [List.length_append, show [y].length = 1 from rfl] at this; omega)
    have HSL := Lib.hid (smallL.tail (HSM.out rfl))
    have HSy := Lib.hid ((HSM.out rfl).2 y (by simp))
    have S0 := Lib.hid (show Star w [paI (fun k => k = g) g [] (7200 + 2 * 0) (70 * (0 + 1)), boxI b1 (.cells #[.int .i64 y.kind, .int .i64 y.k, .int .i64 y.m, .slice y.A y.xs.length y.c, .slice y.A2 y.p.length y.c2] 26)] w7 from pa_more (A := []) (B := [boxI b1 (.cells #[.int .i64 y.kind, .int .i64 y.k, .int .i64 y.m, .slice y.A y.xs.length y.c, .slice y.A2 y.p.length y.c2] 26)]) S7.out (by omega) (by omega))
    clear S7 HSM
    go_wp2_with fail
    go_loopw [38] (fun vk wr => ∃ (k : Nat) (X : List (List At)) (Kg : Nat → Prop), k ≤ n ∧ vk = .int .i64 k ∧ Star w [paI Kg g X (7200 + 2 * k) (70 * (k + 1)), boxI b1 (.cells #[.int .i64 y.kind, .int .i64 y.k, .int .i64 y.m, .slice y.A y.xs.length y.c, .slice y.A2 y.p.length y.c2] 26)] wr ∧ PX X k) (fun vk _ => n - (intOf vk).toNat)
    case atStart => exact ⟨0, [], _, Nat.zero_le _, rfl, S0.out, PX.nil_⟩
    case round =>
      obtain ⟨k, X, Kg, hk, rfl, hS, hX⟩ := hrel
      by_cases hlt : k < n
      · have hkI : (k : Int) < n := by omega
        have hn60 := HSL.out.1
        obtain ⟨o, ho⟩ : ∃ o, ops[k]? = some o := ⟨_, List.getElem?_eq_getElem (by rw [HN.out]; exact hlt)⟩
        have HOk := Lib.hid (HO.out o (List.mem_of_getElem? ho))
        have HSo := Lib.hid (HSL.out.2 o (List.mem_of_getElem? ho))
        obtain ⟨b0, f, rfl, hbl, hr⟩ := op_range HS.out ho
        have HRr := Lib.hid (show wr.rangeAt b0 (f + k * 5) o.cells from fun j v hv => (hS.below.cell (p := ⟨b0, f + k * 5 + j, none⟩) hbl).trans (hr j v hv))
        obtain ⟨bx, hbx⟩ : ∃ v, wr.heap.size = v := ⟨_, rfl⟩
        obtain ⟨w6, hw6⟩ : ∃ v, wr.alloc (.cells o.cells.toArray 26) = v := ⟨_, rfl⟩
        have S6 := Lib.hid (show Star w (boxI bx (.cells #[.int .i64 o.kind, .int .i64 o.k, .int .i64 o.m, .slice o.A o.xs.length o.c, .slice o.A2 o.p.length o.c2] 26) :: [paI Kg g X (7200 + 2 * k) (70 * (k + 1)), boxI b1 (.cells #[.int .i64 y.kind, .int .i64 y.k, .int .i64 y.m, .slice y.A y.xs.length y.c, .slice y.A2 y.p.length y.c2] 26)]) w6 from hS.add (by rw [← hw6]; exact (Below.refl _ _).alloc (Nat.le_refl _) _) (show w6.heap[bx]? = _ by rw [← hw6, ← hbx]; exact heap_alloc_new wr _) (fun k hk => by have hk : k = bx := hk; omega))
        have hq6 : w6.heap[bx]? = some (.cells #[.int .i64 o.kind, .int .i64 o.k, .int .i64 o.m, .slice o.A o.xs.length o.c, .slice o.A2 o.p.length o.c2] 26) := S6.out.all (boxI bx (.cells #[.int .i64 o.kind, .int .i64 o.k, .int .i64 o.m, .slice o.A o.xs.length o.c, .slice o.A2 o.p.length o.c2] 26)) (by simp)
        have e0 : w6.cell? ⟨bx, 0, none⟩ = some (.int .i64 o.kind) := by rw [cell_of_row w6 bx 0 _ _ _ hq6]; rfl
        have e1 : w6.cell? ⟨bx, 1, none⟩ = some (.int .i64 o.k) := by rw [cell_of_row w6 bx 1 _ _ _ hq6]; rfl
        have e2 : w6.cell? ⟨bx, 2, none⟩ = some (.int .i64 o.m) := by rw [cell_of_row w6 bx 2 _ _ _ hq6]; rfl
        have e3 : w6.cell? ⟨bx, 3, none⟩ = some (.slice o.A o.xs.length o.c) := by rw [cell_of_row w6 bx 3 _ _ _ hq6]; rfl
        have e4 : w6.cell? ⟨bx, 4, none⟩ = some (.slice o.A2 o.p.length o.c2) := by rw [cell_of_row w6 bx 4 _ _ _ hq6]; rfl
        have HE := Lib.hid (And.intro hw6 hbx)
        have HX := Lib.hid hX
        have hk59 : k ≤ 59 := by rw [HN.out] at hn60; omega
        clear ho hr hbx hw6 hq6 hS hX hn60
        by_cases hk1 : o.kind = 1
        · rw [hk1] at e0
          go_wp2_with (first
            | (refine wpList_load_mid rfl 26 (.tmp 40) rfl b0 (f + k * 5) rfl o.cells _ HRr.out Try.underlying26 rfl (op_infoL o) ?_)
            | (refine wpList_store_row rfl 26 (.tmp 7) (.tmp 41) rfl wr.heap.size o.cells.toArray rfl rfl 26 _ (heap_alloc_new wr _) (op_infoA o) (by rfl) (all_oneCell_toArray o.one) ?_; rw [alloc_setRow, HE.out.1, HE.out.2]))
          refine (ins_scr (A := [boxI bx (.cells #[.int .i64 o.kind, .int .i64 o.k, .int .i64 o.m, .slice o.A o.xs.length o.c, .slice o.A2 o.p.length o.c2] 26)]) (B := [boxI b1 (.cells #[.int .i64 y.kind, .int .i64 y.k, .int .i64 y.m, .slice y.A y.xs.length y.c, .slice y.A2 y.p.length y.c2] 26)]) S6.out HX.out hk59 HOk.out HSo.out o.k).mono ?_
          rintro e w7 ⟨K7, rfl, h7⟩
          have S7 := Lib.hid (show Star w [paI K7 g (insX X o.k o.L) (7200 + 2 * (k + 1)) (70 * (k + 1 + 1)), boxI b1 (.cells #[.int .i64 y.kind, .int .i64 y.k, .int .i64 y.m, .slice y.A y.xs.length y.c, .slice y.A2 y.p.length y.c2] 26)] w7 from Star.drop (A := []) h7)
          clear h7
          go_wp2_with fail
          go_roundw
          case rel => exact ⟨k + 1, _, _, by omega, by go_num, S7.out, HX.out.ins HSo.out HOk.out.sets.len.symm o.k⟩
          case measure => simp [intOf]; omega
        · have hkf1 : (o.kind == 1) = false := by simp [hk1]
          by_cases hk2 : o.kind = 2
          · rw [hk2] at e0
            go_wp2_with (first
              | (refine wpList_load_mid rfl 26 (.tmp 40) rfl b0 (f + k * 5) rfl o.cells _ HRr.out Try.underlying26 rfl (op_infoL o) ?_)
              | (refine wpList_store_row rfl 26 (.tmp 7) (.tmp 41) rfl wr.heap.size o.cells.toArray rfl rfl 26 _ (heap_alloc_new wr _) (op_infoA o) (by rfl) (all_oneCell_toArray o.one) ?_; rw [alloc_setRow, HE.out.1, HE.out.2]))
            refine (del_scr (A := [boxI bx (.cells #[.int .i64 o.kind, .int .i64 o.k, .int .i64 o.m, .slice o.A o.xs.length o.c, .slice o.A2 o.p.length o.c2] 26)]) (B := [boxI b1 (.cells #[.int .i64 y.kind, .int .i64 y.k, .int .i64 y.m, .slice y.A y.xs.length y.c, .slice y.A2 y.p.length y.c2] 26)]) S6.out HX.out hk59 o.k o.m).mono ?_
            rintro e w7 ⟨K7, rfl, h7⟩
            have S7 := Lib.hid (show Star w [paI K7 g (delX X o.k o.m) (7200 + 2 * (k + 1)) (70 * (k + 1 + 1)), boxI b1 (.cells #[.int .i64 y.kind, .int .i64 y.k, .int .i64 y.m, .slice y.A y.xs.length y.c, .slice y.A2 y.p.length y.c2] 26)] w7 from Star.drop (A := []) h7)
            clear h7
            go_wp2_with fail
            go_roundw
            case rel => exact ⟨k + 1, _, _, by omega, by go_num, S7.out, HX.out.del o.k o.m⟩
            case measure => simp [intOf]; omega
          · have hkf2 : (o.kind == 2) = false := by simp [hk2]
            go_wp2_with (first
              | (refine wpList_load_mid rfl 26 (.tmp 40) rfl b0 (f + k * 5) rfl o.cells _ HRr.out Try.underlying26 rfl (op_infoL o) ?_)
              | (refine wpList_store_row rfl 26 (.tmp 7) (.tmp 41) rfl wr.heap.size o.cells.toArray rfl rfl 26 _ (heap_alloc_new wr _) (op_infoA o) (by rfl) (all_oneCell_toArray o.one) ?_; rw [alloc_setRow, HE.out.1, HE.out.2]))
            refine (pat_scr (A := [boxI bx (.cells #[.int .i64 o.kind, .int .i64 o.k, .int .i64 o.m, .slice o.A o.xs.length o.c, .slice o.A2 o.p.length o.c2] 26)]) (B := [boxI b1 (.cells #[.int .i64 y.kind, .int .i64 y.k, .int .i64 y.m, .slice y.A y.xs.length y.c, .slice y.A2 y.p.length y.c2] 26)]) S6.out HX.out hk59 HOk.out HSo.out o.k o.m).mono ?_
            rintro e w7 ⟨K7, rfl, h7⟩
            have S7 := Lib.hid (show Star w [paI K7 g (patX X o.k o.m o.p) (7200 + 2 * (k + 1)) (70 * (k + 1 + 1)), boxI b1 (.cells #[.int .i64 y.kind, .int .i64 y.k, .int .i64 y.m, .slice y.A y.xs.length y.c, .slice y.A2 y.p.length y.c2] 26)] w7 from Star.drop (A := []) h7)
            clear h7
            go_wp2_with fail
            go_roundw
            case rel => exact ⟨k + 1, _, _, by omega, by go_num, S7.out, HX.out.pat HSo.out.2.2.1 o.k o.m⟩
            case measure => simp [intOf]; omega
      · obtain rfl : k = n := by omega
        have hk59 : k ≤ 59 := by have := HSX.out; rw [HN.out] at this; omega
        have HPX := Lib.hid hX
        obtain ⟨np, hnp⟩ : ∃ v, y.p.length = v := ⟨_, rfl⟩
        have hnp70 : np ≤ 70 := by have := HSy.out.2.1; omega
        have HNP := Lib.hid hnp
        clear hnp
        obtain ⟨nx, hnx⟩ : ∃ v, X.length = v := ⟨_, rfl⟩
        have hnx2 : nx ≤ 3600 := by have := hX.len; omega
        have HNX := Lib.hid hnx
        have HLn := Lib.hid (len_star (A := []) (B := [boxI b1 (.cells #[.int .i64 y.kind, .int .i64 y.k, .int .i64 y.m, .slice y.A y.xs.length y.c, .slice y.A2 y.p.length y.c2] 26)]) hS)
        rw [hnx] at HLn
        clear hS hX hnx
        go_wp2_with fail
        refine HLn.out.mono ?_
        clear HLn
        rintro e wa ⟨Ka, rfl, ha⟩
        have HOv := Lib.hid (over_star (A := []) (B := [boxI b1 (.cells #[.int .i64 y.kind, .int .i64 y.k, .int .i64 y.m, .slice y.A y.xs.length y.c, .slice y.A2 y.p.length y.c2] 26)]) ha (by omega) 0 (nx : Int))
        obtain ⟨bw, hbw⟩ : ∃ v, wa.heap.size = v := ⟨_, rfl⟩
        rw [hbw, (over_all HNX.out).1, (over_all HNX.out).2] at HOv
        clear ha hbw
        go_wp2_with fail
        refine HOv.out.mono ?_
        clear HOv
        rintro e wb ⟨Kb, vw, Dw, rfl, hb⟩
        obtain ⟨Aw, cw, rfl⟩ := sets_shape (show (setsI vw bw Dw X).P wb from hb.all _ (List.mem_cons_self))
        rw [HNX.out] at hb ⊢
        have S3 := Lib.hid (show Star w [setsI (.slice Aw nx cw) bw Dw X, paI Kb g X (7200 + 2 * k) (70 * (k + 1)), boxI b1 (.cells #[.int .i64 y.kind, .int .i64 y.k, .int .i64 y.m, .slice y.A y.xs.length y.c, .slice y.A2 y.p.length y.c2] 26)] wb from hb)
        have qo : wb.heap[b1]? = some (.cells #[.int .i64 y.kind, .int .i64 y.k, .int .i64 y.m, .slice y.A y.xs.length y.c, .slice y.A2 y.p.length y.c2] 26) := hb.all (boxI b1 (.cells #[.int .i64 y.kind, .int .i64 y.k, .int .i64 y.m, .slice y.A y.xs.length y.c, .slice y.A2 y.p.length y.c2] 26)) (by simp)
        have f1 : wb.cell? ⟨b1, 1, none⟩ = some (.int .i64 y.k) := by rw [cell_of_row wb b1 1 _ _ _ qo]; rfl
        have f3 : wb.cell? ⟨b1, 3, none⟩ = some (.slice y.A y.xs.length y.c) := by rw [cell_of_row wb b1 3 _ _ _ qo]; rfl
        clear qo
        clear hb
        have HInn := Lib.hid (ins_star (A := [setsI (.slice Aw nx cw) bw Dw X]) (B := [boxI b1 (.cells #[.int .i64 y.kind, .int .i64 y.k, .int .i64 y.m, .slice y.A y.xs.length y.c, .slice y.A2 y.p.length y.c2] 26)]) S3.out HOy.out (m := 70 * (k + 1)) (by omega) (fun q hq => by have := (HSy.out.2.2.2 q hq).1; omega) (by omega) (by have := HNX.out; have := HOy.out.sets.len; have := HSy.out.1; omega) y.k)
        obtain ⟨N9, hN9⟩ : ∃ v, 7200 + 2 * k + 200 = v := ⟨_, rfl⟩
        obtain ⟨M9, hM9⟩ : ∃ v, 70 * (k + 1) = v := ⟨_, rfl⟩
        have hM80 : M9 ≤ 80000 := by omega
        have hM : M9 ≤ 1000000 := by omega
        have hN : N9 ≤ 79998 := by omega
        go_upto_region 17 with fail
        go_cut [97] from 78 to 97 (fun v97 wq => v97 = .bool false ∧ ∃ K, Star w [setsI (.slice Aw nx cw) bw Dw X, paI K g X N9 M9, boxI b1 (.cells #[.int .i64 y.kind, .int .i64 y.k, .int .i64 y.m, .slice y.A y.xs.length y.c, .slice y.A2 y.p.length y.c2] 26)] wq)
        case first =>
          rcases betP_or X y.k y.k with e1 | e1
          · rw [e1] at HInn
            have HBK := Lib.hid (back_law1 e1 y.L)
            have HE1 := Lib.hid e1
            have hz := betP_zero e1
            have hx60 := HSy.out.1
            have hw1 : IntKind.i64.wrap (y.k + (y.xs.length : Int)) = y.k + y.xs.length := IntWalk.i64_in _ (by have := HNX.out; omega)
            go_wp2_with fail
            refine HInn.out.mono ?_
            clear HInn f1 f3
            rintro e wi ⟨Ki, rfl, hi⟩
            have HDe := Lib.hid (del_star (A := [setsI (.slice Aw nx cw) bw Dw X]) (B := [boxI b1 (.cells #[.int .i64 y.kind, .int .i64 y.k, .int .i64 y.m, .slice y.A y.xs.length y.c, .slice y.A2 y.p.length y.c2] 26)]) hi (by have := HNX.out; have := HOy.out.sets.len; omega) (by rw [insX_len e1]; have := HNX.out; have := HOy.out.sets.len; omega) y.k (y.k + y.xs.length))
            rw [HOy.out.sets.len] at HDe
            rw [HBK.out.1, HBK.out.2] at HDe
            rw [← HOy.out.sets.len] at HDe
            have qo : wi.heap[b1]? = some (.cells #[.int .i64 y.kind, .int .i64 y.k, .int .i64 y.m, .slice y.A y.xs.length y.c, .slice y.A2 y.p.length y.c2] 26) := hi.all (boxI b1 (.cells #[.int .i64 y.kind, .int .i64 y.k, .int .i64 y.m, .slice y.A y.xs.length y.c, .slice y.A2 y.p.length y.c2] 26)) (by simp)
            have f1 : wi.cell? ⟨b1, 1, none⟩ = some (.int .i64 y.k) := by rw [cell_of_row wi b1 1 _ _ _ qo]; rfl
            have f3 : wi.cell? ⟨b1, 3, none⟩ = some (.slice y.A y.xs.length y.c) := by rw [cell_of_row wi b1 3 _ _ _ qo]; rfl
            clear qo
            clear hi hz e1
            go_wp2_with fail
            refine HDe.out.mono ?_
            rintro e wj ⟨Kj, rfl, hj⟩
            have S4 := Lib.hid (show Star w [setsI (.slice Aw nx cw) bw Dw X, paI Kj g X N9 M9, boxI b1 (.cells #[.int .i64 y.kind, .int .i64 y.k, .int .i64 y.m, .slice y.A y.xs.length y.c, .slice y.A2 y.p.length y.c2] 26)] wj from pa_more (A := [setsI (.slice Aw nx cw) bw Dw X]) (B := [boxI b1 (.cells #[.int .i64 y.kind, .int .i64 y.k, .int .i64 y.m, .slice y.A y.xs.length y.c, .slice y.A2 y.p.length y.c2] 26)]) hj (by have := HNX.out; rw [insX_len HE1.out]; have := HOy.out.sets.len; omega) (by omega))
            clear hj HDe
            go_wp2_with fail
            go_meet
            case rel => exact ⟨rfl, Kj, S4.out⟩
          · rw [e1] at HInn
            have HX1 := Lib.hid (show insX X y.k y.L = X by unfold insX; rw [if_neg (by rw [e1]; decide)])
            have hx60 := HSy.out.1
            go_wp2_with fail
            refine HInn.out.mono ?_
            clear HInn f1 f3
            rintro e wi ⟨Ki, rfl, hi⟩
            rw [HX1.out] at hi
            have S4 := Lib.hid (show Star w [setsI (.slice Aw nx cw) bw Dw X, paI Ki g X N9 M9, boxI b1 (.cells #[.int .i64 y.kind, .int .i64 y.k, .int .i64 y.m, .slice y.A y.xs.length y.c, .slice y.A2 y.p.length y.c2] 26)] wi from pa_more (A := [setsI (.slice Aw nx cw) bw Dw X]) (B := [boxI b1 (.cells #[.int .i64 y.kind, .int .i64 y.k, .int .i64 y.m, .slice y.A y.xs.length y.c, .slice y.A2 y.p.length y.c2] 26)]) hi (by have := HNX.out; have := HOy.out.sets.len; omega) (by omega))
            clear hi e1
            go_wp2_with fail
            go_meet
            case rel => exact ⟨rfl, Ki, S4.out⟩
        case rest =>
        obtain ⟨rfl, Ks, h5⟩ := hcut
        have S5 := Lib.hid h5
        clear h5 HInn S3 f1 f3
        go_wp2_with fail
        go_loopw [100] (fun vm wy => ∃ (m : Nat) (K : Nat → Prop), m ≤ nx ∧ vm = .int .i64 m ∧ Star w [setsI (.slice Aw nx cw) bw Dw X, paI K g X N9 M9, boxI b1 (.cells #[.int .i64 y.kind, .int .i64 y.k, .int .i64 y.m, .slice y.A y.xs.length y.c, .slice y.A2 y.p.length y.c2] 26)] wy) (fun vm _ => nx - (intOf vm).toNat)
        case atStart => exact ⟨0, Ks, Nat.zero_le _, rfl, S5.out⟩
        case round =>
          rename World => wy
          obtain ⟨m, K, hm, rfl, hS⟩ := hrel
          by_cases hmC : m < nx
          · have hmI : (m : Int) < (nx : Int) := by omega
            have HLY := Lib.hid (show X.length = X.length from rfl)
            have HWX := Lib.hid (atA_get (X := X) (m := m) (by rw [HNX.out]; exact hmC))
            have hat : atE X (m : Int) = 0 := by unfold atE; rw [if_pos (by have := HNX.out; have := HLY.out; omega)]
            have hle : (atA X (m : Int)).length ≤ 1000000 := by
              have h1 : ParS wy K g X N9 M9 := hS.all (paI K g X N9 M9) (by simp)
              unfold atA
              split
              · cases hq : (X)[(m : Int).toNat]? with
                | none => simp
                | some q => exact Nat.le_trans (h1.le q (List.mem_of_getElem? hq)) hM
              · simp
            have HA1 := Lib.hid (at_star (A := [setsI (.slice Aw nx cw) bw Dw X]) (B := [boxI b1 (.cells #[.int .i64 y.kind, .int .i64 y.k, .int .i64 y.m, .slice y.A y.xs.length y.c, .slice y.A2 y.p.length y.c2] 26)]) hS hM (m : Int) (by omega))
            rw [hat] at HA1
            obtain ⟨bz, hbz⟩ : ∃ v, wy.heap.size = v := ⟨_, rfl⟩
            rw [hbz] at HA1
            have HLE := Lib.hid hle
            clear hS hat hle hbz
            go_wp2_with fail
            refine HA1.out.mono ?_
            clear HA1
            rintro e w1 ⟨K1, v1, rfl, h1⟩
            obtain ⟨A1, c1, rfl, -⟩ := set_shape (show (setI v1 bz (atA X m)).P w1 from h1.all _ (List.mem_cons_self))
            obtain ⟨Z, hZ⟩ : ∃ Z, atA X (m : Int) = Z := ⟨_, rfl⟩
            rw [hZ] at h1 HLE ⊢
            obtain ⟨nz, hnz⟩ : ∃ v, Z.length = v := ⟨_, rfl⟩
            have HNZ := Lib.hid (And.intro hnz hZ)
            rw [hnz] at h1 HLE ⊢
            have H1 := Lib.hid (show Star w [setI (.slice A1 nz c1) bz Z, setsI (.slice Aw nx cw) bw Dw X, paI K1 g X N9 M9, boxI b1 (.cells #[.int .i64 y.kind, .int .i64 y.k, .int .i64 y.m, .slice y.A y.xs.length y.c, .slice y.A2 y.p.length y.c2] 26)] w1 from h1)
            clear h1 hnz hZ
            have HWZ := Lib.hid (show X[m]? = some Z by rw [← HNZ.out.2]; exact HWX.out)
            obtain ⟨-, bh, th, hA2, ch2, sh⟩ := sets_at (show (setsI (.slice Aw nx cw) bw Dw X).P w1 from H1.out.all _ (by simp)) rfl HWZ.out
            have hsx : Sees w1 w1.heap.size 5 A1 Z.length (rowA Z) := Sees.of_own (c := c1) (show w1.ownsRow bz 72 5 (.slice A1 Z.length c1) Z.length (rowA Z) from by have h3 := (show (setI (.slice A1 nz c1) bz Z).P w1 from H1.out.all _ (by simp)); unfold setI rowI at h3; rw [HNZ.out.1] at h3 ⊢; exact h3)
            have HSm := Lib.hid (show Calls Try.prog 16 #[.slice A1 nz c1, .slice th.A nz th.c] w1 (fun e w' => e = .returned (.bool true) ∧ Below w1.heap.size w1 w') from by
              have h3 := same05_any (c := c1) (c' := th.c) hsx sh.sees (by rw [HNZ.out.1]; exact HLE.out) (by rw [HNZ.out.1]; exact HLE.out)
              rw [HNZ.out.1] at h3
              simpa using h3)
            rw [HNZ.out.1] at ch2
            subst hA2
            clear hsx sh
            go_wp2_with fail
            refine HSm.out.mono ?_
            clear HSm ch2
            rintro e w3 ⟨rfl, hb3⟩
            have S3 := Lib.hid ((Star.drop (A := []) H1.out).later hb3)
            clear hb3
            go_wp2_with fail
            go_roundw
            case rel => exact ⟨m + 1, _, by omega, by go_num, S3.out⟩
            case measure => simp [intOf]; omega
          · obtain rfl : nx = m := by omega
            have S6 := Lib.hid hS
            clear hS
            have HLn := Lib.hid (len_star (A := [setsI (.slice Aw nx cw) bw Dw X]) (B := [boxI b1 (.cells #[.int .i64 y.kind, .int .i64 y.k, .int .i64 y.m, .slice y.A y.xs.length y.c, .slice y.A2 y.p.length y.c2] 26)]) S6.out)
            rw [HNX.out] at HLn
            go_wp2_with fail
            refine HLn.out.mono ?_
            clear HLn S6
            rintro e w7 ⟨K7, rfl, h7⟩
            have S7 := Lib.hid (show Star w [setsI (.slice Aw nx cw) bw Dw X, paI K7 g X N9 M9, boxI b1 (.cells #[.int .i64 y.kind, .int .i64 y.k, .int .i64 y.m, .slice y.A y.xs.length y.c, .slice y.A2 y.p.length y.c2] 26)] w7 from h7)
            have qo : w7.heap[b1]? = some (.cells #[.int .i64 y.kind, .int .i64 y.k, .int .i64 y.m, .slice y.A y.xs.length y.c, .slice y.A2 y.p.length y.c2] 26) := h7.all (boxI b1 (.cells #[.int .i64 y.kind, .int .i64 y.k, .int .i64 y.m, .slice y.A y.xs.length y.c, .slice y.A2 y.p.length y.c2] 26)) (by simp)
            have f1 : w7.cell? ⟨b1, 1, none⟩ = some (.int .i64 y.k) := by rw [cell_of_row w7 b1 1 _ _ _ qo]; rfl
            have f2 : w7.cell? ⟨b1, 2, none⟩ = some (.int .i64 y.m) := by rw [cell_of_row w7 b1 2 _ _ _ qo]; rfl
            have f4 : w7.cell? ⟨b1, 4, none⟩ = some (.slice y.A2 y.p.length y.c2) := by rw [cell_of_row w7 b1 4 _ _ _ qo]; rfl
            clear qo
            clear h7
            have HPt := Lib.hid (pat_star (A := [setsI (.slice Aw nx cw) bw Dw X]) (B := [boxI b1 (.cells #[.int .i64 y.kind, .int .i64 y.k, .int .i64 y.m, .slice y.A y.xs.length y.c, .slice y.A2 y.p.length y.c2] 26)]) S7.out HOy.out (by omega) (by have := HSy.out.2.1; omega) (by omega) (by have := HNX.out; omega) y.k y.m)
            go_wp2_with fail
            refine HPt.out.mono ?_
            clear HPt
            rintro e w8 ⟨K8, rfl, h8⟩
            have S80 := Lib.hid h8
            clear h8 f1 f2 f4
            rcases betP_or X y.k y.m with e1 | e1
            rotate_left
            · rw [e1]
              go_wp2_with fail
              refine (known_any _).mono ?_
              rintro e wz ⟨rfl, hbz⟩
              have HB := Lib.hid (S80.out.later hbz).below
              clear hbz
              go_wp2_with fail
              go_ret
              exact ⟨rfl, HB.out⟩
            rw [e1]
            have HBET := Lib.hid e1
            have HLY := Lib.hid (patX_len X y.k y.m y.p)
            obtain ⟨N9, hN8⟩ : ∃ v, max (N9 + 2) (X.length + X.length) = v := ⟨_, rfl⟩
            obtain ⟨M9, hM8⟩ : ∃ v, M9 + y.p.length = v := ⟨_, rfl⟩
            rw [hN8, hM8] at S80
            have hM' : M9 ≤ 1000000 := by have := HSy.out.2.1; omega
            clear hM hM80 hN hM8 hN8 e1
            have hM := hM'
            clear hM'
            have S8 := Lib.hid (show Star w [setsI (.slice Aw nx cw) bw Dw X, paI K8 g (patX X y.k y.m y.p) N9 M9, boxI b1 (.cells #[.int .i64 y.kind, .int .i64 y.k, .int .i64 y.m, .slice y.A y.xs.length y.c, .slice y.A2 y.p.length y.c2] 26)] w8 from S80.out)
            clear S80 S7
            go_wp2_with fail
            go_loopw [138] (fun vm wy => ∃ (m : Nat) (K : Nat → Prop), m ≤ nx ∧ vm = .int .i64 m ∧ Star w [setsI (.slice Aw nx cw) bw Dw X, paI K g (patX X y.k y.m y.p) N9 M9, boxI b1 (.cells #[.int .i64 y.kind, .int .i64 y.k, .int .i64 y.m, .slice y.A y.xs.length y.c, .slice y.A2 y.p.length y.c2] 26)] wy) (fun vm _ => nx - (intOf vm).toNat)
            case atStart => exact ⟨0, K8, Nat.zero_le _, rfl, S8.out⟩
            case round =>
              rename World => wy
              obtain ⟨m, K, hm, rfl, hS⟩ := hrel
              by_cases hmC : m < nx
              · have hmI : (m : Int) < (nx : Int) := by omega
                have HOUT := Lib.hid (fun (h : (m : Int) < y.k ∨ y.m ≤ m) => pat_out (p := y.p) HBET.out h)
                have HIN := Lib.hid (fun (h1 : y.k ≤ (m : Int)) (h2 : (m : Int) < y.m) => pat_in (p := y.p) HBET.out h1 h2)
                have HWX := Lib.hid (atA_get (X := X) (m := m) (by rw [HNX.out]; exact hmC))
                have hat : atE (patX X y.k y.m y.p) (m : Int) = 0 := by unfold atE; rw [if_pos (by have := HNX.out; have := HLY.out; omega)]
                have hle : (atA (patX X y.k y.m y.p) (m : Int)).length ≤ 1000000 := by
                  have h1 : ParS wy K g (patX X y.k y.m y.p) N9 M9 := hS.all (paI K g (patX X y.k y.m y.p) N9 M9) (by simp)
                  unfold atA
                  split
                  · cases hq : ((patX X y.k y.m y.p))[(m : Int).toNat]? with
                    | none => simp
                    | some q => exact Nat.le_trans (h1.le q (List.mem_of_getElem? hq)) hM
                  · simp
                have HA1 := Lib.hid (at_star (A := [setsI (.slice Aw nx cw) bw Dw X]) (B := [boxI b1 (.cells #[.int .i64 y.kind, .int .i64 y.k, .int .i64 y.m, .slice y.A y.xs.length y.c, .slice y.A2 y.p.length y.c2] 26)]) hS hM (m : Int) (by omega))
                rw [hat] at HA1
                obtain ⟨bz, hbz⟩ : ∃ v, wy.heap.size = v := ⟨_, rfl⟩
                rw [hbz] at HA1
                have HLE := Lib.hid hle
                clear hS hat hle hbz
                go_wp2_with fail
                refine HA1.out.mono ?_
                clear HA1
                rintro e w1 ⟨K1, v1, rfl, h1⟩
                obtain ⟨A1, c1, rfl, -⟩ := set_shape (show (setI v1 bz (atA (patX X y.k y.m y.p) m)).P w1 from h1.all _ (List.mem_cons_self))
                obtain ⟨Z, hZ⟩ : ∃ Z, atA (patX X y.k y.m y.p) (m : Int) = Z := ⟨_, rfl⟩
                rw [hZ] at h1 HLE ⊢
                obtain ⟨nz, hnz⟩ : ∃ v, Z.length = v := ⟨_, rfl⟩
                have HNZ := Lib.hid (And.intro hnz hZ)
                rw [hnz] at h1 HLE ⊢
                have H1 := Lib.hid (show Star w [setI (.slice A1 nz c1) bz Z, setsI (.slice Aw nx cw) bw Dw X, paI K1 g (patX X y.k y.m y.p) N9 M9, boxI b1 (.cells #[.int .i64 y.kind, .int .i64 y.k, .int .i64 y.m, .slice y.A y.xs.length y.c, .slice y.A2 y.p.length y.c2] 26)] w1 from h1)
                clear h1 hnz hZ
                have HTOLD := Lib.hid (show ∀ x ∈ y.p, y.k ≤ (m : Int) → (m : Int) < y.m → getK Z x.key = if x.gone then none else some x.v from fun x hx h1 h2 => by
                  rw [← HNZ.out.2, HIN.out h1 h2]
                  exact get_apply y.p _ (HPX.out.rise _ (List.mem_of_getElem? HWX.out)) HSy.out.2.2.1 x hx)
                have qo : w1.heap[b1]? = some (.cells #[.int .i64 y.kind, .int .i64 y.k, .int .i64 y.m, .slice y.A y.xs.length y.c, .slice y.A2 y.p.length y.c2] 26) := H1.out.all (boxI b1 (.cells #[.int .i64 y.kind, .int .i64 y.k, .int .i64 y.m, .slice y.A y.xs.length y.c, .slice y.A2 y.p.length y.c2] 26)) (by simp)
                have f1 : w1.cell? ⟨b1, 1, none⟩ = some (.int .i64 y.k) := by rw [cell_of_row w1 b1 1 _ _ _ qo]; rfl
                have f2 : w1.cell? ⟨b1, 2, none⟩ = some (.int .i64 y.m) := by rw [cell_of_row w1 b1 2 _ _ _ qo]; rfl
                clear qo
                go_upto_region 34 with fail
                go_cut [169] from 147 to 169 (fun v169 wq => v169 = .bool false ∧ Star w [setI (.slice A1 nz c1) bz Z, setsI (.slice Aw nx cw) bw Dw X, paI K1 g (patX X y.k y.m y.p) N9 M9, boxI b1 (.cells #[.int .i64 y.kind, .int .i64 y.k, .int .i64 y.m, .slice y.A y.xs.length y.c, .slice y.A2 y.p.length y.c2] 26)] wq)
                case first =>
                  by_cases hin1 : (m : Int) < y.k
                  · have HWZ := Lib.hid (show X[m]? = some Z by rw [← HNZ.out.2, HOUT.out (.inl hin1)]; exact HWX.out)
                    obtain ⟨-, bh, th, hA2, ch2, sh⟩ := sets_at (show (setsI (.slice Aw nx cw) bw Dw X).P w1 from H1.out.all _ (by simp)) rfl HWZ.out
                    have hsx : Sees w1 w1.heap.size 5 A1 Z.length (rowA Z) := Sees.of_own (c := c1) (show w1.ownsRow bz 72 5 (.slice A1 Z.length c1) Z.length (rowA Z) from by have h3 := (show (setI (.slice A1 nz c1) bz Z).P w1 from H1.out.all _ (by simp)); unfold setI rowI at h3; rw [HNZ.out.1] at h3 ⊢; exact h3)
                    have HSm := Lib.hid (show Calls Try.prog 16 #[.slice A1 nz c1, .slice th.A nz th.c] w1 (fun e w' => e = .returned (.bool true) ∧ Below w1.heap.size w1 w') from by
                      have h3 := same05_any (c := c1) (c' := th.c) hsx sh.sees (by rw [HNZ.out.1]; exact HLE.out) (by rw [HNZ.out.1]; exact HLE.out)
                      rw [HNZ.out.1] at h3
                      simpa using h3)
                    rw [HNZ.out.1] at ch2
                    subst hA2
                    clear hsx sh
                    go_wp2_with fail
                    refine HSm.out.mono ?_
                    clear HSm ch2
                    rintro e w3 ⟨rfl, hb3⟩
                    have S3 := Lib.hid (H1.out.later hb3)
                    clear hb3
                    go_wp2_with fail
                    go_meet
                    case rel => exact ⟨rfl, S3.out⟩
                  · by_cases hin2 : y.m ≤ (m : Int)
                    · have HWZ := Lib.hid (show X[m]? = some Z by rw [← HNZ.out.2, HOUT.out (.inr hin2)]; exact HWX.out)
                      obtain ⟨-, bh, th, hA2, ch2, sh⟩ := sets_at (show (setsI (.slice Aw nx cw) bw Dw X).P w1 from H1.out.all _ (by simp)) rfl HWZ.out
                      have hsx : Sees w1 w1.heap.size 5 A1 Z.length (rowA Z) := Sees.of_own (c := c1) (show w1.ownsRow bz 72 5 (.slice A1 Z.length c1) Z.length (rowA Z) from by have h3 := (show (setI (.slice A1 nz c1) bz Z).P w1 from H1.out.all _ (by simp)); unfold setI rowI at h3; rw [HNZ.out.1] at h3 ⊢; exact h3)
                      have HSm := Lib.hid (show Calls Try.prog 16 #[.slice A1 nz c1, .slice th.A nz th.c] w1 (fun e w' => e = .returned (.bool true) ∧ Below w1.heap.size w1 w') from by
                        have h3 := same05_any (c := c1) (c' := th.c) hsx sh.sees (by rw [HNZ.out.1]; exact HLE.out) (by rw [HNZ.out.1]; exact HLE.out)
                        rw [HNZ.out.1] at h3
                        simpa using h3)
                      rw [HNZ.out.1] at ch2
                      subst hA2
                      clear hsx sh
                      go_wp2_with fail
                      refine HSm.out.mono ?_
                      clear HSm ch2
                      rintro e w3 ⟨rfl, hb3⟩
                      have S3 := Lib.hid (H1.out.later hb3)
                      clear hb3
                      go_wp2_with fail
                      go_meet
                      case rel => exact ⟨rfl, S3.out⟩
                    · go_wp2_with fail
                      go_meet
                      case rel => exact ⟨rfl, H1.out⟩
                case rest =>
                clear f1 f2
                obtain ⟨rfl, h4⟩ := hcut
                have S4 := Lib.hid h4
                have qo : wc.heap[b1]? = some (.cells #[.int .i64 y.kind, .int .i64 y.k, .int .i64 y.m, .slice y.A y.xs.length y.c, .slice y.A2 y.p.length y.c2] 26) := h4.all (boxI b1 (.cells #[.int .i64 y.kind, .int .i64 y.k, .int .i64 y.m, .slice y.A y.xs.length y.c, .slice y.A2 y.p.length y.c2] 26)) (by simp)
                have f4 : wc.cell? ⟨b1, 4, none⟩ = some (.slice y.A2 y.p.length y.c2) := by rw [cell_of_row wc b1 4 _ _ _ qo]; rfl
                clear qo
                rw [HNP.out] at f4
                obtain ⟨Ap, hap⟩ : ∃ v, y.A2 = v := ⟨_, rfl⟩
                rw [hap] at f4
                have HAP := Lib.hid hap
                clear hap
                clear h4 H1
                go_wp2_with fail
                go_loopw [173] (fun vj wz => ∃ j : Nat, j ≤ np ∧ vj = .int .i64 j ∧ Star w [setI (.slice A1 nz c1) bz Z, setsI (.slice Aw nx cw) bw Dw X, paI K1 g (patX X y.k y.m y.p) N9 M9, boxI b1 (.cells #[.int .i64 y.kind, .int .i64 y.k, .int .i64 y.m, .slice y.A y.xs.length y.c, .slice y.A2 y.p.length y.c2] 26)] wz) (fun vj _ => np - (intOf vj).toNat)
                case atStart => exact ⟨0, Nat.zero_le _, rfl, S4.out⟩
                case round =>
                  rename World => wz
                  obtain ⟨j, hj, rfl, hS⟩ := hrel
                  by_cases hjl : j < np
                  · have hjI : (j : Int) < np := by omega
                    obtain ⟨x, hx⟩ : ∃ x, y.p[j]? = some x := ⟨_, List.getElem?_eq_getElem (by rw [HNP.out]; exact hjl)⟩
                    obtain ⟨-, bp, op, hAp, hbp, hrp⟩ := HOy.out.sees2.elem Ch.cells 6 (fun _ => rfl) hx
                    have HRp := Lib.hid (show wz.rangeAt bp (op + j * 6) x.cells from fun i v hv => (hS.below.cell (p := ⟨bp, op + j * 6 + i, none⟩) hbp).trans (hrp i v hv))
                    have HTold := Lib.hid (HTOLD.out x (List.mem_of_getElem? hx))
                    obtain ⟨bx, hbx⟩ : ∃ v, wz.heap.size = v := ⟨_, rfl⟩
                    obtain ⟨w6, hw6⟩ : ∃ v, wz.alloc (.cells x.cells.toArray 46) = v := ⟨_, rfl⟩
                    have S6 := Lib.hid (show Star w (boxI bx (.cells x.cells.toArray 46) :: [setI (.slice A1 nz c1) bz Z, setsI (.slice Aw nx cw) bw Dw X, paI K1 g (patX X y.k y.m y.p) N9 M9, boxI b1 (.cells #[.int .i64 y.kind, .int .i64 y.k, .int .i64 y.m, .slice y.A y.xs.length y.c, .slice y.A2 y.p.length y.c2] 26)]) w6 from hS.add (by rw [← hw6]; exact (Below.refl _ _).alloc (Nat.le_refl _) _) (show w6.heap[bx]? = _ by rw [← hw6, ← hbx]; exact heap_alloc_new wz _) (fun k hk => by have hk : k = bx := hk; omega))
                    have hq6 : w6.heap[bx]? = some (.cells x.cells.toArray 46) := S6.out.all (boxI bx (.cells x.cells.toArray 46)) (by simp)
                    have e0 : w6.cell? ⟨bx, 0, none⟩ = some (.int .i64 x.key) := by rw [cell_of_row w6 bx 0 _ _ _ hq6]; rfl
                    have e1 : w6.cell? ⟨bx, 1, none⟩ = some (.bool x.gone) := by rw [cell_of_row w6 bx 1 _ _ _ hq6]; rfl
                    have HE := Lib.hid (And.intro hw6 hbx)
                    have hsx : Sees w6 w6.heap.size 5 A1 Z.length (rowA Z) := Sees.of_own (c := c1) (show w6.ownsRow bz 72 5 (.slice A1 Z.length c1) Z.length (rowA Z) from by have h3 := (show (setI (.slice A1 nz c1) bz Z).P w6 from S6.out.all _ (by simp)); unfold setI rowI at h3; rw [HNZ.out.1] at h3 ⊢; exact h3)
                    have HG := Lib.hid (get05_any (c := c1) hsx (Nat.le_refl _) (by rw [HNZ.out.1]; exact HLE.out) x.key)
                    rw [HNZ.out.1] at HG
                    obtain ⟨u, th, hgv, hth, hu⟩ := getV_shape (getK Z x.key)
                    rw [hgv] at HG
                    have HU := Lib.hid (And.intro hth hu)
                    rw [HAP.out] at hAp
                    subst hAp
                    clear hx hbx hw6 hq6 hS hsx hgv hth hu hrp hbp
                    go_wp2_with (first
                      | (refine wpList_load_mid rfl 46 (.tmp 175) rfl bp (op + j * 6) rfl x.cells _ HRp.out Try.underlying46 rfl (ch_infoL x) ?_)
                      | (refine wpList_store_row rfl 46 (.tmp 17) (.tmp 176) rfl wz.heap.size x.cells.toArray rfl rfl 46 _ (heap_alloc_new wz _) (ch_infoA x) (by rfl) (all_oneCell_toArray x.one) ?_; rw [alloc_setRow, HE.out.1, HE.out.2]))
                    refine HG.out.mono ?_
                    clear HG HE e0
                    rintro e w7 ⟨rfl, hb7⟩
                    have S7 := Lib.hid (S6.out.later hb7)
                    clear hb7 S6 e1
                    obtain ⟨b8, hb8⟩ : ∃ v, w7.heap.size = v := ⟨_, rfl⟩
                    obtain ⟨w8, hw8⟩ : ∃ v, w7.alloc (.cells u.cells.toArray 44) = v := ⟨_, rfl⟩
                    have S80 := Lib.hid (S7.out.later (show Below w7.heap.size w7 w8 by rw [← hw8]; exact (Below.refl _ _).alloc (Nat.le_refl _) _))
                    have hq8 : w8.heap[bx]? = some (.cells x.cells.toArray 46) := S80.out.all (boxI bx (.cells x.cells.toArray 46)) (by simp)
                    have e1 : w8.cell? ⟨bx, 1, none⟩ = some (.bool x.gone) := by rw [cell_of_row w8 bx 1 _ _ _ hq8]; rfl
                    have HQ8 := Lib.hid (show w8.heap[b8]? = some (.cells u.cells.toArray 44) ∧ w8.rangeAt bx 2 x.v.cells from ⟨by rw [← hw8, ← hb8]; exact heap_alloc_new w7 _, fun i v hv => by rw [cell_of_row w8 bx (2 + i) _ _ _ hq8, List.getElem?_toArray]; show (.int .i64 x.key :: .bool x.gone :: x.v.cells)[2 + i]? = _; rw [show 2 + i = i + 1 + 1 by omega, List.getElem?_cons_succ, List.getElem?_cons_succ]; exact hv⟩)
                    have HE := Lib.hid (And.intro hw8 hb8)
                    have qo : w8.heap[b1]? = some (.cells #[.int .i64 y.kind, .int .i64 y.k, .int .i64 y.m, .slice y.A y.xs.length y.c, .slice y.A2 y.p.length y.c2] 26) := S80.out.all (boxI b1 (.cells #[.int .i64 y.kind, .int .i64 y.k, .int .i64 y.m, .slice y.A y.xs.length y.c, .slice y.A2 y.p.length y.c2] 26)) (by simp)
                    have f1 : w8.cell? ⟨b1, 1, none⟩ = some (.int .i64 y.k) := by rw [cell_of_row w8 b1 1 _ _ _ qo]; rfl
                    have f2 : w8.cell? ⟨b1, 2, none⟩ = some (.int .i64 y.m) := by rw [cell_of_row w8 b1 2 _ _ _ qo]; rfl
                    clear qo
                    have S8 := Lib.hid (Star.drop (A := []) S80.out)
                    clear hq8 hw8 hb8 S80 S7
                    go_upto_region 40 with (refine wpList_store_row rfl 44 (.tmp 18) (.tmp 182) rfl w7.heap.size u.cells.toArray rfl rfl 44 _ (heap_alloc_new w7 _) (val_infoA u) (by rfl) (all_oneCell_toArray u.one) ?_; rw [alloc_setRow, HE.out.1, HE.out.2])
                    clear HE
                    by_cases hin1 : y.k ≤ (m : Int)
                    · by_cases hin2 : (m : Int) < y.m
                      · have hto := HTold.out hin1 hin2
                        by_cases hgo : x.gone = true
                        · rw [hgo] at e1
                          obtain rfl : th = false := by rw [HU.out.1, hto, hgo]; rfl
                          go_wp2_with fail
                          go_roundw
                          case rel => exact ⟨j + 1, by omega, by go_num, S8.out⟩
                          case measure => simp [intOf]; omega
                        · have hgo : x.gone = false := by simpa using hgo
                          rw [hgo] at e1
                          have HUV := Lib.hid (And.intro (HU.out.2 x.v (by rw [hto, hgo]; rfl)) (rfl : false = false))
                          obtain rfl : th = true := by rw [HU.out.1, hto, hgo]; rfl
                          go_wp2_with (first
                            | (refine wpList_known _ rfl (exec_load_row 44 (.tmp 18) rfl b8 rfl 44 u.cells.toArray (0, 0) _ HQ8.out.1 Try.underlying44 rfl (val_infoA u)) ?_)
                            | (refine wpList_known _ rfl (exec_load_mid 44 (.tmp 203) rfl bx 2 rfl x.v.cells _ HQ8.out.2 Try.underlying44 rfl (val_infoL x.v)) ?_)
                            | (refine wpList_known _ rfl (exec_ne_val (.tmp 202) (.tmp 204) rfl u x.v rfl rfl false HUV.out) ?_))
                          go_roundw
                          case rel => exact ⟨j + 1, by omega, by go_num, S8.out⟩
                          case measure => simp [intOf]; omega
                      · clear HTold
                        go_wp2_with fail
                        go_roundw
                        case rel => exact ⟨j + 1, by omega, by go_num, S8.out⟩
                        case measure => simp [intOf]; omega
                    · clear HTold
                      go_wp2_with fail
                      go_roundw
                      case rel => exact ⟨j + 1, by omega, by go_num, S8.out⟩
                      case measure => simp [intOf]; omega
                  · obtain rfl : j = np := by omega
                    have S5 := Lib.hid (Star.drop (A := []) hS)
                    clear hS
                    go_wp2_with fail
                    go_roundw
                    case rel => exact ⟨m + 1, _, by omega, by go_num, S5.out⟩
                    case measure => simp [intOf]; omega
              · obtain rfl : m = nx := by omega
                have HS9 := Lib.hid hS
                clear hS
                go_wp2_with fail
                refine (known_any _).mono ?_
                rintro e wz ⟨rfl, hbz⟩
                have HB := Lib.hid (HS9.out.later hbz).below
                clear hbz
                go_wp2_with fail
                go_ret
                exact ⟨rfl, HB.out⟩
end Go.Proofs.Ytpaelbhljgdenaa
