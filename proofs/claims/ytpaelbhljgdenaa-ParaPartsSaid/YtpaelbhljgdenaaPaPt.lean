/-
  The walk of rubriclaw13.ParaParts.
-/
import Derived.Test.YtpaelbhljgdenaaPaLa
namespace Go.Proofs.Ytpaelbhljgdenaa
open Go.RowKit

/-- The m-th set. -/
def nth (C : List (List At)) (m : Nat) : List At := (C[m]?).getD []
theorem nth_get {C : List (List At)} {m : Nat} (h : m < C.length) : C[m]? = some (nth C m) := by unfold nth; rw [List.getElem?_eq_getElem h]; rfl

section
variable {X a b C : List (List At)} {i j kk : Int}
theorem overX_get (hC : overX X i j = C) (e : betP X i j = 0) (m : Nat) : C[m]? = if m < j.toNat - i.toNat then X[i.toNat + m]? else none := by
  rw [← hC]
  unfold overX
  rw [if_pos e, List.getElem?_take]
  split
  · rw [List.getElem?_drop]
  · rfl
theorem overX_len (hC : overX X i j = C) (e : betP X i j = 0) : C.length = j.toNat - i.toNat := by
  obtain ⟨h0, h1, h2⟩ := betP_zero e
  rw [← hC]
  unfold overX
  rw [if_pos e, List.length_take, List.length_drop]
  omega
theorem parts_len (_ : 0 ≤ i) (_ : i ≤ j) (_ : j ≤ kk) (_ : kk ≤ X.length) (ha : overX X i j = a) (hb : overX X j kk = b) (hC : overX X i kk = C) (e1 : betP X i j = 0) (e2 : betP X j kk = 0) (e3 : betP X i kk = 0) : C.length = a.length + b.length := by
  rw [overX_len ha e1, overX_len hb e2, overX_len hC e3]
  omega
theorem parts_split (_ : 0 ≤ i) (x2 : i ≤ j) (_ : j ≤ kk) (_ : kk ≤ X.length) (ha : overX X i j = a) (hb : overX X j kk = b) (hC : overX X i kk = C) (e1 : betP X i j = 0) (e2 : betP X j kk = 0) (e3 : betP X i kk = 0) :
    (∀ m, m < a.length → a[m]? = some (nth C m)) ∧ ∀ m, a.length ≤ m → m < C.length → b[m - a.length]? = some (nth C m) := by
  have l1 := overX_len ha e1
  have l2 := overX_len hb e2
  have l3 := overX_len hC e3
  refine ⟨fun m hm => ?_, fun m h1 h2 => ?_⟩
  · rw [← nth_get (by omega), overX_get ha e1, overX_get hC e3, if_pos (by omega), if_pos (by omega)]
  · rw [← nth_get h2, overX_get hb e2, overX_get hC e3, if_pos (by omega), if_pos (by omega), show j.toNat + (m - a.length) = i.toNat + m by omega]
theorem parts_at (x1 : 0 ≤ i) (_ : i ≤ j) (_ : j ≤ kk) (y3 : kk ≤ X.length) (hC : overX X i kk = C) (e3 : betP X i kk = 0) (m : Nat) (hm : m < C.length) : atE X (i + m) = 0 ∧ atA X (i + m) = nth C m ∧ C[m]? = some (nth C m) := by
  have l3 := overX_len hC e3
  refine ⟨by unfold atE; rw [if_pos (by omega)], ?_, nth_get hm⟩
  unfold atA nth
  rw [if_pos (by omega), overX_get hC e3, if_pos (by omega), show (i + (m : Int)).toNat = i.toNat + m by omega]
end

set_option maxRecDepth 100000 in
set_option maxHeartbeats 16000000 in
theorem parts_law (A : Option Addr) (c : Nat) (ops : List OpS) (i j kk : Int) (w : World) (hs : Sees w w.heap.size 5 A ops.length (ops.flatMap OpS.cells)) (hok : ∀ o ∈ ops, o.Ok w) :
    Calls Try.prog 5 #[.slice A ops.length c, .int .i64 i, .int .i64 j, .int .i64 kk] w fun e w' => e = .returned (.bool true) ∧ Below w.heap.size w w' := by
  have HS := Lib.hid hs
  have HO := Lib.hid hok
  have HSm := Lib.hid (fun (w1 : World) (hb : Below w.heap.size w w1) => small_any (c := c) hb (hs.below hb (Nat.le_refl _)) hb.size hok)
  obtain ⟨n, hn⟩ : ∃ n, ops.length = n := ⟨_, rfl⟩
  have HN := Lib.hid hn
  rw [hn] at HS HSm ⊢
  clear hs hok hn
  go_enter Try.func5, Try.ntmps5
  go_wp2_with fail
  refine (newP_star (Star.nil_ w)).mono ?_
  rintro e w1 ⟨g, rfl, h1⟩
  have H1 := Lib.hid h1
  clear h1
  go_wp2_with fail
  refine (HSm.out w1 H1.out.below).mono ?_
  clear HSm
  rintro e w2 ⟨sm, rfl, hsm, hb2⟩
  have S2 := Lib.hid (H1.out.later hb2)
  have HSM := Lib.hid hsm
  clear hb2 hsm
  cases sm with
  | false =>
    go_wp2_with fail
    refine (known_any _).mono ?_
    rintro e wz ⟨rfl, hbz⟩
    have HB := Lib.hid (S2.out.later hbz).below
    clear hbz
    go_wp2_with fail
    go_ret
    exact ⟨rfl, HB.out⟩
  | true =>
    have HSL := Lib.hid (HSM.out rfl)
    have S0 := Lib.hid (show Star w [paI (fun q => q = g) g [] (7200 + 2 * 0) (70 * (0 + 1))] w2 from pa_more (A := []) (B := []) S2.out (by omega) (by omega))
    clear S2
    go_wp2_with fail
    go_loopw [38] (fun vk wr => ∃ (k : Nat) (X : List (List At)) (Kg : Nat → Prop), k ≤ n ∧ vk = .int .i64 k ∧ Star w [paI Kg g X (7200 + 2 * k) (70 * (k + 1))] wr ∧ PX X k) (fun vk _ => n - (intOf vk).toNat)
    case atStart => exact ⟨0, [], _, Nat.zero_le _, rfl, S0.out, PX.nil_⟩
    case round =>
      obtain ⟨k, X, Kg, hk, rfl, hS, hX⟩ := hrel
      by_cases hlt : k < n
      · have hkI : (k : Int) < n := by omega
        have hn60 := HSL.out.1
        obtain ⟨o, ho⟩ : ∃ o, ops[k]? = some o := ⟨_, List.getElem?_eq_getElem (by rw [HN.out]; exact hlt)⟩
        have HOk := Lib.hid (HO.out o (List.mem_of_getElem? ho))
        have HSo := Lib.hid (HSL.out.2 o (List.mem_of_getElem? ho))
        obtain ⟨b0, f, rfl, hbl, hr⟩ := op_range HS.out ho
        have HRr := Lib.hid (show wr.rangeAt b0 (f + k * 5) o.cells from fun j v hv => (hS.below.cell (p := ⟨b0, f + k * 5 + j, none⟩) hbl).trans (hr j v hv))
        obtain ⟨bx, hbx⟩ : ∃ v, wr.heap.size = v := ⟨_, rfl⟩
        obtain ⟨w6, hw6⟩ : ∃ v, wr.alloc (.cells o.cells.toArray 26) = v := ⟨_, rfl⟩
        have S6 := Lib.hid (show Star w (boxI bx (.cells #[.int .i64 o.kind, .int .i64 o.k, .int .i64 o.m, .slice o.A o.xs.length o.c, .slice o.A2 o.p.length o.c2] 26) :: [paI Kg g X (7200 + 2 * k) (70 * (k + 1))]) w6 from hS.add (by rw [← hw6]; exact (Below.refl _ _).alloc (Nat.le_refl _) _) (show w6.heap[bx]? = _ by rw [← hw6, ← hbx]; exact heap_alloc_new wr _) (fun k hk => by have hk : k = bx := hk; omega))
        have hq6 : w6.heap[bx]? = some (.cells #[.int .i64 o.kind, .int .i64 o.k, .int .i64 o.m, .slice o.A o.xs.length o.c, .slice o.A2 o.p.length o.c2] 26) := S6.out.all (boxI bx (.cells #[.int .i64 o.kind, .int .i64 o.k, .int .i64 o.m, .slice o.A o.xs.length o.c, .slice o.A2 o.p.length o.c2] 26)) (by simp)
        have e0 : w6.cell? ⟨bx, 0, none⟩ = some (.int .i64 o.kind) := by rw [cell_of_row w6 bx 0 _ _ _ hq6]; rfl
        have e1 : w6.cell? ⟨bx, 1, none⟩ = some (.int .i64 o.k) := by rw [cell_of_row w6 bx 1 _ _ _ hq6]; rfl
        have e2 : w6.cell? ⟨bx, 2, none⟩ = some (.int .i64 o.m) := by rw [cell_of_row w6 bx 2 _ _ _ hq6]; rfl
        have e3 : w6.cell? ⟨bx, 3, none⟩ = some (.slice o.A o.xs.length o.c) := by rw [cell_of_row w6 bx 3 _ _ _ hq6]; rfl
        have e4 : w6.cell? ⟨bx, 4, none⟩ = some (.slice o.A2 o.p.length o.c2) := by rw [cell_of_row w6 bx 4 _ _ _ hq6]; rfl
        have HE := Lib.hid (And.intro hw6 hbx)
        have HX := Lib.hid hX
        have hk59 : k ≤ 59 := by rw [HN.out] at hn60; omega
        clear ho hr hbx hw6 hq6 hS hX hn60
        by_cases hk2 : o.kind = 2
        · rw [hk2] at e0
          go_wp2_with (first
            | (refine wpList_load_mid rfl 26 (.tmp 40) rfl b0 (f + k * 5) rfl o.cells _ HRr.out Try.underlying26 rfl (op_infoL o) ?_)
            | (refine wpList_store_row rfl 26 (.tmp 11) (.tmp 41) rfl wr.heap.size o.cells.toArray rfl rfl 26 _ (heap_alloc_new wr _) (op_infoA o) (by rfl) (all_oneCell_toArray o.one) ?_; rw [alloc_setRow, HE.out.1, HE.out.2]))
          refine (del_scr (A := [boxI bx (.cells #[.int .i64 o.kind, .int .i64 o.k, .int .i64 o.m, .slice o.A o.xs.length o.c, .slice o.A2 o.p.length o.c2] 26)]) (B := []) S6.out HX.out hk59 o.k o.m).mono ?_
          rintro e w7 ⟨K7, rfl, h7⟩
          have S7 := Lib.hid (show Star w [paI K7 g (delX X o.k o.m) (7200 + 2 * (k + 1)) (70 * (k + 1 + 1))] w7 from Star.drop (A := []) h7)
          clear h7
          go_wp2_with fail
          go_roundw
          case rel => exact ⟨k + 1, _, _, by omega, by go_num, S7.out, HX.out.del o.k o.m⟩
          case measure => simp [intOf]; omega
        · have hkf2 : (o.kind == 2) = false := by simp [hk2]
          by_cases hk3 : o.kind = 3
          · rw [hk3] at e0
            go_wp2_with (first
              | (refine wpList_load_mid rfl 26 (.tmp 40) rfl b0 (f + k * 5) rfl o.cells _ HRr.out Try.underlying26 rfl (op_infoL o) ?_)
              | (refine wpList_store_row rfl 26 (.tmp 11) (.tmp 41) rfl wr.heap.size o.cells.toArray rfl rfl 26 _ (heap_alloc_new wr _) (op_infoA o) (by rfl) (all_oneCell_toArray o.one) ?_; rw [alloc_setRow, HE.out.1, HE.out.2]))
            refine (pat_scr (A := [boxI bx (.cells #[.int .i64 o.kind, .int .i64 o.k, .int .i64 o.m, .slice o.A o.xs.length o.c, .slice o.A2 o.p.length o.c2] 26)]) (B := []) S6.out HX.out hk59 HOk.out HSo.out o.k o.m).mono ?_
            rintro e w7 ⟨K7, rfl, h7⟩
            have S7 := Lib.hid (show Star w [paI K7 g (patX X o.k o.m o.p) (7200 + 2 * (k + 1)) (70 * (k + 1 + 1))] w7 from Star.drop (A := []) h7)
            clear h7
            go_wp2_with fail
            go_roundw
            case rel => exact ⟨k + 1, _, _, by omega, by go_num, S7.out, HX.out.pat HSo.out.2.2.1 o.k o.m⟩
            case measure => simp [intOf]; omega
          · have hkf3 : (o.kind == 3) = false := by simp [hk3]
            go_wp2_with (first
              | (refine wpList_load_mid rfl 26 (.tmp 40) rfl b0 (f + k * 5) rfl o.cells _ HRr.out Try.underlying26 rfl (op_infoL o) ?_)
              | (refine wpList_store_row rfl 26 (.tmp 11) (.tmp 41) rfl wr.heap.size o.cells.toArray rfl rfl 26 _ (heap_alloc_new wr _) (op_infoA o) (by rfl) (all_oneCell_toArray o.one) ?_; rw [alloc_setRow, HE.out.1, HE.out.2]))
            refine (ins_scr (A := [boxI bx (.cells #[.int .i64 o.kind, .int .i64 o.k, .int .i64 o.m, .slice o.A o.xs.length o.c, .slice o.A2 o.p.length o.c2] 26)]) (B := []) S6.out HX.out hk59 HOk.out HSo.out o.k).mono ?_
            rintro e w7 ⟨K7, rfl, h7⟩
            have S7 := Lib.hid (show Star w [paI K7 g (insX X o.k o.L) (7200 + 2 * (k + 1)) (70 * (k + 1 + 1))] w7 from Star.drop (A := []) h7)
            clear h7
            go_wp2_with fail
            go_roundw
            case rel => exact ⟨k + 1, _, _, by omega, by go_num, S7.out, HX.out.ins HSo.out HOk.out.sets.len.symm o.k⟩
            case measure => simp [intOf]; omega
      · obtain rfl : k = n := by omega
        have HS1 := Lib.hid hS
        have hXr := hX
        have HPX := Lib.hid (show X.length ≤ 3600 from by have h1 := hX.len; have h2 := HSL.out.1; rw [HN.out] at h2; omega)
        have hm60 : 70 * (k + 1) ≤ 1000000 := by have h2 := HSL.out.1; rw [HN.out] at h2; omega
        have HO1 := Lib.hid (over_star (A := []) (B := []) hS hm60 i j)
        clear hS hX hXr
        go_wp2_with fail
        refine HO1.out.mono ?_
        clear HO1
        rintro e w1 ⟨K1, va, Da, rfl, h1⟩
        obtain ⟨a, ha⟩ : ∃ a, overX X i j = a := ⟨_, rfl⟩
        rw [ha] at h1
        obtain ⟨Aa, ca, rfl⟩ := sets_shape (show (setsI va wr.heap.size Da a).P w1 from h1.all _ (List.mem_cons_self))
        obtain ⟨na, hnna⟩ : ∃ v, a.length = v := ⟨_, rfl⟩
        have HNA := Lib.hid hnna
        rw [hnna] at h1 ⊢
        clear hnna
        obtain ⟨ba, hba⟩ : ∃ v, wr.heap.size = v := ⟨_, rfl⟩
        rw [hba] at h1
        have HO2 := Lib.hid (over_star (A := [setsI (.slice Aa na ca) ba Da a]) (B := []) h1 hm60 j kk)
        clear h1 hba
        go_wp2_with fail
        refine HO2.out.mono ?_
        clear HO2
        rintro e w2 ⟨K2, vb, Db, rfl, h2⟩
        obtain ⟨b, hb⟩ : ∃ a, overX X j kk = a := ⟨_, rfl⟩
        rw [hb] at h2
        obtain ⟨Ab, cb, rfl⟩ := sets_shape (show (setsI vb w1.heap.size Db b).P w2 from h2.all _ (List.mem_cons_self))
        obtain ⟨nb, hnnb⟩ : ∃ v, b.length = v := ⟨_, rfl⟩
        have HNB := Lib.hid hnnb
        rw [hnnb] at h2 ⊢
        clear hnnb
        obtain ⟨bb, hbb⟩ : ∃ v, w1.heap.size = v := ⟨_, rfl⟩
        rw [hbb] at h2
        have HO3 := Lib.hid (over_star (A := [setsI (.slice Ab nb cb) bb Db b, setsI (.slice Aa na ca) ba Da a]) (B := []) h2 hm60 i kk)
        clear h2 hbb
        go_wp2_with fail
        refine HO3.out.mono ?_
        clear HO3
        rintro e w3 ⟨K3, vc, Dc, rfl, h3⟩
        obtain ⟨C, hC⟩ : ∃ a, overX X i kk = a := ⟨_, rfl⟩
        rw [hC] at h3
        obtain ⟨Ac, cc, rfl⟩ := sets_shape (show (setsI vc w2.heap.size Dc C).P w3 from h3.all _ (List.mem_cons_self))
        obtain ⟨nc, hnnc⟩ : ∃ v, C.length = v := ⟨_, rfl⟩
        have HNC := Lib.hid hnnc
        rw [hnnc] at h3 ⊢
        clear hnnc
        obtain ⟨bcc, hbcc⟩ : ∃ v, w2.heap.size = v := ⟨_, rfl⟩
        rw [hbcc] at h3
        have S3 := Lib.hid (show Star w [setsI (.slice Ac nc cc) bcc Dc C, setsI (.slice Ab nb cb) bb Db b, setsI (.slice Aa na ca) ba Da a, paI K3 g X (7200 + 2 * k) (70 * (k + 1))] w3 from h3)
        clear h3 hbcc
        rcases betP_or X i j with e1 | e1
        rotate_left
        · rw [e1]
          go_wp2_with fail
          refine (known_any _).mono ?_
          rintro e wz ⟨rfl, hbz⟩
          have HB := Lib.hid (S3.out.later hbz).below
          clear hbz
          go_wp2_with fail
          go_ret
          exact ⟨rfl, HB.out⟩
        rcases betP_or X j kk with e2 | e2
        rotate_left
        · rw [e1, e2]
          go_wp2_with fail
          refine (known_any _).mono ?_
          rintro e wz ⟨rfl, hbz⟩
          have HB := Lib.hid (S3.out.later hbz).below
          clear hbz
          go_wp2_with fail
          go_ret
          exact ⟨rfl, HB.out⟩
        obtain ⟨x1, x2, x3⟩ := betP_zero e1
        obtain ⟨y1, y2, y3⟩ := betP_zero e2
        have e3 : betP X i kk = 0 := by unfold betP; rw [if_pos (by omega)]
        have HSP := Lib.hid (parts_split (X := X) x1 x2 y2 y3 ha hb hC e1 e2 e3)
        have HAT := Lib.hid (fun (m : Nat) (hm : m < C.length) => parts_at (X := X) x1 x2 y2 y3 hC e3 m hm)
        have hCl : nc = na + nb := by rw [← HNA.out, ← HNB.out, ← HNC.out]; exact parts_len (X := X) x1 x2 y2 y3 ha hb hC e1 e2 e3
        have hCm : nc ≤ 3600 := by have h1 := HPX.out; rw [← HNC.out, ← hC]; unfold overX; split <;> first | (rw [List.length_take, List.length_drop]; omega) | exact Nat.zero_le _
        have hXI : (kk : Int) ≤ 3600 := by have h1 := HPX.out; omega
        have gl : IntKind.i64.wrap ((na : Int) + (nb : Int)) = (na : Int) + (nb : Int) := IntWalk.i64_in _ (by omega)
        have hne : ((nc : Int) != (na : Int) + (nb : Int)) = false := by simp; omega
        rw [e1, e2, e3]
        have HCL := Lib.hid hCl
        clear e1 e2 e3 ha hb hC hCl
        go_wp2_with fail
        go_loopw [111] (fun vm wy => ∃ (m : Nat) (K : Nat → Prop), m ≤ nc ∧ vm = .int .i64 m ∧ Star w [setsI (.slice Ac nc cc) bcc Dc C, setsI (.slice Ab nb cb) bb Db b, setsI (.slice Aa na ca) ba Da a, paI K g X (7200 + 2 * k) (70 * (k + 1))] wy) (fun vm _ => nc - (intOf vm).toNat)
        case atStart => exact ⟨0, K3, Nat.zero_le _, rfl, S3.out⟩
        case round =>
          rename World => wy
          obtain ⟨m, K, hm, rfl, hS⟩ := hrel
          by_cases hmC : m < nc
          · have hmI : (m : Int) < (nc : Int) := by omega
            have g1 : IntKind.i64.wrap (i + (m : Int)) = i + m := IntWalk.i64_in _ (by omega)
            have hat := HAT.out m (by rw [HNC.out]; exact hmC)
            have HAt := Lib.hid (at_star (A := [setsI (.slice Ac nc cc) bcc Dc C, setsI (.slice Ab nb cb) bb Db b, setsI (.slice Aa na ca) ba Da a]) (B := []) hS hm60 (i + m) (by omega))
            rw [hat.1, hat.2.1] at HAt
            have HCM := Lib.hid hat.2.2
            have HNL := Lib.hid (show (nth C m).length ≤ 1000000 from by
              have h1 : ParS wy K g X (7200 + 2 * k) (70 * (k + 1)) := hS.get (A := [setsI (.slice Ac nc cc) bcc Dc C, setsI (.slice Ab nb cb) bb Db b, setsI (.slice Aa na ca) ba Da a]) (B := [])
              have h2 := hat.2.1
              unfold atA at h2
              rw [if_pos (by omega)] at h2
              rw [← h2]
              cases hq : X[(i + (m : Int)).toNat]? with
              | none => simp
              | some q => exact Nat.le_trans (h1.le q (List.mem_of_getElem? hq)) hm60)
            clear hS hat
            go_upto_if 122 with fail
            go_cut [19, 20] from 119 to 124 (fun v19 v20 wz => ∃ (Ah : Option Addr) (nh ch q bs : Nat) (Dh : Nat → Prop) (Xh : List (List At)), v19 = .slice Ah nh ch ∧ v20 = .int .i64 q ∧ q < nh ∧ Xh[q]? = some (nth C m) ∧ setsI (.slice Ah nh ch) bs Dh Xh ∈ [setsI (.slice Ac nc cc) bcc Dc C, setsI (.slice Ab nb cb) bb Db b, setsI (.slice Aa na ca) ba Da a] ∧ wy = wz)
            case first =>
              by_cases hml : m < na
              · have hqI : (m : Int) < (na : Int) := by omega
                have HQ := Lib.hid (show a[m]? = some (nth C m) from HSP.out.1 m (by rw [HNA.out]; exact hml))
                go_wp2_with fail
                go_meet
                case rel => exact ⟨Aa, na, ca, m, ba, Da, a, rfl, rfl, hml, HQ.out, by simp, rfl⟩
              · have hqI : ¬ ((m : Int) < (na : Int)) := by omega
                obtain ⟨q, hqm⟩ : ∃ q : Nat, m - na = q := ⟨_, rfl⟩
                have hqe : (m : Int) - (na : Int) = q := by omega
                have hqb : q < nb := by have := HCL.out; omega
                have HQ := Lib.hid (show b[q]? = some (nth C m) by rw [← hqm]; have h1 := HSP.out.2 m (by rw [HNA.out]; omega) (by rw [HNC.out]; exact hmC); rw [HNA.out] at h1; exact h1)
                have HQE := Lib.hid hqe
                clear hqm hqe
                go_wp2_with fail
                go_meet
                case rel => exact ⟨Ab, nb, cb, q, bb, Db, b, rfl, (by congr 1; have := HQE.out; unfold wrap64; omega), hqb, HQ.out, by simp, rfl⟩
            case rest =>
            obtain ⟨Ah, nh, ch, q, bs, Dh, Xh, rfl, rfl, hqn, hxq, hmem, rfl⟩ := hcut
            have hqI : (q : Int) < (nh : Int) := by omega
            have HXQ := Lib.hid (And.intro hxq hmem)
            clear hxq hmem hqn
            go_wp2_with fail
            refine HAt.out.mono ?_
            clear HAt
            rintro e w4 ⟨K4, vx, rfl, h4⟩
            obtain ⟨Ax, cx, rfl, hsx⟩ := set_shape (show (setI vx wy.heap.size (nth C m)).P w4 from h4.all _ (List.mem_cons_self))
            obtain ⟨-, bh, th, hA2, ch2, sh⟩ := sets_at (show (setsI (.slice Ah nh ch) bs Dh Xh).P w4 from h4.all _ (List.mem_cons_of_mem _ (List.mem_append_left _ HXQ.out.2))) rfl HXQ.out.1
            obtain ⟨-, bc, tc, hAc, ccell, sc⟩ := sets_at (show (setsI (.slice Ac nc cc) bcc Dc C).P w4 from h4.all _ (by simp)) rfl HCM.out
            have HCC := Lib.hid (show w4.drew.cell? ⟨bc, m, none⟩ = some (.slice tc.A (nth C m).length tc.c) ∧ w4.drew.cell? ⟨bh, q, none⟩ = some (.slice th.A (nth C m).length th.c) from ⟨ccell, ch2⟩)
            have HSM8 := Lib.hid (fun (w5 : World) (h : Below w4.heap.size w4 w5) => show Calls Try.prog 16 #[.slice Ax (nth C m).length cx, .slice tc.A (nth C m).length tc.c] w5 (fun e w' => e = .returned (.bool true) ∧ Below w5.heap.size w5 w') from by
              have h1 := same05_any (c := cx) (c' := tc.c) (hsx.below h (Nat.le_refl _)) (sc.sees.below h (Nat.le_refl _)) HNL.out HNL.out
              simpa using h1)
            have HSM20 := Lib.hid (fun (w5 : World) (h : Below w4.heap.size w4 w5) => show Calls Try.prog 16 #[.slice th.A (nth C m).length th.c, .slice tc.A (nth C m).length tc.c] w5 (fun e w' => e = .returned (.bool true) ∧ Below w5.heap.size w5 w') from by
              have h1 := same05_any (c := th.c) (c' := tc.c) (sh.sees.below h (Nat.le_refl _)) (sc.sees.below h (Nat.le_refl _)) HNL.out HNL.out
              simpa using h1)
            have S4 := Lib.hid (show Star w [setsI (.slice Ac nc cc) bcc Dc C, setsI (.slice Ab nb cb) bb Db b, setsI (.slice Aa na ca) ba Da a, paI K4 g X (7200 + 2 * k) (70 * (k + 1))] w4 from Star.drop (A := []) h4)
            subst hAc hA2
            clear h4 hsx sc sh ccell ch2
            go_wp2_with fail
            refine wp_region_held_drew (S := fun w' => w'.cell? ⟨bc, m, none⟩ = some (.slice tc.A (nth C m).length tc.c) ∧ w'.cell? ⟨bh, q, none⟩ = some (.slice th.A (nth C m).length th.c)) (by kernel_rfl) HCC.out (fun hHeld => ?_)
            try dsimp only at hHeld
            refine take_at (i := 0) (v := ?_) (some 133) rfl rfl (by kernel_rfl) (by kernel_rfl) (by kernel_rfl) (fun _ _ _ h => h) hHeld (by rfl) (fun wS hSw => ?_) ?_
            rotate_left
            · try dsimp only at hSw
              go_simp
              try with_reducible rfl
            try simp only [Act.put, List.setIfInBounds_toArray, List.set_cons_zero, List.set_cons_succ]
            refine take_at (i := 1) (v := ?_) (some 134) rfl rfl (by kernel_rfl) (by kernel_rfl) (by kernel_rfl) (fun _ _ _ h => h) hHeld (by rfl) (fun wS hSw => ?_) ?_
            rotate_left
            · try dsimp only at hSw
              go_simp
              try with_reducible rfl
            try simp only [Act.put, List.setIfInBounds_toArray, List.set_cons_zero, List.set_cons_succ]
            refine take_at (i := 2) (v := ?_) (some 135) rfl rfl (by kernel_rfl) (by kernel_rfl) (by kernel_rfl) (fun _ _ _ h => h) hHeld (by rfl) (fun wS hSw => ?_) ?_
            rotate_left
            · try dsimp only at hSw
              go_simp
              try with_reducible rfl
            try simp only [Act.put, List.setIfInBounds_toArray, List.set_cons_zero, List.set_cons_succ]
            refine take_at (i := 3) (v := ?_) (some 136) rfl rfl (by kernel_rfl) (by kernel_rfl) (by kernel_rfl) (fun _ _ _ h => h) hHeld (by rfl) (fun wS hSw => ?_) ?_
            rotate_left
            · try dsimp only at hSw
              go_simp
              try with_reducible rfl
            try simp only [Act.put, List.setIfInBounds_toArray, List.set_cons_zero, List.set_cons_succ]
            refine take_at (i := 4) (v := ?_) (some 137) rfl rfl (by kernel_rfl) (by kernel_rfl) (by kernel_rfl) (fun _ _ _ h => h) hHeld (by rfl) (fun wS hSw => ?_) ?_
            rotate_left
            · try dsimp only at hSw
              go_simp
              try with_reducible rfl
            try simp only [Act.put, List.setIfInBounds_toArray, List.set_cons_zero, List.set_cons_succ]
            refine take_at (i := 5) (v := ?_) (some 138) rfl rfl (by kernel_rfl) (by kernel_rfl) (by kernel_rfl) (fun _ _ _ h => h) hHeld (by rfl) (fun wS hSw => ?_) ?_
            rotate_left
            · try dsimp only at hSw
              go_simp
              try with_reducible rfl
            try simp only [Act.put, List.setIfInBounds_toArray, List.set_cons_zero, List.set_cons_succ]
            refine take_at (i := 6) (v := ?_) (some 139) rfl rfl (by kernel_rfl) (by kernel_rfl) (by kernel_rfl) (fun _ _ _ h => h) hHeld (by rfl) (fun wS hSw => ?_) ?_
            rotate_left
            · try dsimp only at hSw
              go_simp
              try with_reducible rfl
            try simp only [Act.put, List.setIfInBounds_toArray, List.set_cons_zero, List.set_cons_succ]
            refine take_at (i := 7) (v := ?_) (some 140) rfl rfl (by kernel_rfl) (by kernel_rfl) (by kernel_rfl) (fun _ _ _ h => h) hHeld (by rfl) (fun wS hSw => ?_) ?_
            rotate_left
            · have hS1 := hSw.1
              have hS2 := hSw.2
              try dsimp only at hSw
              go_simp
              try with_reducible rfl
            try simp only [Act.put, List.setIfInBounds_toArray, List.set_cons_zero, List.set_cons_succ]
            refine wpAnyH_ready (rs := [8]) (by kernel_rfl) (by simp) ?_
            refine AllReadyH.cons rfl (fun K hK => ?_) AllReadyH.nil
            simp only [List.getElem_toArray, List.getElem_cons_succ, List.getElem_cons_zero]
            go_simp
            refine (show Calls Try.prog 16 #[.slice Ax (nth C m).length cx, .slice tc.A (nth C m).length tc.c] _ (fun e w' => e = .returned (.bool true) ∧ Below (w4.drew).heap.size (w4.drew) w') from HSM8.out _ (Below.refl _ w4).drew).mono ?_
            rintro e w5 ⟨rfl, hb8⟩
            have hH8 : w5.cell? ⟨bc, m, none⟩ = some (.slice tc.A (nth C m).length tc.c) ∧ w5.cell? ⟨bh, q, none⟩ = some (.slice th.A (nth C m).length th.c) := ⟨cell_later hHeld.1 hb8, cell_later hHeld.2 hb8⟩
            have K8 := Lib.hid (((Below.refl w4.heap.size w4).drew).trans (hb8.mono (Nat.le_refl _)))
            clear hb8
            try dsimp only
            have hOld := hHeld
            refine hK.out _ _ hH8 (fun _ => ?_)
            clear hK K
            refine wpAnyH_mono (S2 := fun w' => w'.cell? ⟨bc, m, none⟩ = some (.slice tc.A (nth C m).length tc.c) ∧ w'.cell? ⟨bh, q, none⟩ = some (.slice th.A (nth C m).length th.c)) (fun _ h => h) _ _ _ _ ?_
            clear hHeld
            have hHeld := hH8
            clear hOld
            try simp only [Act.put, List.setIfInBounds_toArray, List.set_cons_zero, List.set_cons_succ]
            refine take_at (i := 9) (v := ?_) (some 142) rfl rfl (by kernel_rfl) (by kernel_rfl) (by kernel_rfl) (fun _ _ _ h => h) hHeld (by rfl) (fun wS hSw => ?_) ?_
            rotate_left
            · try dsimp only at hSw
              go_simp
              try with_reducible rfl
            try simp only [Act.put, List.setIfInBounds_toArray, List.set_cons_zero, List.set_cons_succ]
            refine take_at (i := 10) (v := ?_) (some 143) rfl rfl (by kernel_rfl) (by kernel_rfl) (by kernel_rfl) (fun _ _ _ h => h) hHeld (by rfl) (fun wS hSw => ?_) ?_
            rotate_left
            · try dsimp only at hSw
              go_simp
              try with_reducible rfl
            try simp only [Act.put, List.setIfInBounds_toArray, List.set_cons_zero, List.set_cons_succ]
            refine take_at (i := 11) (v := ?_) (some 144) rfl rfl (by kernel_rfl) (by kernel_rfl) (by kernel_rfl) (fun _ _ _ h => h) hHeld (by rfl) (fun wS hSw => ?_) ?_
            rotate_left
            · try dsimp only at hSw
              go_simp
              try with_reducible rfl
            try simp only [Act.put, List.setIfInBounds_toArray, List.set_cons_zero, List.set_cons_succ]
            refine take_at (i := 12) (v := ?_) (some 145) rfl rfl (by kernel_rfl) (by kernel_rfl) (by kernel_rfl) (fun _ _ _ h => h) hHeld (by rfl) (fun wS hSw => ?_) ?_
            rotate_left
            · try dsimp only at hSw
              go_simp
              try with_reducible rfl
            try simp only [Act.put, List.setIfInBounds_toArray, List.set_cons_zero, List.set_cons_succ]
            refine take_at (i := 13) (v := ?_) (some 146) rfl rfl (by kernel_rfl) (by kernel_rfl) (by kernel_rfl) (fun _ _ _ h => h) hHeld (by rfl) (fun wS hSw => ?_) ?_
            rotate_left
            · try dsimp only at hSw
              go_simp
              try with_reducible rfl
            try simp only [Act.put, List.setIfInBounds_toArray, List.set_cons_zero, List.set_cons_succ]
            refine take_at (i := 14) (v := ?_) (some 147) rfl rfl (by kernel_rfl) (by kernel_rfl) (by kernel_rfl) (fun _ _ _ h => h) hHeld (by rfl) (fun wS hSw => ?_) ?_
            rotate_left
            · try dsimp only at hSw
              go_simp
              try with_reducible rfl
            try simp only [Act.put, List.setIfInBounds_toArray, List.set_cons_zero, List.set_cons_succ]
            refine take_at (i := 15) (v := ?_) (some 148) rfl rfl (by kernel_rfl) (by kernel_rfl) (by kernel_rfl) (fun _ _ _ h => h) hHeld (by rfl) (fun wS hSw => ?_) ?_
            rotate_left
            · have hS1 := hSw.1
              have hS2 := hSw.2
              try dsimp only at hSw
              go_simp
              try with_reducible rfl
            try simp only [Act.put, List.setIfInBounds_toArray, List.set_cons_zero, List.set_cons_succ]
            refine take_at (i := 16) (v := ?_) (some 149) rfl rfl (by kernel_rfl) (by kernel_rfl) (by kernel_rfl) (fun _ _ _ h => h) hHeld (by rfl) (fun wS hSw => ?_) ?_
            rotate_left
            · try dsimp only at hSw
              go_simp
              try with_reducible rfl
            try simp only [Act.put, List.setIfInBounds_toArray, List.set_cons_zero, List.set_cons_succ]
            refine take_at (i := 17) (v := ?_) (some 150) rfl rfl (by kernel_rfl) (by kernel_rfl) (by kernel_rfl) (fun _ _ _ h => h) hHeld (by rfl) (fun wS hSw => ?_) ?_
            rotate_left
            · try dsimp only at hSw
              go_simp
              try with_reducible rfl
            try simp only [Act.put, List.setIfInBounds_toArray, List.set_cons_zero, List.set_cons_succ]
            refine take_at (i := 18) (v := ?_) (some 151) rfl rfl (by kernel_rfl) (by kernel_rfl) (by kernel_rfl) (fun _ _ _ h => h) hHeld (by rfl) (fun wS hSw => ?_) ?_
            rotate_left
            · try dsimp only at hSw
              go_simp
              try with_reducible rfl
            try simp only [Act.put, List.setIfInBounds_toArray, List.set_cons_zero, List.set_cons_succ]
            refine take_at (i := 19) (v := ?_) (some 152) rfl rfl (by kernel_rfl) (by kernel_rfl) (by kernel_rfl) (fun _ _ _ h => h) hHeld (by rfl) (fun wS hSw => ?_) ?_
            rotate_left
            · have hS1 := hSw.1
              have hS2 := hSw.2
              try dsimp only at hSw
              go_simp
              try with_reducible rfl
            try simp only [Act.put, List.setIfInBounds_toArray, List.set_cons_zero, List.set_cons_succ]
            refine wpAnyH_ready (rs := [20]) (by kernel_rfl) (by simp) ?_
            refine AllReadyH.cons rfl (fun K hK => ?_) AllReadyH.nil
            simp only [List.getElem_toArray, List.getElem_cons_succ, List.getElem_cons_zero]
            go_simp
            refine (show Calls Try.prog 16 #[.slice th.A (nth C m).length th.c, .slice tc.A (nth C m).length tc.c] _ (fun e w' => e = .returned (.bool true) ∧ Below (w5).heap.size (w5) w') from HSM20.out _ K8.out).mono ?_
            rintro e w6 ⟨rfl, hb20⟩
            have hH20 : w6.cell? ⟨bc, m, none⟩ = some (.slice tc.A (nth C m).length tc.c) ∧ w6.cell? ⟨bh, q, none⟩ = some (.slice th.A (nth C m).length th.c) := ⟨cell_later hHeld.1 hb20, cell_later hHeld.2 hb20⟩
            have K20 := Lib.hid ((K8.out).trans (hb20.mono K8.out.size))
            clear hb20
            try dsimp only
            have hOld := hHeld
            refine hK.out _ _ hH20 (fun _ => ?_)
            clear hK K
            refine wpAnyH_mono (S2 := fun w' => w'.cell? ⟨bc, m, none⟩ = some (.slice tc.A (nth C m).length tc.c) ∧ w'.cell? ⟨bh, q, none⟩ = some (.slice th.A (nth C m).length th.c)) (fun _ h => h) _ _ _ _ ?_
            clear hHeld
            have hHeld := hH20
            clear hOld
            try simp only [Act.put, List.setIfInBounds_toArray, List.set_cons_zero, List.set_cons_succ]
            refine take_at (i := 21) (v := ?_) (some 154) rfl rfl (by kernel_rfl) (by kernel_rfl) (by kernel_rfl) (fun _ _ _ h => h) hHeld (by rfl) (fun wS hSw => ?_) ?_
            rotate_left
            · try dsimp only at hSw
              go_simp
              try with_reducible rfl
            try simp only [Act.put, List.setIfInBounds_toArray, List.set_cons_zero, List.set_cons_succ]
            refine take_at (i := 22) (v := ?_) (some 155) rfl rfl (by kernel_rfl) (by kernel_rfl) (by kernel_rfl) (fun _ _ _ h => h) hHeld (by rfl) (fun wS hSw => ?_) ?_
            rotate_left
            · try dsimp only at hSw
              go_simp
              try with_reducible rfl
            try simp only [Act.put, List.setIfInBounds_toArray, List.set_cons_zero, List.set_cons_succ]
            refine wpAnyH_done (by kernel_rfl) ?_ _
            clear hHeld
            have S6 := Lib.hid (S4.out.later K20.out)
            go_wp2_with fail
            go_roundw
            case rel => exact ⟨m + 1, K4, by omega, by go_num, S6.out⟩
            case measure => simp [intOf]; omega
          · obtain rfl : m = nc := by omega
            have HS9 := Lib.hid hS
            clear hS
            go_wp2_with fail
            refine (known_any _).mono ?_
            rintro e wz ⟨rfl, hbz⟩
            have HB := Lib.hid (HS9.out.later hbz).below
            clear hbz
            go_wp2_with fail
            go_ret
            exact ⟨rfl, HB.out⟩

end Go.Proofs.Ytpaelbhljgdenaa
