/-
  rubriclaw13: small, level, levels, known.
-/
import Derived.Test.YtpaelbhljgdenaaPaSt
namespace Go.Proofs.Ytpaelbhljgdenaa
open Go.RowKit

/-- Calls that are looked at. -/
def smallO (o : OpS) : Prop := o.xs.length ≤ 60 ∧ o.p.length ≤ 70 ∧ riseC o.p ∧ ∀ a ∈ o.L, a.length ≤ 70 ∧ riseA a
def smallL (l : List OpS) : Prop := l.length ≤ 60 ∧ ∀ o ∈ l, smallO o

theorem op_infoL (o : OpS) : (Try.prog.info? 26).map (·.size) = some o.cells.length := by show _ = some 5; kernel_rfl
theorem op_infoA (o : OpS) : (Try.prog.info? 26).map (·.size) = some o.cells.toArray.size := by show _ = some 5; kernel_rfl
theorem OpS.one (o : OpS) : ∀ v ∈ o.cells, v.oneCell' = true := by intro v hv; simp [OpS.cells] at hv; rcases hv with rfl | rfl | rfl | rfl | rfl <;> rfl

/-- What small leaves. -/
def SmallR (w : World) (l : List OpS) (e : Ending) (w' : World) : Prop := ∃ b, e = .returned (.bool b) ∧ (b = true → smallL l) ∧ Below w.heap.size w w'

set_option maxRecDepth 100000 in
set_option maxHeartbeats 4000000 in
theorem small_any {w0 w : World} (hb : Below w0.heap.size w0 w) {B c : Nat} {A : Option Addr} {l : List OpS} (hs : Sees w B 5 A l.length (l.flatMap OpS.cells)) (hB : B ≤ w.heap.size) (hok : ∀ o ∈ l, o.Ok w0) :
    Calls Try.prog 8 #[.slice A l.length c] w fun e w' => SmallR w l e w' := by
  have HS := Lib.hid (fun (w1 : World) (h : Below w.heap.size w w1) => hs.below h hB)
  have HB := Lib.hid hb
  have HO := Lib.hid hok
  obtain ⟨n, hn⟩ : ∃ n, l.length = n := ⟨_, rfl⟩
  have HN := Lib.hid hn
  rw [hn] at HS ⊢
  clear hs hB hok hn hb
  by_cases hlen : 60 < n
  · have hlI : (60 : Int) < n := by omega
    go_enter Try.func8, Try.ntmps8
    go_wp2_with fail
    go_ret
    exact ⟨false, rfl, (fun e => by cases e), Below.refl _ _⟩
  · have hlI : (n : Int) ≤ 60 := by omega
    go_enter Try.func8, Try.ntmps8
    go_wp2_with fail
    go_loopw [12] (fun v12 wr => ∃ k : Nat, k ≤ n ∧ v12 = .int .i64 k ∧ (∀ o ∈ l.take k, smallO o) ∧ Below w.heap.size w wr) (fun v12 _ => n - (intOf v12).toNat)
    case atStart => exact ⟨0, Nat.zero_le _, rfl, (fun o h => by simp at h), Below.refl _ _⟩
    case round =>
      obtain ⟨k, hk, rfl, hsm, hbr⟩ := hrel
      by_cases hlt : k < n
      · have hkI : (k : Int) < n := by omega
        obtain ⟨o, ho⟩ : ∃ o, l[k]? = some o := ⟨_, List.getElem?_eq_getElem (by rw [HN.out]; exact hlt)⟩
        have HOk := Lib.hid (HO.out o (List.mem_of_getElem? ho))
        obtain ⟨-, b, f, rfl, -, hr⟩ := (HS.out wr hbr).elem OpS.cells 5 (fun _ => rfl) ho
        obtain ⟨bx, hbx⟩ : ∃ v, wr.heap.size = v := ⟨_, rfl⟩
        obtain ⟨w2, hw2⟩ : ∃ v, wr.alloc (.cells o.cells.toArray 26) = v := ⟨_, rfl⟩
        have B2 : Below wr.heap.size wr w2 := by rw [← hw2]; exact (Below.refl _ _).alloc (Nat.le_refl _) _
        have hq2 : w2.heap[bx]? = some (.cells #[.int .i64 o.kind, .int .i64 o.k, .int .i64 o.m, .slice o.A o.xs.length o.c, .slice o.A2 o.p.length o.c2] 26) := by rw [← hw2, ← hbx]; exact heap_alloc_new wr _
        have K2 := Lib.hid (hbr.trans (B2.mono hbr.size))
        have c3 : w2.cell? ⟨bx, 3, none⟩ = some (.slice o.A o.xs.length o.c) := by rw [cell_of_row w2 bx 3 _ _ _ hq2]; rfl
        have c4 : w2.cell? ⟨bx, 4, none⟩ = some (.slice o.A2 o.p.length o.c2) := by rw [cell_of_row w2 bx 4 _ _ _ hq2]; rfl
        have HE := Lib.hid (And.intro hw2 hbx)
        have HRr := Lib.hid hr
        have HTK := Lib.hid (show smallO o → ∀ q ∈ l.take (k + 1), smallO q from fun h q hq => by
          rw [take_snoc' ho] at hq
          rcases List.mem_append.1 hq with e | e
          · exact hsm q e
          · rw [List.mem_singleton.1 e]; exact h)
        have hle : o.xs.length ≤ 9000000000000000000 ∨ True := .inr trivial
        clear ho hr hbx hw2 B2 hq2 hsm hle hbr
        by_cases hx : 60 < o.xs.length
        · have hxI : (60 : Int) < o.xs.length := by omega
          go_wp2_with (first
            | (refine wpList_load_mid rfl 26 (.tmp 14) rfl b (f + k * 5) rfl o.cells _ HRr.out Try.underlying26 rfl (op_infoL o) ?_)
            | (refine wpList_store_row rfl 26 (.tmp 4) (.tmp 15) rfl wr.heap.size o.cells.toArray rfl rfl 26 _ (heap_alloc_new wr _) (op_infoA o) (by rfl) (all_oneCell_toArray o.one) ?_; rw [alloc_setRow, HE.out.1, HE.out.2]))
          go_ret
          exact ⟨false, rfl, (fun e => by cases e), K2.out⟩
        · have hxI : (o.xs.length : Int) ≤ 60 := by omega
          by_cases hp : 70 < o.p.length
          · have hpI : (70 : Int) < o.p.length := by omega
            go_wp2_with (first
              | (refine wpList_load_mid rfl 26 (.tmp 14) rfl b (f + k * 5) rfl o.cells _ HRr.out Try.underlying26 rfl (op_infoL o) ?_)
              | (refine wpList_store_row rfl 26 (.tmp 4) (.tmp 15) rfl wr.heap.size o.cells.toArray rfl rfl 26 _ (heap_alloc_new wr _) (op_infoA o) (by rfl) (all_oneCell_toArray o.one) ?_; rw [alloc_setRow, HE.out.1, HE.out.2]))
            go_ret
            exact ⟨false, rfl, (fun e => by cases e), K2.out⟩
          · have hpI : (o.p.length : Int) ≤ 70 := by omega
            have HRi := Lib.hid (rise06_any (c := o.c2) (HOk.out.sees2.below (HB.out.trans (K2.out.mono HB.out.size)) (Nat.le_refl _)) (by omega))
            go_wp2_with (first
              | (refine wpList_load_mid rfl 26 (.tmp 14) rfl b (f + k * 5) rfl o.cells _ HRr.out Try.underlying26 rfl (op_infoL o) ?_)
              | (refine wpList_store_row rfl 26 (.tmp 4) (.tmp 15) rfl wr.heap.size o.cells.toArray rfl rfl 26 _ (heap_alloc_new wr _) (op_infoA o) (by rfl) (all_oneCell_toArray o.one) ?_; rw [alloc_setRow, HE.out.1, HE.out.2]))
            refine HRi.out.mono ?_
            clear HRi
            rintro e w3 ⟨rfl, hb3⟩
            have K3 := Lib.hid (K2.out.trans (hb3.mono K2.out.size))
            have d3 : w3.cell? ⟨bx, 3, none⟩ = some (.slice o.A o.xs.length o.c) := cell_later c3 hb3
            have d4 : w3.cell? ⟨bx, 4, none⟩ = some (.slice o.A2 o.p.length o.c2) := cell_later c4 hb3
            clear hb3 c3 c4
            by_cases hri : riseC o.p
            · have hd : decide (riseC o.p) = true := decide_eq_true hri
              have HRI := Lib.hid hri
              rw [hd]
              clear hd hri
              go_wp2_with fail
              have HX := Lib.hid (fun (w4 : World) (h : Below w.heap.size w w4) => show Sees w4 w0.heap.size 1 o.A o.xs.length (rowT o.xs) ∧ SetsAt w4 (fun b => b < w0.heap.size) o.xs o.L from
                ⟨HOk.out.sees.below (HB.out.trans (h.mono HB.out.size)) (Nat.le_refl _), HOk.out.sets.below (HB.out.trans (h.mono HB.out.size))⟩)
              obtain ⟨nx, hnx⟩ : ∃ n, o.xs.length = n := ⟨_, rfl⟩
              have HNX := Lib.hid (And.intro hnx (show o.L.length = nx by rw [← HOk.out.sets.len, hnx]))
              have HSO := Lib.hid (show (∀ a ∈ o.L, a.length ≤ 70 ∧ riseA a) → smallO o from fun h => ⟨by omega, by omega, HRI.out, h⟩)
              rw [hnx] at HX hxI ⊢
              clear hx hp d3 d4 hnx
              go_loopw [35] (fun v35 w4 => ∃ j : Nat, j ≤ nx ∧ v35 = .int .i64 j ∧ (∀ a ∈ o.L.take j, a.length ≤ 70 ∧ riseA a) ∧ Below w.heap.size w w4) (fun v35 _ => nx - (intOf v35).toNat)
              case atStart => exact ⟨0, Nat.zero_le _, rfl, (fun a h => by simp at h), K3.out⟩
              case round =>
                rename World => w4
                obtain ⟨j, hj, rfl, hs4, hb4⟩ := hrel
                by_cases hjl : j < nx
                · have hjI : (j : Int) < nx := by omega
                  obtain ⟨x, hx⟩ : ∃ x, o.xs[j]? = some x := ⟨_, List.getElem?_eq_getElem (by rw [HNX.out.1]; exact hjl)⟩
                  obtain ⟨a, ha⟩ : ∃ a, o.L[j]? = some a := ⟨_, List.getElem?_eq_getElem (by rw [HNX.out.2]; exact hjl)⟩
                  have hSx := (HX.out w4 hb4).2.get j x a hx ha
                  obtain ⟨-, b5, o5, hA5, -, hr5⟩ := (HX.out w4 hb4).1.thing hx
                  rw [Nat.mul_one] at hr5
                  have hcx := thing_cell hr5
                  have HTA := Lib.hid (show a.length ≤ 70 ∧ riseA a → ∀ q ∈ o.L.take (j + 1), q.length ≤ 70 ∧ riseA q from fun h q hq => by
                    rw [take_snoc' ha] at hq
                    rcases List.mem_append.1 hq with e | e
                    · exact hs4 q e
                    · rw [List.mem_singleton.1 e]; exact h)
                  have hxl := hSx.len
                  have K4 := Lib.hid hb4
                  have HSX := Lib.hid hSx
                  rw [hA5]
                  clear hx ha hr5 hs4 hb4 hSx
                  by_cases ha70 : 70 < x.n
                  · have haI : (70 : Int) < x.n := by omega
                    clear hxl
                    go_wp2_with fail
                    go_ret
                    exact ⟨false, rfl, (fun e => by cases e), K4.out⟩
                  · have haI : (x.n : Int) ≤ 70 := by omega
                    have HRa := Lib.hid (rise05_any (c := x.c) HSX.out.sees (by omega))
                    rw [hxl] at HRa
                    have HAL := Lib.hid (show a.length ≤ 70 by omega)
                    clear hxl
                    go_wp2_with fail
                    refine HRa.out.mono ?_
                    clear HRa
                    rintro e w5 ⟨rfl, hb5⟩
                    have K5 := Lib.hid (K4.out.trans (hb5.mono K4.out.size))
                    clear hb5 hcx
                    by_cases hra : riseA a
                    · have hd : decide (riseA a) = true := decide_eq_true hra
                      have HT := Lib.hid (HTA.out ⟨HAL.out, hra⟩)
                      rw [hd]
                      clear hd hra
                      go_wp2_with fail
                      go_roundw
                      case rel => exact ⟨j + 1, by omega, by go_num, HT.out, K5.out⟩
                      case measure => simp [intOf]; omega
                    · have hd : decide (riseA a) = false := decide_eq_false hra
                      rw [hd]
                      clear hd hra
                      go_wp2_with fail
                      go_ret
                      exact ⟨false, rfl, (fun e => by cases e), K5.out⟩
                · obtain rfl : j = nx := by omega
                  have HT := Lib.hid (HTK.out (HSO.out (by rw [List.take_of_length_le (by rw [HNX.out.2]; exact Nat.le_refl _)] at hs4; exact hs4)))
                  have K4 := Lib.hid hb4
                  clear hs4 hb4
                  go_wp2_with fail
                  go_roundw
                  case rel => exact ⟨k + 1, by omega, by go_num, HT.out, K4.out⟩
                  case measure => simp [intOf]; omega
            · have hd : decide (riseC o.p) = false := decide_eq_false hri
              rw [hd]
              clear hd hri
              go_wp2_with fail
              go_ret
              exact ⟨false, rfl, (fun e => by cases e), K3.out⟩
      · obtain rfl : k = n := by omega
        have HT := Lib.hid (show smallL l from ⟨by rw [HN.out]; omega, by rw [List.take_of_length_le (by rw [HN.out]; exact Nat.le_refl _)] at hsm; exact hsm⟩)
        have K1 := Lib.hid hbr
        clear hsm hbr
        go_wp2_with fail
        go_ret
        exact ⟨true, rfl, fun _ => HT.out, K1.out⟩

end Go.Proofs.Ytpaelbhljgdenaa
