/-
  The law's own own, told so that it can be called again: b's row stays a row.
-/
import Derived.Test.YtdhcnolbiocneaaWireRef
import Derived.Laws.CopyOwn
namespace Go.Proofs.Ytdhcnolbiocneaa
open Go.RowKit

theorem grow_trans {a b c : World} {row : Option Nat} (h : a.grownBy b row) (k : b.grownBy c row) : a.grownBy c row :=
  ⟨k.os.trans h.os, k.tape.trans h.tape, k.output.trans h.output, Nat.le_trans h.size k.size, fun i hi hne => (k.block i (Nat.lt_of_lt_of_le hi h.size) hne).trans (h.block i hi hne)⟩

theorem own_shrink {w : World} {base : Nat} {e : TypeId} {g n c : Nat} {ys : List Value} (h : w.ownsRow base e 1 (.slice (some ⟨g, 0, none⟩) (n + 1) c) (n + 1) ys) : w.ownsRow base e 1 (.slice (some ⟨g, 0, none⟩) n c) n (ys.take n) := by
  refine ⟨by rw [List.length_take, h.1]; omega, ?_⟩
  rcases h.2 with ⟨h', _⟩ | ⟨g', cap', cur, h', hb, hg, hnc, hcm, hcs, htake⟩
  · cases h'
  · simp only [Value.slice.injEq, Option.some.injEq, Addr.mk.injEq, and_true, true_and] at h'
    obtain ⟨rfl, rfl⟩ := h'
    refine .inr ⟨g, c, cur, rfl, hb, hg, by omega, hcm, hcs, ?_⟩
    rw [← htake, List.take_take, Nat.min_eq_left (by omega), Nat.mul_one]

theorem own2_end {w wr w1 : World} {B g i c m c2 : Nat} {A2 : Option Addr} {zs ys : List UInt8}
    (hl : zs.length = i) (hor2 : wr.ownsRow B 5 1 (.slice A2 m c2) m (bvs ys)) (hb : w.grownBy wr (some g))
    (hne : (Value.slice A2 m c2).ownBlock ≠ some g) (hown1 : w1.ownsRow B 5 1 (.slice (some ⟨g, 0, none⟩) (i + 1) c) (i + 1) (bvs zs ++ [.int .u8 99])) (hg : (wr.alloc (.cells #[Value.int .u8 99] 5)).grownBy w1 (some g)) :
    w1.cell? ⟨g, i, none⟩ = some (.int .u8 99) ∧ w1.frozen? ⟨g, i, none⟩ = false ∧ w.grownBy (w1.setCell ⟨g, i, none⟩ (.int .u8 100)) (some g) ∧
      (w1.setCell ⟨g, i, none⟩ (.int .u8 100)).ownsRow B 5 1 (.slice (some ⟨g, 0, none⟩) i c) i (bvs zs) ∧
      (convert 22 9 (.slice A2 m c2)).run Try.prog (w1.setCell ⟨g, i, none⟩ (.int .u8 100)) = .ok (.string ⟨ys.toArray⟩) (w1.setCell ⟨g, i, none⟩ (.int .u8 100)) := by
  have hor3 := (hor2.alloc (.cells #[Value.int .u8 99] 5)).kept hg (.inr hne)
  have hcell := hown1.cellAt i (by omega)
  rw [List.getElem?_append_right (by rw [bvs_length]; omega), bvs_length, hl, Nat.sub_self] at hcell
  simp only [List.getElem?_cons_zero] at hcell
  have hfz := hown1.frozenAt i
  have hst := hown1.stored i (.int .u8 100)
  have hor4 := hor3.kept hst.2 (.inr hne)
  have hsh := own_shrink hst.1
  rw [List.take_set_of_le (Nat.le_refl _), List.take_left' (by rw [bvs_length]; exact hl)] at hsh
  exact ⟨hcell, hfz, grow_trans (grow_trans hb (World.grownBy_alloc wr _ _)) (grow_trans hg hst.2), hsh, run_str Try.underlying22 Try.underlying5 Try.underlying9 (Sees.of_own hor4)⟩

set_option maxHeartbeats 1000000 in
theorem own2_any (g n c : Nat) (xs : List UInt8) (v2 : Value) (m : Nat) (ys : List UInt8) (w : World) (B : Nat) (ho : w.ownsRow B 5 1 (.slice (some ⟨g, 0, none⟩) n c) n (bvs xs)) (hroom : n + 1 ≤ c) (ho2 : w.ownsRow B 5 1 v2 m (bvs ys)) (hne : v2.ownBlock ≠ some g) (hn : n ≤ 1000000) :
    Calls Try.prog 16 #[.slice (some ⟨g, 0, none⟩) n c, v2] w fun e w' => e = .returned (.bool true) ∧ (∃ xs', w'.ownsRow B 5 1 (.slice (some ⟨g, 0, none⟩) n c) n (bvs xs')) ∧ w.grownBy w' (some g) := by
  obtain ⟨i0, hi0, hz0, hz1, hz2⟩ := info_parts byte_info
  obtain ⟨A2, c2, rfl, _⟩ := own_shape ho2
  have hs2 := Sees.of_own ho2
  have hnI : (n : Int) ≤ 1000000 := by omega
  go_enter Try.func16, Try.ntmps16
  go_wp2_with (refine wpList_str rfl _ 22 _ _ rfl Try.underlying22 Try.underlying5 Try.underlying9 (l := ys) rfl hs2 ?_)
  go_loopw [11] (fun k wr => ∃ (i : Nat) (zs : List UInt8), i ≤ n ∧ k = .int .i64 i ∧ wr.ownsRow B 5 1 (.slice (some ⟨g, 0, none⟩) n c) n (bvs zs) ∧ wr.ownsRow B 5 1 (.slice A2 m c2) m (bvs ys) ∧ w.grownBy wr (some g)) (fun k _ => n - (intOf k).toNat)
  case atStart => exact ⟨0, xs, by omega, rfl, ho, ho2, World.grownBy.refl _ _⟩
  case round =>
    obtain ⟨i, zs, hi, rfl, hor, hor2, hb⟩ := hrel
    clear ho ho2 hs2
    by_cases hlt : i < n
    · have hl : zs.length = n := by have := hor.1; rw [bvs_length] at this; omega
      have hcell := hor.cellAt i (by omega)
      rw [bvs_get (by omega)] at hcell
      have hfz := hor.frozenAt i
      have hst := hor.stored i (bv (zs[i]'(by omega) + 1))
      rw [bvs_set] at hst
      obtain ⟨z, hz⟩ : ∃ z, zs[i]'(by omega) = z := ⟨_, rfl⟩
      rw [hz] at hcell hst
      have hz256 : (z.toNat : Int) < 256 := by have := z.toNat_lt; omega
      clear hz hl
      have HST := Lib.hid hst; clear hst
      go_wp2_with fail
      go_roundw
      case rel =>
        have hst := HST.out
        have hup2 := byte_up z
        unfold bv at hst hup2
        rw [← hup2] at hst
        exact ⟨i + 1, zs.set i (z + 1), by omega, by go_num, hst.1, hor2.kept hst.2 (.inr hne), grow_trans hb hst.2⟩
      case measure => simp [intOf]; omega
    · obtain rfl : i = n := by omega
      have hl : zs.length = i := by have := hor.1; rw [bvs_length] at this; omega
      have HL := Lib.hid hl; clear hl
      go_wp2_with (
        at_builtin
        refine wpList_append_fits _ rfl _ _ _ rfl B 5 i0 1 Try.underlying22 hi0 hz1 g i c (bvs zs) rfl
          (hor.alloc _) ⟨wr.heap.size, 0, none⟩ 1 1 [.int .u8 99] rfl rfl (cell_one_new _ _ _) (by intro u hu; simp at hu; subst hu; rfl) hroom ?_
        intro w1 hown1 hg
        obtain ⟨hcell, hfz, hb4, hrow, hcv⟩ := own2_end HL.out hor2 hb hne hown1 hg
        have HB4 := Lib.hid hb4
        clear hb4 hg hown1)
      go_ret
      exact ⟨by simp, ⟨zs, hrow⟩, HB4.out⟩
end Go.Proofs.Ytdhcnolbiocneaa
