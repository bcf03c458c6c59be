/-
  The walk of (*arena.Arena[int64]).Take where no place is free.
-/
import Derived.Test.YteelmlhknfbjdaaArenaF
namespace Go.Proofs.Yteelmlhknfbjdaa
open Go.RowKit

theorem Sees.two_at (w : World) (b : Nat) (u v : Value) (e : TypeId) (hb : w.heap.size = b) : Sees (w.alloc (.cells #[u, v] e)) (b + 1) 2 (some ⟨b, 0, none⟩) 1 [u, v] := by
  subst hb
  refine ⟨rfl, fun _ => ⟨w.heap.size, 0, rfl, by omega, fun j z hz => ?_⟩⟩
  have hc := cell_of_row (w.alloc (.cells #[u, v] e)) w.heap.size j #[u, v] e (0, 0) (heap_alloc_new w _)
  rw [Nat.zero_add, hc]
  simpa using hz

/-- Another row of places, laid and named in the arena's first field. -/
theorem ArenaAt.newPlaces {α : Type} {w w1 : World} {base : Nat} {tA tP tI : TypeId} {enc : α → Value} {zero : Value} {g : Nat} {vp vf vp' : Value} {s s' : List (Option α)} {fr : List Nat} (h : ArenaAt w base tA tP tI enc zero g vp vf s fr)
    (h0 : tP ≠ tA) (h1 : tI ≠ tA) (h2 : tI ≠ tP) (hg : w.grownBy w1 vp.ownBlock) (hown : w1.ownsRow base tP 2 vp' s'.length (s'.flatMap (placeCells enc zero))) :
    w1.cell? ⟨g, 0, none⟩ = some vp ∧ w1.frozen? ⟨g, 0, none⟩ = false ∧ ArenaAt (w1.setCell ⟨g, 0, none⟩ vp') base tA tP tI enc zero g vp' vf s' fr ∧ w1.heap.size = (w1.setCell ⟨g, 0, none⟩ vp').heap.size := by
  have hb1 : w1.heap[g]? = some (.cells #[vp, vf] tA (0, 0)) := by
    rw [hg.block g h.lt (fun he => row_ne_blk h.places h.blk h0 he.symm)]
    exact h.blk
  have hf1 : w1.ownsRow base tI 1 vf fr.length (fr.map fun (i : Nat) => Value.int .i64 (i : Int)) := h.free.kept hg (row_ne_row h.free h.places h2)
  have hgs : w1.grownBy (w1.setCell ⟨g, 0, none⟩ vp') (some g) := ⟨rfl, rfl, rfl, by simp [World.setCell], fun k _ hk => heap_setCell_other w1 ⟨g, 0, none⟩ k vp' (fun e => hk (by simp [e]))⟩
  refine ⟨by rw [cell_of_row w1 g 0 _ _ _ hb1]; rfl, frozen_of_row w1 g 0 _ _ hb1, ⟨h.low, ?_, hown.kept hgs (.inr (row_ne_blk hown hb1 h0)), hf1.kept hgs (.inr (row_ne_blk hf1 hb1 h1))⟩, by simp [World.setCell]⟩
  have := heap_setCell_same w1 g 0 _ _ vp' hb1
  simpa using this

set_option maxHeartbeats 1000000 in
theorem takeI_new (base g : Nat) (vp vf : Value) (s : List (Option Int)) (x : Int) (w : World) (h : AtI w base g vp vf s []) (hs : s.length ≤ 1000000) :
    Calls Try.prog 9 #[.pointer (some ⟨g, 0, none⟩), .int .i64 x] w fun e w' => ∃ vp', e = .returned (.int .i64 (s.length : Int)) ∧ AtI w' base g vp' vf (s ++ [some x]) [] ∧ ArenaStep w w' g vp vf vp' vf := by
  obtain ⟨i0, ii0, iz0, iz1, iz2⟩ := info_parts placeI_info
  have h0 := h.cell0
  have h1 := h.cell1
  obtain ⟨B, d, hvf, _⟩ := own_shape h.free
  have hvf0 : vf = .slice B 0 d := hvf
  subst hvf0
  have hlow : base ≤ (w.alloc (.cells #[.int .i64 x, .bool true] 66)).heap.size := by
    have h1 := h.low
    have h2 := h.lt
    simp
    omega
  have HA := Lib.hid h
  clear hvf
  go_enter Try.func9, Try.ntmps9
  go_wp2_with (
    at_builtin
    refine wpList_append_sees _ rfl _ _ _ rfl base 66 i0 _ 2 16 Try.underlying60 ii0 iz0 iz1 iz2 rfl (by omega) vp s.length _ rfl
      (HA.out.places.alloc _) _ _ 1 1 _ rfl (Sees.two_at _ w.heap.size _ _ _ (by simp)) (by intro u hu; simp at hu; rcases hu with rfl | rfl <;> rfl) (by simp only [maxLen]; omega) (by omega) hlow ?_
    intro vp' w1 hown1 hg1 hat1 hnil1
    have hgr := grown_of_alloc hg1
    obtain ⟨d0, d1, d2, d3⟩ := HA.out.newPlaces (vp' := vp') (s' := s ++ [some x]) (by decide) (by decide) (by decide) hgr (by simpa [placeCells, encI] using hown1)
    have D2 := Lib.hid d2
    have D3 := Lib.hid d3
    obtain ⟨B1, e1, hv1, _⟩ := own_shape hown1
    subst hv1
    have c2 := d2.cell0
    clear d2 d3 hown1 hg1 hnil1)
  go_ret
  refine ⟨_, ?_, D2.out, ?_⟩
  · simp
  · refine ⟨hgr.os, hgr.tape, hgr.output, ?_, fun j hj hjg hjp hjf => ?_, ?_, .inl rfl⟩
    · rw [← D3.out]
      exact hgr.size
    · rw [heap_setCell_other _ _ _ _ (fun e => hjg (by simpa using e))]
      exact hgr.block j hj (fun e => hjp e.symm)
    · rcases hat1 with e | e
      · exact .inl e
      · exact .inr ⟨_, e, by simp⟩
end Go.Proofs.Yteelmlhknfbjdaa
