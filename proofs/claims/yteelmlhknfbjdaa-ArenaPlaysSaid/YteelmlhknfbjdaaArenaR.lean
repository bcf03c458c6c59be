/-
  The walk of (*arena.Arena[int64]).Take where a place is free: the last one.
-/
import Derived.Test.YteelmlhknfbjdaaArenaT
namespace Go.Proofs.Yteelmlhknfbjdaa
open Go.RowKit

theorem own_less {w : World} {base : Nat} {e : TypeId} {g n c : Nat} {ys : List Value} (h : w.ownsRow base e 1 (.slice (some ⟨g, 0, none⟩) (n + 1) c) (n + 1) ys) : w.ownsRow base e 1 (.slice (some ⟨g, 0, none⟩) n c) n (ys.take n) := by
  refine ⟨by rw [List.length_take, h.1]; omega, ?_⟩
  rcases h.2 with ⟨h', _⟩ | ⟨g', cap', cur, h', hb, hg, hnc, hcm, hcs, htake⟩
  · cases h'
  · simp only [Value.slice.injEq, Option.some.injEq, Addr.mk.injEq, and_true, true_and] at h'
    obtain ⟨rfl, rfl⟩ := h'
    refine .inr ⟨g, c, cur, rfl, hb, hg, by omega, hcm, hcs, ?_⟩
    rw [← htake, List.take_take, Nat.min_eq_left (by omega), Nat.mul_one]

set_option maxHeartbeats 1000000 in
theorem takeI_old (base g : Nat) (vp vf : Value) (s : List (Option Int)) (fr : List Nat) (i : Nat) (x : Int) (w : World) (h : AtI w base g vp vf s (fr ++ [i])) (hi : i < s.length) (hin : s[i] = none) (hs : s.length ≤ 1000000) (hf : fr.length ≤ 1000000) :
    Calls Try.prog 9 #[.pointer (some ⟨g, 0, none⟩), .int .i64 x] w fun e w' => ∃ vf', e = .returned (.int .i64 (i : Int)) ∧ AtI w' base g vp vf' (s.set i (some x)) fr ∧ ArenaStep w w' g vp vf vp vf' := by
  have h0 := h.cell0
  have h1 := h.cell1
  obtain ⟨b, c, rfl, hc, _, hcell, hfz⟩ := place_at h hi
  have k0 := hcell 0 (.int .i64 0) (by omega) (by rw [hin]; rfl)
  have k1 := hcell 1 (.bool false) (by omega) (by rw [hin]; rfl)
  rw [Nat.add_zero] at k0
  have hfree := h.free
  rw [List.length_append, List.length_singleton] at hfree
  obtain ⟨B, d, rfl, hd, _, hn0, hb0⟩ := own_shape hfree
  obtain ⟨bf, rfl⟩ : ∃ bf, B = some ⟨bf, 0, none⟩ := by
    cases B with
    | none => have := (hn0 rfl).1; omega
    | some ad => obtain ⟨bf, rfl, _⟩ := hb0 ad rfl; exact ⟨bf, rfl⟩
  have hfc := hfree.cellAt fr.length (by omega)
  rw [List.map_append, List.getElem?_append_right (by simp), List.length_map, Nat.sub_self] at hfc
  simp only [List.map_cons, List.map_nil, List.getElem?_cons_zero] at hfc
  have hless := own_less hfree
  rw [List.map_append, List.take_left' (by simp)] at hless
  obtain ⟨d0, d1, d2, d3⟩ := h.newFree (vf' := .slice (some ⟨bf, 0, none⟩) fr.length d) (fr' := fr) (by decide) (by decide) (by decide) (World.grownBy.refl _ _) hless
  have e2 := d2.set2 (by decide) (by decide) hi (some x) (.int .i64 x) (.bool true) rfl
  obtain ⟨b', c', hvp', _, _, hcell', hfz'⟩ := place_at d2 hi
  injection hvp' with q1 q2 q3
  injection q1 with q1
  injection q1 with q1
  subst q1
  subst q3
  have m0 := hcell' 0 (.int .i64 0) (by omega) (by rw [hin]; rfl)
  have m1 := hcell' 1 (.bool false) (by omega) (by rw [hin]; rfl)
  rw [Nat.add_zero] at m0
  have m2 := hfz' (i * 2)
  have m3 := hfz' (i * 2 + 1)
  have m4 := d2.cell0
  have E2 := Lib.hid e2
  have D3 := Lib.hid d3
  obtain ⟨ns, hns⟩ : ∃ n, s.length = n := ⟨_, rfl⟩
  obtain ⟨nf, hnf⟩ : ∃ n, fr.length = n := ⟨_, rfl⟩
  have hiI : (i : Int) < ns := by omega
  have hsI : (ns : Int) ≤ 1000000 := by omega
  have hfI : (nf : Int) ≤ 1000000 := by omega
  rw [hnf] at h1 hd hfc m0 m1 m2 m3 m4
  rw [hns] at h0 hc m4
  have HNS := Lib.hid hns
  have HNF := Lib.hid hnf
  clear hcell hcell' hns hnf hs hf d2 d3 e2 hless hfree hn0 hb0 d0
  go_enter Try.func9, Try.ntmps9
  go_wp2_with fail
  go_ret
  refine ⟨rfl, .slice (some ⟨bf, 0, none⟩) nf d, ?_, ?_⟩
  · have := E2.out.1
    rw [HNF.out] at this
    simpa using this
  · have hs2 := E2.out.2
    rw [HNF.out] at hs2
    refine ⟨hs2.os, hs2.tape, hs2.output, ?_, fun j hj hjg hjp hjf => ?_, .inl rfl, .inl rfl⟩
    · have := hs2.size
      simp [World.setCell] at this ⊢
    · rw [hs2.block j (by simpa [World.setCell] using hj) (fun e => hjp e.symm)]
      exact heap_setCell_other _ _ _ _ (fun e => hjg (by simpa using e))
end Go.Proofs.Yteelmlhknfbjdaa
