/-
  The walk of (*arena.Arena[int64]).Free where the place is taken.
-/
import Derived.Test.YteelmlhknfbjdaaArenaI
namespace Go.Proofs.Yteelmlhknfbjdaa
open Go.RowKit

theorem Sees.one_at (w : World) (b : Nat) (u : Value) (e : TypeId) (hb : w.heap.size = b) : Sees (w.alloc (.cells #[u] e)) (b + 1) 1 (some ⟨b, 0, none⟩) 1 [u] := by
  subst hb
  exact Sees.one w u e

set_option maxHeartbeats 1000000 in
theorem freeI_yes (base g : Nat) (vp vf : Value) (s : List (Option Int)) (fr : List Nat) (k : Nat) (y : Int) (w : World) (h : AtI w base g vp vf s fr) (hk : k < s.length) (hs : s.length ≤ 1000000) (hf : fr.length ≤ 1000000) (hx : s[k] = some y) :
    Calls Try.prog 10 #[.pointer (some ⟨g, 0, none⟩), .int .i64 k] w fun e w' => ∃ vf', e = .returned (.int .i64 0) ∧ AtI w' base g vp vf' (s.set k none) (fr ++ [k]) ∧ ArenaStep w w' g vp vf vp vf' := by
  obtain ⟨i0, ii0, iz0, iz1, iz2⟩ := info_parts int_info
  have H := Lib.hid (askedI_in base g vp vf s fr k w h hk hs true (by rw [hx]; rfl))
  have h0 := h.cell0
  have h1 := h.cell1
  obtain ⟨b, c, rfl, hc, _, hcell, hfz⟩ := place_at h hk
  have c0 := hcell 0 (.int .i64 y) (by omega) (by rw [hx]; rfl)
  have c1 := hcell 1 (.bool true) (by omega) (by rw [hx]; rfl)
  have z0 := hfz (k * 2)
  have z1 := hfz (k * 2 + 1)
  rw [Nat.add_zero] at c0
  obtain ⟨ns, hns⟩ : ∃ n, s.length = n := ⟨_, rfl⟩
  have hkI : (k : Int) < ns := by omega
  have hsI : (ns : Int) ≤ 1000000 := by omega
  rw [hns] at h0 hc
  have HS := Lib.hid hns
  have HA2 := Lib.hid (h.set2 (by decide) (by decide) hk none (.int .i64 0) (.bool false) rfl)
  have hf1 := HA2.out.1.cell1
  have hlow : base ≤ (((w.setCell ⟨b, k * 2, none⟩ (.int .i64 0)).setCell ⟨b, k * 2 + 1, none⟩ (.bool false)).alloc (.cells #[.int .i64 (k : Int)] 3)).heap.size := by
    have h1 := h.low
    have h2 := h.lt
    simp
    omega
  clear hcell hns hs
  go_enter Try.func10, Try.ntmps10
  go_wp2_with (first
    | (go_at_call 28; refine H.out.mono ?_; rintro e w' ⟨rfl, rfl⟩; rw [if_pos rfl])
    | (at_builtin
       refine wpList_append_sees _ rfl _ _ _ rfl base 3 i0 _ 1 8 Try.underlying22 ii0 iz0 iz1 iz2 rfl (by omega) vf fr.length _ rfl
         (HA2.out.1.free.alloc _) _ _ 1 1 _ rfl (Sees.one_at _ w.heap.size _ _ (by simp)) (by intro u hu; simp at hu; subst hu; rfl) (by simp only [maxLen]; omega) (by omega) hlow ?_
       intro vf' w1 hown1 hg1 hat1 hnil1
       have hgr := grown_of_alloc hg1
       obtain ⟨d0, d1, d2, d3⟩ := HA2.out.1.newFree (vf' := vf') (fr' := fr ++ [k]) (by decide) (by decide) (by decide) hgr (by simpa using hown1)
       have D2 := Lib.hid d2
       have D3 := Lib.hid d3
       obtain ⟨B1, e1, hv1, _⟩ := own_shape hown1
       subst hv1
       clear d2 d3 hown1 hg1 hnil1))
  go_ret
  refine ⟨_, rfl, D2.out, ?_⟩
  have hs2 := HA2.out.2
  refine ⟨hgr.os.trans hs2.os, hgr.tape.trans hs2.tape, hgr.output.trans hs2.output, ?_, fun j hj hjg hjp hjf => ?_, .inl rfl, ?_⟩
  · rw [← D3.out]
    exact Nat.le_trans hs2.size hgr.size
  · rw [heap_setCell_other _ _ _ _ (fun e => hjg (by simpa using e))]
    rw [hgr.block j (Nat.lt_of_lt_of_le hj hs2.size) (fun e => hjf e.symm), hs2.block j hj (fun e => hjp e.symm)]
  · rcases hat1 with e | e
    · exact .inl e
    · exact .inr ⟨_, e, by simp⟩
end Go.Proofs.Yteelmlhknfbjdaa
