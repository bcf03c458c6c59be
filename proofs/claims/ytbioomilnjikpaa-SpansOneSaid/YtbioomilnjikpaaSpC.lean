/-
  The arena of a tree's nodes: Free.
-/
import Derived.Test.YtbioomilnjikpaaSpB
namespace Go.Proofs.Ytbioomilnjikpaa
open Go.RowKit

theorem int_info : (Try.prog.info? 3).map (fun i => (i.zero, i.size, i.bytes)) = some (some (.int .i64 0), 1, 8) := by kernel_rfl

theorem set_none {s : List (Option Nd)} {k : Nat} (hk : k < s.length) : setMany (s.flatMap plC) (k * (2 + 6)) (plC none) = (s.set k none).flatMap plC :=
  setMany_flat plC (2 + 6) plC_len s k none hk (plC none) (by rw [plC_len]; exact Nat.le_refl _) (fun _ _ => rfl) (fun j h1 h2 => by rw [plC_len] at h1; omega)
theorem set_some {s : List (Option Nd)} {k : Nat} (n : Nd) (hk : k < s.length) : setMany (s.flatMap plC) (k * (2 + 6)) (plC (some n)) = (s.set k (some n)).flatMap plC :=
  setMany_flat plC (2 + 6) plC_len s k (some n) hk (plC (some n)) (by rw [plC_len]; exact Nat.le_refl _) (fun _ _ => rfl) (fun j h1 h2 => by rw [plC_len] at h1; omega)
theorem pl_info (o : Option Nd) : (Try.prog.info? 99).map (·.size) = some (plC o).length := by rw [plC_len]; exact place_info

theorem Sees.one_at (w : World) (b : Nat) (u : Value) (e : TypeId) (hb : w.heap.size = b) : Sees (w.alloc (.cells #[u] e)) (b + 1) 1 (some ⟨b, 0, none⟩) 1 [u] := by
  subst hb
  exact Sees.one w u e

set_option maxRecDepth 100000 in
set_option maxHeartbeats 1000000 in
theorem freeN_yes {w : World} {F : Nat → Prop} {g : Nat} {s : List (Option Nd)} {fr : List Nat} (h : ArN w F g s fr) (hs : s.length ≤ 1000000) (hf : fr.length ≤ 1000000) {k : Nat} {n0 : Nd} (hk : s[k]? = some (some n0)) :
    Calls Try.prog 57 #[.pointer (some ⟨g, 0, none⟩), .int .i64 k] w fun e w' => ∃ F', e = .returned (.int .i64 0) ∧ ArN w' F' g (s.set k none) (fr ++ [k]) ∧ Grow F w w' F' := by
  obtain ⟨i0, ii0, iz0, iz1, iz2⟩ := info_parts int_info
  have HA := Lib.hid (askedN_yes h hs hk)
  obtain ⟨vp, vf, h⟩ := h
  obtain ⟨hkl, hke⟩ := List.getElem?_eq_some_iff.1 hk
  obtain ⟨b, c, rfl, hc, _, hbl, _, ht⟩ := row_range plC plC_len h.p rfl hkl
  have h01 := h.c0
  have hst := h.storesP rfl (k * (2 + 6)) (plC none)
  rw [set_none hkl] at hst
  have HT := Lib.hid (show w.there b (k * (2 + 6)) (plC none).toArray.size from fun j hj => ht j (by simp [plC_len] at hj; omega))
  obtain ⟨A2, c2, rfl, _⟩ := own_shape h.f
  obtain ⟨w2, hw2⟩ : ∃ v, w.setCells b (k * (2 + 6)) (plC none) = v := ⟨_, rfl⟩
  rw [hw2] at hst
  have h21 := hst.1.c1
  have B3 : Below w2.heap.size w2 (w2.alloc (.cells #[.int .i64 (k : Int)] 3)) := (Below.refl _ _).alloc (Nat.le_refl _) _
  have HS := Lib.hid (hst.1.below B3)
  have h31 := HS.out.c1
  have HG := Lib.hid (hst.2.trans (Grow.of_below B3))
  obtain ⟨ns, hns⟩ : ∃ n, s.length = n := ⟨_, rfl⟩
  obtain ⟨nf, hnf⟩ : ∃ n, fr.length = n := ⟨_, rfl⟩
  have HN := Lib.hid (And.intro hns hnf)
  rw [hns] at h01 hc hkl HS
  rw [hnf] at h21 h31 HS hf
  have hkI : (k : Int) < ns := by omega
  have hsI : (ns : Int) ≤ 1000000 := by omega
  have HW := Lib.hid hw2
  clear ht hst h hns hnf hke hw2 B3
  go_enter Try.func57, Try.ntmps57
  go_wp2_with (first
    | (go_at_call 61; refine HA.out.mono ?_; rintro e w' ⟨rfl, rfl⟩)
    | (refine wpList_store_mid rfl 99 (.tmp 18) (.tmp 17) rfl b (k * (2 + 6)) (plC none).toArray rfl (by with_unfolding_all rfl) HT.out (pl_info none) (all_oneCell_toArray (plC_one none)) ?_; rw [List.toList_toArray, HW.out])
    | (at_builtin
       refine wpList_append_sees _ rfl _ _ _ rfl 0 3 i0 _ 1 8 Try.underlying95 ii0 iz0 iz1 iz2 rfl (by omega) _ nf _ rfl
         HS.out.f _ _ 1 1 _ rfl (Sees.one_at _ w2.heap.size (.int .i64 (k : Int)) _ rfl) (by intro u hu; simp at hu; subst hu; rfl) (by simp only [maxLen]; omega) (by omega) (Nat.zero_le _) ?_
       intro v4 w4 hown4 hg4 hat4 hnil4
       obtain ⟨⟨q1, q2⟩, q3, q4⟩ := HS.out.renewF hg4 hown4 (fun k hk => by rcases hat4 with e | e; exact .inl (e ▸ hk); exact .inr (by rw [e] at hk; cases hk; exact Nat.le_refl _))
       obtain ⟨B4, e4, hv4, _⟩ := own_shape hown4
       subst hv4
       have Q3 := Lib.hid q3
       have Q4 := Lib.hid q4
       clear q3 q4 hown4 hg4 hat4 hnil4))
  go_ret
  exact ⟨_, rfl, ArN.of2 Q3.out (by rw [List.length_set, HN.out.1]) rfl (by simp [HN.out.2]) (by simp [iV]), HG.out.trans Q4.out⟩

end Go.Proofs.Ytbioomilnjikpaa
