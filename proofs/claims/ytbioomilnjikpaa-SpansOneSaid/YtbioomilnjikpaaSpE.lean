/-
  The arena of a tree's nodes: Take where no place is free; Len; New.
-/
import Derived.Test.YtbioomilnjikpaaSpD
namespace Go.Proofs.Ytbioomilnjikpaa
open Go.RowKit

theorem place_info4 : (Try.prog.info? 99).map (fun i => (i.zero, i.size, i.bytes)) = some (some (.agg (plC none).toArray), 2 + 6, 64) := by kernel_rfl

theorem Sees.pl_at (w : World) (b : Nat) (o : Option Nd) (e : TypeId) (hb : w.heap.size = b) : Sees (w.alloc (.cells (plC o).toArray e)) (b + 1) (2 + 6) (some ⟨b, 0, none⟩) 1 (plC o) := by
  subst hb
  refine ⟨by rw [plC_len, Nat.one_mul], fun _ => ⟨w.heap.size, 0, rfl, by omega, fun j z hz => ?_⟩⟩
  have hc := cell_of_row (w.alloc (.cells (plC o).toArray e)) w.heap.size j (plC o).toArray e (0, 0) (heap_alloc_new w _)
  rw [Nat.zero_add, hc]
  simpa using hz

set_option maxRecDepth 100000 in
set_option maxHeartbeats 4000000 in
theorem takeN_new {w : World} {F : Nat → Prop} {g : Nat} {s : List (Option Nd)} (h : ArN w F g s []) (hs : s.length ≤ 100000) (n : Nd) :
    Calls Try.prog 47 #[.pointer (some ⟨g, 0, none⟩), n.V] w fun e w' => ∃ F', e = .returned (.int .i64 (s.length : Int)) ∧ ArN w' F' g (s ++ [some n]) [] ∧ Grow F w w' F' := by
  obtain ⟨i0, ii0, iz0, iz1, iz2⟩ := info_parts place_info4
  obtain ⟨x, hx, h1, l, r, hh, sz, mk⟩ := n
  obtain ⟨a0, a1, rfl⟩ : ∃ a0 a1, x = [a0, a1] := by
    match x, hx with
    | [a0, a1], _ => exact ⟨_, _, rfl⟩
  show Calls _ _ #[.pointer (some ⟨g, 0, none⟩), .agg #[a0, a1, .int .i64 l, .int .i64 r, .int .i64 hh, .int .i64 sz, .int .i64 mk]] w _
  obtain ⟨w1, hw1⟩ : ∃ v, w.alloc (.cells #[a0, a1, .int .i64 l, .int .i64 r, .int .i64 hh, .int .i64 sz, .int .i64 mk] 80) = v := ⟨_, rfl⟩
  have hb1 : Below w.heap.size w w1 := by rw [← hw1]; exact (Below.refl _ _).alloc (Nat.le_refl _) _
  obtain ⟨bx, hbx⟩ : ∃ v, w.heap.size = v := ⟨_, rfl⟩
  have hx1 : w1.heap[bx]? = some (.cells #[a0, a1, .int .i64 l, .int .i64 r, .int .i64 hh, .int .i64 sz, .int .i64 mk] 80) := by rw [← hw1, ← hbx]; exact heap_alloc_new w _
  have hlt := h.lt
  obtain ⟨vp, vf, h⟩ := h
  have h1' := h.below hb1
  have h01 := h1'.c0
  have h11 := h1'.c1
  obtain ⟨A0, c0, rfl, _⟩ := own_shape h1'.p
  obtain ⟨A1, c1, hvf, _⟩ := own_shape h1'.f
  have hvf0 : vf = .slice A1 0 c1 := hvf
  subst hvf0
  clear hvf
  have hcl0 : w1.cell? ⟨bx, 0, none⟩ = some (a0) := by rw [cell_of_row w1 bx 0 _ _ _ hx1]; rfl
  have hcl1 : w1.cell? ⟨bx, 1, none⟩ = some (a1) := by rw [cell_of_row w1 bx 1 _ _ _ hx1]; rfl
  have hcl2 : w1.cell? ⟨bx, 2, none⟩ = some (.int .i64 l) := by rw [cell_of_row w1 bx 2 _ _ _ hx1]; rfl
  have hcl3 : w1.cell? ⟨bx, 3, none⟩ = some (.int .i64 r) := by rw [cell_of_row w1 bx 3 _ _ _ hx1]; rfl
  have hcl4 : w1.cell? ⟨bx, 4, none⟩ = some (.int .i64 hh) := by rw [cell_of_row w1 bx 4 _ _ _ hx1]; rfl
  have hcl5 : w1.cell? ⟨bx, 5, none⟩ = some (.int .i64 sz) := by rw [cell_of_row w1 bx 5 _ _ _ hx1]; rfl
  have hcl6 : w1.cell? ⟨bx, 6, none⟩ = some (.int .i64 mk) := by rw [cell_of_row w1 bx 6 _ _ _ hx1]; rfl
  have B2 : Below w1.heap.size w1 (w1.drew.alloc (.cells #[a0, a1, .int .i64 l, .int .i64 r, .int .i64 hh, .int .i64 sz, .int .i64 mk, .bool true] 99)) := (Below.refl _ _).drew.alloc (Nat.le_refl _) _
  have HS := Lib.hid (h1'.below B2)
  have HB := Lib.hid (hb1.trans (B2.mono hb1.size))
  have HE := Lib.hid (Sees.pl_at w1.drew w1.heap.size (some ⟨[a0, a1], hx, h1, l, r, hh, sz, mk⟩) 99 rfl)
  have HO := Lib.hid (plC_one (some ⟨[a0, a1], hx, h1, l, r, hh, sz, mk⟩))
  obtain ⟨ns, hns⟩ : ∃ n, s.length = n := ⟨_, rfl⟩
  have HN := Lib.hid hns
  rw [hns] at h01 hs HS ⊢
  have hsI : (ns : Int) ≤ 100000 := by omega
  have hby : (ns + 1) * i0.bytes ≤ 140737488355328 := by
    have := Nat.mul_le_mul (show ns + 1 ≤ 100001 by omega) (Nat.le_of_eq iz2)
    omega
  have h01a : ∀ o, (w1.alloc o).cell? ⟨g, 0, none⟩ = some (.slice A0 ns c0) := fun o => (((Below.refl w1.heap.size w1).alloc (Nat.le_refl _) o).cell (p := ⟨g, 0, none⟩) (World.block_lt_of_cell? w1 _ h01)).trans h01
  clear h h1' hlt hx1 hns hb1 B2
  go_enter Try.func47, Try.ntmps47
  go_wp2_with fail
  go_region_law (
    refine of_if (by rfl) ?_
    refine step_append_sees (.tmp 46) (.tmp 49) 94 rfl 0 99 i0 _ (2 + 6) i0.bytes Try.underlying94 ii0 iz0 iz1 rfl (by simp [Value.cells, plC_len]) (by omega) _ ns _ rfl HS.out.p _ _ 1 1 (plC (some ⟨[a0, a1], hx, h1, l, r, hh, sz, mk⟩)) rfl HE.out HO.out (by simp only [maxLen]; omega) hby (Nat.zero_le _) ?_
    intro v4 w4 hown4 hg4 hat4
    obtain ⟨⟨q1, q2⟩, q3, q4⟩ := HS.out.renewP hg4 hown4 (fun k hk => by rcases hat4 with e | e; exact .inl (e ▸ hk); exact .inr (by rw [e] at hk; cases hk; exact Nat.le_refl _))
    obtain ⟨B4, e4, hv4, _⟩ := own_shape hown4
    subst hv4
    have Q3 := Lib.hid q3
    have Q4 := Lib.hid q4
    have m0 := q3.c0
    clear q3 q4 hown4 hg4 hat4)
  all_goals
    go_wp2_with fail
    go_ret
    refine ⟨_, by simp, ArN.of2 Q3.out (by simp [HN.out]) (by rw [List.flatMap_append]; rfl) rfl rfl, (Grow.of_below HB.out).trans Q4.out⟩

theorem takeN_F {w : World} {F : Nat → Prop} {g : Nat} {s : List (Option Nd)} {fr : List Nat} (h : ArN w F g s fr) (hok : ArOk s fr) (hs : s.length ≤ 100000) (n : Nd) :
    Calls Try.prog 47 #[.pointer (some ⟨g, 0, none⟩), n.V] w fun e w' => ∃ F', e = .returned (.int .i64 (nextOf s fr : Int)) ∧ ArN w' F' g (takeS s fr n) fr.dropLast ∧ Grow F w w' F' := by
  have hlen := hok.len
  rcases List.eq_nil_or_concat fr with rfl | ⟨fr, i, rfl⟩
  · refine (takeN_new h hs n).mono ?_
    rintro e w' ⟨F', rfl, ha, hg⟩
    exact ⟨F', by simp [nextOf], by simpa [takeS] using ha, hg⟩
  · rw [List.concat_eq_append] at h hok hlen ⊢
    have hi : s[i]? = some none := (hok.iff i).1 (by simp)
    have hil := (List.getElem?_eq_some_iff.1 hi).1
    refine (takeN_old h (by omega) (by simp at hlen; omega) hil n).mono ?_
    rintro e w' ⟨rfl, ha, hg⟩
    refine ⟨F, by simp [nextOf], ?_, hg⟩
    rw [show (fr ++ [i]).dropLast = fr by simp, show takeS s (fr ++ [i]) n = s.set i (some n) by simp [takeS, nextOf]]
    exact ha

set_option maxHeartbeats 400000 in
theorem lenN_F {w : World} {F : Nat → Prop} {g : Nat} {s : List (Option Nd)} {fr : List Nat} (h : ArN w F g s fr) (hok : ArOk s fr) (hs : s.length ≤ 1000000) :
    Calls Try.prog 54 #[.pointer (some ⟨g, 0, none⟩)] w fun e w' => e = .returned (.int .i64 ((s.length : Int) - fr.length)) ∧ ∃ n, w' = w.drewN n := by
  have hf := hok.len
  obtain ⟨vp, vf, h⟩ := h
  have h0 := h.c0
  have h1 := h.c1
  obtain ⟨A, c, rfl, _⟩ := own_shape h.p
  obtain ⟨B, d, rfl, _⟩ := own_shape h.f
  obtain ⟨ns, hns⟩ : ∃ n, s.length = n := ⟨_, rfl⟩
  obtain ⟨nf, hnf⟩ : ∃ n, fr.length = n := ⟨_, rfl⟩
  rw [hns] at h0 hs hf ⊢
  rw [hnf] at h1 hf ⊢
  have hsI : (ns : Int) ≤ 1000000 := by omega
  have hfI : (nf : Int) ≤ ns := by omega
  clear hns hnf h
  go_enter Try.func54, Try.ntmps54
  go_wp2_with fail
  go_quiet (fail)
  go_wp2_with fail
  go_ret
  exact ⟨rfl, _, rfl⟩

set_option maxHeartbeats 400000 in
theorem newN_any (w : World) :
    Calls Try.prog 55 #[] w fun e w' => e = .returned (.pointer (some ⟨w.heap.size, 0, none⟩)) ∧ w' = w.alloc (.cells #[.slice none 0 0, .slice none 0 0] 97) := by
  go_enter Try.func55, Try.ntmps55
  go_wp2
  go_ret
  exact ⟨rfl, rfl⟩

theorem ar_zero {w : World} {g : Nat} (h : w.heap[g]? = some (.cells #[.slice none 0 0, .slice none 0 0] 97)) : ArN w (fun k => k = g) g [] [] := by
  refine ⟨.slice none 0 0, .slice none 0 0, ⟨h, fun j r hj => ?_, fun i j r r' hne hi hj => ?_, fun j r hj => ?_⟩, rfl, fun j r hj k hk => ?_, fun k hk => ?_⟩
  · match j, hj with
    | 0, hj => cases hj; exact World.ownsRow_nil _ _ _ _
    | 1, hj => cases hj; exact World.ownsRow_nil _ _ _ _
    | j + 2, hj => simp at hj
  · match i, j, hi, hj with
    | 0, 0, _, _ => exact absurd rfl hne
    | 1, 1, _, _ => exact absurd rfl hne
    | 0, 1, hi, hj => cases hi; cases hj; decide
    | 1, 0, hi, hj => cases hi; cases hj; decide
    | i + 2, _, hi, _ => simp at hi
    | _, j + 2, _, hj => simp at hj
  · match j, hj with
    | 0, hj => cases hj; decide
    | 1, hj => cases hj; decide
    | j + 2, hj => simp at hj
  · match j, hj with
    | 0, hj => cases hj; cases hk
    | 1, hj => cases hj; cases hk
    | j + 2, hj => simp at hj
  · have hk : k = g := hk
    subst hk
    exact (Array.getElem?_eq_some_iff.1 h).1

end Go.Proofs.Ytbioomilnjikpaa
