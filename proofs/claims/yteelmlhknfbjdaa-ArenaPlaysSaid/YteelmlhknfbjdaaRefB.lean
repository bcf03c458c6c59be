/-
  The reference's arena: Drop, Take.
-/
import Derived.Test.YteelmlhknfbjdaaRefA
import Derived.Test.YteelmlhknfbjdaaArenaA
import Derived.Deep.RegionLaw
namespace Go.Proofs.Yteelmlhknfbjdaa
open Go.RowKit

theorem StF.congr {w : World} {F : Nat → Prop} {g : Nat} {T : TypeId} {rs rs' : List RowD} (h : StF w F g T rs) (e : rs = rs') : StF w F g T rs' := by subst e; exact h

theorem RefA.of3 {w : World} {F : Nat → Prop} {g : Nat} {vx vt vf : Value} {nx nt nf : Nat} {xs ts fs : List Value} {s : List (Option Int)} {fr : List Nat} (h : Ref3 w F g vx nx xs vt nt ts vf nf fs)
    (h1 : nx = s.length) (h2 : xs = s.map xI) (h3 : nt = s.length) (h4 : ts = s.map tB) (h5 : nf = fr.length) (h6 : fs = fr.map iV) : RefA w F g s fr := by
  subst h1 h2 h3 h4 h5 h6
  exact ⟨_, _, _, h⟩

theorem Grow.of_below {F : Nat → Prop} {w w' : World} (h : Below w.heap.size w w') : Grow F w w' F := ⟨Step.of_below h F, fun _ h => .inl h⟩

theorem grown_of_below {w w' : World} (hb : Below w.heap.size w w') (row : Option Nat) : w.grownBy w' row := ⟨hb.os, hb.tape, hb.output, hb.size, fun k hk _ => hb.block k hk⟩

set_option maxHeartbeats 1000000 in
theorem refDrop_any {w : World} {F : Nat → Prop} {g : Nat} {s : List (Option Int)} {fr : List Nat} (h : RefA w F g s fr) (hs : s.length ≤ 1000000) (hf : fr.length ≤ 1000000) (k : Nat) (hk : k < s.length) :
    Calls Try.prog 23 #[.pointer (some ⟨g, 0, none⟩), .int .i64 k] w fun e w' => ∃ F', (∃ v, e = .returned v) ∧ RefA w' F' g (s.set k none) (fr ++ [k]) ∧ Grow F w w' F' := by
  obtain ⟨i0, ii0, iz0, iz1, iz2⟩ := info_parts int_info
  obtain ⟨vx, vt, vf, h⟩ := h
  have h1 := h.c1
  obtain ⟨bt, ct, rfl, hct, _, htc, htz⟩ := row_at h.t hk
  have hz1 := htz k
  have hc1 := htc k _ (by rw [List.getElem?_map, List.getElem?_eq_getElem hk]; rfl)
  have S1 := h.storeT rfl k (.bool false)
  obtain ⟨bx, cx, rfl, hcx, _, hxc, hxz⟩ := row_at S1.1.x hk
  have hz0 := hxz k
  have hc0 := hxc k _ (by rw [List.getElem?_map, List.getElem?_eq_getElem hk]; rfl)
  have h0 := S1.1.c0
  have S2 := S1.1.storeX rfl k (.int .i64 0)
  have h2 := S2.1.c2
  obtain ⟨w2, hw2⟩ : ∃ v, (w.setCell ⟨bt, k, none⟩ (.bool false)).setCell ⟨bx, k, none⟩ (.int .i64 0) = v := ⟨_, rfl⟩
  have HW := Lib.hid hw2
  obtain ⟨A2, c2, rfl, _⟩ := own_shape S2.1.f
  have B3 : Below w2.heap.size w2 (w2.alloc (.cells #[.int .i64 (k : Int)] 3)) := (Below.refl _ _).alloc (Nat.le_refl _) _
  rw [hw2] at S2 h2
  have S3 := S2.1.below B3
  have h3 := S3.c2
  have HG := Lib.hid (S1.2.trans (S2.2.trans (Grow.of_below B3)))
  have hlS : (s.set k none).length = s.length := List.length_set
  have e1 : (s.map tB).set k (.bool false) = (s.set k none).map tB := by rw [List.map_set]; rfl
  have e2 : (s.map xI).set k (.int .i64 0) = (s.set k none).map xI := by rw [List.map_set]; rfl
  rw [e1, e2] at S3
  obtain ⟨ns, hns⟩ : ∃ n, s.length = n := ⟨_, rfl⟩
  rw [hns] at h0 h1 hct hcx hk S3 hlS
  have hkI : (k : Int) < ns := by omega
  have hsI : (ns : Int) ≤ 1000000 := by omega
  obtain ⟨nf, hnf⟩ : ∃ n, fr.length = n := ⟨_, rfl⟩
  rw [hnf] at h2 h3 S3 hf
  have HS := Lib.hid S3
  have HF := Lib.hid (And.intro hf (And.intro hnf hlS))
  clear htc hxc hxz htz S1 S2 S3 B3 hnf h e1 e2 hlS
  go_enter Try.func23, Try.ntmps23
  go_wp2_with (
    at_builtin
    refine wpList_append_sees _ rfl _ _ _ rfl 0 3 i0 _ 1 8 Try.underlying22 ii0 iz0 iz1 iz2 rfl (by omega) _ nf _ rfl
      HS.out.f _ _ 1 1 _ rfl (Sees.one_at _ w2.heap.size (.int .i64 (k : Int)) _ rfl) (by intro u hu; simp at hu; subst hu; rfl) (by simp only [maxLen]; omega) (by omega) (Nat.zero_le _) ?_
    intro v4 w4 hown4 hg4 hat4 hnil4
    have R4 := HS.out.renewF hg4 hown4 (fun k hk => by rcases hat4 with e | e; exact .inl (e ▸ hk); exact .inr (by rw [e] at hk; cases hk; exact Nat.le_refl _))
    obtain ⟨⟨q1, q2⟩, q3, q4⟩ := R4
    obtain ⟨B4, e4, hv4, _⟩ := own_shape hown4
    subst hv4
    have Q3 := Lib.hid q3
    have Q4 := Lib.hid q4
    clear q3 q4 hown4 hg4 hat4 hnil4)
  go_end0
  exact ⟨_, ⟨_, rfl⟩, RefA.of3 Q3.out HF.out.2.2.symm rfl HF.out.2.2.symm rfl (by simp [HF.out.2.1]) (by simp [iV]), HG.out.trans Q4.out⟩

theorem iV_one (l : List Nat) : ∀ u ∈ l.map iV, u.oneCell' = true := by
  intro u hu
  obtain ⟨x, _, rfl⟩ := List.mem_map.1 hu
  rfl

theorem int64_info : (Try.prog.info? 2).map (fun i => (i.zero, i.size, i.bytes)) = some (some (.int .i64 0), 1, 8) := by kernel_rfl
theorem bool_info : (Try.prog.info? 4).map (fun i => (i.zero, i.size, i.bytes)) = some (some (.bool false), 1, 1) := by kernel_rfl

set_option maxHeartbeats 1000000 in
theorem refTake_new {w : World} {F : Nat → Prop} {g : Nat} {s : List (Option Int)} (h : RefA w F g s []) (hs : s.length ≤ 1000000) (x : Int) :
    Calls Try.prog 22 #[.pointer (some ⟨g, 0, none⟩), .int .i64 x] w fun e w' => ∃ F', e = .returned (.int .i64 (s.length : Int)) ∧ RefA w' F' g (s ++ [some x]) [] ∧ Grow F w w' F' := by
  obtain ⟨i0, ii0, iz0, iz1, iz2⟩ := info_parts int64_info
  obtain ⟨j0, ij0, jz0, jz1, jz2⟩ := info_parts bool_info
  obtain ⟨vx, vt, vf, h⟩ := h
  have h0 := h.c0
  have h1 := h.c1
  have h2 := h.c2
  obtain ⟨A0, c0, rfl, _⟩ := own_shape h.x
  obtain ⟨A1, c1, rfl, _⟩ := own_shape h.t
  obtain ⟨A2, c2, hvf, _⟩ := own_shape h.f
  have hvf0 : vf = .slice A2 0 c2 := hvf
  subst hvf0
  clear hvf
  have B1 : Below w.heap.size w (w.alloc (.cells #[.int .i64 x] 2)) := (Below.refl _ _).alloc (Nat.le_refl _) _
  have HS1 := Lib.hid (h.below B1)
  have HG1 := Lib.hid (Grow.of_below (F := F) B1)
  obtain ⟨ns, hns⟩ : ∃ n, s.length = n := ⟨_, rfl⟩
  have HN := Lib.hid hns
  rw [hns] at h0 h1 HS1 hs ⊢
  have hsI : (ns : Int) ≤ 1000000 := by omega
  clear hns h B1
  go_enter Try.func22, Try.ntmps22
  go_wp2_with (first | (
    at_builtin
    refine wpList_append_sees _ rfl _ _ _ rfl 0 2 i0 _ 1 8 Try.underlying48 ii0 iz0 iz1 iz2 rfl (by omega) _ ns _ rfl
      HS1.out.x _ _ 1 1 _ rfl (Sees.one_at _ w.heap.size (.int .i64 x) _ rfl) (by intro u hu; simp at hu; subst hu; rfl) (by simp only [maxLen]; omega) (by omega) (Nat.zero_le _) ?_
    intro v4 w4 hown4 hg4 hat4 hnil4
    obtain ⟨⟨q1, q2⟩, q3, q4⟩ := HS1.out.renewX hg4 hown4 (fun k hk => by rcases hat4 with e | e; exact .inl (e ▸ hk); exact .inr (by rw [e] at hk; cases hk; exact Nat.le_refl _))
    obtain ⟨B4, e4, hv4, _⟩ := own_shape hown4
    subst hv4
    obtain ⟨w5, hw5⟩ : ∃ v, w4.setCell ⟨g, 0, none⟩ (.slice B4 (ns + 1) e4) = v := ⟨_, rfl⟩
    have HW5 := Lib.hid hw5
    rw [hw5] at q3 q4
    have B5 : Below w5.heap.size w5 (w5.alloc (.cells #[.bool true] 4)) := (Below.refl _ _).alloc (Nat.le_refl _) _
    have HS5 := Lib.hid (q3.below B5)
    have HG5 := Lib.hid (HG1.out.trans (q4.trans (Grow.of_below B5)))
    have k0 := q3.c0
    have k1 := q3.c1
    clear q3 q4 hown4 hg4 hat4 hnil4 B5) | (
    at_builtin
    refine wpList_append_sees _ rfl _ _ _ rfl 0 4 j0 _ 1 1 Try.underlying49 ij0 jz0 jz1 jz2 rfl (by omega) _ ns _ rfl
      HS5.out.t _ _ 1 1 _ rfl (Sees.one_at _ w5.heap.size (.bool true) _ rfl) (by intro u hu; simp at hu; subst hu; rfl) (by simp only [maxLen]; omega) (by omega) (Nat.zero_le _) ?_
    intro v6 w6 hown6 hg6 hat6 hnil6
    obtain ⟨⟨r1, r2⟩, r3, r4⟩ := HS5.out.renewT hg6 hown6 (fun k hk => by rcases hat6 with e | e; exact .inl (e ▸ hk); exact .inr (by rw [e] at hk; cases hk; exact Nat.le_refl _))
    obtain ⟨B6, e6, hv6, _⟩ := own_shape hown6
    subst hv6
    have Q3 := Lib.hid r3
    have Q4 := Lib.hid r4
    have m0 := r3.c0
    clear r3 r4 hown6 hg6 hat6 hnil6))
  go_ret
  refine ⟨_, by simp, RefA.of3 Q3.out (by simp [HN.out]) (by simp [xI]) (by simp [HN.out]) (by simp [tB]) rfl rfl, HG5.out.trans Q4.out⟩

set_option maxRecDepth 100000 in
set_option maxHeartbeats 4000000 in
theorem refTake_old {w : World} {F : Nat → Prop} {g : Nat} {s : List (Option Int)} {fr : List Nat} {i : Nat} (h : RefA w F g s (fr ++ [i])) (hs : s.length ≤ 1000000) (hf : fr.length ≤ 1000000) (hi : i < s.length) (x : Int) :
    Calls Try.prog 22 #[.pointer (some ⟨g, 0, none⟩), .int .i64 x] w fun e w' => ∃ F', e = .returned (.int .i64 (i : Int)) ∧ RefA w' F' g (s.set i (some x)) fr ∧ Grow F w w' F' := by
  obtain ⟨i0, ii0, iz0, iz1, iz2⟩ := info_parts int_info
  obtain ⟨vx, vt, vf, h⟩ := h
  have hlf : (fr ++ [i]).length = fr.length + 1 := by simp
  obtain ⟨bf, cf, rfl, hcf, _, hfc, hfz⟩ := row_at h.f (k := fr.length) (by omega)
  obtain ⟨bx, cx, rfl, hcx, _, _, _⟩ := row_at h.x hi
  obtain ⟨bt, ct, rfl, hct, _, _, _⟩ := row_at h.t hi
  have h2 := h.c2
  have hci := hfc fr.length (.int .i64 (i : Int)) (by simp [iV])
  have hsF := Sees.of_own h.f
  rw [hlf] at h2 hcf hsF
  have hSF := hsF.prefix_ (k := fr.length) (by omega)
  rw [show ((fr ++ [i]).map iV).take fr.length = fr.map iV by rw [List.map_append, List.take_left' (by simp)]] at hSF
  have HS := Lib.hid h
  have hgl0 : g < w.heap.size := StAt.lt h.1
  have HL := Lib.hid (And.intro rfl hlf : s.length = s.length ∧ (fr ++ [i]).length = fr.length + 1)
  obtain ⟨nf, hnf⟩ : ∃ n, fr.length = n := ⟨_, rfl⟩
  have HF := Lib.hid hnf
  rw [hnf] at h2 hcf hSF hf hci
  have HSF := Lib.hid hSF
  have hfI : (nf : Int) ≤ 1000000 := by omega
  have g1 : IntKind.i64.wrap (nf : Int) = nf := IntWalk.i64_in _ (by omega)
  have g2 : (nf : Int) ≤ cf := by omega
  clear hfc hfz hsF h hnf hlf hSF
  go_enter Try.func22, Try.ntmps22
  go_wp2_with fail
  go_quiet (fail)
  go_wp2_with fail
  obtain ⟨w1, hw1⟩ : ∃ v, w.drewN nq = v := ⟨_, rfl⟩
  replace h2 : w1.cell? ⟨g, 2, none⟩ = some (.slice (some ⟨bf, 0, none⟩) (nf + 1) cf) := by rw [← hw1]; exact h2
  replace HS := Lib.hid (by rw [← hw1]; exact StF.drewN HS.out nq : Ref3 w1 F g (.slice (some ⟨bx, 0, none⟩) s.length cx) s.length (s.map xI) (.slice (some ⟨bt, 0, none⟩) s.length ct) s.length (s.map tB) (.slice (some ⟨bf, 0, none⟩) (fr ++ [i]).length cf) (fr ++ [i]).length ((fr ++ [i]).map iV))
  replace HSF := Lib.hid (by rw [← hw1]; exact HSF.out : Sees w1 w1.heap.size 1 (some ⟨bf, 0, none⟩) nf (fr.map iV))
  have HG0 := Lib.hid (by rw [← hw1]; exact ⟨(Step.refl F w).drewN nq, fun _ h => .inl h⟩ : Grow F w w1 F)
  have hgl : g < w1.heap.size := by rw [← hw1]; exact hgl0
  rw [hw1]
  clear hw1 hgl0
  go_region_law (
    refine of_if (by rfl) ?_
    refine step_append_sees (.tmp 25) (.tmp 36) 22 rfl w1.heap.size 3 i0 _ 1 8 Try.underlying22 ii0 iz0 iz1 iz2 rfl (by omega) _ 0 [] rfl (own_zero w1 3) w1.heap.size _ nf _ _ rfl (HSF.out.below (below_first w1 _) (Nat.le_refl _)) (iV_one _) (by simp only [maxLen]; omega) (by omega) (below_first w1 _).size ?_
    intro v2 w2 hown2 hg2 hat2
    rw [Nat.zero_add, List.nil_append] at hown2
    have hb2 : Below w1.heap.size w1 w2 := below_app (below_first w1 _) (own_zero w1 3) hg2
    obtain ⟨A2, c2, rfl, _⟩ := own_shape hown2
    obtain ⟨⟨q1, q2⟩, q3, q4⟩ := HS.out.renewF (grown_of_below hb2 _) (own_lower hown2 (Nat.zero_le _)) (fun k hk => .inr (own_base hown2 hk))
    have Q3 := Lib.hid q3
    have Q4 := Lib.hid q4
    clear q3 q4 hg2 hat2)
  all_goals
    have h0 := Q3.out.c0
    have h1 := Q3.out.c1
    obtain ⟨w3, hw3⟩ : ∃ v, w2.setCell ⟨g, 2, none⟩ (.slice A2 nf c2) = v := ⟨_, rfl⟩
    have HQ := Lib.hid (And.intro Q3.out Q4.out)
    rw [hw3] at HQ h0 h1 ⊢
    obtain ⟨_, _, hv, _, _, hxc, hxz⟩ := row_at HQ.out.1.x hi
    obtain ⟨rfl, rfl⟩ : bx = _ ∧ cx = _ := by injection hv with e1 e2 e3; injection e1 with e1; injection e1 with e1; exact ⟨e1, e3⟩
    have hz0 := hxz i
    have hc0 := hxc i _ (by rw [List.getElem?_map, List.getElem?_eq_getElem hi]; rfl)
    have S4 := HQ.out.1.storeX rfl i (.int .i64 x)
    obtain ⟨_, _, hv, _, _, htc, htz⟩ := row_at S4.1.t hi
    obtain ⟨rfl, rfl⟩ : bt = _ ∧ ct = _ := by injection hv with e1 e2 e3; injection e1 with e1; injection e1 with e1; exact ⟨e1, e3⟩
    have hz1 := htz i
    have hc1 := htc i _ (by rw [List.getElem?_map, List.getElem?_eq_getElem hi]; rfl)
    have h1' := S4.1.c1
    have S5 := S4.1.storeT rfl i (.bool true)
    have HS5 := Lib.hid (And.intro S5.1 (HG0.out.trans (HQ.out.2.trans (S4.2.trans S5.2))))
    clear S4 S5 hxc hxz htc htz
    obtain ⟨ns, hns⟩ : ∃ n, s.length = n := ⟨_, rfl⟩
    rw [hns] at h0 h1 h1' hcx hct hi hs
    have hiI : (i : Int) < ns := by omega
    have hsI : (ns : Int) ≤ 1000000 := by omega
    clear hns Q3 Q4 q1 q2 hw3
    go_wp2_with fail
    go_ret
    exact ⟨_, rfl, RefA.of3 HS5.out.1 (by simp) (by rw [List.map_set]; rfl) (by simp) (by rw [List.map_set]; rfl) HF.out.symm rfl, HS5.out.2⟩

end Go.Proofs.Yteelmlhknfbjdaa
