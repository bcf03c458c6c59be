/-
  slices.Collect of the parts of a tree.
-/
import Derived.Test.YtbioomilnjikpaaSpY8
namespace Go.Proofs.Ytbioomilnjikpaa
open Go.RowKit
attribute [local go_sem] Oper.semAt_some

/-- While they are appended: the box, the row. -/
def CollI (w : World) (bs : Nat) (xs : List Th) (W : World) : Prop := ∃ v, W.heap[bs]? = some (.cells #[v] 26) ∧ OwnT W w.heap.size v xs ∧ Below w.heap.size w W

theorem CollI.own {w : World} {bs B : Nat} (hw : w.heap.size ≤ B) (hb : bs < B) : OwnFrom B (CollI w bs) := by
  rintro xs W W' row ⟨v, h1, h2, h3⟩ hg hr
  refine ⟨v, (hg.block bs (Array.getElem?_eq_some_iff.1 h1).1 (fun e => by have := (hr bs e.symm).1; omega)).trans h1, ?_, h3.grown hg h3.size (fun k e => by have := (hr k e).1; omega)⟩
  refine own_step h2 (grown_step hg) (fun k hk e => ?_)
  obtain ⟨cs, hc⟩ := own_blk h2 hk
  obtain ⟨_, o, ho, hn⟩ := hr k e
  rw [hc] at ho
  cases ho
  cases hn

theorem TreeX.below {w w' : World} {G : Nat → Prop} {gT N : Nat} {X : List Th} (h : TreeX w G gT X N) (hb : Below w.heap.size w w') : TreeX w' G gT X N := by
  obtain ⟨F, gA, T, s, fr, hG, hS, hX, hN⟩ := h
  exact ⟨F, gA, T, s, fr, hG, ⟨hS.tw.below hb, hS.holds, hS.ok, hS.live⟩, hX, hN⟩
theorem TreeX.lt {w : World} {G : Nat → Prop} {gT N : Nat} {X : List Th} (h : TreeX w G gT X N) : ∀ k, G k → k < w.heap.size := by
  obtain ⟨F, gA, T, s, fr, hG, hS, hX, hN⟩ := h
  intro k hk
  rcases (hG k).1 hk with e | e
  · exact hS.tw.ar.lt k e
  · rw [e]; exact hS.tw.lt
theorem TreeX.okX {w : World} {G : Nat → Prop} {gT N : Nat} {X : List Th} (h : TreeX w G gT X N) : (∀ x ∈ X, okT x) ∧ X.length ≤ 100000 ∧ sumT X ≤ 100000000000 := by
  obtain ⟨F, gA, T, s, fr, hG, hS, rfl, hN⟩ := h
  exact ⟨OkL.things hS.ok, by rw [Tr.things_len]; exact hS.ok.len, by have := hS.ok.sum; rw [sumT_of] at this; exact this⟩

set_option maxRecDepth 100000 in
set_option maxHeartbeats 4000000 in
theorem appendSeq_any {w : World} {G : Nat → Prop} {gT N : Nat} {X : List Th} (h : TreeX w G gT X N) {i j : Int} {b : Nat} (hb : OverAt w gT i j b) (h0 : 0 ≤ i) (h1 : i ≤ 1000000000000) (h2 : -1000000000000 ≤ j) (h3 : j ≤ 1000000000000) :
    Calls Try.prog 49 #[.slice none 0 0, overF b] w fun e w' => ∃ v, e = .returned v ∧ OwnT w' w.heap.size v (overT X i j) ∧ Below w.heap.size w w' := by
  obtain ⟨i0, ii0, iz0, iz1, iz2⟩ := info_parts thing_info4
  have hok := h.okX
  have hlen : (overT X i j).length ≤ 100000 := Nat.le_trans (overT_ok X i j hok.1).2 hok.2.1
  have hlt := h.lt
  obtain ⟨w1, hw1⟩ : ∃ v, w.alloc (.cells #[.slice none 0 0] 26) = v := ⟨_, rfl⟩
  obtain ⟨bs, hbs⟩ : ∃ v, w.heap.size = v := ⟨_, rfl⟩
  have hB1 : Below w.heap.size w w1 := by rw [← hw1]; exact (Below.refl _ _).alloc (Nat.le_refl _) _
  have hq1 : w1.heap[bs]? = some (.cells #[.slice none 0 0] 26) := by rw [← hw1, ← hbs]; exact heap_alloc_new w _
  have hbl : bs < w1.heap.size := (Array.getElem?_eq_some_iff.1 hq1).1
  have HSQ := Lib.hid (over_stops 8 (h.below hB1) (hb.below hB1) h0 h1 h2 h3 (fun k o => k = bs ∨ (w.heap.size ≤ k ∧ ∃ cs fr, o = .cells cs 34 fr))
    (fun k hk o e => by have h4 := hlt k hk; rcases e with e | e; omega; omega)
    (fun b' hb' cs fr e => by
      rcases e with e | ⟨_, cs', fr', e⟩
      · omega
      · injection e with _ e2; exact absurd e2 (by decide)))
  obtain ⟨P, hP⟩ : ∃ x, overT X i j = x := ⟨_, rfl⟩
  rw [hP] at HSQ hlen ⊢
  have HI1 := Lib.hid (show CollI w bs [] w1 from ⟨_, hq1, ⟨rfl, .inl ⟨rfl, rfl⟩⟩, hB1⟩)
  have HB := Lib.hid (And.intro hbs (And.intro hbl (And.intro hB1.size hw1)))
  clear h hb hok hlt hq1 hB1 hP
  unfold overF
  refine (callsIn_wide (n := 9)).1 ?_
  refine callsIn_of_wp_marks Try.func49 rfl trivial ?_ rfl
  refine (wpIn_wide (n := 9)).2 ?_
  simp only [Try.ntmps49, List.size_toArray, List.length_cons, List.length_nil, Nat.reduceAdd, Nat.reduceSub, Array.replicate_succ, Array.replicate_zero, List.push_toArray, List.append_toArray, List.nil_append, List.cons_append]
  go_wp2_with fail
  clear hw1 hbs hbl
  refine (wpIn_wide (n := 9)).1 ?_
  obtain ⟨fF, hfF⟩ : ∃ x : Value, .func (.func 50) #[] #[.pointer (some ⟨b, 0, none⟩), .pointer (some ⟨b + 1, 0, none⟩), .pointer (some ⟨b + 1 + 1, 0, none⟩)] = x := ⟨_, rfl⟩
  rw [hfF]
  refine wpIn_rangeFunc_ownH rfl (by omega) (gf := 50) (lb := #[.pointer (some ⟨b, 0, none⟩), .pointer (some ⟨b + 1, 0, none⟩), .pointer (some ⟨b + 1 + 1, 0, none⟩)]) hfF.symm trivial (enters_of Try.func50 (by kernel_rfl) rfl)
    HSQ.out KeepsO.trans KeepsO.put (Below.refl _ _) (fun _ => rfl) (CollI w bs) (fun _ _ _ => False) (CollI.own HB.out.2.2.1 HB.out.2.1) (fun _ _ _ _ _ h _ _ => h.elim) HI1.out
    (fun x a' W => ∃ bx, a' = { tmps := #[.slice none 0 0, fF, .pointer (some ⟨bs, 0, none⟩), undef, .slice none 0 0, .pointer (some ⟨bx, 0, none⟩), fF, thV x, undef, undef, undef, undef, undef], defers := [] } ∧ W.heap[bx]? = some (.cells (encT x).toArray 34) ∧ w1.heap.size ≤ bx)
    ?ax ?assign ?body ?done ?stop
  case ax =>
    rintro x a' _ W W' row ⟨bx, h1, h2, h3⟩ hg hr
    refine ⟨bx, h1, (hg.block bx (Array.getElem?_eq_some_iff.1 h2).1 (fun e => ?_)).trans h2, h3⟩
    obtain ⟨_, o, ho, hn⟩ := hr bx e.symm
    rw [h2] at ho
    cases ho
    cases hn
  case assign =>
    intro l pre x W K hI hK
    rw [thV_cells]
    obtain ⟨v, hq, ho, hbW⟩ := hI
    obtain ⟨bx, hbx⟩ : ∃ v, W.heap.size = v := ⟨_, rfl⟩
    obtain ⟨w2, hw2⟩ : ∃ v, W.alloc (.cells (encT x).toArray 34) = v := ⟨_, rfl⟩
    have B2 : Below W.heap.size W w2 := by rw [← hw2]; exact (Below.refl _ _).alloc (Nat.le_refl _) _
    have HR := Lib.hid (show KeepsFrom w1.heap.size W w2 ∧ KeepsO (fun k o => k = bs ∨ (w.heap.size ≤ k ∧ ∃ cs fr, o = .cells cs 34 fr)) W w2 ∧ CollI w bs pre w2 ∧ w2.heap[bx]? = some (.cells (encT x).toArray 34) from
      ⟨KeepsFrom.of_step (Step.of_below B2 (fun _ => False)) (fun _ _ _ h => h.elim), KeepsO.of_below B2, ⟨v, heap_later hq B2, OwnT.later ho B2, hbW.trans (B2.mono hbW.size)⟩, by rw [← hw2, ← hbx]; exact heap_alloc_new W _⟩)
    have HE := Lib.hid (And.intro hw2 hbx)
    have hbl : w1.heap.size ≤ bx := by
      have e1 := congrArg (fun z : World => z.heap.size) HB.out.2.2.2
      have e2 := (Array.getElem?_eq_some_iff.1 hq).1
      have e3 := HB.out.1
      simp only [World.size_alloc] at e1
      omega
    clear hq ho hbW hbx hw2 B2
    gi_wp2_with (refine wpListIn_skipped rfl rfl (by intro c e; cases e) (exec_store_row 34 (.tmp 5) (.tmp 7) rfl W.heap.size (encT x).toArray rfl rfl 34 _ (heap_alloc_new W _) (by rw [List.size_toArray]; exact thing_info _) (by rfl) (all_oneCell_toArray (encT_one _))) ?_; rw [alloc_setRow, HE.out.1, HE.out.2])
    refine hK _ _ HR.out.1 HR.out.2.1 HR.out.2.2.1 ⟨bx, ?_, HR.out.2.2.2, hbl⟩
    rw [thV_cells]
    rfl
  case stop => exact fun _ _ _ _ _ _ h => h.elim
  case done =>
    rintro D ys W hD rfl ⟨v, hq, ho, hbW⟩ hK
    have hcb : W.cell? ⟨bs, 0, none⟩ = some v := by rw [cell_of_row W bs 0 _ _ _ hq]; rfl
    have HM : Marks w.heap.size W [{ target := .collected D, args := #[] }] := ⟨by simp, fun d hd => by simp at hd; subst hd; exact ⟨D, rfl, by have := HB.out.2.2.1; omega, hK⟩⟩
    have HR := Lib.hid (And.intro ho (And.intro hbW HM))
    clear hq ho hbW hK hD HM
    go_wp2_with fail
    refine leaves_marks _ _ HR.out.2.2 (fun w' hs => ?_)
    refine ⟨v, ?_, v, rfl, ?_, ?_⟩
    · simp [results, Try.f49, go_sem]
    · exact hs.cells.own HR.out.1 (fun _ _ h => h)
    · exact HR.out.2.1.trans hs.below
  case body =>
    rintro l pre x _ W hl - ⟨v, hq, ho, hbW⟩ ⟨bx, rfl, hbx, hbxl⟩ hlt
    have hpl : pre.length ≤ 100000 := by omega
    have hcb : W.cell? ⟨bs, 0, none⟩ = some v := by rw [cell_of_row W bs 0 _ _ _ hq]; rfl
    obtain ⟨bz, hbz⟩ : ∃ v, W.heap.size = v := ⟨_, rfl⟩
    obtain ⟨wa, hwa⟩ : ∃ v, W.alloc (.cells (encT x).toArray 34) = v := ⟨_, rfl⟩
    have Ba := Lib.hid (show Below W.heap.size W wa by rw [← hwa]; exact (Below.refl _ _).alloc (Nat.le_refl _) _)
    have Sa := Lib.hid (show Sees wa (bz + 1) 2 (some ⟨bz, 0, none⟩) 1 (rowT [x]) from Sees.things (by rw [rowT_one, ← hwa, ← hbz]; exact heap_alloc_new _ _))
    have HR := Lib.hid (run_things x W)
    rw [hwa, hbz] at HR
    have Oa := Lib.hid (show wa.ownsRow w.heap.size 34 2 v pre.length (rowT pre) from own_later ho Ba.out)
    have HF := Lib.hid hbx
    have HQ := Lib.hid (And.intro hq (And.intro ho hbW))
    have hbsz : w.heap.size ≤ wa.heap.size := Nat.le_trans hbW.size Ba.out.size
    obtain ⟨np, hnp⟩ : ∃ n, pre.length = n := ⟨_, rfl⟩
    have HNP := Lib.hid hnp
    rw [hnp] at Oa hpl
    have hvb : ∀ k, v.ownBlock = some k → w.heap.size ≤ k ∧ k ≠ bs := fun k hk => ⟨own_base ho hk, fun e => own_row_blk ho hq (by decide) (e ▸ hk)⟩
    have HV := Lib.hid hvb
    have hca : wa.cell? ⟨bs, 0, none⟩ = some v := cell_later hcb Ba.out
    clear hwa hbz hq ho hbW hbx hlt hnp hvb
    gi_wp2_with (first
      | (refine wpListIn_known rfl rfl (by intro c e; cases e) (exec_load_row 34 (.tmp 5) rfl bx rfl 34 (encT x).toArray (0, 0) _ HF.out Try.underlying34 rfl (by rw [List.size_toArray]; exact thing_info _)) ?_)
      | (refine wpListIn_known rfl rfl (by intro c e; cases e) (exec_slice1 26 (.tmp 9) rfl (.agg (encT x).toArray) rfl HR.out) ?_)
      | (gi_at_builtin
         refine wpListIn_append_sees _ rfl _ _ _ rfl w.heap.size 34 i0 _ 2 16 Try.underlying26 ii0 iz0 iz1 iz2 rfl (by omega) _ np (rowT pre) rfl Oa.out (bz + 1) _ 1 1 (rowT [x]) rfl Sa.out (rowT_oneCell _) (by simp only [maxLen]; omega) (by omega) hbsz ?_
         intro v5 w5 hown5 hg5 hat5 hnil5
         have P5 := Lib.hid (And.intro hown5 (And.intro hg5 hat5))
         have hq5 : w5.heap[bs]? = some (.cells #[v] 26) := (hg5.block bs (Nat.lt_of_lt_of_le (Array.getElem?_eq_some_iff.1 HQ.out.1).1 Ba.out.size) (fun e => (HV.out bs e.symm).2 rfl)).trans (heap_later HQ.out.1 Ba.out)
         have hc5 : w5.cell? ⟨bs, 0, none⟩ = some v := by rw [cell_of_row w5 bs 0 _ _ _ hq5]; rfl
         have hf5 : w5.frozen? ⟨bs, 0, none⟩ = false := frozen_of_row w5 bs 0 _ _ hq5
         have HQ5 := Lib.hid hq5
         obtain ⟨A5, c5, rfl, hx5⟩ := own_shape hown5
         clear hown5 hg5 hat5 hnil5 hq5 hca hx5))
    obtain ⟨v5, hv5⟩ : ∃ x : Value, .slice A5 (np + 1) c5 = x := ⟨_, rfl⟩
    rw [hv5] at P5 ⊢
    have K5 : Below w.heap.size w w5 := (HQ.out.2.2.trans (Ba.out.mono HQ.out.2.2.size)).grown P5.out.2.1 hbsz (fun k hk => (HV.out k hk).1)
    have hst : Step (fun k => k = bs ∨ v.ownBlock = some k) W (w5.setCell ⟨bs, 0, none⟩ v5) :=
      (((Step.of_below Ba.out _).trans ((grown_step P5.out.2.1).mono (fun k _ hk => .inr hk)))).setCell (p := ⟨bs, 0, none⟩) (.inl (.inl rfl)) _
    refine ⟨KeepsFrom.of_step hst (fun k o ho hk => ?_), KeepsO.of_step hst (fun k o ho hk => ?_), v5, ?_, ?_, K5.setCell (p := ⟨bs, 0, none⟩) (by rw [← HB.out.1]; exact Nat.le_refl _) _⟩
    · rcases hk with e | e
      · rw [e, HQ.out.1] at ho; cases ho; rfl
      · obtain ⟨cs, hc⟩ := own_blk HQ.out.2.1 e
        rw [hc] at ho; cases ho; rfl
    · rcases hk with e | e
      · exact .inl e
      · obtain ⟨cs, hc⟩ := own_blk HQ.out.2.1 e
        rw [hc] at ho
        exact .inr ⟨(HV.out k e).1, cs, 0, 0, (Option.some.inj ho).symm⟩
    · rw [heap_setCell_same w5 bs 0 _ _ _ HQ5.out]; rfl
    · refine own_step (show OwnT w5 w.heap.size v5 (pre ++ [x]) from ?_) ((Step.refl (fun k => k = bs) w5).setCell (p := ⟨bs, 0, none⟩) (.inl rfl) _) (fun k hk e => ?_)
      · unfold OwnT; rw [rowT_append, List.length_append, HNP.out]; exact P5.out.1
      · have e : k = bs := e
        subst e
        exact own_row_blk P5.out.1 HQ5.out (by decide) hk

set_option maxHeartbeats 1000000 in
theorem collect_any {w : World} {G : Nat → Prop} {gT N : Nat} {X : List Th} (h : TreeX w G gT X N) {i j : Int} {b : Nat} (hb : OverAt w gT i j b) (h0 : 0 ≤ i) (h1 : i ≤ 1000000000000) (h2 : -1000000000000 ≤ j) (h3 : j ≤ 1000000000000) :
    Calls Try.prog 27 #[overF b] w fun e w' => ∃ v, e = .returned v ∧ OwnT w' w.heap.size v (overT X i j) ∧ Below w.heap.size w w' := by
  have HA := Lib.hid (appendSeq_any h hb h0 h1 h2 h3)
  clear h hb
  unfold overF at HA ⊢
  go_enter Try.func27, Try.ntmps27
  go_wp2_with fail
  refine HA.out.mono ?_
  rintro e w1 ⟨v, rfl, ho, hb1⟩
  have HR := Lib.hid (And.intro ho hb1)
  clear ho hb1
  go_wp2_with fail
  go_ret
  exact ⟨v, rfl, HR.out.1, HR.out.2⟩

end Go.Proofs.Ytbioomilnjikpaa
