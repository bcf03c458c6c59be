/-
  Several texts in one: RoZ1, RkQ, RoPl, RoMk.
-/
import Derived.Test.YtmfkdaannjibfaaBdL

namespace Go.Proofs.Ytmfkdaannjibfaa
open Go.RowKit

/-- It has a tree, at gT. -/
def ObT (w : World) (H : Nat → Prop) (g gT : Nat) (X : List Th) (N : Nat) : Prop :=
  w.heap[g]? = some (.cells #[.pointer (some ⟨gT, 0, none⟩)] 50) ∧ ∃ G, TreeX w G gT X N ∧ ¬ G g ∧ ∀ k, H k ↔ k = g ∨ G k
/-- It holds these things, in the blocks H; N: how many places its arena has. -/
def ObW (w : World) (H : Nat → Prop) (g : Nat) (X : List Th) (N : Nat) : Prop :=
  (w.heap[g]? = some (.cells #[.pointer none] 50) ∧ X = [] ∧ ∀ k, H k ↔ k = g) ∨ ∃ gT, ObT w H g gT X N

section
variable {w w' : World} {H H' : Nat → Prop} {g gT N N' : Nat} {X : List Th}
theorem ObT.obW (h : ObT w H g gT X N) : ObW w H g X N := .inr ⟨gT, h⟩
theorem TreeX.more (h : TreeX w H gT X N) (hN : N ≤ N') : TreeX w H gT X N' := by
  obtain ⟨F, gA, T, s, fr, hG, hS, hX, hs⟩ := h
  exact ⟨F, gA, T, s, fr, hG, hS, hX, Nat.le_trans hs hN⟩
theorem ObT.more (h : ObT w H g gT X N) (hN : N ≤ N') : ObT w H g gT X N' := by
  obtain ⟨hq, G, hT, h1, h2⟩ := h
  exact ⟨hq, G, hT.more hN, h1, h2⟩
theorem ObW.more (h : ObW w H g X N) (hN : N ≤ N') : ObW w H g X N' := by
  rcases h with h | ⟨gT, h⟩
  · exact .inl h
  · exact .inr ⟨gT, h.more hN⟩
theorem TreeX.step {G : Nat → Prop} (h : TreeX w H gT X N) (hs : Step G w w') (hG : ∀ k, H k → ¬ G k) : TreeX w' H gT X N := by
  obtain ⟨F, gA, T, s, fr, hH, hS, hX, hN⟩ := h
  exact ⟨F, gA, T, s, fr, hH, ⟨hS.tw.step hs (fun k hk => hG k ((hH k).2 (.inl hk))) (hG gT ((hH gT).2 (.inr rfl))), hS.holds, hS.ok, hS.live⟩, hX, hN⟩
theorem ObT.step {G : Nat → Prop} (h : ObT w H g gT X N) (hs : Step G w w') (hG : ∀ k, H k → ¬ G k) : ObT w' H g gT X N := by
  obtain ⟨hq, G', hT, h1, h2⟩ := h
  exact ⟨(hs.block g (Array.getElem?_eq_some_iff.1 hq).1 (hG g ((h2 g).2 (.inl rfl)))).trans hq, G', hT.step hs (fun k hk => hG k ((h2 k).2 (.inr hk))), h1, h2⟩
theorem ObW.step {G : Nat → Prop} (h : ObW w H g X N) (hs : Step G w w') (hG : ∀ k, H k → ¬ G k) : ObW w' H g X N := by
  rcases h with ⟨hq, hX, h2⟩ | ⟨gT, h⟩
  · exact .inl ⟨(hs.block g (Array.getElem?_eq_some_iff.1 hq).1 (hG g ((h2 g).2 rfl))).trans hq, hX, h2⟩
  · exact .inr ⟨gT, h.step hs hG⟩
theorem ObW.below (h : ObW w H g X N) (hb : Below w.heap.size w w') : ObW w' H g X N := h.step (Step.of_below hb fun _ => False) (fun _ _ h => h)
theorem ObT.below (h : ObT w H g gT X N) (hb : Below w.heap.size w w') : ObT w' H g gT X N := h.step (Step.of_below hb fun _ => False) (fun _ _ h => h)
theorem ObW.lt (h : ObW w H g X N) : ∀ k, H k → k < w.heap.size := by
  intro k hk
  rcases h with ⟨hq, _, h2⟩ | ⟨gT, hq, G, hT, _, h2⟩
  · rw [(h2 k).1 hk]; exact (Array.getElem?_eq_some_iff.1 hq).1
  · rcases (h2 k).1 hk with e | e
    · rw [e]; exact (Array.getElem?_eq_some_iff.1 hq).1
    · exact hT.lt k e
theorem ObW.own (h : ObW w H g X N) : H g := by
  rcases h with ⟨_, _, h2⟩ | ⟨gT, _, _, _, _, h2⟩
  · exact (h2 g).2 rfl
  · exact (h2 g).2 (.inl rfl)
theorem ObW.okX (h : ObW w H g X N) : (∀ x ∈ X, okT x) ∧ X.length ≤ 100000 ∧ sumT X ≤ 100000000000 := by
  rcases h with ⟨_, rfl, _⟩ | ⟨gT, _, _, hT, _⟩
  · exact ⟨(fun _ h => nomatch h), Nat.zero_le _, by rw [sumT]; omega⟩
  · exact hT.okX
/-- What a call that changes nothing but it leaves. -/
theorem Grow.wide {F F' H H' : Nat → Prop} (h : Grow F w w' F') (h1 : ∀ k, F k → H k) (h2 : ∀ k, H' k → H k ∨ F' k) : Grow H w w' H' :=
  ⟨h.step.mono (fun k _ hk => h1 k hk), fun k hk => by
    rcases h2 k hk with e | e
    · exact .inl e
    · rcases h.new k e with e | e
      · exact .inl (h1 k e)
      · exact .inr e⟩
end

set_option maxRecDepth 100000 in
set_option maxHeartbeats 1000000 in
theorem tree_any {w : World} {H : Nat → Prop} {g N : Nat} {X : List Th} (h : ObW w H g X N) :
    Calls Try.prog 25 #[.pointer (some ⟨g, 0, none⟩)] w fun e w' => ∃ H' gT, e = .returned (.pointer (some ⟨gT, 0, none⟩)) ∧ ObT w' H' g gT X N ∧ Grow H w w' H' := by
  rcases h with ⟨hq, rfl, h2⟩ | ⟨gT, hT⟩
  · have hc : w.cell? ⟨g, 0, none⟩ = some (.pointer none) := by rw [cell_of_row w g 0 _ _ _ hq]; rfl
    have HQ := Lib.hid (And.intro hq h2)
    have HN := Lib.hid (newT_any w)
    clear hq h2
    go_enter Try.func25, Try.ntmps25
    go_wp2_with fail
    refine HN.out.mono ?_
    rintro e w1 ⟨F, gT, gA, rfl, hT, hb, hF, hgT⟩
    have hq1 := heap_later HQ.out.1 hb
    have hgl := (Array.getElem?_eq_some_iff.1 HQ.out.1).1
    have hc1 : w1.cell? ⟨g, 0, none⟩ = some (.pointer none) := by rw [cell_of_row w1 g 0 _ _ _ hq1]; rfl
    have hf1 : w1.frozen? ⟨g, 0, none⟩ = false := frozen_of_row w1 g 0 _ _ hq1
    have hst : Step (fun k => k = g) w1 (w1.setCell ⟨g, 0, none⟩ (.pointer (some ⟨gT, 0, none⟩))) := (Step.refl (fun k => k = g) w1).setCell (p := ⟨g, 0, none⟩) (.inl rfl) _
    have hq2 : (w1.setCell ⟨g, 0, none⟩ (.pointer (some ⟨gT, 0, none⟩))).heap[g]? = some (.cells #[.pointer (some ⟨gT, 0, none⟩)] 50) := by rw [heap_setCell_same w1 g 0 _ _ _ hq1]; rfl
    have hc2 : (w1.setCell ⟨g, 0, none⟩ (.pointer (some ⟨gT, 0, none⟩))).cell? ⟨g, 0, none⟩ = some (.pointer (some ⟨gT, 0, none⟩)) := by rw [cell_of_row _ g 0 _ _ _ hq2]; rfl
    have hTX : TreeX (w1.setCell ⟨g, 0, none⟩ (.pointer (some ⟨gT, 0, none⟩))) (fun k => F k ∨ k = gT) gT [] N :=
      ⟨F, gA, .nil, [], [], fun _ => Iff.rfl, ⟨hT.step hst (fun k hk e => by have := hF k hk; have e : k = g := e; omega) (fun e => by have e : gT = g := e; omega), trivial, ⟨by simp [Tr.nodes, ids], (fun _ h => nomatch h), by simp [Tr.nodes, sumZ], by simp [Tr.nodes]⟩, fun k => by simp [Tr.nodes, ids, gt]⟩, rfl, Nat.zero_le _⟩
    have HR := Lib.hid (show ObT (w1.setCell ⟨g, 0, none⟩ (.pointer (some ⟨gT, 0, none⟩))) (fun k => k = g ∨ (F k ∨ k = gT)) g gT [] N ∧ Grow H w (w1.setCell ⟨g, 0, none⟩ (.pointer (some ⟨gT, 0, none⟩))) (fun k => k = g ∨ (F k ∨ k = gT)) from
      ⟨⟨hq2, _, hTX, fun e => by rcases e with e | e; have := hF g e; omega; omega, fun _ => Iff.rfl⟩,
       ⟨((Step.of_below hb H).trans (hst.mono (fun k _ hk => (HQ.out.2 k).2 hk))), fun k hk => by
        rcases hk with e | e | e
        · exact .inl ((HQ.out.2 k).2 e)
        · exact .inr (hF k e)
        · exact .inr (e ▸ hgT)⟩⟩)
    clear hT hb hF hgT hq1 hgl hst hq2 hTX hc
    go_wp2_with fail
    go_ret
    exact ⟨_, gT, rfl, HR.out.1, HR.out.2⟩
  · obtain ⟨hq, hrest⟩ := hT
    have hc : w.cell? ⟨g, 0, none⟩ = some (.pointer (some ⟨gT, 0, none⟩)) := by rw [cell_of_row w g 0 _ _ _ hq]; rfl
    have HQ := Lib.hid (show ObT w H g gT X N from ⟨hq, hrest⟩)
    clear hq hrest
    go_enter Try.func25, Try.ntmps25
    go_wp2_with fail
    go_ret
    exact ⟨H, gT, rfl, HQ.out, Grow.refl _ _⟩

set_option maxRecDepth 100000 in
set_option maxHeartbeats 1000000 in
theorem lenO_any {w : World} {H : Nat → Prop} {g N : Nat} {X : List Th} (h : ObW w H g X N) :
    Calls Try.prog 11 #[.pointer (some ⟨g, 0, none⟩)] w fun e w' => ∃ H', e = .returned (.int .i64 (sumT X)) ∧ ObW w' H' g X N ∧ Grow H w w' H' := by
  have HT := Lib.hid (tree_any h)
  clear h
  go_enter Try.func11, Try.ntmps11
  go_wp2_with fail
  refine HT.out.mono ?_
  rintro e w1 ⟨H1, gT, rfl, hT, hg⟩
  have HT1 := Lib.hid hT
  obtain ⟨-, G, ⟨F, gA, T, s, fr, hG, hS, hX, hN⟩, -, -⟩ := hT
  have HS := Lib.hid (size_any hS.tw hS.holds)
  rw [Tr.z_things, hX] at HS
  have HG := Lib.hid hg
  clear hG hS hX hN hg HT
  go_wp2_with fail
  refine HS.out.mono ?_
  rintro e w2 ⟨rfl, hb2⟩
  have HR := Lib.hid (And.intro (HT1.out.below hb2).obW (HG.out.to hb2))
  clear hb2
  go_wp2_with fail
  go_ret
  exact ⟨H1, rfl, HR.out.1, HR.out.2⟩

/-- A call that hands back v and leaves the things as they were. -/
def ObR (w : World) (H : Nat → Prop) (g : Nat) (X : List Th) (N : Nat) (v : Value) (e : Ending) (w' : World) : Prop := ∃ H', e = .returned v ∧ ObW w' H' g X N ∧ Grow H w w' H'

/-- Why i to j is no part of them. -/
def betE (X : List Th) (i j : Int) : Int := if 0 ≤ i ∧ i ≤ j ∧ j ≤ sumT X then 0 else 5

set_option maxRecDepth 100000 in
set_option maxHeartbeats 1000000 in
theorem between_any {w : World} {H : Nat → Prop} {g N : Nat} {X : List Th} (h : ObW w H g X N) (i j : Int) :
    Calls Try.prog 27 #[.pointer (some ⟨g, 0, none⟩), .int .i64 i, .int .i64 j] w fun e w' => ObR w H g X N (.int .i64 (betE X i j)) e w' := by
  have HL := Lib.hid (lenO_any h)
  have HW := Lib.hid h
  clear h
  by_cases h1 : i < 0
  · have HE := Lib.hid (show betE X i j = 5 by unfold betE; rw [if_neg (by omega)])
    go_enter Try.func27, Try.ntmps27
    go_wp2_with fail
    go_ret
    exact ⟨H, by rw [HE.out]; rfl, HW.out, Grow.refl _ _⟩
  · by_cases h2 : j < i
    · have HE := Lib.hid (show betE X i j = 5 by unfold betE; rw [if_neg (by omega)])
      go_enter Try.func27, Try.ntmps27
      go_wp2_with fail
      go_ret
      exact ⟨H, by rw [HE.out]; rfl, HW.out, Grow.refl _ _⟩
    · obtain ⟨z, hz⟩ : ∃ z, sumT X = z := ⟨_, rfl⟩
      have HE := Lib.hid (show betE X i j = if j ≤ z then 0 else 5 by
        unfold betE
        rw [hz]
        by_cases h3 : j ≤ z
        · rw [if_pos ⟨by omega, by omega, h3⟩, if_pos h3]
        · rw [if_neg (by omega), if_neg h3])
      rw [hz] at HL
      clear hz
      go_enter Try.func27, Try.ntmps27
      go_wp2_with fail
      refine HL.out.mono ?_
      rintro e w1 ⟨H1, rfl, hW, hg⟩
      have HR := Lib.hid (And.intro hW hg)
      clear hW hg
      by_cases h3 : j ≤ z
      · go_wp2_with fail
        go_ret
        exact ⟨H1, by rw [HE.out, if_pos h3]; rfl, HR.out.1, HR.out.2⟩
      · go_wp2_with fail
        go_ret
        exact ⟨H1, by rw [HE.out, if_neg (by omega)]; rfl, HR.out.1, HR.out.2⟩

end Go.Proofs.Ytmfkdaannjibfaa

namespace Go.Proofs.Ytmfkdaannjibfaa
open Go.RowKit

theorem nls_cons (x : Int) (l : List Int) : nls (x :: l) = (if x = 10 then 1 else 0) + nls l := by
  unfold nls
  rw [List.count_cons]
  by_cases h : x = 10
  · simp [h]; omega
  · simp [h]

theorem nlGo_spec : ∀ (l : List Int) (k : Int) (i : Nat), 0 ≤ k → k < nls l → ∃ j, nlGo l k i = some (i + j) ∧ l[j]? = some 10 ∧ nls (l.take j) = k := by
  intro l
  induction l with
  | nil => intro k i h0 h1; simp [nls] at h1; omega
  | cons x l ih =>
    intro k i h0 h1
    rw [nls_cons] at h1
    unfold nlGo
    by_cases hx : x = 10
    · rw [if_pos hx] at h1 ⊢
      by_cases hk : k = 0
      · rw [if_pos hk]
        exact ⟨0, rfl, by simp [hx], by simp [nls, hk]⟩
      · rw [if_neg hk]
        obtain ⟨j, e1, e2, e3⟩ := ih (k - 1) (i + 1) (by omega) (by omega)
        refine ⟨j + 1, by rw [e1]; congr 1; omega, by simpa using e2, ?_⟩
        rw [List.take_succ_cons, nls_cons, if_pos hx, e3]
        omega
    · rw [if_neg hx] at h1 ⊢
      obtain ⟨j, e1, e2, e3⟩ := ih k (i + 1) h0 (by omega)
      refine ⟨j + 1, by rw [e1]; congr 1; omega, by simpa using e2, ?_⟩
      rw [List.take_succ_cons, nls_cons, if_neg hx, e3]
      omega

theorem nlGo_none : ∀ (l : List Int) (k : Int) (i : Nat), nls l ≤ k → nlGo l k i = none := by
  intro l
  induction l with
  | nil => intro k i _; rfl
  | cons x l ih =>
    intro k i h
    rw [nls_cons] at h
    unfold nlGo
    have := (nls_le l).1
    by_cases hx : x = 10
    · rw [if_pos hx] at h ⊢
      rw [if_neg (by omega)]
      exact ih (k - 1) (i + 1) (by omega)
    · rw [if_neg hx] at h ⊢
      exact ih k (i + 1) (by omega)

theorem nls_mono (l : List Int) {i j : Nat} (h : i ≤ j) : nls (l.take i) ≤ nls (l.take j) := by
  unfold nls
  have := List.Sublist.count_le (10 : Int) (List.IsPrefix.sublist (List.take_prefix_take_left h : l.take i <+: l.take j))
  omega

end Go.Proofs.Ytmfkdaannjibfaa

namespace Go.Proofs.Ytmfkdaannjibfaa
open Go.RowKit

def flat (X : List Th) : List Int := X.flatMap (·.l)
theorem flat_nil : flat [] = [] := rfl
theorem flat_cons (t : Th) (L : List Th) : flat (t :: L) = t.l ++ flat L := List.flatMap_cons
theorem flat_append (A B : List Th) : flat (A ++ B) = flat A ++ flat B := List.flatMap_append
theorem flat_one (t : Th) : flat [t] = t.l := by simp [flat]
theorem flatR_len : ∀ (X : List Th), ((flat X).length : Int) = sumT X
  | [] => rfl
  | t :: L => by rw [flat_cons, List.length_append, sumT, ← flatR_len L]; unfold sizeT; omega
theorem flat_le (X : List Th) : (flat X).length ≤ 32 * X.length := by
  induction X with
  | nil => exact Nat.le_refl _
  | cons t L ih => rw [flat_cons, List.length_append, List.length_cons]; have := t.h; omega

theorem nls_app (a b : List Int) : nls (a ++ b) = nls a + nls b := by unfold nls; rw [List.count_append]; omega
/-- The marks of all. -/
def sumM : List Th → Int
  | [] => 0
  | t :: L => marksT t + sumM L
theorem sumM_flat : ∀ (X : List Th), sumM X = nls (flat X)
  | [] => rfl
  | t :: L => by rw [sumM, flat_cons, nls_app, sumM_flat L]; rfl

theorem flat_split : ∀ (L : List Th) (a : Int), flat (splitT L a).1 = (flat L).take a.toNat ∧ flat (splitT L a).2 = (flat L).drop a.toNat
  | [], a => by simp [splitT, flat]
  | t :: L, a => by
    have ih := flat_split L (a - sizeT t)
    rw [splitT, flat_cons]
    unfold sizeT at ih ⊢
    by_cases h0 : a ≤ 0
    · rw [if_pos h0, show a.toNat = 0 by omega]; exact ⟨rfl, by rw [flat_cons]; rfl⟩
    · rw [if_neg h0]
      by_cases h1 : (t.l.length : Int) ≤ a
      · rw [if_pos h1]
        dsimp only
        rw [flat_cons, ih.1, ih.2, List.take_append, List.drop_append, List.take_of_length_le (l := t.l) (i := a.toNat) (by omega), List.drop_of_length_le (l := t.l) (i := a.toNat) (by omega), show (a - (t.l.length : Int)).toNat = a.toNat - t.l.length by omega, List.nil_append]
        exact ⟨rfl, rfl⟩
      · rw [if_neg h1]
        dsimp only
        rw [flat_one, flat_cons, List.take_append_of_le_length (by omega), List.drop_append_of_le_length (by omega)]
        exact ⟨rfl, rfl⟩

theorem flat_meldStep (O : List Th) (x : Th) : flat (meldStep O x) = flat O ++ x.l := by
  unfold meldStep
  by_cases h0 : sizeT x = 0
  · rw [if_pos h0]
    have : x.l = [] := by unfold sizeT at h0; exact List.eq_nil_of_length_eq_zero (by omega)
    rw [this, List.append_nil]
  · rw [if_neg h0]
    rcases List.eq_nil_or_concat O with rfl | ⟨O', y, rfl⟩
    · simp [flat]
    · simp only [List.concat_eq_append]
      rw [List.getLast?_concat]
      dsimp only
      by_cases hb : meldB y x = true
      · rw [if_pos hb, List.dropLast_concat, flat_append, flat_append, flat_one, flat_one, List.append_assoc]
        congr 1
        unfold meldT
        rw [dif_pos (of_decide_eq_true hb)]
      · rw [if_neg hb, flat_append, flat_one]
theorem flat_meldF : ∀ (l O : List Th), flat (l.foldl meldStep O) = flat O ++ flat l
  | [], O => by simp [flat]
  | x :: l, O => by rw [List.foldl_cons, flat_meldF l, flat_meldStep, flat_cons, List.append_assoc]
theorem flat_meld (l : List Th) : flat (meldL l) = flat l := by unfold meldL; rw [flat_meldF]; rfl
theorem meldStep_len (O : List Th) (x : Th) : (meldStep O x).length ≤ O.length + 1 := by
  unfold meldStep
  split
  · omega
  · split
    · simp
    · split
      · rw [List.length_append, List.length_dropLast, List.length_singleton]; omega
      · simp
theorem meldF_len : ∀ (l O : List Th), (l.foldl meldStep O).length ≤ O.length + l.length
  | [], O => by simp
  | x :: l, O => by
    rw [List.foldl_cons, List.length_cons]
    have h1 := meldF_len l (meldStep O x)
    have h2 := meldStep_len O x
    omega
theorem meldL_len (l : List Th) : (meldL l).length ≤ l.length := by have := meldF_len l []; unfold meldL; simpa using this

theorem flat_ends (A : List Th) : flat A.dropLast ++ flat A.getLast?.toList = flat A := by
  rw [← flat_append]
  rcases List.eq_nil_or_concat A with h | ⟨B, b, h⟩
  · subst h; rfl
  · subst h; simp
theorem flat_heads (A : List Th) : flat A.head?.toList ++ flat A.tail = flat A := by
  rw [← flat_append]
  cases A <;> rfl
theorem flat_repl (X : List Th) {i j : Int} (h0 : 0 ≤ i) (h1 : i ≤ j) (l : List Th) : flat (replT X i j l) = (flat X).take i.toNat ++ flat l ++ (flat X).drop j.toNat := by
  unfold replT
  rw [flat_append, flat_append, flat_meld, flat_append, flat_append]
  have e1 := flat_ends (splitT X i).1
  have e2 := flat_heads (splitT (splitT X i).2 (j - i)).2
  rw [List.append_assoc, List.append_assoc, List.append_assoc, e2, ← List.append_assoc, e1, (flat_split X i).1, (flat_split _ (j - i)).2, (flat_split X i).2, List.drop_drop, show i.toNat + (j - i).toNat = j.toNat by omega, List.append_assoc]
theorem splitT_len : ∀ (L : List Th) (a : Int), (splitT L a).1.length + (splitT L a).2.length ≤ L.length + 1
  | [], _ => by simp [splitT]
  | t :: L, a => by
    have ih := splitT_len L (a - sizeT t)
    rw [splitT]
    split
    · simp
    · split
      · simp only [List.length_cons]; omega
      · simp; omega
theorem repl_len (X : List Th) (i j : Int) (l : List Th) : (replT X i j l).length ≤ X.length + l.length + 2 := by
  unfold replT
  rw [List.length_append, List.length_append, List.length_dropLast, List.length_tail]
  have h1 := splitT_len X i
  have h2 := splitT_len (splitT X i).2 (j - i)
  have h3 := meldL_len ((splitT X i).1.getLast?.toList ++ l ++ (splitT (splitT X i).2 (j - i)).2.head?.toList)
  rw [List.length_append, List.length_append] at h3
  have h4 : (splitT X i).1.getLast?.toList.length ≤ (splitT X i).1.length := by cases h : (splitT X i).1.getLast? with | none => simp | some y => have := List.mem_of_getLast? h; have := List.length_pos_of_mem this; simp; omega
  have h5 : (splitT (splitT X i).2 (j - i)).2.head?.toList.length ≤ (splitT (splitT X i).2 (j - i)).2.length := by cases (splitT (splitT X i).2 (j - i)).2 <;> simp
  have h6 : (splitT X i).1.getLast?.toList.length ≤ 1 := by cases (splitT X i).1.getLast? <;> simp
  have h7 : (splitT (splitT X i).2 (j - i)).2.head?.toList.length ≤ 1 := by cases (splitT (splitT X i).2 (j - i)).2.head? <;> simp
  have h8 : (splitT X i).1.length = 0 → (splitT X i).1.getLast?.toList.length = 0 := by omega
  have h9 : (splitT (splitT X i).2 (j - i)).2.length = 0 → (splitT (splitT X i).2 (j - i)).2.head?.toList.length = 0 := by omega
  omega

theorem flat_part (t : Th) (i j : Int) (h : max i 0 < min j (sizeT t)) : (partT t i j).l = (t.l.take j.toNat).drop i.toNat := by
  have hs : sizeT t = (t.l.length : Int) := rfl
  have hA : (partA t j).l = t.l.take j.toNat := by
    unfold partA
    by_cases h1 : min j (sizeT t) < sizeT t
    · rw [if_pos h1]
      show t.l.take (min j (sizeT t)).toNat = _
      congr 1
      omega
    · rw [if_neg h1, List.take_of_length_le (by omega)]
  unfold partT
  by_cases h0 : 0 < max i 0
  · rw [if_pos h0]
    show (partA t j).l.drop (max i 0).toNat = _
    rw [hA]
    congr 1
    omega
  · rw [if_neg h0, hA, show i.toNat = 0 by omega, List.drop_zero]
theorem flat_over : ∀ (L : List Th) (i j : Int), flat (overT L i j) = ((flat L).take j.toNat).drop i.toNat
  | [], i, j => by simp [overT, flat]
  | t :: L, i, j => by
    have ih := flat_over L (i - sizeT t) (j - sizeT t)
    have hs : sizeT t = (t.l.length : Int) := rfl
    rw [overT, flat_append, ih, flat_cons, List.take_append, List.drop_append, show (j - sizeT t).toNat = j.toNat - t.l.length by omega]
    congr 1
    · by_cases h : max i 0 < min j (sizeT t)
      · rw [if_pos h, flat_one, flat_part t i j h]
      · rw [if_neg h, flat_nil, List.drop_of_length_le (by rw [List.length_take]; omega)]
    · by_cases hj : j.toNat ≤ t.l.length
      · rw [show j.toNat - t.l.length = 0 by omega, List.take_zero, List.drop_nil, List.drop_nil]
      · rw [List.length_take]
        congr 1
        omega
theorem flat_find : ∀ (L : List Th) (a : Int), 0 ≤ a → (findT L a).bind (fun p => p.1.l[p.2.toNat]?) = (flat L)[a.toNat]?
  | [], a, _ => by simp [findT, flat]
  | t :: L, a, h0 => by
    have hs : sizeT t = (t.l.length : Int) := rfl
    rw [findT, if_neg (by omega), flat_cons]
    by_cases h1 : a < sizeT t
    · rw [if_pos h1, List.getElem?_append_left (by omega)]; rfl
    · rw [if_neg h1, flat_find L (a - sizeT t) (by omega), List.getElem?_append_right (by omega), show (a - sizeT t).toNat = a.toNat - t.l.length by omega]
theorem find_some {L : List Th} {a : Int} (h0 : 0 ≤ a) (h1 : a < sumT L) : ∃ t b, findT L a = some (t, b) ∧ 0 ≤ b ∧ b < (t.l.length : Int) := by
  induction L generalizing a with
  | nil => rw [sumT] at h1; omega
  | cons t L ih =>
    have hs : sizeT t = (t.l.length : Int) := rfl
    rw [sumT] at h1
    rw [findT, if_neg (by omega)]
    by_cases h2 : a < sizeT t
    · rw [if_pos h2]; exact ⟨t, a, rfl, h0, by omega⟩
    · rw [if_neg h2]; exact ih (by omega) (by omega)
theorem find_none {L : List Th} {a : Int} (h : a < 0 ∨ sumT L ≤ a) : findT L a = none := by
  induction L generalizing a with
  | nil => rfl
  | cons t L ih =>
    have hs : sizeT t = (t.l.length : Int) := rfl
    have hz : 0 ≤ sumT L := by have := flatR_len L; omega
    rw [sumT] at h
    rw [findT]
    by_cases h2 : a < 0
    · rw [if_pos h2]
    · rw [if_neg h2, if_neg (by omega)]; exact ih (by omega)

end Go.Proofs.Ytmfkdaannjibfaa

namespace Go.Proofs.Ytmfkdaannjibfaa
open Go.RowKit

theorem Tr.m_things : ∀ (T : Tr), T.m = sumM T.things
  | .nil => rfl
  | .nd i t l r => by
    have hA : ∀ (A B : List Th), sumM (A ++ B) = sumM A + sumM B := fun A B => by
      induction A with
      | nil => simp [sumM]
      | cons t A ih => rw [List.cons_append, sumM, sumM, ih]; omega
    have h : (Tr.nd i t l r).things = l.things ++ t :: r.things := by simp [Tr.things, Tr.nodes]
    rw [h, hA, sumM, Tr.m, Tr.m_things l, Tr.m_things r]
    omega

set_option maxHeartbeats 1000000 in
theorem marks_any {w : World} {F : Nat → Prop} {gT gA : Nat} {T : Tr} {s : List (Option Nd)} {fr : List Nat} (h : TreeW w F gT gA T.rt s fr) (hT : Holds s T) :
    Calls Try.prog 31 #[.pointer (some ⟨gT, 0, none⟩)] w fun e w' => e = .returned (.int .i64 T.m) ∧ Below w.heap.size w w' := by
  have hR := h.cR
  have HTo := Lib.hid (totals_any h hT.okR)
  rw [hT.tot.1, hT.tot.2.1, hT.tot.2.2] at HTo
  clear h hT
  go_enter Try.func31, Try.ntmps31
  go_wp2_with fail
  refine HTo.out.mono ?_
  rintro e w1 ⟨rfl, hb⟩
  go_wp2_with fail
  go_ret
  exact ⟨rfl, hb⟩

/-! ### Newlines of a row that is put together -/
theorem nlGo_shift : ∀ (l : List Int) (k : Int) (i : Nat), nlGo l k i = (nlGo l k 0).map (· + i)
  | [], _, _ => rfl
  | x :: r, k, i => by
    unfold nlGo
    by_cases hx : x = 10
    · rw [if_pos hx, if_pos hx]
      by_cases hk : k = 0
      · rw [if_pos hk, if_pos hk]; simp
      · rw [if_neg hk, if_neg hk, nlGo_shift r (k - 1) (i + 1), nlGo_shift r (k - 1) (0 + 1), Option.map_map]
        congr 1 <;> (funext j; simp only [Function.comp]; try omega)
    · rw [if_neg hx, if_neg hx, nlGo_shift r k (i + 1), nlGo_shift r k (0 + 1), Option.map_map]
      congr 1 <;> (funext j; simp only [Function.comp]; try omega)
theorem nlGo_app : ∀ (A B : List Int) (k : Int), 0 ≤ k → nlGo (A ++ B) k 0 = if k < nls A then nlGo A k 0 else (nlGo B (k - nls A) 0).map (· + A.length)
  | [], B, k, h0 => by
    rw [show nls [] = 0 from rfl, if_neg (by omega), Int.sub_zero]
    simp
  | x :: A, B, k, h0 => by
    rw [List.cons_append, nlGo, nlGo, nls_cons, List.length_cons]
    have hn := (nls_le A).1
    by_cases hx : x = 10
    · rw [if_pos hx, if_pos hx, if_pos hx]
      by_cases hk : k = 0
      · rw [if_pos hk, if_pos hk, if_pos (by omega)]
      · rw [if_neg hk, if_neg hk, nlGo_shift (A ++ B), nlGo_app A B (k - 1) (by omega)]
        by_cases h : k - 1 < nls A
        · rw [if_pos h, if_pos (by omega), ← nlGo_shift]
        · rw [if_neg h, if_neg (by omega), Option.map_map, show k - 1 - nls A = k - (1 + nls A) by omega]
          congr 1 <;> (funext j; simp only [Function.comp]; try omega)
    · rw [if_neg hx, if_neg hx, if_neg hx, nlGo_shift (A ++ B), nlGo_app A B k h0]
      by_cases h : k < nls A
      · rw [if_pos h, if_pos (by omega), ← nlGo_shift]
      · rw [if_neg h, if_neg (by omega), Option.map_map, Int.zero_add]
        congr 1 <;> (funext j; simp only [Function.comp]; try omega)

set_option maxRecDepth 100000 in
set_option maxHeartbeats 4000000 in
theorem treeAhead_any {w : World} {G : Nat → Prop} {gT N : Nat} {X : List Th} (h : TreeX w G gT X N) (a0 : Int) (hb : 0 ≤ a0 ∧ a0 ≤ 1000000000000) :
    Calls Try.prog 35 #[.pointer (some ⟨gT, 0, none⟩), .int .i64 a0, .func (.func 36) #[] #[]] w fun e w' => e = .returned (.int .i64 (nls ((flat X).take a0.toNat))) ∧ Below w.heap.size w w' := by
  obtain ⟨F, gA, T, s, fr, hG, hS, rfl, hsN⟩ := h
  have HW := Lib.hid (fun (w1 : World) (hb : Below w.heap.size w w1) => hS.tw.below hb)
  have HST := Lib.hid (And.intro hS.holds (And.intro hS.ok hb))
  have hcR := hS.tw.cR
  obtain ⟨res, hres⟩ : ∃ x, nls ((flat T.things).take a0.toNat) = x := ⟨_, rfl⟩
  have HR0 := Lib.hid hres
  have HRB := Lib.hid (show 0 ≤ res ∧ res ≤ 1000000000000 by
    have h1 := nls_le ((flat T.things).take a0.toNat)
    rw [hres, List.length_take] at h1
    have h2 := hb.2
    omega)
  rw [hres]
  clear hG hS hsN hres hb
  go_enter Try.func35, Try.ntmps35
  go_wp2_with fail
  clear hcR
  go_loopw [1, 6, 7] (fun v1 v6 v7 wr => ∃ (T' : Tr) (a m : Int), v7 = .int .i64 T'.rt ∧ v1 = .int .i64 a ∧ v6 = .int .i64 m ∧ Holds s T' ∧ OkL T'.nodes ∧ m + nls ((flat T'.things).take a.toNat) = res ∧ (0 ≤ m ∧ 0 ≤ a ∧ a ≤ 1000000000000) ∧ Below w.heap.size w wr) (fun _ _ v7 _ => (hS s (intOf v7)).toNat)
  case atStart => exact ⟨T, a0, 0, rfl, rfl, rfl, HST.out.1, HST.out.2.1, by rw [HR0.out]; omega, ⟨Int.le_refl 0, HST.out.2.2⟩, Below.refl _ _⟩
  case round =>
    obtain ⟨T', a, m, rfl, rfl, rfl, hT, ho, hf, hba, hK⟩ := hrel
    cases T' with
    | nil =>
      have HF := Lib.hid (show m = res by
        have e : (flat (Tr.nil).things).take a.toNat = [] := by simp [Tr.things, Tr.nodes, flat]
        rw [e] at hf
        simpa [nls] using hf)
      have HK := Lib.hid hK
      have e3 : Tr.nil.rt = -1 := rfl
      rw [e3]
      clear hf hK hba hT ho e3
      go_wp2_with fail
      go_ret
      exact ⟨by first | rfl | (rw [HF.out]; rfl), HK.out⟩
    | nd k u L R =>
      have hLs := Tr.sm (T := L) ho.left
      have hz := hLs.2.1
      have hm0 := hLs.2.2
      have hzt : Sm (sizeT u) := ⟨by unfold sizeT; omega, by have := u.h; unfold sizeT; omega⟩
      have hmt : Sm (marksT u) := by have h1 := nls_le u.l; have h2 := u.h; unfold marksT; exact ⟨h1.1, by omega⟩
      have hth : flat (Tr.nd k u L R).things = flat L.things ++ (u.l ++ flat R.things) := by simp [Tr.things, Tr.nodes, flat]
      have hzf : L.z = ((flat L.things).length : Int) := by rw [Tr.z_things, flatR_len]
      have hmf : L.m = nls (flat L.things) := by rw [Tr.m_things, sumM_flat]
      have HAt := Lib.hid (at_any (HW.out wr hK) hT.1)
      have HTa := Lib.hid (fun (w1 : World) (hb : Below w.heap.size w w1) => totals_any (HW.out w1 hb) hT.2.1.okR)
      rw [hT.2.1.tot.2.1, hT.2.1.tot.2.2] at HTa
      have HM := Lib.hid (fun w1 => measure_any u w1)
      have HH := Lib.hid (show (hS s L.rt).toNat < (hS s (k : Int)).toNat ∧ (hS s R.rt).toNat < (hS s (k : Int)).toNat by
        have e1 := hT.tot.1
        have e2 := hT.2.1.tot.1
        have e3 := hT.2.2.tot.1
        have e1 : hS s (k : Int) = 1 + max L.h R.h := e1
        have a1 := L.h_le
        have a2 := R.h_le
        rw [e1, e2, e3]
        omega)
      obtain ⟨zl, hzl⟩ : ∃ x, L.z = x := ⟨_, rfl⟩
      obtain ⟨ml, hml⟩ : ∃ x, L.m = x := ⟨_, rfl⟩
      obtain ⟨zt, hzt'⟩ : ∃ x, sizeT u = x := ⟨_, rfl⟩
      obtain ⟨mt, hmt'⟩ : ∃ x, marksT u = x := ⟨_, rfl⟩
      have hml0 := (nls_le (flat L.things)).2
      rw [hzl] at hz hzf
      rw [hml] at hm0 hmf
      rw [hzl, hml] at HTa
      rw [hzt'] at HM hzt
      rw [hmt'] at HM hmt
      obtain ⟨z1, z2⟩ := hz
      obtain ⟨m1, m2⟩ := hm0
      obtain ⟨z3, z4⟩ := hzt
      obtain ⟨m3, m4⟩ := hmt
      have hzu : zt = (u.l.length : Int) := hzt'.symm
      have hmu : mt = nls u.l := hmt'.symm
      obtain ⟨n, hn⟩ : ∃ x, topN u L R = x := ⟨_, rfl⟩
      have hnl : n.l = L.rt := by rw [← hn]; rfl
      have hnr : n.r = R.rt := by rw [← hn]; rfl
      have HX := Lib.hid (show n.x = encT u by rw [← hn]; rfl)
      rw [hn] at HAt
      unfold Nd.V at HAt
      have HT := Lib.hid (And.intro hT ho)
      have hk1 : ((k : Int) == -1) = false := by simp
      have hk2 : ((k : Int) != -1) = true := by simp
      have hrt : (Tr.nd k u L R).rt = (k : Int) := rfl
      rw [hrt]
      have HZ := Lib.hid (And.intro hth (And.intro hzf (And.intro hmf (And.intro hzu hmu))))
      have HFA := Lib.hid hf
      obtain ⟨hb0, hb1, hb2⟩ := hba
      have hmr : m ≤ res := by have := (nls_le ((flat (Tr.nd k u L R).things).take a.toNat)).1; omega
      have hmr2 := HRB.out.2
      have g1 : IntKind.i64.wrap (zl + zt) = zl + zt := IntWalk.i64_in _ (by omega)
      have g2 : IntKind.i64.wrap (a - (zl + zt)) = a - (zl + zt) := IntWalk.i64_in _ (by omega)
      have g3 : IntKind.i64.wrap (a - zl) = a - zl := IntWalk.i64_in _ (by omega)
      have g4 : IntKind.i64.wrap (m + ml) = m + ml := IntWalk.i64_in _ (by omega)
      have g5 : IntKind.i64.wrap (ml + mt) = ml + mt := IntWalk.i64_in _ (by omega)
      have g6 : IntKind.i64.wrap (m + (ml + mt)) = m + (ml + mt) := IntWalk.i64_in _ (by omega)
      have K1' := Lib.hid hK
      clear hf hT ho hLs hn hzl hml hzt' hmt' hth hzf hmf hzu hmu hK hrt hml0
      go_wp2_with fail
      refine HAt.out.mono ?_
      rintro e w1 ⟨rfl, hb1⟩
      obtain ⟨b, hb⟩ : ∃ b, w1.heap.size = b := ⟨_, rfl⟩
      obtain ⟨w2, hw2⟩ : ∃ v, w1.alloc (.cells n.C.toArray 103) = v := ⟨_, rfl⟩
      have hk1 := K1'.out.trans (hb1.mono K1'.out.size)
      have N2 := Lib.hid (show NdAt w2 b n by rw [← hw2, ← hb]; exact NdAt.new w1 n)
      have K2 := Lib.hid (show Below w.heap.size w w2 by rw [← hw2]; exact hk1.alloc hk1.size _)
      have HE := Lib.hid (And.intro hw2 hb)
      have hc := N2.out.cL
      rw [hnl] at hc
      clear hb1 hw2 hb HAt hk1
      go_wp2_with (refine wpList_store_row rfl 103 (.tmp 8) (.tmp 22) rfl w1.heap.size n.C.toArray rfl rfl 103 _ (heap_alloc_new w1 _) (nd_info n) (by simp [Nd.C_len]) (all_oneCell_toArray n.C_one) ?_; rw [alloc_setRow, HE.out.1, HE.out.2])
      clear hc
      refine (HTa.out w2 K2.out).mono ?_
      rintro e w3 ⟨rfl, hb3⟩
      have K3 := Lib.hid (K2.out.trans (hb3.mono K2.out.size))
      have N3 := Lib.hid (N2.out.below hb3)
      clear hb3 HTa
      go_wp2_with fail
      refine wp_region_held_drew (S := fun w' => w'.cell? ⟨gT, 0, none⟩ = some (.func (.func 46) #[] #[]) ∧ NdAt w' b n) (by kernel_rfl) ⟨(HW.out w3 K3.out).cM, ⟨N3.out.blk⟩⟩ (fun hHeld => ?_)
      try dsimp only at hHeld
      refine take_at (i := 0) (v := ?_) (some 32) rfl rfl (by kernel_rfl) (by kernel_rfl) (by kernel_rfl) (fun _ _ _ h => h) hHeld (by rfl) (fun wS hSw => ?_) ?_
      rotate_left
      · try dsimp only at hSw
        go_simp
        try with_reducible rfl
      try simp only [Act.put, List.setIfInBounds_toArray, List.set_cons_zero, List.set_cons_succ]
      refine take_at (i := 1) (v := ?_) (some 33) rfl rfl (by kernel_rfl) (by kernel_rfl) (by kernel_rfl) (fun _ _ _ h => h) hHeld (by rfl) (fun wS hSw => ?_) ?_
      rotate_left
      · try dsimp only at hSw
        go_simp
        try with_reducible rfl
      try simp only [Act.put, List.setIfInBounds_toArray, List.set_cons_zero, List.set_cons_succ]
      refine take_at (i := 2) (v := ?_) (some 34) rfl rfl (by kernel_rfl) (by kernel_rfl) (by kernel_rfl) (fun _ _ _ h => h) hHeld (by rfl) (fun wS hSw => ?_) ?_
      rotate_left
      · try dsimp only at hSw
        go_simp
        try with_reducible rfl
      try simp only [Act.put, List.setIfInBounds_toArray, List.set_cons_zero, List.set_cons_succ]
      refine take_at (i := 3) (v := ?_) (some 35) rfl rfl (by kernel_rfl) (by kernel_rfl) (by kernel_rfl) (fun _ _ _ h => h) hHeld (by rfl) (fun wS hSw => ?_) ?_
      rotate_left
      · try dsimp only at hSw
        go_simp
        try with_reducible rfl
      try simp only [Act.put, List.setIfInBounds_toArray, List.set_cons_zero, List.set_cons_succ]
      refine take_at (i := 4) (v := ?_) (some 36) rfl rfl (by kernel_rfl) (by kernel_rfl) (by kernel_rfl) (fun _ _ _ h => h) hHeld (by rfl) (fun wS hSw => ?_) ?_
      rotate_left
      · have hS1 := hSw.1
        try dsimp only at hSw
        go_simp
        try with_reducible rfl
      try simp only [Act.put, List.setIfInBounds_toArray, List.set_cons_zero, List.set_cons_succ]
      refine take_at (i := 5) (v := ?_) (some 37) rfl rfl (by kernel_rfl) (by kernel_rfl) (by kernel_rfl) (fun _ _ _ h => h) hHeld (by rfl) (fun wS hSw => ?_) ?_
      rotate_left
      · try dsimp only at hSw
        go_simp
        try with_reducible rfl
      try simp only [Act.put, List.setIfInBounds_toArray, List.set_cons_zero, List.set_cons_succ]
      refine take_at (i := 6) (v := ?_) (some 38) rfl rfl (by kernel_rfl) (by kernel_rfl) (by kernel_rfl) (fun _ _ _ h => h) hHeld (by rfl) (fun wS hSw => ?_) ?_
      rotate_left
      · refine exec_load_mid 58 (.tmp 37) ?_ b 0 ?_ (encT u) _ (HX.out ▸ hSw.2.x) Try.underlying58 rfl (thing_info u) <;> rfl
      try simp only [Act.put, List.setIfInBounds_toArray, List.set_cons_zero, List.set_cons_succ]
      refine wpAnyH_ready (rs := [7]) (by kernel_rfl) (by simp) ?_
      refine AllReadyH.cons rfl (fun K hK => ?_) AllReadyH.nil
      simp only [List.getElem_toArray, List.getElem_cons_succ, List.getElem_cons_zero]
      go_simp
      refine (HM.out _).mono ?_
      rintro e w4 ⟨rfl, hb4⟩
      have hH4 : w4.cell? ⟨gT, 0, none⟩ = some (.func (.func 46) #[] #[]) ∧ NdAt w4 b n := ⟨cell_later hHeld.1 hb4, hHeld.2.below hb4⟩
      have K4 := Lib.hid (K3.out.drew.trans (hb4.mono K3.out.size))
      clear hb4
      try dsimp only
      have hOld := hHeld
      refine hK.out _ _ hH4 (fun _ => ?_)
      clear hK K
      refine wpAnyH_mono (S2 := fun w' => w'.cell? ⟨gT, 0, none⟩ = some (.func (.func 46) #[] #[]) ∧ NdAt w' b n) (fun _ h => h) _ _ _ _ ?_
      clear hHeld
      have hHeld := hH4
      clear hOld
      try simp only [Act.put, List.setIfInBounds_toArray, List.set_cons_zero, List.set_cons_succ]
      refine take_at (i := 8) (v := ?_) (some 31) rfl rfl (by kernel_rfl) (by kernel_rfl) (by kernel_rfl) (fun _ _ _ h => h) hHeld (by rfl) (fun wS hSw => ?_) ?_
      rotate_left
      · try dsimp only at hSw
        go_simp
        try with_reducible rfl
      try simp only [Act.put, List.setIfInBounds_toArray, List.set_cons_zero, List.set_cons_succ]
      refine take_at (i := 9) (v := ?_) (some 40) rfl rfl (by kernel_rfl) (by kernel_rfl) (by kernel_rfl) (fun _ _ _ h => h) hHeld (by rfl) (fun wS hSw => ?_) ?_
      rotate_left
      · try dsimp only at hSw
        go_simp
        try with_reducible rfl
      try simp only [Act.put, List.setIfInBounds_toArray, List.set_cons_zero, List.set_cons_succ]
      refine take_at (i := 10) (v := ?_) (some 41) rfl rfl (by kernel_rfl) (by kernel_rfl) (by kernel_rfl) (fun _ _ _ h => h) hHeld (by rfl) (fun wS hSw => ?_) ?_
      rotate_left
      · try dsimp only at hSw
        go_simp
        try with_reducible rfl
      try simp only [Act.put, List.setIfInBounds_toArray, List.set_cons_zero, List.set_cons_succ]
      refine take_at (i := 11) (v := ?_) (some 12) rfl rfl (by kernel_rfl) (by kernel_rfl) (by kernel_rfl) (fun _ _ _ h => h) hHeld (by rfl) (fun wS hSw => ?_) ?_
      rotate_left
      · try dsimp only at hSw
        go_simp
        try with_reducible rfl
      try simp only [Act.put, List.setIfInBounds_toArray, List.set_cons_zero, List.set_cons_succ]
      refine take_at (i := 12) (v := ?_) (some 13) rfl rfl (by kernel_rfl) (by kernel_rfl) (by kernel_rfl) (fun _ _ _ h => h) hHeld (by rfl) (fun wS hSw => ?_) ?_
      rotate_left
      · try dsimp only at hSw
        go_simp
        try with_reducible rfl
      try simp only [Act.put, List.setIfInBounds_toArray, List.set_cons_zero, List.set_cons_succ]
      refine wpAnyH_done (by kernel_rfl) ?_ _
      have N4 := Lib.hid hH4.2
      clear hHeld hH4 HM
      by_cases ha : a ≤ zl
      · have hc := N4.out.cL
        rw [hnl] at hc
        have HF2 := Lib.hid (show m + nls ((flat L.things).take a.toNat) = res by
          rw [← HFA.out, HZ.out.1, List.take_append_of_le_length (by have := HZ.out.2.1; omega)])
        go_wp2_with fail
        go_roundw
        case rel => exact ⟨L, a, m, rfl, rfl, rfl, HT.out.1.2.1, HT.out.2.left, HF2.out, ⟨hb0, hb1, hb2⟩, K4.out⟩
        case measure => exact HH.out.1
      · by_cases hb : a < zl + zt
        · have HC := Lib.hid (fun w1 => ahead_any u.l (a - zl) w1 u.h (by omega))
          unfold chV at HC
          have HF2 := Lib.hid (show m + ml + nls (u.l.take (a - zl).toNat) = res by
            have h1 := HFA.out
            have h2 := HZ.out.2.1
            have h3 := HZ.out.2.2.1
            have h4 := HZ.out.2.2.2.1
            rw [HZ.out.1, List.take_append, nls_app, List.take_of_length_le (by omega), List.take_append_of_le_length (by omega), show a.toNat - (flat L.things).length = (a - zl).toNat by omega] at h1
            omega)
          obtain ⟨q, hq⟩ : ∃ q, nls (u.l.take (a - zl).toNat) = q := ⟨_, rfl⟩
          rw [hq] at HC HF2
          have g7 : IntKind.i64.wrap (m + ml + q) = m + ml + q := by rw [HF2.out]; exact IntWalk.i64_in _ (by have := HRB.out; omega)
          have hr := HF2.out
          clear hq
          go_wp2_with (refine wpList_load_mid rfl 58 (.tmp 70) rfl b 0 rfl (encT u) _ (HX.out ▸ N4.out.x) Try.underlying58 rfl (thing_info u) ?_)
          refine (HC.out w4).mono ?_
          rintro e w5 ⟨rfl, hb5⟩
          have K5 := Lib.hid (K4.out.trans (hb5.mono K4.out.size))
          clear hb5
          go_wp2_with fail
          go_ret
          exact ⟨by first | rfl | rw [HF2.out], K5.out⟩
        · have hc := N4.out.cR
          rw [hnr] at hc
          have HF2 := Lib.hid (show m + (ml + mt) + nls ((flat R.things).take (a - (zl + zt)).toNat) = res by
            have h1 := HFA.out
            have h2 := HZ.out.2.1
            have h3 := HZ.out.2.2.1
            have h4 := HZ.out.2.2.2.1
            have h5 := HZ.out.2.2.2.2
            rw [HZ.out.1, List.take_append, nls_app, List.take_of_length_le (by omega), List.take_append, nls_app, List.take_of_length_le (by omega), show a.toNat - (flat L.things).length - u.l.length = (a - (zl + zt)).toNat by omega] at h1
            omega)
          go_wp2_with fail
          go_roundw
          case rel => exact ⟨R, a - (zl + zt), m + (ml + mt), rfl, rfl, rfl, HT.out.1.2.2, HT.out.2.right.tail, HF2.out, ⟨by omega, by omega, by omega⟩, K4.out⟩
          case measure => exact HH.out.2

def offK (l : List Int) (k : Int) : Int := match nlGo l k 0 with
  | some i => (i : Int)
  | none => 0
set_option maxRecDepth 100000 in
set_option maxHeartbeats 1000000 in
theorem offOne_any (l : List Int) (k : Int) (w : World) (hl : l.length ≤ 32) (hk0 : -1000000000 ≤ k) (hk1 : k ≤ 1000000000) :
    Calls Try.prog 33 #[.agg (chC l).toArray, .int .i64 k] w fun e w' => e = .returned (.int .i64 (offK l k)) ∧ Below w.heap.size w w' := by
  obtain ⟨b0, hb0⟩ : ∃ v, w.heap.size = v := ⟨_, rfl⟩
  obtain ⟨w1, hw1⟩ : ∃ v, w.alloc (.cells (chC l).toArray 58) = v := ⟨_, rfl⟩
  have HQ := Lib.hid (show w1.heap[b0]? = some (.cells (chC l).toArray 58) by rw [← hw1, ← hb0]; exact heap_alloc_new w _)
  have K1 := Lib.hid (show Below w.heap.size w w1 by rw [← hw1]; exact (Below.refl _ _).alloc (Nat.le_refl _) _)
  have HN := Lib.hid (newlineAt_any l k w1 hl hk0 hk1)
  unfold chV at HN
  obtain ⟨v, b, hv, hr⟩ : ∃ (v : Int) (b : Bool), nlV (nlGo l k 0) = .tuple #[.int .i64 v, .bool b] ∧ v = offK l k := by
    unfold offK
    cases nlGo l k 0 with
    | none => exact ⟨0, false, rfl, rfl⟩
    | some i => exact ⟨i, true, rfl, rfl⟩
  rw [hv] at HN
  rw [← hr]
  clear hv hr
  go_enter Try.func33, Try.ntmps33
  go_wp2_with (refine wpList_load_row rfl 58 (.tmp 2) rfl b0 rfl 58 (chC l).toArray (0, 0) _ HQ.out Try.underlying58 rfl (ch_info l hl) ?_)
  refine HN.out.mono ?_
  rintro e w2 ⟨rfl, hb2⟩
  have K2 := Lib.hid (K1.out.trans (hb2.mono K1.out.size))
  clear hb2
  go_wp2_with fail
  go_ret
  exact ⟨rfl, K2.out⟩

set_option maxRecDepth 100000 in
set_option maxHeartbeats 4000000 in
theorem treeMark_any {w : World} {G : Nat → Prop} {gT N : Nat} {X : List Th} (h : TreeX w G gT X N) (k0 : Int) (res : Nat) (hb : 0 ≤ k0 ∧ k0 < nls (flat X)) (hres : nlGo (flat X) k0 0 = some res) :
    Calls Try.prog 32 #[.pointer (some ⟨gT, 0, none⟩), .int .i64 k0, .func (.func 33) #[] #[]] w fun e w' => e = .returned (.tuple #[.int .i64 res, .bool true]) ∧ Below w.heap.size w w' := by
  obtain ⟨F, gA, T, s, fr, hG, hS, rfl, hsN⟩ := h
  have HW := Lib.hid (fun (w1 : World) (hb : Below w.heap.size w w1) => hS.tw.below hb)
  have HST := Lib.hid (And.intro hS.holds (And.intro hS.ok hb))
  have hcR := hS.tw.cR
  have HR0 := Lib.hid hres
  have HRB := Lib.hid (show (res : Int) ≤ 100000000000 ∧ nls (flat T.things) ≤ 100000000000 by
    have h1 := (nlGo_spec (flat T.things) k0 0 hb.1 hb.2)
    obtain ⟨j, e1, e2, e3⟩ := h1
    rw [hres] at e1
    have e1 := Option.some.inj e1
    have h2 := (List.getElem?_eq_some_iff.1 e2).1
    have h3 := hS.ok.sum
    have h4 := flatR_len T.things
    rw [← Tr.z_things, Tr.z_eq] at h4
    have h5 := (nls_le (flat T.things)).2
    omega)
  clear hG hS hsN hres hb
  go_enter Try.func32, Try.ntmps32
  go_wp2_with fail
  clear hcR
  go_loopw [1, 6, 8] (fun v1 v6 v8 wr => ∃ (T' : Tr) (a : Int) (m : Nat), v8 = .int .i64 T'.rt ∧ v1 = .int .i64 a ∧ v6 = .int .i64 m ∧ Holds s T' ∧ OkL T'.nodes ∧ (nlGo (flat T'.things) a 0).map (· + m) = some res ∧ (0 ≤ a ∧ a < nls (flat T'.things) ∧ a ≤ 100000000000) ∧ Below w.heap.size w wr) (fun _ _ v8 _ => (hS s (intOf v8)).toNat)
  case atStart => exact ⟨T, k0, 0, rfl, rfl, rfl, HST.out.1, HST.out.2.1, by rw [HR0.out]; rfl, ⟨HST.out.2.2.1, HST.out.2.2.2, by have := HRB.out; have := HST.out.2.2.2; omega⟩, Below.refl _ _⟩
  case round =>
    obtain ⟨T', a, m, rfl, rfl, rfl, hT, ho, hf, hba, hK⟩ := hrel
    cases T' with
    | nil =>
      exfalso
      have e : nls (flat (Tr.nil).things) = 0 := by simp [Tr.things, Tr.nodes, flat, nls]
      rw [e] at hba
      omega
    | nd k u L R =>
      have hLs := Tr.sm (T := L) ho.left
      have hz := hLs.2.1
      have hm0 := hLs.2.2
      have hzt : Sm (sizeT u) := ⟨by unfold sizeT; omega, by have := u.h; unfold sizeT; omega⟩
      have hmt : Sm (marksT u) := by have h1 := nls_le u.l; have h2 := u.h; unfold marksT; exact ⟨h1.1, by omega⟩
      have hth : flat (Tr.nd k u L R).things = flat L.things ++ (u.l ++ flat R.things) := by simp [Tr.things, Tr.nodes, flat]
      have hzf : L.z = ((flat L.things).length : Int) := by rw [Tr.z_things, flatR_len]
      have hmf : L.m = nls (flat L.things) := by rw [Tr.m_things, sumM_flat]
      have HAt := Lib.hid (at_any (HW.out wr hK) hT.1)
      have HTa := Lib.hid (fun (w1 : World) (hb : Below w.heap.size w w1) => totals_any (HW.out w1 hb) hT.2.1.okR)
      rw [hT.2.1.tot.2.1, hT.2.1.tot.2.2] at HTa
      have HM := Lib.hid (fun w1 => measure_any u w1)
      have HH := Lib.hid (show (hS s L.rt).toNat < (hS s (k : Int)).toNat ∧ (hS s R.rt).toNat < (hS s (k : Int)).toNat by
        have e1 := hT.tot.1
        have e2 := hT.2.1.tot.1
        have e3 := hT.2.2.tot.1
        have e1 : hS s (k : Int) = 1 + max L.h R.h := e1
        have a1 := L.h_le
        have a2 := R.h_le
        rw [e1, e2, e3]
        omega)
      obtain ⟨zl, hzl⟩ : ∃ x, L.z = x := ⟨_, rfl⟩
      obtain ⟨ml, hml⟩ : ∃ x, L.m = x := ⟨_, rfl⟩
      obtain ⟨zt, hzt'⟩ : ∃ x, sizeT u = x := ⟨_, rfl⟩
      obtain ⟨mt, hmt'⟩ : ∃ x, marksT u = x := ⟨_, rfl⟩
      have hml0 := (nls_le (flat L.things)).2
      rw [hzl] at hz hzf
      rw [hml] at hm0 hmf
      rw [hzl, hml] at HTa
      rw [hzt'] at HM hzt
      rw [hmt'] at HM hmt
      obtain ⟨z1, z2⟩ := hz
      obtain ⟨m1, m2⟩ := hm0
      obtain ⟨z3, z4⟩ := hzt
      obtain ⟨m3, m4⟩ := hmt
      have hzu : zt = (u.l.length : Int) := hzt'.symm
      have hmu : mt = nls u.l := hmt'.symm
      obtain ⟨n, hn⟩ : ∃ x, topN u L R = x := ⟨_, rfl⟩
      have hnl : n.l = L.rt := by rw [← hn]; rfl
      have hnr : n.r = R.rt := by rw [← hn]; rfl
      have HX := Lib.hid (show n.x = encT u by rw [← hn]; rfl)
      rw [hn] at HAt
      unfold Nd.V at HAt
      have HT := Lib.hid (And.intro hT ho)
      have hk1 : ((k : Int) == -1) = false := by simp
      have hk2 : ((k : Int) != -1) = true := by simp
      have hrt : (Tr.nd k u L R).rt = (k : Int) := rfl
      rw [hrt]
      have HZ := Lib.hid (And.intro hth (And.intro hzf (And.intro hmf (And.intro hzu hmu))))
      have HFA := Lib.hid hf
      obtain ⟨hb0, hb1, hb2⟩ := hba
      have hmr : (m : Int) ≤ res := by
        cases hq : nlGo (flat (Tr.nd k u L R).things) a 0 with
        | none => rw [hq] at hf; cases hf
        | some j => rw [hq] at hf; have hj : j + m = res := Option.some.inj hf; omega
      have HBA := Lib.hid hb1
      have hmr2 := HRB.out.1
      have e1 : decide (0 ≤ a) = true := by simpa using hb0
      have g1 : IntKind.i64.wrap (zl + zt) = zl + zt := IntWalk.i64_in _ (by omega)
      have g2 : IntKind.i64.wrap (a - (ml + mt)) = a - (ml + mt) := IntWalk.i64_in _ (by omega)
      have g3 : IntKind.i64.wrap (a - ml) = a - ml := IntWalk.i64_in _ (by omega)
      have g4 : IntKind.i64.wrap ((m : Int) + zl) = m + zl := IntWalk.i64_in _ (by omega)
      have g5 : IntKind.i64.wrap (ml + mt) = ml + mt := IntWalk.i64_in _ (by omega)
      have g6 : IntKind.i64.wrap ((m : Int) + (zl + zt)) = m + (zl + zt) := IntWalk.i64_in _ (by omega)
      have K1' := Lib.hid hK
      clear hf hT ho hLs hn hzl hml hzt' hmt' hth hzf hmf hzu hmu hK hrt hml0 hb1
      go_wp2_with fail
      refine HAt.out.mono ?_
      rintro e w1 ⟨rfl, hb1⟩
      obtain ⟨b, hb⟩ : ∃ b, w1.heap.size = b := ⟨_, rfl⟩
      obtain ⟨w2, hw2⟩ : ∃ v, w1.alloc (.cells n.C.toArray 103) = v := ⟨_, rfl⟩
      have hk1 := K1'.out.trans (hb1.mono K1'.out.size)
      have N2 := Lib.hid (show NdAt w2 b n by rw [← hw2, ← hb]; exact NdAt.new w1 n)
      have K2 := Lib.hid (show Below w.heap.size w w2 by rw [← hw2]; exact hk1.alloc hk1.size _)
      have HE := Lib.hid (And.intro hw2 hb)
      have hc := N2.out.cL
      rw [hnl] at hc
      clear hb1 hw2 hb HAt hk1
      go_wp2_with (refine wpList_store_row rfl 103 (.tmp 9) (.tmp 27) rfl w1.heap.size n.C.toArray rfl rfl 103 _ (heap_alloc_new w1 _) (nd_info n) (by simp [Nd.C_len]) (all_oneCell_toArray n.C_one) ?_; rw [alloc_setRow, HE.out.1, HE.out.2])
      clear hc
      refine (HTa.out w2 K2.out).mono ?_
      rintro e w3 ⟨rfl, hb3⟩
      have K3 := Lib.hid (K2.out.trans (hb3.mono K2.out.size))
      have N3 := Lib.hid (N2.out.below hb3)
      clear hb3 HTa
      go_wp2_with fail
      refine wp_region_held_drew (S := fun w' => w'.cell? ⟨gT, 0, none⟩ = some (.func (.func 46) #[] #[]) ∧ NdAt w' b n) (by kernel_rfl) ⟨(HW.out w3 K3.out).cM, ⟨N3.out.blk⟩⟩ (fun hHeld => ?_)
      try dsimp only at hHeld
      refine take_at (i := 0) (v := ?_) (some 37) rfl rfl (by kernel_rfl) (by kernel_rfl) (by kernel_rfl) (fun _ _ _ h => h) hHeld (by rfl) (fun wS hSw => ?_) ?_
      rotate_left
      · try dsimp only at hSw
        go_simp
        try with_reducible rfl
      try simp only [Act.put, List.setIfInBounds_toArray, List.set_cons_zero, List.set_cons_succ]
      refine take_at (i := 1) (v := ?_) (some 38) rfl rfl (by kernel_rfl) (by kernel_rfl) (by kernel_rfl) (fun _ _ _ h => h) hHeld (by rfl) (fun wS hSw => ?_) ?_
      rotate_left
      · try dsimp only at hSw
        go_simp
        try with_reducible rfl
      try simp only [Act.put, List.setIfInBounds_toArray, List.set_cons_zero, List.set_cons_succ]
      refine take_at (i := 2) (v := ?_) (some 39) rfl rfl (by kernel_rfl) (by kernel_rfl) (by kernel_rfl) (fun _ _ _ h => h) hHeld (by rfl) (fun wS hSw => ?_) ?_
      rotate_left
      · try dsimp only at hSw
        go_simp
        try with_reducible rfl
      try simp only [Act.put, List.setIfInBounds_toArray, List.set_cons_zero, List.set_cons_succ]
      refine take_at (i := 3) (v := ?_) (some 40) rfl rfl (by kernel_rfl) (by kernel_rfl) (by kernel_rfl) (fun _ _ _ h => h) hHeld (by rfl) (fun wS hSw => ?_) ?_
      rotate_left
      · try dsimp only at hSw
        go_simp
        try with_reducible rfl
      try simp only [Act.put, List.setIfInBounds_toArray, List.set_cons_zero, List.set_cons_succ]
      refine take_at (i := 4) (v := ?_) (some 41) rfl rfl (by kernel_rfl) (by kernel_rfl) (by kernel_rfl) (fun _ _ _ h => h) hHeld (by rfl) (fun wS hSw => ?_) ?_
      rotate_left
      · have hS1 := hSw.1
        try dsimp only at hSw
        go_simp
        try with_reducible rfl
      try simp only [Act.put, List.setIfInBounds_toArray, List.set_cons_zero, List.set_cons_succ]
      refine take_at (i := 5) (v := ?_) (some 42) rfl rfl (by kernel_rfl) (by kernel_rfl) (by kernel_rfl) (fun _ _ _ h => h) hHeld (by rfl) (fun wS hSw => ?_) ?_
      rotate_left
      · try dsimp only at hSw
        go_simp
        try with_reducible rfl
      try simp only [Act.put, List.setIfInBounds_toArray, List.set_cons_zero, List.set_cons_succ]
      refine take_at (i := 6) (v := ?_) (some 43) rfl rfl (by kernel_rfl) (by kernel_rfl) (by kernel_rfl) (fun _ _ _ h => h) hHeld (by rfl) (fun wS hSw => ?_) ?_
      rotate_left
      · refine exec_load_mid 58 (.tmp 42) ?_ b 0 ?_ (encT u) _ (HX.out ▸ hSw.2.x) Try.underlying58 rfl (thing_info u) <;> rfl
      try simp only [Act.put, List.setIfInBounds_toArray, List.set_cons_zero, List.set_cons_succ]
      refine wpAnyH_ready (rs := [7]) (by kernel_rfl) (by simp) ?_
      refine AllReadyH.cons rfl (fun K hK => ?_) AllReadyH.nil
      simp only [List.getElem_toArray, List.getElem_cons_succ, List.getElem_cons_zero]
      go_simp
      refine (HM.out _).mono ?_
      rintro e w4 ⟨rfl, hb4⟩
      have hH4 : w4.cell? ⟨gT, 0, none⟩ = some (.func (.func 46) #[] #[]) ∧ NdAt w4 b n := ⟨cell_later hHeld.1 hb4, hHeld.2.below hb4⟩
      have K4 := Lib.hid (K3.out.drew.trans (hb4.mono K3.out.size))
      clear hb4
      try dsimp only
      have hOld := hHeld
      refine hK.out _ _ hH4 (fun _ => ?_)
      clear hK K
      refine wpAnyH_mono (S2 := fun w' => w'.cell? ⟨gT, 0, none⟩ = some (.func (.func 46) #[] #[]) ∧ NdAt w' b n) (fun _ h => h) _ _ _ _ ?_
      clear hHeld
      have hHeld := hH4
      clear hOld
      try simp only [Act.put, List.setIfInBounds_toArray, List.set_cons_zero, List.set_cons_succ]
      refine take_at (i := 8) (v := ?_) (some 36) rfl rfl (by kernel_rfl) (by kernel_rfl) (by kernel_rfl) (fun _ _ _ h => h) hHeld (by rfl) (fun wS hSw => ?_) ?_
      rotate_left
      · try dsimp only at hSw
        go_simp
        try with_reducible rfl
      try simp only [Act.put, List.setIfInBounds_toArray, List.set_cons_zero, List.set_cons_succ]
      refine take_at (i := 9) (v := ?_) (some 45) rfl rfl (by kernel_rfl) (by kernel_rfl) (by kernel_rfl) (fun _ _ _ h => h) hHeld (by rfl) (fun wS hSw => ?_) ?_
      rotate_left
      · try dsimp only at hSw
        go_simp
        try with_reducible rfl
      try simp only [Act.put, List.setIfInBounds_toArray, List.set_cons_zero, List.set_cons_succ]
      refine take_at (i := 10) (v := ?_) (some 46) rfl rfl (by kernel_rfl) (by kernel_rfl) (by kernel_rfl) (fun _ _ _ h => h) hHeld (by rfl) (fun wS hSw => ?_) ?_
      rotate_left
      · try dsimp only at hSw
        go_simp
        try with_reducible rfl
      try simp only [Act.put, List.setIfInBounds_toArray, List.set_cons_zero, List.set_cons_succ]
      refine take_at (i := 11) (v := ?_) (some 13) rfl rfl (by kernel_rfl) (by kernel_rfl) (by kernel_rfl) (fun _ _ _ h => h) hHeld (by rfl) (fun wS hSw => ?_) ?_
      rotate_left
      · try dsimp only at hSw
        go_simp
        try with_reducible rfl
      try simp only [Act.put, List.setIfInBounds_toArray, List.set_cons_zero, List.set_cons_succ]
      refine take_at (i := 12) (v := ?_) (some 14) rfl rfl (by kernel_rfl) (by kernel_rfl) (by kernel_rfl) (fun _ _ _ h => h) hHeld (by rfl) (fun wS hSw => ?_) ?_
      rotate_left
      · try dsimp only at hSw
        go_simp
        try with_reducible rfl
      try simp only [Act.put, List.setIfInBounds_toArray, List.set_cons_zero, List.set_cons_succ]
      refine wpAnyH_done (by kernel_rfl) ?_ _
      have N4 := Lib.hid hH4.2
      clear hHeld hH4 HM
      have HAP := Lib.hid (nlGo_app (flat L.things) (u.l ++ flat R.things) a hb0)
      by_cases ha : a < ml
      · have hc := N4.out.cL
        rw [hnl] at hc
        have HF2 := Lib.hid (show (nlGo (flat L.things) a 0).map (· + m) = some res by
          have h1 := HFA.out
          rw [HZ.out.1, HAP.out, if_pos (by have := HZ.out.2.2.1; omega)] at h1
          exact h1)
        have HB2 := Lib.hid (show a < nls (flat L.things) by have := HZ.out.2.2.1; omega)
        go_wp2_with fail
        go_roundw
        case rel => exact ⟨L, a, m, rfl, rfl, rfl, HT.out.1.2.1, HT.out.2.left, HF2.out, ⟨hb0, HB2.out, hb2⟩, K4.out⟩
        case measure => exact HH.out.1
      · have HAQ := Lib.hid (nlGo_app u.l (flat R.things) (a - ml) (by omega))
        by_cases hb : a < ml + mt
        · have HC := Lib.hid (fun w1 => offOne_any u.l (a - ml) w1 u.h (by omega) (by have := nls_le u.l; have := u.h; have := HZ.out.2.2.2.2; omega))
          have HF2 := Lib.hid (show (m : Int) + zl + offK u.l (a - ml) = res by
            have h1 := HFA.out
            have h3 := HZ.out.2.2.1
            have h5 := HZ.out.2.2.2.2
            rw [HZ.out.1, HAP.out, if_neg (by omega), ← h3, HAQ.out, if_pos (by omega), Option.map_map] at h1
            unfold offK
            cases hq : nlGo u.l (a - ml) 0 with
            | none => rw [hq] at h1; cases h1
            | some j =>
              rw [hq] at h1
              have h2 := HZ.out.2.1
              have h1 := Option.some.inj h1
              simp only [Function.comp] at h1
              dsimp only
              omega)
          obtain ⟨q, hq⟩ : ∃ q, offK u.l (a - ml) = q := ⟨_, rfl⟩
          rw [hq] at HC HF2
          have g7 : IntKind.i64.wrap ((m : Int) + zl + q) = res := by rw [HF2.out]; exact IntWalk.i64_in _ (by have := HRB.out.1; omega)
          clear hq
          go_wp2_with (refine wpList_load_mid rfl 58 (.tmp 75) rfl b 0 rfl (encT u) _ (HX.out ▸ N4.out.x) Try.underlying58 rfl (thing_info u) ?_)
          refine (HC.out w4).mono ?_
          rintro e w5 ⟨rfl, hb5⟩
          have K5 := Lib.hid (K4.out.trans (hb5.mono K4.out.size))
          clear hb5
          go_wp2_with fail
          go_ret2
          exact ⟨rfl, K5.out⟩
        · have hc := N4.out.cR
          rw [hnr] at hc
          have HF2 := Lib.hid (show (nlGo (flat R.things) (a - (ml + mt)) 0).map (· + (m + (zl + zt).toNat)) = some res by
            have h1 := HFA.out
            have h2 := HZ.out.2.1
            have h3 := HZ.out.2.2.1
            have h4 := HZ.out.2.2.2.1
            have h5 := HZ.out.2.2.2.2
            rw [HZ.out.1, HAP.out, if_neg (by omega), ← h3, HAQ.out, if_neg (by omega), ← h5, Option.map_map, Option.map_map, show a - ml - mt = a - (ml + mt) by omega] at h1
            rw [← h1]
            congr 1
            funext j
            simp only [Function.comp]
            omega)
          have HB2 := Lib.hid (show a - (ml + mt) < nls (flat R.things) by
            have h1 := HBA.out
            rw [HZ.out.1, nls_app, nls_app, ← HZ.out.2.2.1, ← HZ.out.2.2.2.2] at h1
            omega)
          go_wp2_with fail
          go_roundw
          case rel => exact ⟨R, a - (ml + mt), m + (zl + zt).toNat, rfl, rfl, by congr 1; omega, HT.out.1.2.2, HT.out.2.right.tail, HF2.out, ⟨by omega, HB2.out, by omega⟩, K4.out⟩
          case measure => exact HH.out.2

end Go.Proofs.Ytmfkdaannjibfaa
