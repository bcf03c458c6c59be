/-
  The thing that holds a tree behind a pointer (a tree that is made when it is wanted first): tree, Len, between.
-/
import Derived.Test.YtbioomilnjikpaaSpY9
import Derived.Test.YtbioomilnjikpaaSpU
namespace Go.Proofs.Ytbioomilnjikpaa
open Go.RowKit

/-- It has a tree, at gT. -/
def ObT (w : World) (H : Nat → Prop) (g gT : Nat) (X : List Th) (N : Nat) : Prop :=
  w.heap[g]? = some (.cells #[.pointer (some ⟨gT, 0, none⟩)] 49) ∧ ∃ G, TreeX w G gT X N ∧ ¬ G g ∧ ∀ k, H k ↔ k = g ∨ G k
/-- It holds these things, in the blocks H; N: how many places its arena has. -/
def ObW (w : World) (H : Nat → Prop) (g : Nat) (X : List Th) (N : Nat) : Prop :=
  (w.heap[g]? = some (.cells #[.pointer none] 49) ∧ X = [] ∧ ∀ k, H k ↔ k = g) ∨ ∃ gT, ObT w H g gT X N

section
variable {w w' : World} {H H' : Nat → Prop} {g gT N N' : Nat} {X : List Th}
theorem ObT.obW (h : ObT w H g gT X N) : ObW w H g X N := .inr ⟨gT, h⟩
theorem TreeX.more (h : TreeX w H gT X N) (hN : N ≤ N') : TreeX w H gT X N' := by
  obtain ⟨F, gA, T, s, fr, hG, hS, hX, hs⟩ := h
  exact ⟨F, gA, T, s, fr, hG, hS, hX, Nat.le_trans hs hN⟩
theorem ObT.more (h : ObT w H g gT X N) (hN : N ≤ N') : ObT w H g gT X N' := by
  obtain ⟨hq, G, hT, h1, h2⟩ := h
  exact ⟨hq, G, hT.more hN, h1, h2⟩
theorem ObW.more (h : ObW w H g X N) (hN : N ≤ N') : ObW w H g X N' := by
  rcases h with h | ⟨gT, h⟩
  · exact .inl h
  · exact .inr ⟨gT, h.more hN⟩
theorem TreeX.step {G : Nat → Prop} (h : TreeX w H gT X N) (hs : Step G w w') (hG : ∀ k, H k → ¬ G k) : TreeX w' H gT X N := by
  obtain ⟨F, gA, T, s, fr, hH, hS, hX, hN⟩ := h
  exact ⟨F, gA, T, s, fr, hH, ⟨hS.tw.step hs (fun k hk => hG k ((hH k).2 (.inl hk))) (hG gT ((hH gT).2 (.inr rfl))), hS.holds, hS.ok, hS.live⟩, hX, hN⟩
theorem ObT.step {G : Nat → Prop} (h : ObT w H g gT X N) (hs : Step G w w') (hG : ∀ k, H k → ¬ G k) : ObT w' H g gT X N := by
  obtain ⟨hq, G', hT, h1, h2⟩ := h
  exact ⟨(hs.block g (Array.getElem?_eq_some_iff.1 hq).1 (hG g ((h2 g).2 (.inl rfl)))).trans hq, G', hT.step hs (fun k hk => hG k ((h2 k).2 (.inr hk))), h1, h2⟩
theorem ObW.step {G : Nat → Prop} (h : ObW w H g X N) (hs : Step G w w') (hG : ∀ k, H k → ¬ G k) : ObW w' H g X N := by
  rcases h with ⟨hq, hX, h2⟩ | ⟨gT, h⟩
  · exact .inl ⟨(hs.block g (Array.getElem?_eq_some_iff.1 hq).1 (hG g ((h2 g).2 rfl))).trans hq, hX, h2⟩
  · exact .inr ⟨gT, h.step hs hG⟩
theorem ObW.below (h : ObW w H g X N) (hb : Below w.heap.size w w') : ObW w' H g X N := h.step (Step.of_below hb fun _ => False) (fun _ _ h => h)
theorem ObT.below (h : ObT w H g gT X N) (hb : Below w.heap.size w w') : ObT w' H g gT X N := h.step (Step.of_below hb fun _ => False) (fun _ _ h => h)
theorem ObW.lt (h : ObW w H g X N) : ∀ k, H k → k < w.heap.size := by
  intro k hk
  rcases h with ⟨hq, _, h2⟩ | ⟨gT, hq, G, hT, _, h2⟩
  · rw [(h2 k).1 hk]; exact (Array.getElem?_eq_some_iff.1 hq).1
  · rcases (h2 k).1 hk with e | e
    · rw [e]; exact (Array.getElem?_eq_some_iff.1 hq).1
    · exact hT.lt k e
theorem ObW.own (h : ObW w H g X N) : H g := by
  rcases h with ⟨_, _, h2⟩ | ⟨gT, _, _, _, _, h2⟩
  · exact (h2 g).2 rfl
  · exact (h2 g).2 (.inl rfl)
theorem ObW.okX (h : ObW w H g X N) : (∀ x ∈ X, okT x) ∧ X.length ≤ 100000 ∧ sumT X ≤ 100000000000 := by
  rcases h with ⟨_, rfl, _⟩ | ⟨gT, _, _, hT, _⟩
  · exact ⟨(fun _ h => nomatch h), Nat.zero_le _, by rw [sumT]; omega⟩
  · exact hT.okX
/-- What a call that changes nothing but it leaves. -/
theorem Grow.wide {F F' H H' : Nat → Prop} (h : Grow F w w' F') (h1 : ∀ k, F k → H k) (h2 : ∀ k, H' k → H k ∨ F' k) : Grow H w w' H' :=
  ⟨h.step.mono (fun k _ hk => h1 k hk), fun k hk => by
    rcases h2 k hk with e | e
    · exact .inl e
    · rcases h.new k e with e | e
      · exact .inl (h1 k e)
      · exact .inr e⟩
end

set_option maxRecDepth 100000 in
set_option maxHeartbeats 1000000 in
theorem tree_any {w : World} {H : Nat → Prop} {g N : Nat} {X : List Th} (h : ObW w H g X N) :
    Calls Try.prog 25 #[.pointer (some ⟨g, 0, none⟩)] w fun e w' => ∃ H' gT, e = .returned (.pointer (some ⟨gT, 0, none⟩)) ∧ ObT w' H' g gT X N ∧ Grow H w w' H' := by
  rcases h with ⟨hq, rfl, h2⟩ | ⟨gT, hT⟩
  · have hc : w.cell? ⟨g, 0, none⟩ = some (.pointer none) := by rw [cell_of_row w g 0 _ _ _ hq]; rfl
    have HQ := Lib.hid (And.intro hq h2)
    have HN := Lib.hid (newT_any w)
    clear hq h2
    go_enter Try.func25, Try.ntmps25
    go_wp2_with fail
    refine HN.out.mono ?_
    rintro e w1 ⟨F, gT, gA, rfl, hT, hb, hF, hgT⟩
    have hq1 := heap_later HQ.out.1 hb
    have hgl := (Array.getElem?_eq_some_iff.1 HQ.out.1).1
    have hc1 : w1.cell? ⟨g, 0, none⟩ = some (.pointer none) := by rw [cell_of_row w1 g 0 _ _ _ hq1]; rfl
    have hf1 : w1.frozen? ⟨g, 0, none⟩ = false := frozen_of_row w1 g 0 _ _ hq1
    have hst : Step (fun k => k = g) w1 (w1.setCell ⟨g, 0, none⟩ (.pointer (some ⟨gT, 0, none⟩))) := (Step.refl (fun k => k = g) w1).setCell (p := ⟨g, 0, none⟩) (.inl rfl) _
    have hq2 : (w1.setCell ⟨g, 0, none⟩ (.pointer (some ⟨gT, 0, none⟩))).heap[g]? = some (.cells #[.pointer (some ⟨gT, 0, none⟩)] 49) := by rw [heap_setCell_same w1 g 0 _ _ _ hq1]; rfl
    have hc2 : (w1.setCell ⟨g, 0, none⟩ (.pointer (some ⟨gT, 0, none⟩))).cell? ⟨g, 0, none⟩ = some (.pointer (some ⟨gT, 0, none⟩)) := by rw [cell_of_row _ g 0 _ _ _ hq2]; rfl
    have hTX : TreeX (w1.setCell ⟨g, 0, none⟩ (.pointer (some ⟨gT, 0, none⟩))) (fun k => F k ∨ k = gT) gT [] N :=
      ⟨F, gA, .nil, [], [], fun _ => Iff.rfl, ⟨hT.step hst (fun k hk e => by have := hF k hk; have e : k = g := e; omega) (fun e => by have e : gT = g := e; omega), trivial, ⟨by simp [Tr.nodes, ids], (fun _ h => nomatch h), by simp [Tr.nodes, sumZ], by simp [Tr.nodes]⟩, fun k => by simp [Tr.nodes, ids, gt]⟩, rfl, Nat.zero_le _⟩
    have HR := Lib.hid (show ObT (w1.setCell ⟨g, 0, none⟩ (.pointer (some ⟨gT, 0, none⟩))) (fun k => k = g ∨ (F k ∨ k = gT)) g gT [] N ∧ Grow H w (w1.setCell ⟨g, 0, none⟩ (.pointer (some ⟨gT, 0, none⟩))) (fun k => k = g ∨ (F k ∨ k = gT)) from
      ⟨⟨hq2, _, hTX, fun e => by rcases e with e | e; have := hF g e; omega; omega, fun _ => Iff.rfl⟩,
       ⟨((Step.of_below hb H).trans (hst.mono (fun k _ hk => (HQ.out.2 k).2 hk))), fun k hk => by
        rcases hk with e | e | e
        · exact .inl ((HQ.out.2 k).2 e)
        · exact .inr (hF k e)
        · exact .inr (e ▸ hgT)⟩⟩)
    clear hT hb hF hgT hq1 hgl hst hq2 hTX hc
    go_wp2_with fail
    go_ret
    exact ⟨_, gT, rfl, HR.out.1, HR.out.2⟩
  · obtain ⟨hq, hrest⟩ := hT
    have hc : w.cell? ⟨g, 0, none⟩ = some (.pointer (some ⟨gT, 0, none⟩)) := by rw [cell_of_row w g 0 _ _ _ hq]; rfl
    have HQ := Lib.hid (show ObT w H g gT X N from ⟨hq, hrest⟩)
    clear hq hrest
    go_enter Try.func25, Try.ntmps25
    go_wp2_with fail
    go_ret
    exact ⟨H, gT, rfl, HQ.out, Grow.refl _ _⟩

set_option maxRecDepth 100000 in
set_option maxHeartbeats 1000000 in
theorem lenO_any {w : World} {H : Nat → Prop} {g N : Nat} {X : List Th} (h : ObW w H g X N) :
    Calls Try.prog 14 #[.pointer (some ⟨g, 0, none⟩)] w fun e w' => ∃ H', e = .returned (.int .i64 (sumT X)) ∧ ObW w' H' g X N ∧ Grow H w w' H' := by
  have HT := Lib.hid (tree_any h)
  clear h
  go_enter Try.func14, Try.ntmps14
  go_wp2_with fail
  refine HT.out.mono ?_
  rintro e w1 ⟨H1, gT, rfl, hT, hg⟩
  have HT1 := Lib.hid hT
  obtain ⟨-, G, ⟨F, gA, T, s, fr, hG, hS, hX, hN⟩, -, -⟩ := hT
  have HS := Lib.hid (size_any hS.tw hS.holds)
  rw [Tr.z_things, hX] at HS
  have HG := Lib.hid hg
  clear hG hS hX hN hg HT
  go_wp2_with fail
  refine HS.out.mono ?_
  rintro e w2 ⟨rfl, hb2⟩
  have HR := Lib.hid (And.intro (HT1.out.below hb2).obW (HG.out.to hb2))
  clear hb2
  go_wp2_with fail
  go_ret
  exact ⟨H1, rfl, HR.out.1, HR.out.2⟩

/-- A call that hands back v and leaves the things as they were. -/
def ObR (w : World) (H : Nat → Prop) (g : Nat) (X : List Th) (N : Nat) (v : Value) (e : Ending) (w' : World) : Prop := ∃ H', e = .returned v ∧ ObW w' H' g X N ∧ Grow H w w' H'

/-- Why i to j is no part of them. -/
def betE (X : List Th) (i j : Int) : Int := if 0 ≤ i ∧ i ≤ j ∧ j ≤ sumT X then 0 else 5

set_option maxRecDepth 100000 in
set_option maxHeartbeats 1000000 in
theorem between_any {w : World} {H : Nat → Prop} {g N : Nat} {X : List Th} (h : ObW w H g X N) (i j : Int) :
    Calls Try.prog 24 #[.pointer (some ⟨g, 0, none⟩), .int .i64 i, .int .i64 j] w fun e w' => ObR w H g X N (.int .i64 (betE X i j)) e w' := by
  have HL := Lib.hid (lenO_any h)
  have HW := Lib.hid h
  clear h
  by_cases h1 : i < 0
  · have HE := Lib.hid (show betE X i j = 5 by unfold betE; rw [if_neg (by omega)])
    go_enter Try.func24, Try.ntmps24
    go_wp2_with fail
    go_ret
    exact ⟨H, by rw [HE.out]; rfl, HW.out, Grow.refl _ _⟩
  · by_cases h2 : j < i
    · have HE := Lib.hid (show betE X i j = 5 by unfold betE; rw [if_neg (by omega)])
      go_enter Try.func24, Try.ntmps24
      go_wp2_with fail
      go_ret
      exact ⟨H, by rw [HE.out]; rfl, HW.out, Grow.refl _ _⟩
    · obtain ⟨z, hz⟩ : ∃ z, sumT X = z := ⟨_, rfl⟩
      have HE := Lib.hid (show betE X i j = if j ≤ z then 0 else 5 by
        unfold betE
        rw [hz]
        by_cases h3 : j ≤ z
        · rw [if_pos ⟨by omega, by omega, h3⟩, if_pos h3]
        · rw [if_neg (by omega), if_neg h3])
      rw [hz] at HL
      clear hz
      go_enter Try.func24, Try.ntmps24
      go_wp2_with fail
      refine HL.out.mono ?_
      rintro e w1 ⟨H1, rfl, hW, hg⟩
      have HR := Lib.hid (And.intro hW hg)
      clear hW hg
      by_cases h3 : j ≤ z
      · go_wp2_with fail
        go_ret
        exact ⟨H1, by rw [HE.out, if_pos h3]; rfl, HR.out.1, HR.out.2⟩
      · go_wp2_with fail
        go_ret
        exact ⟨H1, by rw [HE.out, if_neg (by omega)]; rfl, HR.out.1, HR.out.2⟩

end Go.Proofs.Ytbioomilnjikpaa
