/-
  Spans: New, At, Over, Count; what Splice asks of its spans (Splice$1, slices.IndexFunc, slices.ContainsFunc).
-/
import Derived.Test.YtbioomilnjikpaaSpPm
import Derived.Test.YtbioomilnjikpaaSpZ1
namespace Go.Proofs.Ytbioomilnjikpaa
open Go.RowKit

/-- Spans behind a pointer: one list, in the blocks H. -/
structure SpS (w : World) (H : Nat → Prop) (g : Nat) (X : List Th) (N : Nat) : Prop where
  ob : ObW w H g X N
  can : Can X
  le : sumT X ≤ 536870912

theorem SpS.below {w w' : World} {H : Nat → Prop} {g N : Nat} {X : List Th} (h : SpS w H g X N) (hb : Below w.heap.size w w') : SpS w' H g X N := ⟨h.ob.below hb, h.can, h.le⟩
theorem SpS.step {G : Nat → Prop} {w w' : World} {H : Nat → Prop} {g N : Nat} {X : List Th} (h : SpS w H g X N) (hs : Step G w w') (hG : ∀ k, H k → ¬ G k) : SpS w' H g X N := ⟨h.ob.step hs hG, h.can, h.le⟩
theorem SpS.more {w : World} {H : Nat → Prop} {g N N' : Nat} {X : List Th} (h : SpS w H g X N) (hN : N ≤ N') : SpS w H g X N' := ⟨h.ob.more hN, h.can, h.le⟩

/-- A call that hands back v, and spans that are these. -/
def SpR (w : World) (H : Nat → Prop) (g : Nat) (X : List Th) (N : Nat) (v : Value) (e : Ending) (w' : World) : Prop := ∃ H', e = .returned v ∧ SpS w' H' g X N ∧ Grow H w w' H'

theorem ObT.tree {w : World} {H : Nat → Prop} {g gT N : Nat} {X : List Th} (h : ObT w H g gT X N) : ∃ G, TreeX w G gT X N := by obtain ⟨-, G, hX, -, -⟩ := h; exact ⟨G, hX⟩

set_option maxHeartbeats 1000000 in
theorem newS_any (w : World) :
    Calls Try.prog 8 #[] w fun e w' => ∃ g, e = .returned (.pointer (some ⟨g, 0, none⟩)) ∧ SpS w' (fun k => k = g) g [] 0 ∧ Below w.heap.size w w' ∧ w.heap.size ≤ g := by
  go_enter Try.func8, Try.ntmps8
  go_wp2_with fail
  obtain ⟨g, hg⟩ : ∃ g, w.heap.size = g := ⟨_, rfl⟩
  have HR := Lib.hid (show SpS (w.alloc (.cells #[.pointer none] 49)) (fun k => k = g) g [] 0 ∧ Below w.heap.size w (w.alloc (.cells #[.pointer none] 49)) from
    ⟨⟨.inl ⟨by rw [← hg]; exact heap_alloc_new w _, rfl, fun _ => Iff.rfl⟩, Can.nil_, by rw [sumT]; omega⟩, (Below.refl _ _).alloc (Nat.le_refl _) _⟩)
  have HG := Lib.hid hg
  rw [hg]
  clear hg
  go_ret
  exact ⟨g, rfl, HR.out.1, by have h1 := HR.out.2; rw [HG.out] at h1; exact h1, Nat.le_refl _⟩

set_option maxHeartbeats 1000000 in
theorem len_any {w : World} {H : Nat → Prop} {g N : Nat} {X : List Th} (h : SpS w H g X N) :
    Calls Try.prog 14 #[.pointer (some ⟨g, 0, none⟩)] w fun e w' => SpR w H g X N (.int .i64 (sumT X)) e w' :=
  (lenO_any h.ob).mono fun _ _ ⟨H', he, hw, hg⟩ => ⟨H', he, ⟨hw, h.can, h.le⟩, hg⟩

set_option maxHeartbeats 1000000 in
theorem countS_any {w : World} {H : Nat → Prop} {g N : Nat} {X : List Th} (h : SpS w H g X N) :
    Calls Try.prog 18 #[.pointer (some ⟨g, 0, none⟩)] w fun e w' => SpR w H g X N (.int .i64 (X.length : Int)) e w' := by
  have HT := Lib.hid (tree_any h.ob)
  have HC := Lib.hid (And.intro h.can h.le)
  clear h
  go_enter Try.func18, Try.ntmps18
  go_wp2_with fail
  refine HT.out.mono ?_
  rintro e w1 ⟨H1, gT, rfl, hT, hg⟩
  have HT1 := Lib.hid hT
  obtain ⟨-, G, ⟨F, gA, T, s, fr, hG, hS, hX, hN⟩, -, -⟩ := hT
  have hcnt : (s.length : Int) - fr.length = X.length := by
    have h1 := hS.live.count hS.ok.nodup hS.tw.ok
    rw [ids, List.length_map] at h1
    rw [← hX, Tr.things_len]
    omega
  have HS := Lib.hid (count_any hS.tw)
  rw [hcnt] at HS
  have HG := Lib.hid hg
  clear hG hS hX hN hg HT hcnt
  go_wp2_with fail
  refine HS.out.mono ?_
  rintro e w2 ⟨rfl, hb2⟩
  have HR := Lib.hid (And.intro (HT1.out.below hb2).obW (HG.out.to hb2))
  clear hb2
  go_wp2_with fail
  go_ret
  exact ⟨H1, rfl, ⟨HR.out.1, HC.out.1, HC.out.2⟩, HR.out.2⟩

/-- The number at a place. -/
def atV (X : List Th) (i : Int) : Value :=
  match findT X i with
  | some p => .tuple #[.int .i64 p.1.id, .int .i64 0]
  | none => .tuple #[.int .i64 0, .int .i64 5]

set_option maxRecDepth 100000 in
set_option maxHeartbeats 1000000 in
theorem at_any' {w : World} {H : Nat → Prop} {g N : Nat} {X : List Th} (h : SpS w H g X N) (i : Int) (hi : -9223372036854775808 ≤ i ∧ i ≤ 9223372036854775807) :
    Calls Try.prog 12 #[.pointer (some ⟨g, 0, none⟩), .int .i64 i] w fun e w' => SpR w H g X N (atV X i) e w' := by
  have HT := Lib.hid (tree_any h.ob)
  have HC := Lib.hid (And.intro h.can h.le)
  have HF := Lib.hid (fun (w1 : World) (G : Nat → Prop) (gT : Nat) (hX : TreeX w1 G gT X N) => find_any hX i hi)
  clear h hi
  rcases hf : findT X i with _ | ⟨⟨pn, pid⟩, o⟩
  · rw [show atV X i = .tuple #[.int .i64 0, .int .i64 5] by unfold atV; rw [hf]]
    rw [show findV X i = .tuple #[.agg #[.int .i64 0, .int .i64 0], .int .i64 0, .bool false] by unfold findV; rw [hf]] at HF
    clear hf
    go_enter Try.func12, Try.ntmps12
    go_wp2_with fail
    refine HT.out.mono ?_
    rintro e w1 ⟨H1, gT, rfl, hT, hg⟩
    obtain ⟨G, hX⟩ := hT.tree
    have HF := Lib.hid (HF.out w1 G gT hX)
    have HR1 := Lib.hid (And.intro hT hg)
    clear hT hg HT hX
    go_wp2_with fail
    refine HF.out.mono ?_
    rintro e w2 ⟨rfl, hb2⟩
    have HR := Lib.hid (And.intro (HR1.out.1.below hb2).obW (HR1.out.2.to hb2))
    clear hb2 HF
    go_wp2_with fail
    go_ret2
    exact ⟨H1, rfl, ⟨HR.out.1.below ((Below.refl _ _).alloc (Nat.le_refl _) _), HC.out.1, HC.out.2⟩, HR.out.2.to ((Below.refl _ _).alloc (Nat.le_refl _) _)⟩
  · rw [show atV X i = .tuple #[.int .i64 pid, .int .i64 0] by unfold atV; rw [hf]]
    rw [show findV X i = .tuple #[.agg #[.int .i64 pn, .int .i64 pid], .int .i64 o, .bool true] by unfold findV; rw [hf]; rfl] at HF
    clear hf
    go_enter Try.func12, Try.ntmps12
    go_wp2_with fail
    refine HT.out.mono ?_
    rintro e w1 ⟨H1, gT, rfl, hT, hg⟩
    obtain ⟨G, hX⟩ := hT.tree
    have HF := Lib.hid (HF.out w1 G gT hX)
    have HR1 := Lib.hid (And.intro hT hg)
    clear hT hg HT hX
    go_wp2_with fail
    refine HF.out.mono ?_
    rintro e w2 ⟨rfl, hb2⟩
    have HR := Lib.hid (And.intro (HR1.out.1.below hb2).obW (HR1.out.2.to hb2))
    clear hb2 HF
    go_wp2_with fail
    go_ret2
    exact ⟨H1, rfl, ⟨HR.out.1.below ((Below.refl _ _).alloc (Nat.le_refl _) _), HC.out.1, HC.out.2⟩, HR.out.2.to ((Below.refl _ _).alloc (Nat.le_refl _) _)⟩

/-- What Over hands back. -/
def OverR (w : World) (H : Nat → Prop) (g : Nat) (X : List Th) (N : Nat) (b : Int) (P : List Th) (e : Ending) (w' : World) : Prop :=
  ∃ v xs, e = .returned (.tuple #[v, .int .i64 b]) ∧ OwnT w' w.heap.size v xs ∧ (b = 0 → xs = P) ∧ (b ≠ 0 → v = .slice none 0 0 ∧ xs = []) ∧ ∃ H', SpS w' H' g X N ∧ Grow H w w' H' ∧ Off v H'

set_option maxRecDepth 100000 in
set_option maxHeartbeats 1000000 in
theorem overS_any {w : World} {H : Nat → Prop} {g N : Nat} {X : List Th} (h : SpS w H g X N) (i j : Int) :
    Calls Try.prog 11 #[.pointer (some ⟨g, 0, none⟩), .int .i64 i, .int .i64 j] w fun e w' => OverR w H g X N (betE X i j) (overT X i j) e w' := by
  have HB := Lib.hid (between_any h.ob i j)
  have HC := Lib.hid (And.intro h.can h.le)
  have hbe : betE X i j = 0 ∨ betE X i j = 5 := by unfold betE; split; exact .inl rfl; exact .inr rfl
  have HIJ := Lib.hid (show betE X i j = 0 → 0 ≤ i ∧ i ≤ 1000000000000 ∧ -1000000000000 ≤ j ∧ j ≤ 1000000000000 by unfold betE; intro e; split at e; have := h.le; omega; cases e)
  obtain ⟨b, hb⟩ : ∃ b, betE X i j = b := ⟨_, rfl⟩
  rw [hb] at HB HIJ hbe ⊢
  clear h hb
  go_enter Try.func11, Try.ntmps11
  go_wp2_with fail
  refine HB.out.mono ?_
  rintro e w1 ⟨H1, rfl, hW, hg⟩
  have HW := Lib.hid (And.intro hW hg)
  clear hW hg HB
  rcases hbe with rfl | rfl
  · have HJ := Lib.hid (HIJ.out rfl)
    have HT := Lib.hid (tree_any HW.out.1)
    go_wp2_with fail
    refine HT.out.mono ?_
    rintro e w2 ⟨H2, gT, rfl, hT, hg⟩
    have HR2 := Lib.hid (And.intro hT (HW.out.2.trans hg))
    have HO := Lib.hid (overF_any gT i j w2)
    clear hT hg HT
    go_wp2_with fail
    refine HO.out.mono ?_
    rintro e w3 ⟨bb, rfl, hov, hb3, hbb⟩
    have HT3 := Lib.hid (HR2.out.1.below hb3)
    obtain ⟨G, hX⟩ := HT3.out.tree
    have HCo := Lib.hid (collect_any hX hov HJ.out.1 HJ.out.2.1 HJ.out.2.2.1 HJ.out.2.2.2)
    clear hX
    have HB3 := Lib.hid hb3
    clear hov hb3 hbb HO
    go_wp2_with fail
    refine HCo.out.mono ?_
    rintro e w4 ⟨v, rfl, hown, hb4⟩
    have hgr : Grow H w w4 H2 := (HR2.out.2.to HB3.out).to hb4
    have HR := Lib.hid (show ∃ v' xs, v = v' ∧ OwnT w4 w.heap.size v' xs ∧ (True → xs = overT X i j) ∧ ((0 : Int) ≠ 0 → v' = .slice none 0 0 ∧ xs = []) ∧ ∃ H', SpS w4 H' g X N ∧ Grow H w w4 H' ∧ Off v' H' from
      ⟨v, _, rfl, own_lower hown (by have := (HR2.out.2.to HB3.out).step.size; exact this), fun _ => rfl, fun e => absurd rfl e, H2, ⟨(HT3.out.below hb4).obW, HC.out.1, HC.out.2⟩, hgr, fun k hk hF => by have h1 := HT3.out.obW.lt k hF; have h2 := own_base hown hk; omega⟩)
    clear hown hb4 hgr HCo
    go_wp2_with fail
    go_ret2
    obtain ⟨v', xs, rfl, hr⟩ := HR.out
    exact ⟨v, xs, rfl, hr.1, fun _ => hr.2.1 trivial, hr.2.2.1, hr.2.2.2⟩
  · have HR := Lib.hid (show OwnT w1 w.heap.size (.slice none 0 0) [] ∧ SpS w1 H1 g X N ∧ Grow H w w1 H1 from ⟨⟨rfl, .inl ⟨rfl, rfl⟩⟩, ⟨HW.out.1, HC.out.1, HC.out.2⟩, HW.out.2⟩)
    go_wp2_with fail
    go_ret2
    exact ⟨.slice none 0 0, [], rfl, HR.out.1, (fun e => by cases e), fun _ => ⟨rfl, rfl⟩, H1, HR.out.2.1, HR.out.2.2, Off.nil_ _⟩

end Go.Proofs.Ytbioomilnjikpaa
