/-
  Spans: New, Len, Count, At, Over, Splice.
-/
import Derived.Test.YtbioomilnjikpaaSpPm
import Derived.Test.YtbioomilnjikpaaSpZ1
namespace Go.Proofs.Ytbioomilnjikpaa
open Go.RowKit

/-- Spans behind a pointer: one list, in the blocks H. -/
structure SpS (w : World) (H : Nat → Prop) (g : Nat) (X : List Th) (N : Nat) : Prop where
  ob : ObW w H g X N
  can : Can X
  le : sumT X ≤ 536870912

theorem SpS.below {w w' : World} {H : Nat → Prop} {g N : Nat} {X : List Th} (h : SpS w H g X N) (hb : Below w.heap.size w w') : SpS w' H g X N := ⟨h.ob.below hb, h.can, h.le⟩
theorem SpS.step {G : Nat → Prop} {w w' : World} {H : Nat → Prop} {g N : Nat} {X : List Th} (h : SpS w H g X N) (hs : Step G w w') (hG : ∀ k, H k → ¬ G k) : SpS w' H g X N := ⟨h.ob.step hs hG, h.can, h.le⟩
theorem SpS.more {w : World} {H : Nat → Prop} {g N N' : Nat} {X : List Th} (h : SpS w H g X N) (hN : N ≤ N') : SpS w H g X N' := ⟨h.ob.more hN, h.can, h.le⟩

/-- A call that hands back v, and spans that are these. -/
def SpR (w : World) (H : Nat → Prop) (g : Nat) (X : List Th) (N : Nat) (v : Value) (e : Ending) (w' : World) : Prop := ∃ H', e = .returned v ∧ SpS w' H' g X N ∧ Grow H w w' H'

theorem ObT.tree {w : World} {H : Nat → Prop} {g gT N : Nat} {X : List Th} (h : ObT w H g gT X N) : ∃ G, TreeX w G gT X N := by obtain ⟨-, G, hX, -, -⟩ := h; exact ⟨G, hX⟩

set_option maxHeartbeats 1000000 in
theorem newS_any (w : World) :
    Calls Try.prog 8 #[] w fun e w' => ∃ g, e = .returned (.pointer (some ⟨g, 0, none⟩)) ∧ SpS w' (fun k => k = g) g [] 0 ∧ Below w.heap.size w w' ∧ w.heap.size ≤ g := by
  go_enter Try.func8, Try.ntmps8
  go_wp2_with fail
  obtain ⟨g, hg⟩ : ∃ g, w.heap.size = g := ⟨_, rfl⟩
  have HR := Lib.hid (show SpS (w.alloc (.cells #[.pointer none] 49)) (fun k => k = g) g [] 0 ∧ Below w.heap.size w (w.alloc (.cells #[.pointer none] 49)) from
    ⟨⟨.inl ⟨by rw [← hg]; exact heap_alloc_new w _, rfl, fun _ => Iff.rfl⟩, Can.nil_, by rw [sumT]; omega⟩, (Below.refl _ _).alloc (Nat.le_refl _) _⟩)
  have HG := Lib.hid hg
  rw [hg]
  clear hg
  go_ret
  exact ⟨g, rfl, HR.out.1, by have h1 := HR.out.2; rw [HG.out] at h1; exact h1, Nat.le_refl _⟩

set_option maxHeartbeats 1000000 in
theorem len_any {w : World} {H : Nat → Prop} {g N : Nat} {X : List Th} (h : SpS w H g X N) :
    Calls Try.prog 14 #[.pointer (some ⟨g, 0, none⟩)] w fun e w' => SpR w H g X N (.int .i64 (sumT X)) e w' :=
  (lenO_any h.ob).mono fun _ _ ⟨H', he, hw, hg⟩ => ⟨H', he, ⟨hw, h.can, h.le⟩, hg⟩

set_option maxHeartbeats 1000000 in
theorem countS_any {w : World} {H : Nat → Prop} {g N : Nat} {X : List Th} (h : SpS w H g X N) :
    Calls Try.prog 18 #[.pointer (some ⟨g, 0, none⟩)] w fun e w' => SpR w H g X N (.int .i64 (X.length : Int)) e w' := by
  have HT := Lib.hid (tree_any h.ob)
  have HC := Lib.hid (And.intro h.can h.le)
  clear h
  go_enter Try.func18, Try.ntmps18
  go_wp2_with fail
  refine HT.out.mono ?_
  rintro e w1 ⟨H1, gT, rfl, hT, hg⟩
  have HT1 := Lib.hid hT
  obtain ⟨-, G, ⟨F, gA, T, s, fr, hG, hS, hX, hN⟩, -, -⟩ := hT
  have hcnt : (s.length : Int) - fr.length = X.length := by
    have h1 := hS.live.count hS.ok.nodup hS.tw.ok
    rw [ids, List.length_map] at h1
    rw [← hX, Tr.things_len]
    omega
  have HS := Lib.hid (count_any hS.tw)
  rw [hcnt] at HS
  have HG := Lib.hid hg
  clear hG hS hX hN hg HT hcnt
  go_wp2_with fail
  refine HS.out.mono ?_
  rintro e w2 ⟨rfl, hb2⟩
  have HR := Lib.hid (And.intro (HT1.out.below hb2).obW (HG.out.to hb2))
  clear hb2
  go_wp2_with fail
  go_ret
  exact ⟨H1, rfl, ⟨HR.out.1, HC.out.1, HC.out.2⟩, HR.out.2⟩

/-- The number at a place. -/
def atV (X : List Th) (i : Int) : Value :=
  match findT X i with
  | some p => .tuple #[.int .i64 p.1.id, .int .i64 0]
  | none => .tuple #[.int .i64 0, .int .i64 5]

set_option maxRecDepth 100000 in
set_option maxHeartbeats 1000000 in
theorem at_any' {w : World} {H : Nat → Prop} {g N : Nat} {X : List Th} (h : SpS w H g X N) (i : Int) (hi : -9223372036854775808 ≤ i ∧ i ≤ 9223372036854775807) :
    Calls Try.prog 12 #[.pointer (some ⟨g, 0, none⟩), .int .i64 i] w fun e w' => SpR w H g X N (atV X i) e w' := by
  have HT := Lib.hid (tree_any h.ob)
  have HC := Lib.hid (And.intro h.can h.le)
  have HF := Lib.hid (fun (w1 : World) (G : Nat → Prop) (gT : Nat) (hX : TreeX w1 G gT X N) => find_any hX i hi)
  clear h hi
  rcases hf : findT X i with _ | ⟨⟨pn, pid⟩, o⟩
  · rw [show atV X i = .tuple #[.int .i64 0, .int .i64 5] by unfold atV; rw [hf]]
    rw [show findV X i = .tuple #[.agg #[.int .i64 0, .int .i64 0], .int .i64 0, .bool false] by unfold findV; rw [hf]] at HF
    clear hf
    go_enter Try.func12, Try.ntmps12
    go_wp2_with fail
    refine HT.out.mono ?_
    rintro e w1 ⟨H1, gT, rfl, hT, hg⟩
    obtain ⟨G, hX⟩ := hT.tree
    have HF := Lib.hid (HF.out w1 G gT hX)
    have HR1 := Lib.hid (And.intro hT hg)
    clear hT hg HT hX
    go_wp2_with fail
    refine HF.out.mono ?_
    rintro e w2 ⟨rfl, hb2⟩
    have HR := Lib.hid (And.intro (HR1.out.1.below hb2).obW (HR1.out.2.to hb2))
    clear hb2 HF
    go_wp2_with fail
    go_ret2
    exact ⟨H1, rfl, ⟨HR.out.1.below ((Below.refl _ _).alloc (Nat.le_refl _) _), HC.out.1, HC.out.2⟩, HR.out.2.to ((Below.refl _ _).alloc (Nat.le_refl _) _)⟩
  · rw [show atV X i = .tuple #[.int .i64 pid, .int .i64 0] by unfold atV; rw [hf]]
    rw [show findV X i = .tuple #[.agg #[.int .i64 pn, .int .i64 pid], .int .i64 o, .bool true] by unfold findV; rw [hf]; rfl] at HF
    clear hf
    go_enter Try.func12, Try.ntmps12
    go_wp2_with fail
    refine HT.out.mono ?_
    rintro e w1 ⟨H1, gT, rfl, hT, hg⟩
    obtain ⟨G, hX⟩ := hT.tree
    have HF := Lib.hid (HF.out w1 G gT hX)
    have HR1 := Lib.hid (And.intro hT hg)
    clear hT hg HT hX
    go_wp2_with fail
    refine HF.out.mono ?_
    rintro e w2 ⟨rfl, hb2⟩
    have HR := Lib.hid (And.intro (HR1.out.1.below hb2).obW (HR1.out.2.to hb2))
    clear hb2 HF
    go_wp2_with fail
    go_ret2
    exact ⟨H1, rfl, ⟨HR.out.1.below ((Below.refl _ _).alloc (Nat.le_refl _) _), HC.out.1, HC.out.2⟩, HR.out.2.to ((Below.refl _ _).alloc (Nat.le_refl _) _)⟩

/-- What Over hands back. -/
def OverR (w : World) (H : Nat → Prop) (g : Nat) (X : List Th) (N : Nat) (b : Int) (P : List Th) (e : Ending) (w' : World) : Prop :=
  ∃ v xs, e = .returned (.tuple #[v, .int .i64 b]) ∧ OwnT w' w.heap.size v xs ∧ (b = 0 → xs = P) ∧ (b ≠ 0 → v = .slice none 0 0 ∧ xs = []) ∧ ∃ H', SpS w' H' g X N ∧ Grow H w w' H' ∧ Off v H'

set_option maxRecDepth 100000 in
set_option maxHeartbeats 1000000 in
theorem overS_any {w : World} {H : Nat → Prop} {g N : Nat} {X : List Th} (h : SpS w H g X N) (i j : Int) :
    Calls Try.prog 11 #[.pointer (some ⟨g, 0, none⟩), .int .i64 i, .int .i64 j] w fun e w' => OverR w H g X N (betE X i j) (overT X i j) e w' := by
  have HB := Lib.hid (between_any h.ob i j)
  have HC := Lib.hid (And.intro h.can h.le)
  have hbe : betE X i j = 0 ∨ betE X i j = 5 := by unfold betE; split; exact .inl rfl; exact .inr rfl
  have HIJ := Lib.hid (show betE X i j = 0 → 0 ≤ i ∧ i ≤ 1000000000000 ∧ -1000000000000 ≤ j ∧ j ≤ 1000000000000 by unfold betE; intro e; split at e; have := h.le; omega; cases e)
  obtain ⟨b, hb⟩ : ∃ b, betE X i j = b := ⟨_, rfl⟩
  rw [hb] at HB HIJ hbe ⊢
  clear h hb
  go_enter Try.func11, Try.ntmps11
  go_wp2_with fail
  refine HB.out.mono ?_
  rintro e w1 ⟨H1, rfl, hW, hg⟩
  have HW := Lib.hid (And.intro hW hg)
  clear hW hg HB
  rcases hbe with rfl | rfl
  · have HJ := Lib.hid (HIJ.out rfl)
    have HT := Lib.hid (tree_any HW.out.1)
    go_wp2_with fail
    refine HT.out.mono ?_
    rintro e w2 ⟨H2, gT, rfl, hT, hg⟩
    have HR2 := Lib.hid (And.intro hT (HW.out.2.trans hg))
    have HO := Lib.hid (overF_any gT i j w2)
    clear hT hg HT
    go_wp2_with fail
    refine HO.out.mono ?_
    rintro e w3 ⟨bb, rfl, hov, hb3, hbb⟩
    have HT3 := Lib.hid (HR2.out.1.below hb3)
    obtain ⟨G, hX⟩ := HT3.out.tree
    have HCo := Lib.hid (collect_any hX hov HJ.out.1 HJ.out.2.1 HJ.out.2.2.1 HJ.out.2.2.2)
    clear hX
    have HB3 := Lib.hid hb3
    clear hov hb3 hbb HO
    go_wp2_with fail
    refine HCo.out.mono ?_
    rintro e w4 ⟨v, rfl, hown, hb4⟩
    have hgr : Grow H w w4 H2 := (HR2.out.2.to HB3.out).to hb4
    have HR := Lib.hid (show ∃ v' xs, v = v' ∧ OwnT w4 w.heap.size v' xs ∧ (True → xs = overT X i j) ∧ ((0 : Int) ≠ 0 → v' = .slice none 0 0 ∧ xs = []) ∧ ∃ H', SpS w4 H' g X N ∧ Grow H w w4 H' ∧ Off v' H' from
      ⟨v, _, rfl, own_lower hown (by have := (HR2.out.2.to HB3.out).step.size; exact this), fun _ => rfl, fun e => absurd rfl e, H2, ⟨(HT3.out.below hb4).obW, HC.out.1, HC.out.2⟩, hgr, fun k hk hF => by have h1 := HT3.out.obW.lt k hF; have h2 := own_base hown hk; omega⟩)
    clear hown hb4 hgr HCo
    go_wp2_with fail
    go_ret2
    obtain ⟨v', xs, rfl, hr⟩ := HR.out
    exact ⟨v, xs, rfl, hr.1, fun _ => hr.2.1 trivial, hr.2.2.1, hr.2.2.2⟩
  · have HR := Lib.hid (show OwnT w1 w.heap.size (.slice none 0 0) [] ∧ SpS w1 H1 g X N ∧ Grow H w w1 H1 from ⟨⟨rfl, .inl ⟨rfl, rfl⟩⟩, ⟨HW.out.1, HC.out.1, HC.out.2⟩, HW.out.2⟩)
    go_wp2_with fail
    go_ret2
    exact ⟨.slice none 0 0, [], rfl, HR.out.1, (fun e => by cases e), fun _ => ⟨rfl, rfl⟩, H1, HR.out.2.1, HR.out.2.2, Off.nil_ _⟩

/-- A span that may not be. -/
def badX (x : Th) : Bool := decide (x.n < 0) || decide (x.id < 0)
def badL (l : List Th) : Bool := l.any badX

set_option maxHeartbeats 1000000 in
theorem badX_any (x : Th) (w : World) : Calls Try.prog 23 #[thV x] w fun e w' => e = .returned (.bool (badX x)) ∧ Below w.heap.size w w' := by
  unfold thV
  obtain ⟨n, id⟩ := x
  dsimp only
  by_cases h1 : n < 0
  · have HE := Lib.hid (show badX ⟨n, id⟩ = true by simp [badX, h1])
    go_enter Try.func23, Try.ntmps23
    go_wp2
    go_ret
    exact ⟨by rw [HE.out]; rfl, (Below.refl _ _).alloc (Nat.le_refl _) _⟩
  · by_cases h2 : id < 0
    · have HE := Lib.hid (show badX ⟨n, id⟩ = true by simp [badX, h2])
      go_enter Try.func23, Try.ntmps23
      go_wp2
      go_ret
      exact ⟨by rw [HE.out]; rfl, (Below.refl _ _).alloc (Nat.le_refl _) _⟩
    · have HE := Lib.hid (show badX ⟨n, id⟩ = false by simp [badX]; omega)
      go_enter Try.func23, Try.ntmps23
      go_wp2
      go_ret
      exact ⟨by rw [HE.out]; rfl, (Below.refl _ _).alloc (Nat.le_refl _) _⟩

/-- The place of the first one that may not be. -/
def IndexR (w : World) (l : List Th) (e : Ending) (w' : World) : Prop := ∃ r : Int, e = .returned (.int .i64 r) ∧ (decide (0 ≤ r) = badL l) ∧ Below w.heap.size w w'

set_option maxRecDepth 100000 in
set_option maxHeartbeats 1000000 in
theorem index_any {w : World} {B c : Nat} {A : Option Addr} {l : List Th} (hl : Sees w B 2 A l.length (rowT l)) (hB : B ≤ w.heap.size) (hc : l.length ≤ c) (hn : l.length ≤ 1000000) :
    Calls Try.prog 35 #[.slice A l.length c, .func (.func 23) #[] #[]] w fun e w' => IndexR w l e w' := by
  have HL := Lib.hid (fun (w1 : World) (hb : Below w.heap.size w w1) => hl.below hb hB)
  obtain ⟨nl, hnl⟩ : ∃ n, l.length = n := ⟨_, rfl⟩
  have HN := Lib.hid hnl
  rw [hnl] at HL hc hn ⊢
  have h0 : (nl : Int) ≤ 1000000 := by omega
  clear hl hnl
  go_enter Try.func35, Try.ntmps35
  go_wp2_with fail
  go_loopw [8] (fun v8 wr => ∃ k : Nat, k ≤ nl ∧ v8 = .int .i64 k ∧ (∀ x ∈ l.take k, badX x = false) ∧ Below w.heap.size w wr) (fun v8 _ => nl - (intOf v8).toNat)
  case atStart => exact ⟨0, Nat.zero_le _, rfl, (fun _ h => nomatch h), Below.refl _ _⟩
  case round =>
    obtain ⟨k, hk, rfl, hno, hb⟩ := hrel
    by_cases hlt : k < nl
    · have hkI : (k : Int) < nl := by omega
      obtain ⟨x, hx⟩ : ∃ x, l[k]? = some x := ⟨_, List.getElem?_eq_getElem (by rw [HN.out]; exact hlt)⟩
      obtain ⟨-, b, o, rfl, hbB, hr⟩ := (HL.out wr hb).thing hx
      have HX := Lib.hid (And.intro hx hno)
      have HRx := Lib.hid hr
      have HBX := Lib.hid (badX_any x wr)
      have HK := Lib.hid hb
      clear hx hr hno hb
      go_wp2_with (refine wpList_load_mid rfl 34 (.tmp 14) rfl b (o + k * 2) rfl (encT x) _ HRx.out Try.underlying34 rfl (thing_info x) ?_)
      refine HBX.out.mono ?_
      rintro e w1 ⟨rfl, hb1⟩
      have HK1 := Lib.hid (HK.out.trans (hb1.mono HK.out.size))
      clear hb1 HBX
      cases hbx : badX x with
      | true =>
        have HR := Lib.hid (show badL l = true from by unfold badL; rw [List.any_eq_true]; exact ⟨x, List.mem_of_getElem? HX.out.1, hbx⟩)
        clear hbx
        go_wp2_with fail
        go_ret
        exact ⟨(k : Int), rfl, by rw [HR.out]; simp, HK1.out⟩
      | false =>
        have HR := Lib.hid (show ∀ y ∈ l.take (k + 1), badX y = false from fun y hy => by
          rw [List.take_add_one, HX.out.1] at hy
          rcases List.mem_append.1 hy with e | e
          · exact HX.out.2 y e
          · have e : y = x := by simpa using e
            rw [e]; exact hbx)
        clear hbx
        go_wp2_with fail
        go_roundw
        case rel => exact ⟨k + 1, by omega, by go_num, HR.out, HK1.out⟩
        case measure => simp [intOf]; omega
    · obtain rfl : k = nl := by omega
      have HR := Lib.hid (show badL l = false from by
        unfold badL
        rw [List.any_eq_false]
        intro x hx
        have h1 := hno x (by rw [List.take_of_length_le (by rw [HN.out]; exact Nat.le_refl _)]; exact hx)
        rw [h1]
        decide)
      have HK := Lib.hid hb
      clear hno hb
      go_wp2_with fail
      go_ret
      exact ⟨-1, rfl, by rw [HR.out]; rfl, HK.out⟩

set_option maxHeartbeats 1000000 in
theorem contains_any {w : World} {B c : Nat} {A : Option Addr} {l : List Th} (hl : Sees w B 2 A l.length (rowT l)) (hB : B ≤ w.heap.size) (hc : l.length ≤ c) (hn : l.length ≤ 1000000) :
    Calls Try.prog 22 #[.slice A l.length c, .func (.func 23) #[] #[]] w fun e w' => e = .returned (.bool (badL l)) ∧ Below w.heap.size w w' := by
  have HI := Lib.hid (index_any hl hB hc hn)
  clear hl hc hn
  go_enter Try.func22, Try.ntmps22
  go_wp2_with fail
  refine HI.out.mono ?_
  rintro e w1 ⟨r, rfl, hr, hb⟩
  have HR := Lib.hid (And.intro hr hb)
  clear hr hb
  go_wp2_with fail
  go_ret
  exact ⟨by rw [← HR.out.1]; rfl, HR.out.2⟩

theorem Sees.step {w w' : World} {B size n : Nat} {A : Option Addr} {xs : List Value} {H : Nat → Prop} (h : Sees w B size A n xs) (hs : Step H w w') (hB : B ≤ w.heap.size) (ho : 0 < n → ∀ b o, A = some ⟨b, o, none⟩ → ¬ H b) : Sees w' B size A n xs :=
  ⟨h.1, fun hn => by
    obtain ⟨b, o, hA, hb, hc⟩ := h.2 hn
    refine ⟨b, o, hA, hb, fun j u hu => ?_⟩
    exact (World.cell?_of_block (w := w) (a := ⟨b, o + j, none⟩) (hs.block b (by omega) (ho hn b o hA))).trans (hc j u hu)⟩
theorem off_grow {w w' : World} {B size n : Nat} {A : Option Addr} {xs : List Value} {H H' : Nat → Prop} (h : Sees w B size A n xs) (hg : Grow H w w' H') (hB : B ≤ w.heap.size) (ho : 0 < n → ∀ b o, A = some ⟨b, o, none⟩ → ¬ H b) : 0 < n → ∀ b o, A = some ⟨b, o, none⟩ → ¬ H' b := fun hn b o e h' => by
  rcases hg.new b h' with h1 | h1
  · exact ho hn b o e h1
  · obtain ⟨b2, o2, hA, hb, _⟩ := h.2 hn
    rw [hA] at e
    simp only [Option.some.injEq, Addr.mk.injEq] at e
    omega

/-- What Splice answers; what there is behind it. -/
def spE (X : List Th) (i j : Int) (l : List Th) : Int := if badL l = true then 3 else if betE X i j = 0 then (if sumT l ≤ 536870912 - sumT X + j - i then 0 else 8) else 5
def spX (X : List Th) (i j : Int) (l : List Th) : List Th := if spE X i j l = 0 then replT X i j l else X

theorem not_bad {l : List Th} (h : badL l = false) : ∀ x ∈ l, 0 ≤ x.n ∧ 0 ≤ x.id := fun x hx => by
  have h1 := List.any_eq_false.1 h x hx
  simp [badX] at h1
  exact h1
theorem betE_zero {X : List Th} {i j : Int} (h : betE X i j = 0) : 0 ≤ i ∧ i ≤ j ∧ j ≤ sumT X := by
  unfold betE at h
  split at h
  · assumption
  · cases h
theorem betE_or (X : List Th) (i j : Int) : betE X i j = 0 ∨ betE X i j = 5 := by unfold betE; split; exact .inl rfl; exact .inr rfl
theorem spX_no {X : List Th} {i j : Int} {l : List Th} (h : spE X i j l ≠ 0) : spX X i j l = X := by unfold spX; rw [if_neg h]
theorem sumT_pos {l : List Th} (h : ∀ x ∈ l, 0 ≤ x.n) : 0 ≤ sumT l := by
  induction l with
  | nil => exact Int.le_refl 0
  | cons x l ih =>
    have h1 := ih (fun y hy => h y (by simp [hy]))
    have h2 := h x (by simp)
    rw [sumT]; unfold sizeT; omega
theorem sumT_mem {l : List Th} (h : ∀ x ∈ l, 0 ≤ x.n) {x : Th} (hx : x ∈ l) : x.n ≤ sumT l := by
  induction l with
  | nil => cases hx
  | cons y l ih =>
    have h1 := sumT_pos (fun y hy => h y (by simp [hy]) : ∀ y ∈ l, 0 ≤ y.n)
    have h2 := h y (by simp)
    rw [sumT]; unfold sizeT
    rcases List.mem_cons.1 hx with e | e
    · rw [e]; omega
    · have := ih (fun y hy => h y (by simp [hy])) e; omega

set_option maxRecDepth 100000 in
set_option maxHeartbeats 4000000 in
theorem splice_any {w : World} {H : Nat → Prop} {g N : Nat} {X : List Th} (h : SpS w H g X N) {B c : Nat} {A : Option Addr} {l : List Th} (hl : Sees w B 2 A l.length (rowT l)) (hB : B ≤ w.heap.size) (hA : 0 < l.length → ∀ b o, A = some ⟨b, o, none⟩ → ¬ H b) (hc : l.length ≤ c) (i j : Int) (hn : l.length ≤ 70000) (hN : N ≤ 79998) (hX : X.length + l.length + 2 ≤ 80000) :
    Calls Try.prog 10 #[.pointer (some ⟨g, 0, none⟩), .int .i64 i, .int .i64 j, .slice A l.length c] w fun e w' => SpR w H g (spX X i j l) (max (N + 2) (spX X i j l).length) (.int .i64 (spE X i j l)) e w' := by
  have HCo := Lib.hid (contains_any hl hB hc (by omega))
  have hokX := h.ob.okX
  have HS := Lib.hid h
  have HL := Lib.hid (fun (H1 : Nat → Prop) (w1 : World) (hg : Grow H w w1 H1) => And.intro (hl.step hg.step hB hA) (off_grow hl hg hB hA))
  have hzX : 0 ≤ sumT X := sumT_nonneg hokX.1
  have HXX := Lib.hid hokX
  have HZ := Lib.hid (And.intro hzX h.le)
  have hsz : B ≤ w.heap.size := hB
  obtain ⟨nl, hnl⟩ : ∃ n, l.length = n := ⟨_, rfl⟩
  have HN := Lib.hid hnl
  rw [hnl] at HCo HL hc hn hX ⊢
  have h0 : (nl : Int) ≤ 70000 := by omega
  clear h hl hA hnl hokX hzX
  cases hbad : badL l with
  | true =>
    have HE := Lib.hid (show spE X i j l = 3 by unfold spE; rw [if_pos hbad])
    have HX' := Lib.hid (show spX X i j l = X from spX_no (by rw [HE.out]; decide))
    rw [hbad] at HCo
    clear hbad
    rw [HE.out, HX'.out]
    go_enter Try.func10, Try.ntmps10
    go_wp2_with fail
    refine HCo.out.mono ?_
    rintro e w1 ⟨rfl, hb1⟩
    have HR := Lib.hid hb1
    clear hb1
    go_wp2_with fail
    go_ret
    exact ⟨H, rfl, (HS.out.below HR.out).more (by omega), Grow.of_below HR.out⟩
  | false =>
    have hpos := not_bad hbad
    have hE : spE X i j l = if betE X i j = 0 then (if sumT l ≤ 536870912 - sumT X + j - i then 0 else 8) else 5 := by unfold spE; rw [if_neg (by rw [hbad]; decide)]
    rw [hbad] at HCo
    have HP := Lib.hid hpos
    rcases betE_or X i j with hb | hb
    · obtain ⟨i0, i1, i2⟩ := betE_zero hb
      rw [hb, if_pos rfl] at hE
      obtain ⟨z, hz⟩ : ∃ z, sumT X = z := ⟨_, rfl⟩
      have HZZ := Lib.hid hz
      rw [hz] at hE HZ i2
      have hz0 := HZ.out.1
      have hz1 := HZ.out.2
      have HE := Lib.hid hE
      have HB := Lib.hid hb
      have g1 : IntKind.i64.wrap (536870912 - z) = 536870912 - z := IntWalk.i64_in _ (by omega)
      have g2 : IntKind.i64.wrap (536870912 - z + j) = 536870912 - z + j := IntWalk.i64_in _ (by omega)
      have g3 : IntKind.i64.wrap (536870912 - z + j - i) = 536870912 - z + j - i := IntWalk.i64_in _ (by omega)
      clear hE hb hbad hpos hz
      go_enter Try.func10, Try.ntmps10
      go_wp2_with fail
      refine HCo.out.mono ?_
      clear HCo
      rintro e w1 ⟨rfl, hb1⟩
      have HW1 := Lib.hid (And.intro (HS.out.below hb1) (Grow.of_below (F := H) hb1))
      have HBt := Lib.hid (between_any HW1.out.1.ob i j)
      rw [HB.out] at HBt
      clear hb1
      go_wp2_with fail
      refine HBt.out.mono ?_
      clear HBt
      rintro e w2 ⟨H2, rfl, hW2, hg2⟩
      have HW2 := Lib.hid (show SpS w2 H2 g X N ∧ Grow H w w2 H2 from ⟨⟨hW2, HS.out.can, HS.out.le⟩, HW1.out.2.trans hg2⟩)
      have HLe := Lib.hid (len_any HW2.out.1)
      rw [HZZ.out] at HLe
      clear hW2 hg2
      go_wp2_with fail
      refine HLe.out.mono ?_
      clear HLe
      rintro e w3 ⟨H3, rfl, hW3, hg3⟩
      have HW3 := Lib.hid (And.intro hW3 (HW2.out.2.trans hg3))
      clear hW3 hg3
      go_wp2_with fail
      obtain ⟨left, hleft⟩ : ∃ x, 536870912 - z + j - i = x := ⟨_, rfl⟩
      have HLF := Lib.hid hleft
      have hl0 : 0 ≤ left := by omega
      have hl1 : left ≤ 536870912 := by omega
      rw [hleft] at g3 ⊢
      clear hleft
      go_loopw [10, 33] (fun v10 v33 wr => ∃ k : Nat, k ≤ nl ∧ v33 = .int .i64 k ∧ v10 = .int .i64 (left - sumT (l.take k)) ∧ sumT (l.take k) ≤ left ∧ Below w3.heap.size w3 wr) (fun _ v33 _ => nl - (intOf v33).toNat)
      case atStart => exact ⟨0, Nat.zero_le _, rfl, by rw [List.take_zero, sumT]; simp, by rw [List.take_zero, sumT]; exact hl0, Below.refl _ _⟩
      case round =>
        obtain ⟨k, hk, rfl, rfl, hsk, hbk⟩ := hrel
        by_cases hlt : k < nl
        · have hkI : (k : Int) < nl := by omega
          obtain ⟨x, hx⟩ : ∃ x, l[k]? = some x := ⟨_, List.getElem?_eq_getElem (by rw [HN.out]; exact hlt)⟩
          have hpx := (HP.out x (List.mem_of_getElem? hx)).1
          have hsx : sumT (l.take (k + 1)) = sumT (l.take k) + x.n := by rw [List.take_add_one, hx, sumT_append]; show _ + sumT [x] = _; rw [sumT, sumT]; unfold sizeT; omega
          have hsp := sumT_pos (fun y hy => (HP.out y (List.mem_of_mem_take hy)).1 : ∀ y ∈ l.take k, 0 ≤ y.n)
          obtain ⟨sk, hsk'⟩ : ∃ s, sumT (l.take k) = s := ⟨_, rfl⟩
          rw [hsk'] at hsk hsx hsp ⊢
          obtain ⟨-, b, o, rfl, hbB, hr⟩ := Sees.thing (((HL.out H3 w3 HW3.out.2).1).below hbk (by have := HW3.out.2.step.size; omega)) hx
          have HRx := Lib.hid hr
          have HX := Lib.hid hx
          have HSX := Lib.hid hsx
          have HK := Lib.hid hbk
          obtain ⟨bx, hbx⟩ : ∃ v, wr.heap.size = v := ⟨_, rfl⟩
          obtain ⟨xn, hxn⟩ : ∃ v, x.n = v := ⟨_, rfl⟩
          obtain ⟨w4, hw4⟩ : ∃ v, wr.alloc (.cells (encT x).toArray 34) = v := ⟨_, rfl⟩
          have hq4 : w4.heap[bx]? = some (.cells (encT x).toArray 34) := by rw [← hw4, ← hbx]; exact heap_alloc_new wr _
          have hc4 : w4.cell? ⟨bx, 0, none⟩ = some (.int .i64 xn) := by rw [cell_of_row w4 bx 0 _ _ _ hq4, ← hxn]; rfl
          have HK4 := Lib.hid (show Below w3.heap.size w3 w4 by rw [← hw4]; exact hbk.alloc hbk.size _)
          have HE4 := Lib.hid (And.intro hw4 (And.intro hbx hxn))
          rw [hxn] at hpx
          clear hsx hr hx hbk hbx hw4 hq4 hsk' hxn
          by_cases hgt : left - sk < xn
          · have HR := Lib.hid (show spE X i j l = 8 by
              rw [HE.out, HLF.out, if_neg]
              have e1 : sumT l = sumT (l.take (k + 1)) + sumT (l.drop (k + 1)) := by rw [← sumT_append, List.take_append_drop]
              have e2 := sumT_pos (fun y hy => (HP.out y (List.mem_of_mem_drop hy)).1 : ∀ y ∈ l.drop (k + 1), 0 ≤ y.n)
              have e3 := HSX.out
              have e4 := HE4.out.2.2
              omega)
            have HX' := Lib.hid (show spX X i j l = X from spX_no (by rw [HR.out]; decide))
            go_wp2_with (first
              | (refine wpList_load_mid rfl 34 (.tmp 35) rfl b (o + k * 2) rfl (encT x) _ HRx.out Try.underlying34 rfl (thing_info x) ?_)
              | (refine wpList_store_row rfl 34 (.tmp 12) (.tmp 36) rfl wr.heap.size (encT x).toArray rfl rfl 34 _ (heap_alloc_new wr _) (by rw [List.size_toArray]; exact thing_info _) (by rfl) (all_oneCell_toArray (encT_one _)) ?_; rw [alloc_setRow, HE4.out.1, HE4.out.2.1]))
            go_ret
            exact ⟨H3, by rw [HR.out]; rfl, by rw [HX'.out]; exact (HW3.out.1.below HK4.out).more (by omega), HW3.out.2.to HK4.out⟩
          · have g4 : IntKind.i64.wrap (left - sk - xn) = left - sk - xn := IntWalk.i64_in _ (by omega)
            go_wp2_with (first
              | (refine wpList_load_mid rfl 34 (.tmp 35) rfl b (o + k * 2) rfl (encT x) _ HRx.out Try.underlying34 rfl (thing_info x) ?_)
              | (refine wpList_store_row rfl 34 (.tmp 12) (.tmp 36) rfl wr.heap.size (encT x).toArray rfl rfl 34 _ (heap_alloc_new wr _) (by rw [List.size_toArray]; exact thing_info _) (by rfl) (all_oneCell_toArray (encT_one _)) ?_; rw [alloc_setRow, HE4.out.1, HE4.out.2.1]))
            go_roundw
            case rel => exact ⟨k + 1, by omega, by go_num, by rw [HSX.out, HE4.out.2.2]; congr 1; omega, by rw [HSX.out, HE4.out.2.2]; omega, HK4.out⟩
            case measure => simp [intOf]; omega
        · obtain rfl : k = nl := by omega
          have hta : l.take k = l := List.take_of_length_le (by rw [HN.out]; exact Nat.le_refl _)
          rw [hta] at hsk
          have HR := Lib.hid (show spE X i j l = 0 by rw [HE.out, HLF.out, if_pos hsk])
          have HX' := Lib.hid (show spX X i j l = replT X i j l by unfold spX; rw [if_pos HR.out])
          have hW4 := HW3.out.1.below hbk
          have hg4 := HW3.out.2.to hbk
          have HTr := Lib.hid (tree_any hW4.ob)
          have hlo : ∀ x ∈ l, okT x := fun x hx => by
            have h1 := HP.out x hx
            have h2 := sumT_mem (fun y hy => (HP.out y hy).1) hx
            exact ⟨h1.1, by omega⟩
          have HSU := Lib.hid (And.intro hsk hlo)
          have HG4 := Lib.hid hg4
          clear hta hsk hbk hW4 hg4 hlo
          go_wp2_with fail
          refine HTr.out.mono ?_
          clear HTr
          rintro e w5 ⟨H5, gT, rfl, hT5, hg5⟩
          have hg50 := HG4.out.trans hg5
          obtain ⟨hq5, G5, hX5, hn5, hH5⟩ := hT5
          have hL5 := HL.out H5 w5 hg50
          have hlen : (replT X i j l).length ≤ 80000 := by
            have h1 := repl_len HS.out.can HXX.out.1 HSU.out.2 i0 i1 (by rw [HZZ.out]; exact i2) (by rw [HZZ.out]; have := HSU.out.1; have := HLF.out; omega)
            rw [HN.out] at h1
            omega
          have HRp := Lib.hid (replace_any hX5 (c := c) (by rw [HN.out]; exact hL5.1) (by have := hg50.step.size; omega) (by rw [HN.out]; exact hc) (fun h0 b o e hb => hL5.2 (by rw [← HN.out]; exact h0) b o e ((hH5 b).2 (.inr hb))) HSU.out.2 i0 i1 (by rw [HZZ.out]; exact i2) (by have := HS.out.le; omega) (by rw [HZZ.out]; have := HSU.out.1; have := HLF.out; omega) hN hlen (by rw [HN.out]; omega))
          rw [HN.out] at HRp
          have H5' := Lib.hid (And.intro hq5 (And.intro hn5 (And.intro hH5 (And.intro hg50 hX5.lt))))
          clear hg5 hg50 hq5 hX5 hn5 hH5 hL5 hlen
          go_wp2_with fail
          refine HRp.out.mono ?_
          clear HRp
          rintro e w6 ⟨G6, ⟨v6, rfl⟩, hX6, hg6⟩
          have HF := Lib.hid (show SpR w H g (spX X i j l) (max (N + 2) (spX X i j l).length) (.int .i64 (spE X i j l)) (.returned (.int .i64 0)) w6 from by
            obtain ⟨hq5, hn5, hH5, hg50, hlt5⟩ := H5'.out
            have hgl := (Array.getElem?_eq_some_iff.1 hq5).1
            have hcn := repl_can (l := l) HS.out.can HXX.out.1 HP.out i0 i1
            have hsm := (repl_facts HXX.out.1 HSU.out.2 i0 i1 (by rw [HZZ.out]; exact i2) (by rw [HZZ.out]; have := HSU.out.1; have := HLF.out; omega)).2.2.2.2.1
            rw [HX'.out]
            refine ⟨fun k => k = g ∨ G6 k, by rw [HR.out], ⟨.inr ⟨gT, (hg6.step.block g hgl hn5).trans hq5, G6, hX6, fun e => ?_, fun _ => Iff.rfl⟩, hcn.1, ?_⟩, hg50.trans (hg6.wide (fun k hk => (hH5 k).2 (.inr hk)) (fun k hk => ?_))⟩
            · rcases hg6.new g e with e | e
              · exact hn5 e
              · omega
            · rw [replT_eq, sumT_append, sumT_append, hsm, HZZ.out]; have := HSU.out.1; have := HLF.out; omega
            · rcases hk with e | e
              · exact .inl ((hH5 k).2 (.inl e))
              · exact .inr e)
          clear hX6 hg6
          go_wp2_with fail
          go_ret
          exact HF.out
    · rw [hb, if_neg (by decide)] at hE
      have HE := Lib.hid hE
      have HB := Lib.hid hb
      have HX' := Lib.hid (show spX X i j l = X from spX_no (by rw [HE.out]; decide))
      rw [HE.out, HX'.out]
      clear hE hb hbad hpos
      go_enter Try.func10, Try.ntmps10
      go_wp2_with fail
      refine HCo.out.mono ?_
      clear HCo
      rintro e w1 ⟨rfl, hb1⟩
      have HW1 := Lib.hid (And.intro (HS.out.below hb1) (Grow.of_below (F := H) hb1))
      have HBt := Lib.hid (between_any HW1.out.1.ob i j)
      rw [HB.out] at HBt
      clear hb1
      go_wp2_with fail
      refine HBt.out.mono ?_
      clear HBt
      rintro e w2 ⟨H2, rfl, hW2, hg2⟩
      have HW2 := Lib.hid (show SpS w2 H2 g X N ∧ Grow H w w2 H2 from ⟨⟨hW2, HS.out.can, HS.out.le⟩, HW1.out.2.trans hg2⟩)
      clear hW2 hg2
      go_wp2_with fail
      go_ret
      exact ⟨H2, rfl, HW2.out.1.more (by omega), HW2.out.2⟩

end Go.Proofs.Ytbioomilnjikpaa
