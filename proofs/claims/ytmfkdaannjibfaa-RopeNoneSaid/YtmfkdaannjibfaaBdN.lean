/-
  Several texts in one: RoRp, RoDe, Star, GrowI, Mark, RoSl.
-/
import Derived.OrdersIn
import Derived.RangeFuncCalls
import Derived.Test.YtmfkdaannjibfaaBdM

namespace Go.Proofs.Ytmfkdaannjibfaa
open Go.RowKit

theorem ObT.tree {w : World} {H : Nat → Prop} {g gT N : Nat} {X : List Th} (h : ObT w H g gT X N) : ∃ G, TreeX w G gT X N := by obtain ⟨-, G, hX, -, -⟩ := h; exact ⟨G, hX⟩

/-- A rope of the runes R, in the blocks H; N: how many chunks, and places, it has at most. -/
def RoS (w : World) (H : Nat → Prop) (g : Nat) (R : List Int) (N : Nat) : Prop := ∃ X, ObW w H g X N ∧ flat X = R ∧ X.length ≤ N

section
variable {w w' : World} {H G : Nat → Prop} {g N N' : Nat} {R : List Int}
theorem RoS.below (h : RoS w H g R N) (hb : Below w.heap.size w w') : RoS w' H g R N := by obtain ⟨X, h1, h2⟩ := h; exact ⟨X, h1.below hb, h2⟩
theorem RoS.step (h : RoS w H g R N) (hs : Step G w w') (hG : ∀ k, H k → ¬ G k) : RoS w' H g R N := by obtain ⟨X, h1, h2⟩ := h; exact ⟨X, h1.step hs hG, h2⟩
theorem RoS.more (h : RoS w H g R N) (hN : N ≤ N') : RoS w H g R N' := by obtain ⟨X, h1, h2, h3⟩ := h; exact ⟨X, h1.more hN, h2, by omega⟩
theorem RoS.lt (h : RoS w H g R N) : ∀ k, H k → k < w.heap.size := by obtain ⟨X, h1, h2⟩ := h; exact h1.lt
theorem RoS.len (h : RoS w H g R N) : R.length ≤ 3200000 ∧ R.length ≤ 32 * N := by
  obtain ⟨X, h1, rfl, h2⟩ := h
  have := flat_le X
  have := h1.okX.2.1
  omega
end
/-- A call that hands back v, and a rope that is this one. -/
def RoR (w : World) (H : Nat → Prop) (g : Nat) (R : List Int) (N : Nat) (v : Value) (e : Ending) (w' : World) : Prop := ∃ H', e = .returned v ∧ RoS w' H' g R N ∧ Grow H w w' H'

/-- Why i to j is no part. -/
def betR (R : List Int) (i j : Int) : Int := if 0 ≤ i ∧ i ≤ j ∧ j ≤ R.length then 0 else 5
theorem betR_of (X : List Th) (i j : Int) : betE X i j = betR (flat X) i j := by unfold betE betR; rw [flatR_len]
theorem betR_or (R : List Int) (i j : Int) : betR R i j = 0 ∨ betR R i j = 5 := by unfold betR; split; exact .inl rfl; exact .inr rfl
theorem betR_zero {R : List Int} {i j : Int} (h : betR R i j = 0) : 0 ≤ i ∧ i ≤ j ∧ j ≤ R.length := by
  unfold betR at h
  split at h
  · assumption
  · cases h

set_option maxHeartbeats 1000000 in
theorem newR_any (w : World) :
    Calls Try.prog 9 #[] w fun e w' => ∃ g, e = .returned (.pointer (some ⟨g, 0, none⟩)) ∧ RoS w' (fun k => k = g) g [] 0 ∧ Below w.heap.size w w' ∧ w.heap.size ≤ g := by
  go_enter Try.func9, Try.ntmps9
  go_wp2_with fail
  obtain ⟨g, hg⟩ : ∃ g, w.heap.size = g := ⟨_, rfl⟩
  have HR := Lib.hid (show RoS (w.alloc (.cells #[.pointer none] 50)) (fun k => k = g) g [] 0 ∧ Below w.heap.size w (w.alloc (.cells #[.pointer none] 50)) from
    ⟨⟨[], .inl ⟨by rw [← hg]; exact heap_alloc_new w _, rfl, fun _ => Iff.rfl⟩, rfl, Nat.le_refl _⟩, (Below.refl _ _).alloc (Nat.le_refl _) _⟩)
  have HG := Lib.hid hg
  rw [hg]
  clear hg
  go_ret
  exact ⟨g, rfl, HR.out.1, by have h1 := HR.out.2; rw [HG.out] at h1; exact h1, Nat.le_refl _⟩

section
variable {w : World} {H : Nat → Prop} {g N : Nat} {R : List Int}
theorem lenR_any (h : RoS w H g R N) : Calls Try.prog 11 #[.pointer (some ⟨g, 0, none⟩)] w fun e w' => RoR w H g R N (.int .i64 R.length) e w' := by
  obtain ⟨X, hX, rfl, hl⟩ := h
  refine (lenO_any hX).mono ?_
  rintro e w' ⟨H', rfl, hO, hg⟩
  exact ⟨H', by rw [flatR_len], ⟨X, hO, rfl, hl⟩, hg⟩
theorem betweenR_any (h : RoS w H g R N) (i j : Int) : Calls Try.prog 27 #[.pointer (some ⟨g, 0, none⟩), .int .i64 i, .int .i64 j] w fun e w' => RoR w H g R N (.int .i64 (betR R i j)) e w' := by
  obtain ⟨X, hX, rfl, hl⟩ := h
  refine (between_any hX i j).mono ?_
  rintro e w' ⟨H', rfl, hO, hg⟩
  exact ⟨H', by rw [betR_of], ⟨X, hO, rfl, hl⟩, hg⟩

set_option maxRecDepth 100000 in
set_option maxHeartbeats 1000000 in
theorem newlinesR_any (h : RoS w H g R N) : Calls Try.prog 14 #[.pointer (some ⟨g, 0, none⟩)] w fun e w' => RoR w H g R N (.int .i64 (nls R)) e w' := by
  obtain ⟨X, hX, rfl, hl⟩ := h
  have HT := Lib.hid (tree_any hX)
  have HL := Lib.hid hl
  clear hX hl
  go_enter Try.func14, Try.ntmps14
  go_wp2_with fail
  refine HT.out.mono ?_
  rintro e w1 ⟨H1, gT, rfl, hT, hg⟩
  obtain ⟨G, hX⟩ := hT.tree
  have HR1 := Lib.hid (And.intro hT hg)
  obtain ⟨F, gA, T, s, fr, hG, hS, hXX, hN⟩ := hX
  have HS := Lib.hid (marks_any hS.tw hS.holds)
  rw [Tr.m_things, sumM_flat, hXX] at HS
  clear hG hS hXX hN hT hg HT
  go_wp2_with fail
  refine HS.out.mono ?_
  rintro e w2 ⟨rfl, hb2⟩
  have HR := Lib.hid (And.intro (HR1.out.1.below hb2).obW (HR1.out.2.to hb2))
  clear hb2
  go_wp2_with fail
  go_ret
  exact ⟨H1, rfl, ⟨X, HR.out.1, rfl, HL.out⟩, HR.out.2⟩

/-- The rune at a place. -/
def atR (R : List Int) (i : Int) : Value := if 0 ≤ i ∧ i < R.length then .tuple #[.int .i32 ((R[i.toNat]?).getD 0), .int .i64 0] else .tuple #[.int .i32 0, .int .i64 5]

set_option maxRecDepth 100000 in
set_option maxHeartbeats 2000000 in
theorem atR_any (h : RoS w H g R N) (i : Int) (hi : -9223372036854775808 ≤ i ∧ i ≤ 9223372036854775807) : Calls Try.prog 17 #[.pointer (some ⟨g, 0, none⟩), .int .i64 i] w fun e w' => RoR w H g R N (atR R i) e w' := by
  obtain ⟨X, hX, rfl, hl⟩ := h
  have HT := Lib.hid (tree_any hX)
  have HL := Lib.hid hl
  have HF := Lib.hid (fun (w1 : World) (G : Nat → Prop) (gT : Nat) (hX : TreeX w1 G gT X N) => find_any hX i hi)
  clear hX hl hi
  have hz := ch_nil.symm
  by_cases hin : 0 ≤ i ∧ i < (flat X).length
  · obtain ⟨t, b, hf, hb0, hb1⟩ := find_some hin.1 (by rw [← flatR_len]; exact hin.2)
    obtain ⟨q, rfl⟩ : ∃ q : Nat, b = q := ⟨b.toNat, by omega⟩
    obtain ⟨x, hx⟩ : ∃ x, t.l[q]? = some x := ⟨_, List.getElem?_eq_getElem (by omega)⟩
    have hfl := flat_find X i hin.1
    rw [hf] at hfl
    have hfl : t.l[q]? = (flat X)[i.toNat]? := by simpa using hfl
    have HV := Lib.hid (show atR (flat X) i = .tuple #[.int .i32 x, .int .i64 0] by unfold atR; rw [if_pos hin, ← hfl, hx]; rfl)
    rw [show findV X i = .tuple #[.agg (chC t.l).toArray, .int .i64 q, .bool true] by unfold findV; rw [hf]; rfl] at HF
    have HAt := Lib.hid (fun w1 => at_yes t.l q x w1 t.h (by omega) hx)
    unfold chV at HAt
    have HZ := Lib.hid (show (chC []).toArray.size = (chC t.l).toArray.size by rw [List.size_toArray, List.size_toArray, chC_len t.l t.h]; rfl)
    clear hf hb0 hb1 hx hfl hin
    go_enter Try.func17, Try.ntmps17
    go_wp2_with fail
    refine HT.out.mono ?_
    rintro e w1 ⟨H1, gT, rfl, hT, hg⟩
    obtain ⟨G, hX⟩ := hT.tree
    have HR1 := Lib.hid (And.intro hT hg)
    have HF := Lib.hid (HF.out w1 G gT hX)
    clear hT hg HT hX
    go_wp2_with fail
    refine HF.out.mono ?_
    rintro e w2 ⟨rfl, hb2⟩
    obtain ⟨b6, hb6⟩ : ∃ v, w2.heap.size = v := ⟨_, rfl⟩
    obtain ⟨wa, hwa⟩ : ∃ v, w2.alloc (.cells (chC []).toArray 58) = v := ⟨_, rfl⟩
    have hba : Below w2.heap.size w2 wa := by rw [← hwa]; exact (Below.refl _ _).alloc (Nat.le_refl _) _
    have q6 : wa.heap[b6]? = some (.cells (chC []).toArray 58) := by rw [← hwa, ← hb6]; exact heap_alloc_new w2 _
    have H6 := Lib.hid q6
    have H66 := Lib.hid (setRow_heap _ _ _ (chC t.l).toArray _ _ q6)
    have HB := Lib.hid (hb2.trans ((_root_.Go.below_setRow hba (show w2.heap.size ≤ b6 by omega) (chC t.l).toArray).mono hb2.size))
    clear hb2 hba q6 HF
    go_wp2_with (first
      | (refine wpList_store_row rfl 58 (.tmp 6) (.tmp 16) rfl b6 (chC t.l).toArray rfl rfl 58 (chC []).toArray H6.out (ch_info _ t.h) HZ.out (all_one t.l) ?_)
      | (refine wpList_load_row rfl 58 (.tmp 6) rfl b6 rfl 58 (chC t.l).toArray (0, 0) _ H66.out Try.underlying58 rfl (ch_info _ t.h) ?_))
    refine (HAt.out _).mono ?_
    rintro e w5 ⟨rfl, hb5⟩
    have HR := Lib.hid (show Below w1.heap.size w1 w5 from HB.out.trans (hb5.mono HB.out.size))
    clear hb5 hwa hb6 hz
    go_wp2_with fail
    go_ret2
    exact ⟨H1, by first | (rw [HV.out]; done) | (rw [HV.out]; rfl), ⟨X, (HR1.out.1.below HR.out).obW, rfl, HL.out⟩, HR1.out.2.to HR.out⟩
  · have HV := Lib.hid (show atR (flat X) i = .tuple #[.int .i32 0, .int .i64 5] by unfold atR; rw [if_neg hin])
    rw [show findV X i = .tuple #[.agg (chC []).toArray, .int .i64 0, .bool false] by unfold findV; rw [find_none (by rw [← flatR_len]; omega)]; rfl] at HF
    clear hin
    go_enter Try.func17, Try.ntmps17
    go_wp2_with fail
    refine HT.out.mono ?_
    rintro e w1 ⟨H1, gT, rfl, hT, hg⟩
    obtain ⟨G, hX⟩ := hT.tree
    have HR1 := Lib.hid (And.intro hT hg)
    have HF := Lib.hid (HF.out w1 G gT hX)
    clear hT hg HT hX
    go_wp2_with fail
    refine HF.out.mono ?_
    rintro e w2 ⟨rfl, hb2⟩
    obtain ⟨b6, hb6⟩ : ∃ v, w2.heap.size = v := ⟨_, rfl⟩
    obtain ⟨wa, hwa⟩ : ∃ v, w2.alloc (.cells (chC []).toArray 58) = v := ⟨_, rfl⟩
    have hba : Below w2.heap.size w2 wa := by rw [← hwa]; exact (Below.refl _ _).alloc (Nat.le_refl _) _
    have q6 : wa.heap[b6]? = some (.cells (chC []).toArray 58) := by rw [← hwa, ← hb6]; exact heap_alloc_new w2 _
    have H6 := Lib.hid q6
    have HB := Lib.hid (hb2.trans ((_root_.Go.below_setRow hba (show w2.heap.size ≤ b6 by omega) (chC []).toArray).mono hb2.size))
    clear hb2 hba q6 HF
    go_wp2_with (refine wpList_store_row rfl 58 (.tmp 6) (.tmp 16) rfl b6 (chC []).toArray rfl rfl 58 (chC []).toArray H6.out (ch_info _ (by decide)) rfl (all_one []) ?_)
    clear hwa hb6 hz
    go_ret2
    exact ⟨H1, by first | (rw [HV.out]; done) | (rw [HV.out]; rfl), ⟨X, (HR1.out.1.below HB.out).obW, rfl, HL.out⟩, HR1.out.2.to HB.out⟩

/-- The line of a place. -/
def lineV (R : List Int) (i : Int) : Value := if 0 ≤ i ∧ i ≤ R.length then .tuple #[.int .i64 (nls (R.take i.toNat)), .int .i64 0] else .tuple #[.int .i64 0, .int .i64 5]

set_option maxRecDepth 100000 in
set_option maxHeartbeats 2000000 in
theorem lineOf_any (h : RoS w H g R N) (i : Int) : Calls Try.prog 16 #[.pointer (some ⟨g, 0, none⟩), .int .i64 i] w fun e w' => RoR w H g R N (lineV R i) e w' := by
  have hl := h.len
  have HB := Lib.hid (betweenR_any h i i)
  have hc : (0 ≤ i ∧ i ≤ R.length ∧ betR R i i = 0) ∨ (¬ (0 ≤ i ∧ i ≤ R.length) ∧ betR R i i = 5) := by
    unfold betR
    by_cases hin : 0 ≤ i ∧ i ≤ R.length
    · exact .inl ⟨hin.1, hin.2, by rw [if_pos (by omega)]⟩
    · exact .inr ⟨hin, by rw [if_neg (by omega)]⟩
  clear h
  rcases hc with ⟨h0, h1, hb⟩ | ⟨h0, hb⟩
  · rw [hb] at HB
    have HV := Lib.hid (show lineV R i = .tuple #[.int .i64 (nls (R.take i.toNat)), .int .i64 0] by unfold lineV; rw [if_pos ⟨h0, h1⟩])
    have HI := Lib.hid (show 0 ≤ i ∧ i ≤ 1000000000000 by omega)
    clear h0 h1 hb hl
    go_enter Try.func16, Try.ntmps16
    go_wp2_with fail
    refine HB.out.mono ?_
    rintro e w0 ⟨H0, rfl, ⟨X, hX, rfl, hl⟩, hg0⟩
    have HT := Lib.hid (tree_any hX)
    have HL := Lib.hid (And.intro hl hg0)
    clear hX hl hg0 HB
    go_wp2_with fail
    refine HT.out.mono ?_
    rintro e w1 ⟨H1, gT, rfl, hT, hg⟩
    obtain ⟨G, hX⟩ := hT.tree
    have HR1 := Lib.hid (And.intro hT hg)
    have HA := Lib.hid (treeAhead_any hX i HI.out)
    clear hT hg HT hX
    go_wp2_with fail
    refine HA.out.mono ?_
    rintro e w2 ⟨rfl, hb2⟩
    have HR := Lib.hid (And.intro (HR1.out.1.below hb2).obW (HR1.out.2.to hb2))
    clear hb2
    go_wp2_with fail
    go_ret2
    exact ⟨H1, by first | (rw [HV.out]; done) | (rw [HV.out]; rfl), ⟨X, HR.out.1, rfl, HL.out.1⟩, HL.out.2.trans HR.out.2⟩
  · rw [hb] at HB
    have HV := Lib.hid (show lineV R i = .tuple #[.int .i64 0, .int .i64 5] by unfold lineV; rw [if_neg h0])
    clear h0 hb hl
    go_enter Try.func16, Try.ntmps16
    go_wp2_with fail
    refine HB.out.mono ?_
    rintro e w0 ⟨H0, rfl, hR, hg0⟩
    have HL := Lib.hid (And.intro hR hg0)
    clear hR hg0 HB
    go_wp2_with fail
    go_ret2
    exact ⟨H0, by first | (rw [HV.out]; done) | (rw [HV.out]; rfl), HL.out.1, HL.out.2⟩

/-- Where a line begins. -/
def offV (R : List Int) (k : Int) : Value :=
  if 0 ≤ k ∧ k ≤ nls R then (if k = 0 then .tuple #[.int .i64 0, .int .i64 0] else .tuple #[.int .i64 (offK R (k - 1) + 1), .int .i64 0]) else .tuple #[.int .i64 0, .int .i64 5]

set_option maxRecDepth 100000 in
set_option maxHeartbeats 2000000 in
theorem offsetOf_any (h : RoS w H g R N) (k : Int) : Calls Try.prog 15 #[.pointer (some ⟨g, 0, none⟩), .int .i64 k] w fun e w' => RoR w H g R N (offV R k) e w' := by
  have hl := h.len
  have hn := nls_le R
  have HN := Lib.hid (newlinesR_any h)
  have HS := Lib.hid h
  obtain ⟨n, hnn⟩ : ∃ n, nls R = n := ⟨_, rfl⟩
  have HE := Lib.hid hnn
  rw [hnn] at HN hn
  clear h hnn
  have hc : k < 0 ∨ (¬ k < 0 ∧ n < k) ∨ (¬ k < 0 ∧ ¬ n < k ∧ k = 0) ∨ (¬ k < 0 ∧ ¬ n < k ∧ k ≠ 0) := by omega
  rcases hc with h0 | ⟨h0, h1⟩ | ⟨h0, h1, rfl⟩ | ⟨h0, h1, h2⟩
  · have HV := Lib.hid (show offV R k = .tuple #[.int .i64 0, .int .i64 5] by unfold offV; rw [if_neg (by omega)])
    clear hl hn HN
    go_enter Try.func15, Try.ntmps15
    go_wp2_with fail
    go_ret2
    exact ⟨H, by first | (rw [HV.out]; done) | (rw [HV.out]; rfl), HS.out, Grow.refl _ _⟩
  · have HV := Lib.hid (show offV R k = .tuple #[.int .i64 0, .int .i64 5] by unfold offV; rw [if_neg (by have := HE.out; omega)])
    clear hl hn
    go_enter Try.func15, Try.ntmps15
    go_wp2_with fail
    refine HN.out.mono ?_
    rintro e w1 ⟨H1, rfl, hS, hg⟩
    have HR := Lib.hid (And.intro hS hg)
    clear hS hg HN
    go_wp2_with fail
    go_ret2
    exact ⟨H1, by first | (rw [HV.out]; done) | (rw [HV.out]; rfl), HR.out.1, HR.out.2⟩
  · have HV := Lib.hid (show offV R 0 = .tuple #[.int .i64 0, .int .i64 0] by unfold offV; rw [if_pos (by have := HE.out; omega), if_pos rfl])
    clear hl hn h0
    go_enter Try.func15, Try.ntmps15
    go_wp2_with fail
    refine HN.out.mono ?_
    rintro e w1 ⟨H1, rfl, hS, hg⟩
    have HR := Lib.hid (And.intro hS hg)
    clear hS hg HN
    go_wp2_with fail
    go_ret2
    exact ⟨H1, by first | (rw [HV.out]; done) | (rw [HV.out]; rfl), HR.out.1, HR.out.2⟩
  · obtain ⟨j, e1, -, -⟩ := nlGo_spec R (k - 1) 0 (by omega) (by have := HE.out; omega)
    rw [Nat.zero_add] at e1
    have HV := Lib.hid (show offV R k = .tuple #[.int .i64 ((j : Int) + 1), .int .i64 0] by unfold offV; rw [if_pos (by have := HE.out; omega), if_neg h2]; unfold offK; rw [e1])
    have HJ := Lib.hid e1
    have g1 : IntKind.i64.wrap (k - 1) = k - 1 := IntWalk.i64_in _ (by omega)
    have hj : j < R.length := by
      obtain ⟨j', e2, e3, _⟩ := nlGo_spec R (k - 1) 0 (by omega) (by have := HE.out; omega)
      rw [e1] at e2
      have := Option.some.inj e2
      have := (List.getElem?_eq_some_iff.1 e3).1
      omega
    have g2 : IntKind.i64.wrap ((j : Int) + 1) = j + 1 := IntWalk.i64_in _ (by omega)
    have hk0 : (k == 0) = false := by simp [h2]
    have HK := Lib.hid (show 0 ≤ k - 1 ∧ k - 1 < nls R by have := HE.out; omega)
    clear hl hn hj e1 h2
    go_enter Try.func15, Try.ntmps15
    go_wp2_with fail
    refine HN.out.mono ?_
    rintro e w0 ⟨H0, rfl, ⟨X, hX, hXR, hl⟩, hg0⟩
    have HT := Lib.hid (tree_any hX)
    have HL := Lib.hid (And.intro hl (And.intro hg0 hXR))
    clear hX hl hg0 hXR HN
    go_wp2_with fail
    refine HT.out.mono ?_
    rintro e w1 ⟨H1, gT, rfl, hT, hg⟩
    obtain ⟨G, hX⟩ := hT.tree
    have HR1 := Lib.hid (And.intro hT hg)
    have HA := Lib.hid (treeMark_any hX (k - 1) j (by rw [HL.out.2.2]; exact HK.out) (by rw [HL.out.2.2]; exact HJ.out))
    clear hT hg HT hX
    go_wp2_with fail
    refine HA.out.mono ?_
    rintro e w2 ⟨rfl, hb2⟩
    have HR := Lib.hid (And.intro (HR1.out.1.below hb2).obW (HR1.out.2.to hb2))
    clear hb2
    go_wp2_with fail
    go_ret2
    exact ⟨H1, by first | (rw [HV.out]; done) | (rw [HV.out]; rfl), ⟨X, HR.out.1, HL.out.2.2, HL.out.1⟩, HL.out.2.1.trans HR.out.2⟩
end

end Go.Proofs.Ytmfkdaannjibfaa

namespace Go.Proofs.Ytmfkdaannjibfaa
open Go.RowKit

def delR (R : List Int) (i j : Int) : List Int := if betR R i j = 0 then R.take i.toNat ++ R.drop j.toNat else R

theorem replaceR_any {w : World} {H : Nat → Prop} {g gT N B c : Nat} {A : Option Addr} {X l : List Th} (h : ObT w H g gT X N) (hXN : X.length ≤ N) (hl : Sees w B 33 A l.length (rowT l)) (hB : B ≤ w.heap.size) (hc : l.length ≤ c) (hoff : 0 < l.length → ∀ b o, A = some ⟨b, o, none⟩ → ¬ H b)
    {i j : Int} (h0 : 0 ≤ i) (h1 : i ≤ j) (h2 : j ≤ (flat X).length) (hN : N + l.length ≤ 79000) :
    Calls Try.prog 28 #[.pointer (some ⟨gT, 0, none⟩), .int .i64 i, .int .i64 j, .slice A l.length c] w fun e w' => ∃ H' v, e = .returned v ∧ RoS w' H' g ((flat X).take i.toNat ++ flat l ++ (flat X).drop j.toNat) (N + l.length + 2) ∧ Grow H w w' H' := by
  obtain ⟨hq, G, hX, hn, hH⟩ := h
  have hrl := repl_len X i j l
  have hfx := flat_le X
  have hfl := flat_le l
  have hsx := flatR_len X
  have hsl := flatR_len l
  have hgl := (Array.getElem?_eq_some_iff.1 hq).1
  refine (replace_any hX hl hB hc (fun hl0 b o e hb => hoff hl0 b o e ((hH b).2 (.inr hb))) (fun x _ => okT_all x) h0 h1 (by omega) (by omega) (by omega) (by omega) (by omega) (by omega)).mono ?_
  rintro e w' ⟨G', ⟨v, rfl⟩, hX', hg⟩
  refine ⟨fun k => k = g ∨ G' k, v, rfl, ⟨replT X i j l, .inr ⟨gT, (hg.step.block g hgl hn).trans hq, G', hX'.more (by omega), fun e => ?_, fun _ => Iff.rfl⟩, flat_repl X h0 h1 l, by omega⟩, hg.wide (fun k hk => (hH k).2 (.inr hk)) (fun k hk => ?_)⟩
  · rcases hg.new g e with e | e
    · exact hn e
    · omega
  · rcases hk with e | e
    · exact .inl ((hH k).2 (.inl e))
    · exact .inr e

set_option maxRecDepth 100000 in
set_option maxHeartbeats 1000000 in
theorem deleteR_any {w : World} {H : Nat → Prop} {g N : Nat} {R : List Int} (h : RoS w H g R N) (hN : N ≤ 79000) (i j : Int) :
    Calls Try.prog 12 #[.pointer (some ⟨g, 0, none⟩), .int .i64 i, .int .i64 j] w fun e w' => RoR w H g (delR R i j) (N + 2) (.int .i64 (betR R i j)) e w' := by
  have HB := Lib.hid (betweenR_any h i j)
  clear h
  rcases betR_or R i j with hb | hb
  · obtain ⟨i0, i1, i2⟩ := betR_zero hb
    have HX := Lib.hid (show delR R i j = R.take i.toNat ++ [] ++ R.drop j.toNat by unfold delR; rw [if_pos hb, List.append_nil])
    rw [hb] at HB ⊢
    clear hb
    go_enter Try.func12, Try.ntmps12
    go_wp2_with fail
    refine HB.out.mono ?_
    clear HB
    rintro e w0 ⟨H0, rfl, ⟨X, hX, hXR, hl⟩, hg0⟩
    have HT := Lib.hid (tree_any hX)
    have HL := Lib.hid (And.intro hl (And.intro hg0 hXR))
    clear hX hl hg0 hXR
    go_wp2_with fail
    refine HT.out.mono ?_
    clear HT
    rintro e w1 ⟨H1, gT, rfl, hT, hg⟩
    have HR := Lib.hid (replaceR_any (l := []) (A := none) (c := 0) (B := 0) hT HL.out.1 (Sees.nil_ _ _ _ _) (Nat.zero_le _) (Nat.le_refl _) (fun h => absurd h (by decide)) i0 i1 (by rw [HL.out.2.2]; exact i2) (by simpa using hN))
    rw [HL.out.2.2] at HR
    have HG := Lib.hid hg
    clear hT hg
    go_wp2_with fail
    refine HR.out.mono ?_
    clear HR
    rintro e w2 ⟨H2, v2, rfl, hS, hg2⟩
    have HF := Lib.hid (And.intro hS hg2)
    clear hS hg2
    go_wp2_with fail
    go_ret
    exact ⟨H2, rfl, by rw [HX.out]; exact HF.out.1, HL.out.2.1.trans (HG.out.trans HF.out.2)⟩
  · have HX := Lib.hid (show delR R i j = R by unfold delR; rw [if_neg (by rw [hb]; decide)])
    rw [hb] at HB ⊢
    clear hb
    go_enter Try.func12, Try.ntmps12
    go_wp2_with fail
    refine HB.out.mono ?_
    clear HB
    rintro e w0 ⟨H0, rfl, hS, hg0⟩
    have HL := Lib.hid (And.intro hS hg0)
    clear hS hg0
    go_wp2_with fail
    go_ret
    exact ⟨H0, rfl, by rw [HX.out]; exact HL.out.1.more (by omega), HL.out.2⟩

end Go.Proofs.Ytmfkdaannjibfaa

namespace Go.Proofs.Ytmfkdaannjibfaa
open Go.RowKit

/-- A thing in memory: its blocks, what it is; it stays where none of its blocks changes. -/
structure Item where
  D : Nat → Prop
  P : World → Prop
  keep : ∀ (w w' : World) (G : Nat → Prop), P w → Step G w w' → (∀ k, D k → ¬ G k) → P w'
  lt : ∀ w, P w → ∀ k, D k → k < w.heap.size

/-- Blocks apart, one thing from those behind it. -/
def ApartAll : List Item → Prop
  | [] => True
  | I :: L => (∀ J ∈ L, ∀ k, I.D k → ¬ J.D k) ∧ ApartAll L

structure Star (w0 : World) (L : List Item) (w : World) : Prop where
  all : ∀ I ∈ L, I.P w
  apart : ApartAll L
  low : ∀ I ∈ L, ∀ k, I.D k → w0.heap.size ≤ k
  below : Below w0.heap.size w0 w

theorem ApartAll.mem : ∀ {A B : List Item} {I : Item}, ApartAll (A ++ I :: B) → ∀ J, J ∈ A ∨ J ∈ B → ∀ k, I.D k → ¬ J.D k
  | [], B, I, h, J, hJ, k, hk => by
    rcases hJ with e | e
    · cases e
    · exact h.1 J e k hk
  | K :: A, B, I, h, J, hJ, k, hk => by
    rcases hJ with e | e
    · rcases List.mem_cons.1 e with e | e
      · subst e
        exact fun hj => h.1 I (by simp) k hj hk
      · exact ApartAll.mem (A := A) h.2 J (.inl e) k hk
    · exact ApartAll.mem (A := A) h.2 J (.inr e) k hk

theorem ApartAll.change : ∀ {A B : List Item} {I I' : Item} {n : Nat}, ApartAll (A ++ I :: B) → (∀ k, I'.D k → I.D k ∨ n ≤ k) → (∀ J, J ∈ A ∨ J ∈ B → ∀ k, J.D k → k < n) → ApartAll (A ++ I' :: B)
  | [], B, I, I', n, h, hI, hl => ⟨fun J hJ k hk hj => by
    rcases hI k hk with e | e
    · exact h.1 J hJ k e hj
    · have := hl J (.inr hJ) k hj; omega, h.2⟩
  | K :: A, B, I, I', n, h, hI, hl => ⟨fun J hJ k hk hj => by
    rcases List.mem_append.1 hJ with e | e
    · exact h.1 J (by simp [e]) k hk hj
    · rcases List.mem_cons.1 e with e | e
      · subst e
        rcases hI k hj with q | q
        · exact h.1 I (by simp) k hk q
        · have := hl K (.inl (by simp)) k hk; omega
      · exact h.1 J (by simp [e]) k hk hj, ApartAll.change (A := A) h.2 hI (fun J hJ k hk => hl J (by rcases hJ with e | e; exact .inl (by simp [e]); exact .inr e) k hk)⟩

section
variable {w0 w w' : World} {A B L : List Item} {I I' : Item}

theorem Star.get (h : Star w0 (A ++ I :: B) w) : I.P w := h.all I (by simp)

/-- One of the things becomes another; the others stay. -/
theorem Star.update (h : Star w0 (A ++ I :: B) w) (hP : I'.P w') (hg : Grow I.D w w' I'.D) : Star w0 (A ++ I' :: B) w' := by
  have hlt : ∀ J, J ∈ A ∨ J ∈ B → ∀ k, J.D k → k < w.heap.size := fun J hJ => J.lt w (h.all J (by rcases hJ with e | e <;> simp [e]))
  refine ⟨fun J hJ => ?_, h.apart.change (n := w.heap.size) hg.new hlt, fun J hJ k hk => ?_, h.below.trans (hg.step.below h.below.size (fun k hk => h.low I (by simp) k hk))⟩
  · rcases List.mem_append.1 hJ with e | e
    · exact J.keep w w' _ (h.all J (by simp [e])) hg.step (fun k hk hi => h.apart.mem J (.inl e) k hi hk)
    · rcases List.mem_cons.1 e with e | e
      · subst e; exact hP
      · exact J.keep w w' _ (h.all J (by simp [e])) hg.step (fun k hk hi => h.apart.mem J (.inr e) k hi hk)
  · rcases List.mem_append.1 hJ with e | e
    · exact h.low J (by simp [e]) k hk
    · rcases List.mem_cons.1 e with e | e
      · subst e
        rcases hg.new k hk with q | q
        · exact h.low I (by simp) k q
        · exact Nat.le_trans h.below.size q
      · exact h.low J (by simp [e]) k hk

theorem Star.later (h : Star w0 L w) (hb : Below w.heap.size w w') : Star w0 L w' :=
  ⟨fun I hI => I.keep w w' (fun _ => False) (h.all I hI) (Step.of_below hb _) (fun _ _ h => h), h.apart, h.low, h.below.trans (hb.mono h.below.size)⟩
/-- A new thing. -/
theorem Star.add (h : Star w0 L w) (hb : Below w.heap.size w w') (hP : I.P w') (hn : ∀ k, I.D k → w.heap.size ≤ k) : Star w0 (I :: L) w' := by
  have h1 := h.later hb
  refine ⟨fun J hJ => ?_, ⟨fun J hJ k hk hj => ?_, h.apart⟩, fun J hJ k hk => ?_, h1.below⟩
  · rcases List.mem_cons.1 hJ with e | e
    · subst e; exact hP
    · exact h1.all J e
  · have a1 := hn k hk
    have a2 := J.lt w (h.all J hJ) k hj
    omega
  · rcases List.mem_cons.1 hJ with e | e
    · subst e; exact Nat.le_trans h.below.size (hn k hk)
    · exact h.low J e k hk
/-- A thing is forgotten. -/
theorem Star.drop (h : Star w0 (A ++ I :: B) w) : Star w0 (A ++ B) w := by
  refine ⟨fun J hJ => h.all J (by rcases List.mem_append.1 hJ with e | e <;> simp [e]), ?_, fun J hJ => h.low J (by rcases List.mem_append.1 hJ with e | e <;> simp [e]), h.below⟩
  have ha := h.apart
  clear h
  induction A with
  | nil => exact ha.2
  | cons K A ih => exact ⟨fun J hJ => ha.1 J (by rcases List.mem_append.1 hJ with e | e <;> simp [e]), ih ha.2⟩
/-- One becomes another, and a new thing is there. -/
theorem Star.update_add {K : Item} (h : Star w0 (A ++ I :: B) w) (hP : I'.P w') (hg : Grow I.D w w' I'.D) (hQ : K.P w') (hK : ∀ k, K.D k → w.heap.size ≤ k) (hap : ∀ k, K.D k → ¬ I'.D k) : Star w0 (K :: (A ++ I' :: B)) w' := by
  have h1 := h.update hP hg
  refine ⟨fun J hJ => ?_, ⟨fun J hJ k hk hj => ?_, h1.apart⟩, fun J hJ k hk => ?_, h1.below⟩
  · rcases List.mem_cons.1 hJ with e | e
    · subst e; exact hQ
    · exact h1.all J e
  · have a1 := hK k hk
    rcases List.mem_append.1 hJ with e | e
    · have := J.lt w (h.all J (by simp [e])) k hj; omega
    · rcases List.mem_cons.1 e with e | e
      · subst e; exact hap k hk hj
      · have := J.lt w (h.all J (by simp [e])) k hj; omega
  · rcases List.mem_cons.1 hJ with e | e
    · subst e; exact Nat.le_trans h.below.size (hK k hk)
    · exact h1.low J e k hk
/-- A thing that lies apart from all. -/
theorem Star.add' {K : Item} (h : Star w0 L w) (hQ : K.P w) (hlow : ∀ k, K.D k → w0.heap.size ≤ k) (hap : ∀ J ∈ L, ∀ k, K.D k → ¬ J.D k) : Star w0 (K :: L) w :=
  ⟨fun J hJ => by rcases List.mem_cons.1 hJ with e | e; subst e; exact hQ; exact h.all J e, ⟨hap, h.apart⟩, fun J hJ => by rcases List.mem_cons.1 hJ with e | e; subst e; exact hlow; exact h.low J e, h.below⟩
theorem Star.nil_ (w : World) : Star w [] w := ⟨(fun _ h => nomatch h), trivial, (fun _ h => nomatch h), Below.refl _ _⟩
/-- Blocks of one of the things alone have changed. -/
theorem Star.step_low (h : Star w0 (A ++ I :: B) w) : ∀ k, I.D k → w0.heap.size ≤ k := h.low I (by simp)
end

/-- A block that holds these cells. -/
def boxI (b : Nat) (o : Obj) : Item := ⟨fun k => k = b, fun w => w.heap[b]? = some o, fun w w' G h hs hG => (hs.block b (Array.getElem?_eq_some_iff.1 h).1 (hG b rfl)).trans h, fun w h k hk => by have hk : k = b := hk; rw [hk]; exact (Array.getElem?_eq_some_iff.1 h).1⟩
/-- A row of one's own. -/
def rowI (base : Nat) (e : TypeId) (size : Nat) (v : Value) (n : Nat) (xs : List Value) : Item := ⟨fun k => v.ownBlock = some k, fun w => w.ownsRow base e size v n xs, fun _ _ _ h hs hG => own_step h hs hG, fun _ h _ hk => own_lt h hk⟩

theorem boxI.set {w : World} {b : Nat} {cs : Array Value} {t : TypeId} (h : w.heap[b]? = some (.cells cs t)) (j : Nat) (v : Value) : (boxI b (.cells (cs.setIfInBounds j v) t)).P (w.setCell ⟨b, j, none⟩ v) ∧ Grow (fun k => k = b) w (w.setCell ⟨b, j, none⟩ v) (fun k => k = b) :=
  ⟨heap_setCell_same w b j _ _ _ h, ⟨(Step.refl (fun k => k = b) w).setCell (p := ⟨b, j, none⟩) (.inl rfl) v, fun _ h => .inl h⟩⟩
theorem rowI.grown {w w' : World} {row : Option Nat} {v' : Value} (hg : w.grownBy w' row) (hat : v'.ownBlock = row ∨ v'.ownBlock = some w.heap.size) : Grow (fun k => row = some k) w w' (fun k => v'.ownBlock = some k) :=
  ⟨grown_step hg, fun k hk => by
    have hk : v'.ownBlock = some k := hk
    rcases hat with e | e
    · exact .inl (by rw [← e]; exact hk)
    · rw [e] at hk; cases hk; exact .inr (Nat.le_refl _)⟩

end Go.Proofs.Ytmfkdaannjibfaa

namespace Go.Proofs.Ytmfkdaannjibfaa
open Go.RowKit

/-- The box bw (of type tB) holds a row of one's own (n elements of type e, these cells); no other block of w1's has changed. -/
def GrowI (tB e : TypeId) (size : Nat) (w1 : World) (bw n : Nat) (cs : List Value) (W : World) : Prop := ∃ v, W.heap[bw]? = some (.cells #[v] tB) ∧ W.ownsRow w1.heap.size e size v n cs ∧ Step (fun k => k = bw) w1 W
/-- What a round may change: the box, rows of that type that lie behind. -/
def GrowBad (e : TypeId) (w1 : World) (bw : Nat) (k : Nat) (o : Obj) : Prop := k = bw ∨ (w1.heap.size ≤ k ∧ ∃ cs fr, o = .cells cs e fr)

section
variable {tB e : TypeId} {size bw n n' : Nat} {w1 W W2 wa w5 : World} {cs cs' : List Value} {v v5 : Value}
theorem GrowI.own_ {α : Type} (f : List α → Nat) (c : List α → List Value) (hb : bw < w1.heap.size) : OwnFrom w1.heap.size (fun pre => GrowI tB e size w1 bw (f pre) (c pre)) := by
  rintro xs W W' row ⟨v, h1, h2, h3⟩ hg hr
  refine ⟨v, (hg.block bw (Array.getElem?_eq_some_iff.1 h1).1 (fun e => by have := (hr bw e.symm).1; omega)).trans h1, ?_, h3.grown hg (fun k e => .inr (hr k e).1)⟩
  refine own_step h2 (grown_step hg) (fun k hk e => ?_)
  obtain ⟨cs, hc⟩ := own_blk h2 hk
  obtain ⟨_, o, ho, hn⟩ := hr k e
  rw [hc] at ho
  cases ho
  cases hn
theorem GrowI.start (h : w1.heap[bw]? = some (.cells #[.slice none 0 0] tB)) : GrowI tB e size w1 bw 0 [] w1 := ⟨_, h, ⟨by simp, .inl ⟨rfl, rfl⟩⟩, Step.refl _ _⟩
theorem GrowI.later (h : GrowI tB e size w1 bw n cs W) (hb : Below W.heap.size W W2) : GrowI tB e size w1 bw n cs W2 := by
  obtain ⟨v, h1, h2, h3⟩ := h
  exact ⟨v, heap_later h1 hb, own_step h2 (Step.of_below hb fun _ => False) (fun _ _ h => h), h3.trans (Step.of_below hb _)⟩
theorem GrowI.keeps (hb : Below W.heap.size W W2) : KeepsFrom w1.heap.size W W2 ∧ KeepsO (GrowBad e w1 bw) W W2 :=
  ⟨KeepsFrom.of_step (Step.of_below hb (fun _ => False)) (fun _ _ _ h => h.elim), KeepsO.of_below hb⟩
/-- A round's end: the row has grown (from wa, behind W), and lies in the box again. -/
theorem GrowI.round (hq : W.heap[bw]? = some (.cells #[v] tB)) (ho : W.ownsRow w1.heap.size e size v n cs) (hst : Step (fun k => k = bw) w1 W) (hbw : bw < w1.heap.size) (hte : e ≠ tB) (Ba : Below W.heap.size W wa)
    (hown5 : w5.ownsRow w1.heap.size e size v5 n' cs') (hg5 : wa.grownBy w5 v.ownBlock) :
    KeepsFrom w1.heap.size W (w5.setCell ⟨bw, 0, none⟩ v5) ∧ KeepsO (GrowBad e w1 bw) W (w5.setCell ⟨bw, 0, none⟩ v5) ∧ GrowI tB e size w1 bw n' cs' (w5.setCell ⟨bw, 0, none⟩ v5) ∧ w5.cell? ⟨bw, 0, none⟩ = some v ∧ w5.frozen? ⟨bw, 0, none⟩ = false := by
  have hvb : ∀ k, v.ownBlock = some k → w1.heap.size ≤ k ∧ k ≠ bw := fun k hk => ⟨own_base ho hk, fun e => own_row_blk ho hq hte (e ▸ hk)⟩
  have hq5 : w5.heap[bw]? = some (.cells #[v] tB) := (hg5.block bw (Nat.lt_of_lt_of_le (Array.getElem?_eq_some_iff.1 hq).1 Ba.size) (fun e => (hvb bw e.symm).2 rfl)).trans (heap_later hq Ba)
  have hs : Step (fun k => k = bw ∨ v.ownBlock = some k) W (w5.setCell ⟨bw, 0, none⟩ v5) :=
    (((Step.of_below Ba _).trans ((grown_step hg5).mono (fun k _ hk => .inr hk)))).setCell (p := ⟨bw, 0, none⟩) (.inl (.inl rfl)) _
  refine ⟨KeepsFrom.of_step hs (fun k o ho' hk => ?_), KeepsO.of_step hs (fun k o ho' hk => ?_), ⟨v5, ?_, ?_, ?_⟩, by rw [cell_of_row w5 bw 0 _ _ _ hq5]; rfl, frozen_of_row w5 bw 0 _ _ hq5⟩
  · rcases hk with e | e
    · rw [e, hq] at ho'; cases ho'; rfl
    · obtain ⟨cs, hc⟩ := own_blk ho e
      rw [hc] at ho'; cases ho'; rfl
  · rcases hk with e | e
    · exact .inl e
    · obtain ⟨cs, hc⟩ := own_blk ho e
      rw [hc] at ho'
      exact .inr ⟨(hvb k e).1, cs, _, (Option.some.inj ho').symm⟩
  · rw [heap_setCell_same w5 bw 0 _ _ _ hq5]; rfl
  · refine own_step hown5 ((Step.refl (fun k => k = bw) w5).setCell (p := ⟨bw, 0, none⟩) (.inl rfl) _) (fun k hk e => ?_)
    have e : k = bw := e
    subst e
    exact own_row_blk hown5 hq5 hte hk
  · exact ⟨hs.os.trans hst.os, hs.tape.trans hst.tape, hs.output.trans hst.output, Nat.le_trans hst.size hs.size, fun k hk hF => (hs.block k (Nat.lt_of_lt_of_le hk hst.size) (fun hG => by
      rcases hG with e | e
      · exact hF e
      · have := (hvb k e).1; omega)).trans (hst.block k hk hF)⟩
end

end Go.Proofs.Ytmfkdaannjibfaa

namespace Go.Proofs.Ytmfkdaannjibfaa
open Go.RowKit

/-- The marks of the loops that are over. -/
def markI (ds : List Deferred) : Item := ⟨fun k => ∃ d ∈ ds, d.target = .collected k, fun w => Marks 0 w ds,
  fun w w' G h hs hG => ⟨h.1, fun d hd => by
    obtain ⟨r, hr, hb, hh⟩ := h.2 d hd
    exact ⟨r, hr, hb, (hs.block r (Array.getElem?_eq_some_iff.1 hh).1 (hG r ⟨d, hd, hr⟩)).trans hh⟩⟩,
  fun w h k hk => by
    obtain ⟨d, hd, e⟩ := hk
    obtain ⟨r, hr, _, hh⟩ := h.2 d hd
    rw [e] at hr
    injection hr with hr
    subst hr
    exact (Array.getElem?_eq_some_iff.1 hh).1⟩
theorem markI.nil_ (w : World) : (markI []).P w := Marks.nil_ 0 w

theorem Star.mark {w0 w : World} {D : Nat} {ds : List Deferred} {L : List Item} (h : Star w0 (boxI D (.deferred (some [])) :: markI ds :: L) w) : Star w0 (markI ({ target := .collected D, args := #[] } :: ds) :: L) w := by
  have hD : w.heap[D]? = some (.deferred (some [])) := h.all (boxI D _) (by simp)
  have hm : Marks 0 w ds := h.all (markI ds) (by simp)
  refine ⟨fun J hJ => ?_, ⟨fun J hJ k hk hj => ?_, h.apart.2.2⟩, fun J hJ k hk => ?_, h.below⟩
  · rcases List.mem_cons.1 hJ with e | e
    · subst e
      refine ⟨?_, fun d hd => ?_⟩
      · rw [List.map_cons, List.nodup_cons]
        refine ⟨fun hin => ?_, hm.1⟩
        obtain ⟨d, hd, e⟩ := List.mem_map.1 hin
        exact h.apart.1 (markI ds) (by simp) D rfl ⟨d, hd, e⟩
      · rcases List.mem_cons.1 hd with e | e
        · subst e; exact ⟨D, rfl, Nat.zero_le _, hD⟩
        · exact hm.2 d e
    · exact h.all J (by simp [e])
  · obtain ⟨d, hd, e⟩ := hk
    rcases List.mem_cons.1 hd with q | q
    · subst q; injection e with e; subst e; exact h.apart.1 J (by simp [hJ]) D rfl hj
    · exact h.apart.2.1 J hJ k ⟨d, q, e⟩ hj
  · rcases List.mem_cons.1 hJ with e | e
    · subst e
      obtain ⟨d, hd, e⟩ := hk
      rcases List.mem_cons.1 hd with q | q
      · subst q; injection e with e; subst e; exact h.low (boxI D (.deferred (some []))) (by simp) D rfl
      · exact h.low (markI ds) (by simp) k ⟨d, q, e⟩
    · exact h.low J (by simp [e]) k hk
theorem Star.marks {w0 w : World} {ds : List Deferred} {A B : List Item} (h : Star w0 (A ++ markI ds :: B) w) : Marks w0.heap.size w ds := by
  have hm : Marks 0 w ds := h.all (markI ds) (by simp)
  refine ⟨hm.1, fun d hd => ?_⟩
  obtain ⟨r, hr, _, hh⟩ := hm.2 d hd
  exact ⟨r, hr, h.low (markI ds) (by simp) r ⟨d, hd, hr⟩, hh⟩

/-- Two blocks as one thing. -/
def pairI (b c : Nat) (o p : Obj) : Item := ⟨fun k => k = b ∨ k = c, fun w => w.heap[b]? = some o ∧ w.heap[c]? = some p,
  fun w w' G h hs hG => ⟨(hs.block b (Array.getElem?_eq_some_iff.1 h.1).1 (hG b (.inl rfl))).trans h.1, (hs.block c (Array.getElem?_eq_some_iff.1 h.2).1 (hG c (.inr rfl))).trans h.2⟩,
  fun w h k hk => by
    rcases hk with e | e
    · rw [e]; exact (Array.getElem?_eq_some_iff.1 h.1).1
    · rw [e]; exact (Array.getElem?_eq_some_iff.1 h.2).1⟩

theorem rows_inRound {l n : Nat} {P : Program} {row : String} {args : Array Value} {w : World} {R : Value → World → Prop} (h : Rows P row args w R) : RowsIn (Fence.wide.inRound l) n P row args w R :=
  fun c cs _ => let ⟨v, w', r, s⟩ := h c cs; ⟨v, w', r, stepsIn_wide.2 s⟩

theorem uponIn_of {l n : Nat} {P : Program} {o : Oper} {a : Act} {K : Act → World → Prop} {Q : Exit → Act → World → Prop} (r : Result Next) (h : o.upon P a K Q r) : o.uponIn (Fence.wide.inRound l) n P a K Q r := by
  cases r with
  | ok x w' =>
    cases x <;> simp only [Oper.upon, Oper.uponIn] at h ⊢ <;>
      first
        | exact h
        | exact ⟨fun e => (by cases e), CallsIn.inRound l (callsIn_wide.2 h)⟩
        | exact ⟨fun e => (by cases e), rows_inRound h⟩
        | exact h.elim
  | halt x w' => cases x <;> simp only [Oper.upon, Oper.uponIn] at h ⊢ <;> exact h

/-- An operation that defers nothing. -/
def noDefer (o : Oper) : Bool := match o.op with | .defer _ => false | _ => true

theorem wpIn_of_oper {l n : Nat} {P : Program} {o : Oper} {a : Act} {w : World} {K : Act → World → Prop} {Q : Exit → Act → World → Prop} (hd : noDefer o = true) (h : o.wp P a w K Q) : o.wpIn (Fence.wide.inRound l) n P a w K Q := by
  refine ⟨fun _ _ => trivial, ?_⟩
  rw [Oper.semAt_eq _ _ _ (fun c e => by unfold noDefer at hd; rw [e] at hd; cases hd)]
  exact uponIn_of _ h

theorem wpAnyIn_of_H {l n : Nat} {P : Program} {md : Region.Mode} {ops : Array Oper} {Q : Exit → Act → World → Prop} {S : World → Prop} (hd : ops.all noDefer = true) (hQ : ∀ a w, Q .outgrown a w → False) :
    ∀ (fuel : Nat) (listed : Array Bool) (a : Act) (w : World), wpAnyH P md ops Q S fuel listed a w → wpAnyIn (Fence.wide.inRound l) n P md ops Q fuel listed a w
  | 0, _, _, _, h => h
  | fuel + 1, listed, a, w, h => ⟨h.1, fun i hi => by
      have h2 := h.2 i hi
      unfold wpOp at h2
      unfold wpOpIn
      cases ho : ops[i]? with
      | none =>
        rw [ho] at h2
        exact wpAnyIn_of_H hd hQ fuel _ a w h2.2
      | some o =>
        rw [ho] at h2
        dsimp only at h2 ⊢
        have hod : noDefer o = true := by
          obtain ⟨hlt, e⟩ := Array.getElem?_eq_some_iff.1 ho
          rw [← e]
          exact (Array.all_eq_true.1 hd) i hlt
        split
        · next hw =>
          rw [if_pos hw] at h2
          rcases h2 with q | ⟨-, a', w', q⟩
          · exact wpIn_of_oper hod (Oper.wp_mono (fun a w hh => wpAnyIn_of_H hd hQ fuel _ a w hh.2) q)
          · exact (hQ _ _ q).elim
        · next hw =>
          rw [if_neg hw] at h2
          exact ⟨fun _ _ => trivial, wpAnyIn_of_H hd hQ fuel _ _ w h2.2⟩⟩

theorem wpIn_region_held_drew {l n id : Nat} {P : Program} {ops : Array Oper} {Q : Exit → Act → World → Prop} {S : World → Prop} {a : Act} {w : World} (hm : P.follows .mixedOrders = true) (hd : ops.all noDefer = true) (hQ : ∀ a w, Q .outgrown a w → False) (hS : S w.drew)
    (h : S w.drew → wpAnyH P .any ops Q S ops.size (Array.replicate ops.size false) a w.drew) : (Code.region id ops true).wpIn (Fence.wide.inRound l) n P Q a w :=
  wpIn_region_any hm (wpAnyIn_of_H hd hQ _ _ _ _ (h hS))

end Go.Proofs.Ytmfkdaannjibfaa

namespace Go.Proofs.Ytmfkdaannjibfaa
open Go.RowKit
attribute [local go_sem] Oper.semAt_some

/-- What Slice tells: the runes from i to before j. -/
def cutR (R : List Int) (i j : Int) : List Int := if betR R i j = 0 then (R.take j.toNat).drop i.toNat else []

theorem map_range28 (f : Nat → Value) : (List.range 28).map f = [f 0, f 1, f 2, f 3, f 4, f 5, f 6, f 7, f 8, f 9, f 10, f 11, f 12, f 13, f 14, f 15, f 16, f 17, f 18, f 19, f 20, f 21, f 22, f 23, f 24, f 25, f 26, f 27] := by
  simp [List.range, List.range.loop]

theorem lit28 (t : Array Value) (h : t.size = 28) : ∃ u : Nat → Value, t = #[u 0, u 1, u 2, u 3, u 4, u 5, u 6, u 7, u 8, u 9, u 10, u 11, u 12, u 13, u 14, u 15, u 16, u 17, u 18, u 19, u 20, u 21, u 22, u 23, u 24, u 25, u 26, u 27] ∧ ∀ i, u i = t.getD i undef := by
  refine ⟨fun i => t.getD i undef, ?_, fun _ => rfl⟩
  have e : t = ((List.range 28).map fun i => t.getD i undef).toArray := by
    apply Array.ext
    · simp [h]
    · intro i h1 h2
      simp [Array.getD, h1]
  exact e.trans (by rw [map_range28])

theorem Step.upto {F : Nat → Prop} {a b c : World} {B : Nat} (h : Step F a b) (k : Below B b c) (hB : a.heap.size ≤ B) : Step F a c :=
  ⟨k.os.trans h.os, k.tape.trans h.tape, k.output.trans h.output, Nat.le_trans h.size k.size, fun i hi hF => (k.block i (by omega)).trans (h.block i hi hF)⟩

set_option maxRecDepth 100000 in
set_option maxHeartbeats 4000000 in
theorem sliceR_any {w : World} {H : Nat → Prop} {g N : Nat} {R : List Int} (h : RoS w H g R N) (i j : Int) :
    Calls Try.prog 18 #[.pointer (some ⟨g, 0, none⟩), .int .i64 i, .int .i64 j] w fun e w' => ∃ v H', e = .returned (.tuple #[v, .int .i64 (betR R i j)]) ∧ RoS w' H' g R N ∧ Grow H w w' H' ∧ w'.ownsRow w.heap.size 21 1 v (cutR R i j).length ((cutR R i j).map r32) ∧ ∀ k, v.ownBlock = some k → ¬ H' k := by
  obtain ⟨i0, ii0, iz0, iz1, iz2⟩ := info_parts r32_info
  obtain ⟨b0, hb0⟩ : ∃ v, w.heap.size = v := ⟨_, rfl⟩
  obtain ⟨w0, hw0⟩ : ∃ v, w.alloc (.cells #[.slice none 0 0] 26) = v := ⟨_, rfl⟩
  have hB0 : Below w.heap.size w w0 := by rw [← hw0]; exact (Below.refl _ _).alloc (Nat.le_refl _) _
  have hq0 : w0.heap[b0]? = some (.cells #[.slice none 0 0] 26) := by rw [← hw0, ← hb0]; exact heap_alloc_new w _
  have hH0 : ∀ k, H k → k < b0 := by rw [← hb0]; exact h.lt
  have HRl := Lib.hid h.len.1
  have HB := Lib.hid (betweenR_any (h.below hB0) i j)
  have H0 := Lib.hid (And.intro hB0 (And.intro hq0 hH0))
  have HE := Lib.hid (And.intro hw0 hb0)
  clear h hB0 hq0 hH0
  rcases betR_or R i j with hb | hb
  · obtain ⟨j0, j1, j2⟩ := betR_zero hb
    have HX := Lib.hid (show cutR R i j = (R.take j.toNat).drop i.toNat by unfold cutR; rw [if_pos hb])
    rw [hb] at HB ⊢
    clear hb hw0 hb0
    refine (callsIn_wide (n := 9)).1 ?_
    refine callsIn_of_wp_marks Try.func18 rfl trivial ?_ rfl
    refine (wpIn_wide (n := 9)).2 ?_
    simp only [Try.ntmps18, List.size_toArray, List.length_cons, List.length_nil, Nat.reduceAdd, Nat.reduceSub, Array.replicate_succ, Array.replicate_zero, List.push_toArray, List.append_toArray, List.nil_append, List.cons_append]
    go_wp2_with fail
    rw [HE.out.1, HE.out.2]
    refine HB.out.mono ?_
    clear HB
    rintro e w1 ⟨H1, rfl, ⟨X, hX, hXR, hl⟩, hg1⟩
    have HT := Lib.hid (tree_any hX)
    have HL := Lib.hid (And.intro hl (And.intro hg1 hXR))
    clear hX hl hg1 hXR
    go_wp2_with fail
    refine HT.out.mono ?_
    clear HT
    rintro e w2 ⟨H2, gT, rfl, hT, hg2⟩
    have hg02 := HL.out.2.1.trans hg2
    have hq2 : w2.heap[b0]? = some (.cells #[.slice none 0 0] 26) := (hg02.step.block b0 (Array.getElem?_eq_some_iff.1 H0.out.2.1).1 (fun e => by have := H0.out.2.2 b0 e; omega)).trans H0.out.2.1
    have hn2 : ¬ H2 b0 := fun e => by
      rcases hg02.new b0 e with h | h
      · have := H0.out.2.2 b0 h; omega
      · have := (Array.getElem?_eq_some_iff.1 H0.out.2.1).1; omega
    have HT := Lib.hid (And.intro hT (And.intro hg02 (And.intro hq2 hn2)))
    clear hT hg2 hg02 hq2 hn2
    go_wp2_with fail
    refine (overF_any _ _ _ _).mono ?_
    rintro e w3 ⟨b, rfl, hO, hb3, hbb⟩
    obtain ⟨hTg, G, hTX, hGg, hHG⟩ := HT.out.1
    have hok := hTX.okX
    have hlen : ∀ pre : List Th, pre.length + 1 ≤ (overT X i j).length → (flat pre).length ≤ 3200000 := fun pre hp => by
      have h2 := (overT_ok X i j hok.1).2
      have h3 := flat_le pre
      have h4 := hok.2.1
      omega
    have hq3 : w3.heap[b0]? = some (.cells #[.slice none 0 0] 26) := heap_later HT.out.2.2.1 hb3
    have BL := Lib.hid (Array.getElem?_eq_some_iff.1 hq3).1
    have HI := Lib.hid (GrowI.start (e := 21) (size := 1) hq3)
    have SQ := Lib.hid (over_stops 8 (hTX.below hb3) hO j0 (by have := HRl.out; omega) (by omega) (by have := HRl.out; omega) (GrowBad 21 w3 b0)
      (fun k hk o e => by
        have h4 := (hTX.below hb3).lt k hk
        rcases e with e | e
        · exact HT.out.2.2.2 (e ▸ (hHG k).2 (.inr hk))
        · omega)
      (fun b' hb' cs fr e => by
        rcases e with e | ⟨_, cs', fr', e⟩
        · have := BL.out; omega
        · injection e with _ e2; exact absurd e2 (by decide)))
    have HXo := Lib.hid (show flat (overT X i j) = cutR R i j by rw [flat_over, HL.out.2.2, HX.out])
    have H3 := Lib.hid (And.intro (HT.out.1.below hb3) (And.intro hb3 hlen))
    clear hO hb3 hbb hTg hTX hGg hHG hok hlen hq3
    go_wp2_with fail
    obtain ⟨fF, hfF⟩ : ∃ x : Value, .func (.func 68) #[] #[.pointer (some ⟨b, 0, none⟩), .pointer (some ⟨b + 1, 0, none⟩), .pointer (some ⟨b + 1 + 1, 0, none⟩)] = x := ⟨_, rfl⟩
    unfold overF
    rw [hfF]
    refine (wpIn_wide (n := 9)).1 ?_
    refine wpIn_rangeFunc_ownH rfl (by omega) (gf := 68) (lb := #[.pointer (some ⟨b, 0, none⟩), .pointer (some ⟨b + 1, 0, none⟩), .pointer (some ⟨b + 1 + 1, 0, none⟩)]) hfF.symm trivial (enters_of Try.func68 (by kernel_rfl) rfl)
      SQ.out KeepsO.trans KeepsO.put (Below.refl _ _) (fun _ => rfl) (fun pre => GrowI 26 21 1 w3 b0 (flat pre).length ((flat pre).map r32)) (fun _ _ _ => False) (GrowI.own_ _ _ BL.out) (fun _ _ _ _ _ h _ _ => h.elim) HI.out
      (fun x a' W => a'.defers = [] ∧ a'.tmps.size = 28 ∧ a'.tmps.getD 6 undef = .pointer (some ⟨b0, 0, none⟩) ∧ ∃ bx, a'.tmps.getD 9 undef = .pointer (some ⟨bx, 0, none⟩) ∧ W.heap[bx]? = some (.cells (encT x).toArray 58))
      ?ax ?assign ?body ?done ?stop
    case ax =>
      rintro x a' _ W W' row ⟨h1, h2, h3, bx, h4, h5⟩ hg hr
      refine ⟨h1, h2, h3, bx, h4, (hg.block bx (Array.getElem?_eq_some_iff.1 h5).1 (fun e => ?_)).trans h5⟩
      obtain ⟨_, o, ho, hn⟩ := hr bx e.symm
      rw [h5] at ho
      cases ho
      cases hn
    case assign =>
      intro l pre x W K hI hK
      rw [thV_cells]
      obtain ⟨bx, hbx⟩ : ∃ v, W.heap.size = v := ⟨_, rfl⟩
      obtain ⟨w2', hw2⟩ : ∃ v, W.alloc (.cells (encT x).toArray 58) = v := ⟨_, rfl⟩
      have B2 : Below W.heap.size W w2' := by rw [← hw2]; exact (Below.refl _ _).alloc (Nat.le_refl _) _
      have HR := Lib.hid (show _ ∧ _ ∧ w2'.heap[bx]? = some (.cells (encT x).toArray 58) from ⟨GrowI.keeps (e := 21) (w1 := w3) (bw := b0) B2, hI.later B2, by rw [← hw2, ← hbx]; exact heap_alloc_new W _⟩)
      have HE2 := Lib.hid (And.intro hw2 hbx)
      clear hbx hw2 B2 hI
      gi_wp2_with (refine wpListIn_skipped rfl rfl (by intro c e; cases e) (exec_store_row 58 (.tmp 9) (.tmp 22) rfl W.heap.size (encT x).toArray rfl rfl 58 _ (heap_alloc_new W _) (by rw [List.size_toArray]; exact thing_info _) ((by rfl : _ = 33).trans (encT_size _).symm) (all_oneCell_toArray (encT_one _))) ?_; rw [alloc_setRow, HE2.out.1, HE2.out.2])
      exact hK _ _ HR.out.1.1 HR.out.1.2 HR.out.2.1 ⟨rfl, rfl, rfl, bx, rfl, HR.out.2.2⟩
    case stop => exact fun _ _ _ _ _ _ h => h.elim
    case body =>
      rintro l pre t ⟨ts, ds⟩ W hl - ⟨v, hq, ho, hst⟩ ⟨h1, h2, h3, bx, h4, h5⟩ hlt
      dsimp only at h1 h2 h3 h4
      subst h1
      obtain ⟨u, rfl, hu⟩ := lit28 ts h2
      rw [← hu] at h3 h4
      rw [h3, h4]
      have hcb : W.drew.cell? ⟨b0, 0, none⟩ = some v := by show W.cell? _ = _; rw [cell_of_row W b0 0 _ _ _ hq]; rfl
      obtain ⟨np, hnp⟩ : ∃ n, (flat pre).length = n := ⟨_, rfl⟩
      obtain ⟨pl, hpl⟩ : ∃ n, (flat pre).map r32 = n := ⟨_, rfl⟩
      rw [hnp, hpl] at ho
      have hn3 : np ≤ 3200000 := by rw [← hnp]; exact H3.out.2.2 pre hlt
      have HQ := Lib.hid (And.intro hq (And.intro ho (And.intro hst (And.intro hnp hpl))))
      have HF := Lib.hid (show W.drew.heap[bx]? = some (.cells (chC t.l).toArray 58) from h5)
      have HRu := Lib.hid (fun w' => runes_any t.l w' t.h)
      have htl := t.h
      clear hu hq ho hst hnp hpl h5 hlt h2 h3 h4
      gi_wp2_with fail
      refine wpIn_region_held_drew (S := fun _ => True) (by kernel_rfl) (by kernel_rfl) (fun _ _ h => h) trivial (fun hHeld => ?_)
      clear hHeld
      refine wpAnyH_ready (rs := [0, 1]) (by kernel_rfl) (by simp) ?_
      refine AllReadyH.cons rfl (fun K hK => ?_) (AllReadyH.cons rfl (fun K hK => ?_) (AllReadyH.nil))
      · simp only [List.getElem_toArray, List.getElem_cons_zero]
        go_simp
        refine hK.out _ _ trivial (fun _ => ?_)
        clear hK K
        try simp only [Act.put, List.setIfInBounds_toArray, List.set_cons_zero, List.set_cons_succ]
        refine wpAnyH_ready (rs := [1]) (by kernel_rfl) (by simp) ?_
        refine AllReadyH.cons rfl (fun K hK => ?_) (AllReadyH.nil)
        simp only [List.getElem_toArray, List.getElem_cons_succ, List.getElem_cons_zero]
        refine of_if (by rfl) ?_
        refine oper_known (exec_load_row 58 (.tmp 9) rfl bx rfl 58 (chC t.l).toArray (0, 0) _ HF.out Try.underlying58 rfl (ch_info _ t.h)) ?_
        refine hK.out _ _ trivial (fun _ => ?_)
        clear hK K
        try simp only [Act.put, List.setIfInBounds_toArray, List.set_cons_zero, List.set_cons_succ]
        refine wpAnyH_ready (rs := [2]) (by kernel_rfl) (by simp) ?_
        refine AllReadyH.cons rfl (fun K hK => ?_) (AllReadyH.nil)
        simp only [List.getElem_toArray, List.getElem_cons_succ, List.getElem_cons_zero]
        go_simp
        refine (HRu.out _).mono ?_
        rintro e w2 ⟨vr, rfl, hr2, hb2⟩
        obtain ⟨Ar, cr, rfl, hrx⟩ := own_shape hr2
        have B2 := Lib.hid (show Below W.heap.size W w2 from (Below.refl _ _).drew.trans hb2)
        have R2 := Lib.hid (And.intro hr2 hrx)
        have Q2 := Lib.hid (heap_later HQ.out.1 B2.out)
        clear hr2 hrx hb2
        refine hK.out _ _ trivial (fun _ => ?_)
        clear hK K
        try simp only [Act.put, List.setIfInBounds_toArray, List.set_cons_zero, List.set_cons_succ]
        refine wpAnyH_ready (rs := [3]) (by kernel_rfl) (by simp) ?_
        refine AllReadyH.cons rfl (fun K hK => ?_) AllReadyH.nil
        simp only [List.getElem_toArray, List.getElem_cons_succ, List.getElem_cons_zero]
        refine of_if (by rfl) ?_
        refine step_append_sees (.tmp 23) (.tmp 25) 26 rfl w3.heap.size 21 i0 _ 1 4 Try.underlying26 ii0 iz0 iz1 iz2 rfl (by omega) _ np _ rfl (own_later HQ.out.2.1 B2.out) w2.heap.size _ t.l.length _ (t.l.map r32) rfl (Sees.of_own R2.out.1) (r32_one _) (by simp only [maxLen]; omega) (by omega) (Nat.le_trans HQ.out.2.2.1.size B2.out.size) ?_
        intro v5 w5 hown5 hg5 hat5
        have P5 := Lib.hid (GrowI.round HQ.out.1 HQ.out.2.1 HQ.out.2.2.1 BL.out (by decide) B2.out hown5 hg5)
        have hc5 := P5.out.2.2.2.1
        have hf5 := P5.out.2.2.2.2
        obtain ⟨A5, c5, rfl, hx5⟩ := own_shape hown5
        clear hown5 hg5 hat5 hx5
        refine hK.out _ _ trivial (fun _ => ?_)
        clear hK K
        try simp only [Act.put, List.setIfInBounds_toArray, List.set_cons_zero, List.set_cons_succ]
        refine wpAnyH_ready (rs := [4]) (by kernel_rfl) (by simp) ?_
        refine AllReadyH.cons rfl (fun K hK => ?_) AllReadyH.nil
        simp only [List.getElem_toArray, List.getElem_cons_succ, List.getElem_cons_zero]
        go_simp
        refine hK.out _ _ trivial (fun _ => ?_)
        clear hK K
        try simp only [Act.put, List.setIfInBounds_toArray, List.set_cons_zero, List.set_cons_succ]
        refine wpAnyH_done (by kernel_rfl) ?_ _
        have HD := P5.out.2.2.1
        refine ⟨P5.out.1, P5.out.2.1, ?_⟩
        dsimp only
        rw [flat_append, flat_one, List.length_append, List.map_append, HQ.out.2.2.2.1, HQ.out.2.2.2.2]
        exact HD
      · simp only [List.getElem_toArray, List.getElem_cons_succ, List.getElem_cons_zero]
        refine of_if (by rfl) ?_
        refine oper_known (exec_load_row 58 (.tmp 9) rfl bx rfl 58 (chC t.l).toArray (0, 0) _ HF.out Try.underlying58 rfl (ch_info _ t.h)) ?_
        refine hK.out _ _ trivial (fun _ => ?_)
        clear hK K
        try simp only [Act.put, List.setIfInBounds_toArray, List.set_cons_zero, List.set_cons_succ]
        refine wpAnyH_ready (rs := [0, 2]) (by kernel_rfl) (by simp) ?_
        refine AllReadyH.cons rfl (fun K hK => ?_) (AllReadyH.cons rfl (fun K hK => ?_) (AllReadyH.nil))
        · simp only [List.getElem_toArray, List.getElem_cons_zero]
          go_simp
          refine hK.out _ _ trivial (fun _ => ?_)
          clear hK K
          try simp only [Act.put, List.setIfInBounds_toArray, List.set_cons_zero, List.set_cons_succ]
          refine wpAnyH_ready (rs := [2]) (by kernel_rfl) (by simp) ?_
          refine AllReadyH.cons rfl (fun K hK => ?_) (AllReadyH.nil)
          simp only [List.getElem_toArray, List.getElem_cons_succ, List.getElem_cons_zero]
          go_simp
          refine (HRu.out _).mono ?_
          rintro e w2 ⟨vr, rfl, hr2, hb2⟩
          obtain ⟨Ar, cr, rfl, hrx⟩ := own_shape hr2
          have B2 := Lib.hid (show Below W.heap.size W w2 from (Below.refl _ _).drew.trans hb2)
          have R2 := Lib.hid (And.intro hr2 hrx)
          have Q2 := Lib.hid (heap_later HQ.out.1 B2.out)
          clear hr2 hrx hb2
          refine hK.out _ _ trivial (fun _ => ?_)
          clear hK K
          try simp only [Act.put, List.setIfInBounds_toArray, List.set_cons_zero, List.set_cons_succ]
          refine wpAnyH_ready (rs := [3]) (by kernel_rfl) (by simp) ?_
          refine AllReadyH.cons rfl (fun K hK => ?_) AllReadyH.nil
          simp only [List.getElem_toArray, List.getElem_cons_succ, List.getElem_cons_zero]
          refine of_if (by rfl) ?_
          refine step_append_sees (.tmp 23) (.tmp 25) 26 rfl w3.heap.size 21 i0 _ 1 4 Try.underlying26 ii0 iz0 iz1 iz2 rfl (by omega) _ np _ rfl (own_later HQ.out.2.1 B2.out) w2.heap.size _ t.l.length _ (t.l.map r32) rfl (Sees.of_own R2.out.1) (r32_one _) (by simp only [maxLen]; omega) (by omega) (Nat.le_trans HQ.out.2.2.1.size B2.out.size) ?_
          intro v5 w5 hown5 hg5 hat5
          have P5 := Lib.hid (GrowI.round HQ.out.1 HQ.out.2.1 HQ.out.2.2.1 BL.out (by decide) B2.out hown5 hg5)
          have hc5 := P5.out.2.2.2.1
          have hf5 := P5.out.2.2.2.2
          obtain ⟨A5, c5, rfl, hx5⟩ := own_shape hown5
          clear hown5 hg5 hat5 hx5
          refine hK.out _ _ trivial (fun _ => ?_)
          clear hK K
          try simp only [Act.put, List.setIfInBounds_toArray, List.set_cons_zero, List.set_cons_succ]
          refine wpAnyH_ready (rs := [4]) (by kernel_rfl) (by simp) ?_
          refine AllReadyH.cons rfl (fun K hK => ?_) AllReadyH.nil
          simp only [List.getElem_toArray, List.getElem_cons_succ, List.getElem_cons_zero]
          go_simp
          refine hK.out _ _ trivial (fun _ => ?_)
          clear hK K
          try simp only [Act.put, List.setIfInBounds_toArray, List.set_cons_zero, List.set_cons_succ]
          refine wpAnyH_done (by kernel_rfl) ?_ _
          have HD := P5.out.2.2.1
          refine ⟨P5.out.1, P5.out.2.1, ?_⟩
          dsimp only
          rw [flat_append, flat_one, List.length_append, List.map_append, HQ.out.2.2.2.1, HQ.out.2.2.2.2]
          exact HD
        · simp only [List.getElem_toArray, List.getElem_cons_succ, List.getElem_cons_zero]
          go_simp
          refine (HRu.out _).mono ?_
          rintro e w2 ⟨vr, rfl, hr2, hb2⟩
          obtain ⟨Ar, cr, rfl, hrx⟩ := own_shape hr2
          have B2 := Lib.hid (show Below W.heap.size W w2 from (Below.refl _ _).drew.trans hb2)
          have R2 := Lib.hid (And.intro hr2 hrx)
          have Q2 := Lib.hid (heap_later HQ.out.1 B2.out)
          clear hr2 hrx hb2
          refine hK.out _ _ trivial (fun _ => ?_)
          clear hK K
          try simp only [Act.put, List.setIfInBounds_toArray, List.set_cons_zero, List.set_cons_succ]
          refine wpAnyH_ready (rs := [0]) (by kernel_rfl) (by simp) ?_
          refine AllReadyH.cons rfl (fun K hK => ?_) (AllReadyH.nil)
          simp only [List.getElem_toArray, List.getElem_cons_zero]
          have hcb := cell_of_row w2 b0 0 _ _ (0, 0) Q2.out
          go_simp
          refine hK.out _ _ trivial (fun _ => ?_)
          clear hK K
          try simp only [Act.put, List.setIfInBounds_toArray, List.set_cons_zero, List.set_cons_succ]
          refine wpAnyH_ready (rs := [3]) (by kernel_rfl) (by simp) ?_
          refine AllReadyH.cons rfl (fun K hK => ?_) AllReadyH.nil
          simp only [List.getElem_toArray, List.getElem_cons_succ, List.getElem_cons_zero]
          refine of_if (by rfl) ?_
          refine step_append_sees (.tmp 23) (.tmp 25) 26 rfl w3.heap.size 21 i0 _ 1 4 Try.underlying26 ii0 iz0 iz1 iz2 rfl (by omega) _ np _ rfl (own_later HQ.out.2.1 B2.out) w2.heap.size _ t.l.length _ (t.l.map r32) rfl (Sees.of_own R2.out.1) (r32_one _) (by simp only [maxLen]; omega) (by omega) (Nat.le_trans HQ.out.2.2.1.size B2.out.size) ?_
          intro v5 w5 hown5 hg5 hat5
          have P5 := Lib.hid (GrowI.round HQ.out.1 HQ.out.2.1 HQ.out.2.2.1 BL.out (by decide) B2.out hown5 hg5)
          have hc5 := P5.out.2.2.2.1
          have hf5 := P5.out.2.2.2.2
          obtain ⟨A5, c5, rfl, hx5⟩ := own_shape hown5
          clear hown5 hg5 hat5 hx5
          refine hK.out _ _ trivial (fun _ => ?_)
          clear hK K
          try simp only [Act.put, List.setIfInBounds_toArray, List.set_cons_zero, List.set_cons_succ]
          refine wpAnyH_ready (rs := [4]) (by kernel_rfl) (by simp) ?_
          refine AllReadyH.cons rfl (fun K hK => ?_) AllReadyH.nil
          simp only [List.getElem_toArray, List.getElem_cons_succ, List.getElem_cons_zero]
          go_simp
          refine hK.out _ _ trivial (fun _ => ?_)
          clear hK K
          try simp only [Act.put, List.setIfInBounds_toArray, List.set_cons_zero, List.set_cons_succ]
          refine wpAnyH_done (by kernel_rfl) ?_ _
          have HD := P5.out.2.2.1
          refine ⟨P5.out.1, P5.out.2.1, ?_⟩
          dsimp only
          rw [flat_append, flat_one, List.length_append, List.map_append, HQ.out.2.2.2.1, HQ.out.2.2.2.2]
          exact HD

    case done =>
      rintro D ys W hD rfl ⟨v, hq, ho, hst⟩ hK
      try dsimp only at ho
      rw [HXo.out] at ho
      obtain ⟨Av, cv, rfl, hxv⟩ := own_shape ho
      clear hxv
      obtain ⟨v, hvv⟩ : ∃ v, Value.slice Av (cutR R i j).length cv = v := ⟨_, rfl⟩
      rw [hvv] at hq ho
      have HVV := Lib.hid hvv
      have hcb : W.cell? ⟨b0, 0, none⟩ = some v := by rw [cell_of_row W b0 0 _ _ _ hq]; rfl
      have hf0 : W.frozen? ⟨b0, 0, none⟩ = false := frozen_of_row W b0 0 _ _ hq
      have hs1 : Step (fun k => k = b0) W (W.setCell ⟨b0, 0, none⟩ v) := (Step.refl (fun k => k = b0) W).setCell (p := ⟨b0, 0, none⟩) (.inl rfl) _
      have hvb : ∀ k, v.ownBlock = some k → w3.heap.size ≤ k ∧ k ≠ b0 := fun k hk => ⟨own_base ho hk, fun e => own_row_blk ho hq (by decide) (e ▸ hk)⟩
      have HR := Lib.hid (show (W.setCell ⟨b0, 0, none⟩ v).ownsRow w3.heap.size 21 1 v (cutR R i j).length ((cutR R i j).map r32) ∧ Step (fun k => k = b0) w3 (W.setCell ⟨b0, 0, none⟩ v) ∧ (W.setCell ⟨b0, 0, none⟩ v).heap[b0]? = some (.cells #[v] 26) ∧ Marks w3.heap.size (W.setCell ⟨b0, 0, none⟩ v) [{ target := .collected D, args := #[] }] from
        ⟨own_step ho hs1 (fun k hk e => (hvb k hk).2 e), hst.trans hs1, by rw [heap_setCell_same W b0 0 _ _ _ hq]; rfl, by simp, fun d hd => by
          simp at hd
          subst hd
          exact ⟨D, rfl, hD, (hs1.block D (Array.getElem?_eq_some_iff.1 hK).1 (fun e => by have := BL.out; have e : D = b0 := e; omega)).trans hK⟩⟩)
      have HV := Lib.hid hvb
      clear hq ho hst hK hD hs1 hvb
      subst hvv
      go_wp2_with fail
      refine leaves_marks (B := w3.heap.size) _ _ HR.out.2.2.2 (fun w' hs => ?_)
      have hS : Step (fun k => k = b0) w3 w' := HR.out.2.1.upto hs.below (Nat.le_refl _)
      have hc : w'.cell? ⟨b0, 0, none⟩ = some (.slice Av (cutR R i j).length cv) := by
        rw [cell_of_row w' b0 0 _ _ _ ((hs.below.block b0 BL.out).trans HR.out.2.2.1)]; rfl
      refine ⟨.tuple #[.slice Av (cutR R i j).length cv, .int .i64 0], ?_, .slice Av (cutR R i j).length cv, rfl, H2, ?_, ?_, ?_, ?_⟩
      · simp [results, Try.f18, go_sem, hc]
      · exact (RoS.step ⟨X, H3.out.1.obW, HL.out.2.2, HL.out.1⟩ hS (fun k hk e => HT.out.2.2.2 (e ▸ hk)))
      · have hg := HT.out.2.1
        have hw := H0.out.1
        have hb3 := H3.out.2.1
        refine ⟨⟨hS.os.trans (hb3.os.trans (hg.step.os.trans hw.os)), hS.tape.trans (hb3.tape.trans (hg.step.tape.trans hw.tape)), hS.output.trans (hb3.output.trans (hg.step.output.trans hw.output)), Nat.le_trans hw.size (Nat.le_trans hg.step.size (Nat.le_trans hb3.size hS.size)), fun k hk hH => ?_⟩, fun k hk => ?_⟩
        · have hk0 := Nat.lt_of_lt_of_le hk hw.size
          have hk2 := Nat.lt_of_lt_of_le hk0 hg.step.size
          exact (hS.block k (Nat.lt_of_lt_of_le hk2 hb3.size) (fun e => by have e : k = b0 := e; have := HE.out.2; omega)).trans ((hb3.block k hk2).trans ((hg.step.block k hk0 hH).trans (hw.block k hk)))
        · rcases hg.new k hk with e | e
          · exact .inl e
          · exact .inr (Nat.le_trans hw.size e)
      · exact own_lower (hs.cells.own HR.out.1 (fun _ _ h => h)) (Nat.le_trans H0.out.1.size (Nat.le_trans HT.out.2.1.step.size H3.out.2.1.size))
      · intro k hk hk2
        have := (HV.out k hk).1
        have := (H3.out.1.obW.lt) k hk2
        omega
  · have HX := Lib.hid (show cutR R i j = [] by unfold cutR; rw [if_neg (by rw [hb]; decide)])
    rw [hb] at HB ⊢
    clear hb hw0 hb0
    refine (callsIn_wide (n := 9)).1 ?_
    refine callsIn_of_wp_marks Try.func18 rfl trivial ?_ rfl
    refine (wpIn_wide (n := 9)).2 ?_
    simp only [Try.ntmps18, List.size_toArray, List.length_cons, List.length_nil, Nat.reduceAdd, Nat.reduceSub, Array.replicate_succ, Array.replicate_zero, List.push_toArray, List.append_toArray, List.nil_append, List.cons_append]
    go_wp2_with fail
    rw [HE.out.1, HE.out.2]
    refine HB.out.mono ?_
    clear HB
    rintro e w1 ⟨H1, rfl, hR, hg⟩
    have hq1 : w1.heap[b0]? = some (.cells #[.slice none 0 0] 26) := (hg.step.block b0 (Array.getElem?_eq_some_iff.1 H0.out.2.1).1 (fun e => by have := H0.out.2.2 b0 e; omega)).trans H0.out.2.1
    have hn1 : ¬ H1 b0 := fun e => by
      rcases hg.new b0 e with h | h
      · have := H0.out.2.2 b0 h; omega
      · have := (Array.getElem?_eq_some_iff.1 H0.out.2.1).1; omega
    have hcb : w1.cell? ⟨b0, 0, none⟩ = some (.slice none 0 0) := by rw [cell_of_row w1 b0 0 _ _ _ hq1]; rfl
    have hf0 : w1.frozen? ⟨b0, 0, none⟩ = false := frozen_of_row w1 b0 0 _ _ hq1
    have HR := Lib.hid (And.intro hR (And.intro hg (And.intro hq1 hn1)))
    clear hR hg hq1 hn1
    go_wp2_with fail
    refine leaves_marks (B := w1.heap.size) _ _ (Marks.nil_ _ _) (fun w' hs => ?_)
    have hb0 := (Array.getElem?_eq_some_iff.1 HR.out.2.2.1).1
    have hS : Step (fun k => k = b0) w1 w' := ((Step.refl (fun k => k = b0) w1).setCell (p := ⟨b0, 0, none⟩) (.inl rfl) _).upto hs.below (Nat.le_refl _)
    have hc : w'.cell? ⟨b0, 0, none⟩ = some (.slice none 0 0) := by
      rw [cell_of_row w' b0 0 _ _ _ ((hs.below.block b0 (by simpa using hb0)).trans (heap_setCell_same w1 b0 0 _ _ _ HR.out.2.2.1))]; rfl
    refine ⟨.tuple #[.slice none 0 0, .int .i64 5], ?_, .slice none 0 0, H1, rfl, ?_, ?_, ?_, ?_⟩
    · simp [results, Try.f18, go_sem, hc]
    · exact HR.out.1.step hS (fun k hk e => HR.out.2.2.2 (e ▸ hk))
    · have hg := HR.out.2.1
      have hw := H0.out.1
      refine ⟨⟨hS.os.trans (hg.step.os.trans hw.os), hS.tape.trans (hg.step.tape.trans hw.tape), hS.output.trans (hg.step.output.trans hw.output), Nat.le_trans hw.size (Nat.le_trans hg.step.size hS.size), fun k hk hH => ?_⟩, fun k hk => ?_⟩
      · have hk0 := Nat.lt_of_lt_of_le hk hw.size
        exact (hS.block k (Nat.lt_of_lt_of_le hk0 hg.step.size) (fun e => by have e : k = b0 := e; have := HE.out.2; omega)).trans ((hg.step.block k hk0 hH).trans (hw.block k hk))
      · rcases hg.new k hk with e | e
        · exact .inl e
        · exact .inr (Nat.le_trans hw.size e)
    · rw [HX.out]
      exact ⟨by simp, .inl ⟨rfl, rfl⟩⟩
    · exact fun k hk => nomatch hk

end Go.Proofs.Ytmfkdaannjibfaa
