/-
  Spans: Splice.
-/
import Derived.Test.YtbioomilnjikpaaSpAb
namespace Go.Proofs.Ytbioomilnjikpaa
open Go.RowKit

theorem Sees.step {w w' : World} {B size n : Nat} {A : Option Addr} {xs : List Value} {H : Nat → Prop} (h : Sees w B size A n xs) (hs : Step H w w') (hB : B ≤ w.heap.size) (ho : 0 < n → ∀ b o, A = some ⟨b, o, none⟩ → ¬ H b) : Sees w' B size A n xs :=
  ⟨h.1, fun hn => by
    obtain ⟨b, o, hA, hb, hc⟩ := h.2 hn
    refine ⟨b, o, hA, hb, fun j u hu => ?_⟩
    exact (World.cell?_of_block (w := w) (a := ⟨b, o + j, none⟩) (hs.block b (by omega) (ho hn b o hA))).trans (hc j u hu)⟩
theorem off_grow {w w' : World} {B size n : Nat} {A : Option Addr} {xs : List Value} {H H' : Nat → Prop} (h : Sees w B size A n xs) (hg : Grow H w w' H') (hB : B ≤ w.heap.size) (ho : 0 < n → ∀ b o, A = some ⟨b, o, none⟩ → ¬ H b) : 0 < n → ∀ b o, A = some ⟨b, o, none⟩ → ¬ H' b := fun hn b o e h' => by
  rcases hg.new b h' with h1 | h1
  · exact ho hn b o e h1
  · obtain ⟨b2, o2, hA, hb, _⟩ := h.2 hn
    rw [hA] at e
    simp only [Option.some.injEq, Addr.mk.injEq] at e
    omega

/-- What Splice answers; what there is behind it. -/
def spE (X : List Th) (i j : Int) (l : List Th) : Int := if badL l = true then 3 else if betE X i j = 0 then (if sumT l ≤ 536870912 - sumT X + j - i then 0 else 8) else 5
def spX (X : List Th) (i j : Int) (l : List Th) : List Th := if spE X i j l = 0 then replT X i j l else X

theorem not_bad {l : List Th} (h : badL l = false) : ∀ x ∈ l, 0 ≤ x.n ∧ 0 ≤ x.id := fun x hx => by
  have h1 := List.any_eq_false.1 h x hx
  simp [badX] at h1
  exact h1
theorem betE_zero {X : List Th} {i j : Int} (h : betE X i j = 0) : 0 ≤ i ∧ i ≤ j ∧ j ≤ sumT X := by
  unfold betE at h
  split at h
  · assumption
  · cases h
theorem betE_or (X : List Th) (i j : Int) : betE X i j = 0 ∨ betE X i j = 5 := by unfold betE; split; exact .inl rfl; exact .inr rfl
theorem spX_no {X : List Th} {i j : Int} {l : List Th} (h : spE X i j l ≠ 0) : spX X i j l = X := by unfold spX; rw [if_neg h]
theorem sumT_pos {l : List Th} (h : ∀ x ∈ l, 0 ≤ x.n) : 0 ≤ sumT l := by
  induction l with
  | nil => exact Int.le_refl 0
  | cons x l ih =>
    have h1 := ih (fun y hy => h y (by simp [hy]))
    have h2 := h x (by simp)
    rw [sumT]; unfold sizeT; omega
theorem sumT_mem {l : List Th} (h : ∀ x ∈ l, 0 ≤ x.n) {x : Th} (hx : x ∈ l) : x.n ≤ sumT l := by
  induction l with
  | nil => cases hx
  | cons y l ih =>
    have h1 := sumT_pos (fun y hy => h y (by simp [hy]) : ∀ y ∈ l, 0 ≤ y.n)
    have h2 := h y (by simp)
    rw [sumT]; unfold sizeT
    rcases List.mem_cons.1 hx with e | e
    · rw [e]; omega
    · have := ih (fun y hy => h y (by simp [hy])) e; omega

set_option maxRecDepth 100000 in
set_option maxHeartbeats 4000000 in
theorem splice_any {w : World} {H : Nat → Prop} {g N : Nat} {X : List Th} (h : SpS w H g X N) {B c : Nat} {A : Option Addr} {l : List Th} (hl : Sees w B 2 A l.length (rowT l)) (hB : B ≤ w.heap.size) (hA : 0 < l.length → ∀ b o, A = some ⟨b, o, none⟩ → ¬ H b) (hc : l.length ≤ c) (i j : Int) (hn : l.length ≤ 70000) (hN : N ≤ 79998) (hX : X.length + l.length + 2 ≤ 80000) :
    Calls Try.prog 10 #[.pointer (some ⟨g, 0, none⟩), .int .i64 i, .int .i64 j, .slice A l.length c] w fun e w' => SpR w H g (spX X i j l) (max (N + 2) (spX X i j l).length) (.int .i64 (spE X i j l)) e w' := by
  have HCo := Lib.hid (contains_any hl hB hc (by omega))
  have hokX := h.ob.okX
  have HS := Lib.hid h
  have HL := Lib.hid (fun (H1 : Nat → Prop) (w1 : World) (hg : Grow H w w1 H1) => And.intro (hl.step hg.step hB hA) (off_grow hl hg hB hA))
  have hzX : 0 ≤ sumT X := sumT_nonneg hokX.1
  have HXX := Lib.hid hokX
  have HZ := Lib.hid (And.intro hzX h.le)
  have hsz : B ≤ w.heap.size := hB
  obtain ⟨nl, hnl⟩ : ∃ n, l.length = n := ⟨_, rfl⟩
  have HN := Lib.hid hnl
  rw [hnl] at HCo HL hc hn hX ⊢
  have h0 : (nl : Int) ≤ 70000 := by omega
  clear h hl hA hnl hokX hzX
  cases hbad : badL l with
  | true =>
    have HE := Lib.hid (show spE X i j l = 3 by unfold spE; rw [if_pos hbad])
    have HX' := Lib.hid (show spX X i j l = X from spX_no (by rw [HE.out]; decide))
    rw [hbad] at HCo
    clear hbad
    rw [HE.out, HX'.out]
    go_enter Try.func10, Try.ntmps10
    go_wp2_with fail
    refine HCo.out.mono ?_
    rintro e w1 ⟨rfl, hb1⟩
    have HR := Lib.hid hb1
    clear hb1
    go_wp2_with fail
    go_ret
    exact ⟨H, rfl, (HS.out.below HR.out).more (by omega), Grow.of_below HR.out⟩
  | false =>
    have hpos := not_bad hbad
    have hE : spE X i j l = if betE X i j = 0 then (if sumT l ≤ 536870912 - sumT X + j - i then 0 else 8) else 5 := by unfold spE; rw [if_neg (by rw [hbad]; decide)]
    rw [hbad] at HCo
    have HP := Lib.hid hpos
    rcases betE_or X i j with hb | hb
    · obtain ⟨i0, i1, i2⟩ := betE_zero hb
      rw [hb, if_pos rfl] at hE
      obtain ⟨z, hz⟩ : ∃ z, sumT X = z := ⟨_, rfl⟩
      have HZZ := Lib.hid hz
      rw [hz] at hE HZ i2
      have hz0 := HZ.out.1
      have hz1 := HZ.out.2
      have HE := Lib.hid hE
      have HB := Lib.hid hb
      have g1 : IntKind.i64.wrap (536870912 - z) = 536870912 - z := IntWalk.i64_in _ (by omega)
      have g2 : IntKind.i64.wrap (536870912 - z + j) = 536870912 - z + j := IntWalk.i64_in _ (by omega)
      have g3 : IntKind.i64.wrap (536870912 - z + j - i) = 536870912 - z + j - i := IntWalk.i64_in _ (by omega)
      clear hE hb hbad hpos hz
      go_enter Try.func10, Try.ntmps10
      go_wp2_with fail
      refine HCo.out.mono ?_
      clear HCo
      rintro e w1 ⟨rfl, hb1⟩
      have HW1 := Lib.hid (And.intro (HS.out.below hb1) (Grow.of_below (F := H) hb1))
      have HBt := Lib.hid (between_any HW1.out.1.ob i j)
      rw [HB.out] at HBt
      clear hb1
      go_wp2_with fail
      refine HBt.out.mono ?_
      clear HBt
      rintro e w2 ⟨H2, rfl, hW2, hg2⟩
      have HW2 := Lib.hid (show SpS w2 H2 g X N ∧ Grow H w w2 H2 from ⟨⟨hW2, HS.out.can, HS.out.le⟩, HW1.out.2.trans hg2⟩)
      have HLe := Lib.hid (len_any HW2.out.1)
      rw [HZZ.out] at HLe
      clear hW2 hg2
      go_wp2_with fail
      refine HLe.out.mono ?_
      clear HLe
      rintro e w3 ⟨H3, rfl, hW3, hg3⟩
      have HW3 := Lib.hid (And.intro hW3 (HW2.out.2.trans hg3))
      clear hW3 hg3
      go_wp2_with fail
      obtain ⟨left, hleft⟩ : ∃ x, 536870912 - z + j - i = x := ⟨_, rfl⟩
      have HLF := Lib.hid hleft
      have hl0 : 0 ≤ left := by omega
      have hl1 : left ≤ 536870912 := by omega
      rw [hleft] at g3 ⊢
      clear hleft
      go_loopw [10, 33] (fun v10 v33 wr => ∃ k : Nat, k ≤ nl ∧ v33 = .int .i64 k ∧ v10 = .int .i64 (left - sumT (l.take k)) ∧ sumT (l.take k) ≤ left ∧ Below w3.heap.size w3 wr) (fun _ v33 _ => nl - (intOf v33).toNat)
      case atStart => exact ⟨0, Nat.zero_le _, rfl, by rw [List.take_zero, sumT]; simp, by rw [List.take_zero, sumT]; exact hl0, Below.refl _ _⟩
      case round =>
        obtain ⟨k, hk, rfl, rfl, hsk, hbk⟩ := hrel
        by_cases hlt : k < nl
        · have hkI : (k : Int) < nl := by omega
          obtain ⟨x, hx⟩ : ∃ x, l[k]? = some x := ⟨_, List.getElem?_eq_getElem (by rw [HN.out]; exact hlt)⟩
          have hpx := (HP.out x (List.mem_of_getElem? hx)).1
          have hsx : sumT (l.take (k + 1)) = sumT (l.take k) + x.n := by rw [List.take_add_one, hx, sumT_append]; show _ + sumT [x] = _; rw [sumT, sumT]; unfold sizeT; omega
          have hsp := sumT_pos (fun y hy => (HP.out y (List.mem_of_mem_take hy)).1 : ∀ y ∈ l.take k, 0 ≤ y.n)
          obtain ⟨sk, hsk'⟩ : ∃ s, sumT (l.take k) = s := ⟨_, rfl⟩
          rw [hsk'] at hsk hsx hsp ⊢
          obtain ⟨-, b, o, rfl, hbB, hr⟩ := Sees.thing (((HL.out H3 w3 HW3.out.2).1).below hbk (by have := HW3.out.2.step.size; omega)) hx
          have HRx := Lib.hid hr
          have HX := Lib.hid hx
          have HSX := Lib.hid hsx
          have HK := Lib.hid hbk
          obtain ⟨bx, hbx⟩ : ∃ v, wr.heap.size = v := ⟨_, rfl⟩
          obtain ⟨xn, hxn⟩ : ∃ v, x.n = v := ⟨_, rfl⟩
          obtain ⟨w4, hw4⟩ : ∃ v, wr.alloc (.cells (encT x).toArray 34) = v := ⟨_, rfl⟩
          have hq4 : w4.heap[bx]? = some (.cells (encT x).toArray 34) := by rw [← hw4, ← hbx]; exact heap_alloc_new wr _
          have hc4 : w4.cell? ⟨bx, 0, none⟩ = some (.int .i64 xn) := by rw [cell_of_row w4 bx 0 _ _ _ hq4, ← hxn]; rfl
          have HK4 := Lib.hid (show Below w3.heap.size w3 w4 by rw [← hw4]; exact hbk.alloc hbk.size _)
          have HE4 := Lib.hid (And.intro hw4 (And.intro hbx hxn))
          rw [hxn] at hpx
          clear hsx hr hx hbk hbx hw4 hq4 hsk' hxn
          by_cases hgt : left - sk < xn
          · have HR := Lib.hid (show spE X i j l = 8 by
              rw [HE.out, HLF.out, if_neg]
              have e1 : sumT l = sumT (l.take (k + 1)) + sumT (l.drop (k + 1)) := by rw [← sumT_append, List.take_append_drop]
              have e2 := sumT_pos (fun y hy => (HP.out y (List.mem_of_mem_drop hy)).1 : ∀ y ∈ l.drop (k + 1), 0 ≤ y.n)
              have e3 := HSX.out
              have e4 := HE4.out.2.2
              omega)
            have HX' := Lib.hid (show spX X i j l = X from spX_no (by rw [HR.out]; decide))
            go_wp2_with (first
              | (refine wpList_load_mid rfl 34 (.tmp 35) rfl b (o + k * 2) rfl (encT x) _ HRx.out Try.underlying34 rfl (thing_info x) ?_)
              | (refine wpList_store_row rfl 34 (.tmp 12) (.tmp 36) rfl wr.heap.size (encT x).toArray rfl rfl 34 _ (heap_alloc_new wr _) (by rw [List.size_toArray]; exact thing_info _) (by rfl) (all_oneCell_toArray (encT_one _)) ?_; rw [alloc_setRow, HE4.out.1, HE4.out.2.1]))
            go_ret
            exact ⟨H3, by rw [HR.out]; rfl, by rw [HX'.out]; exact (HW3.out.1.below HK4.out).more (by omega), HW3.out.2.to HK4.out⟩
          · have g4 : IntKind.i64.wrap (left - sk - xn) = left - sk - xn := IntWalk.i64_in _ (by omega)
            go_wp2_with (first
              | (refine wpList_load_mid rfl 34 (.tmp 35) rfl b (o + k * 2) rfl (encT x) _ HRx.out Try.underlying34 rfl (thing_info x) ?_)
              | (refine wpList_store_row rfl 34 (.tmp 12) (.tmp 36) rfl wr.heap.size (encT x).toArray rfl rfl 34 _ (heap_alloc_new wr _) (by rw [List.size_toArray]; exact thing_info _) (by rfl) (all_oneCell_toArray (encT_one _)) ?_; rw [alloc_setRow, HE4.out.1, HE4.out.2.1]))
            go_roundw
            case rel => exact ⟨k + 1, by omega, by go_num, by rw [HSX.out, HE4.out.2.2]; congr 1; omega, by rw [HSX.out, HE4.out.2.2]; omega, HK4.out⟩
            case measure => simp [intOf]; omega
        · obtain rfl : k = nl := by omega
          have hta : l.take k = l := List.take_of_length_le (by rw [HN.out]; exact Nat.le_refl _)
          rw [hta] at hsk
          have HR := Lib.hid (show spE X i j l = 0 by rw [HE.out, HLF.out, if_pos hsk])
          have HX' := Lib.hid (show spX X i j l = replT X i j l by unfold spX; rw [if_pos HR.out])
          have hW4 := HW3.out.1.below hbk
          have hg4 := HW3.out.2.to hbk
          have HTr := Lib.hid (tree_any hW4.ob)
          have hlo : ∀ x ∈ l, okT x := fun x hx => by
            have h1 := HP.out x hx
            have h2 := sumT_mem (fun y hy => (HP.out y hy).1) hx
            exact ⟨h1.1, by omega⟩
          have HSU := Lib.hid (And.intro hsk hlo)
          have HG4 := Lib.hid hg4
          clear hta hsk hbk hW4 hg4 hlo
          go_wp2_with fail
          refine HTr.out.mono ?_
          clear HTr
          rintro e w5 ⟨H5, gT, rfl, hT5, hg5⟩
          have hg50 := HG4.out.trans hg5
          obtain ⟨hq5, G5, hX5, hn5, hH5⟩ := hT5
          have hL5 := HL.out H5 w5 hg50
          have hlen : (replT X i j l).length ≤ 80000 := by
            have h1 := repl_len HS.out.can HXX.out.1 HSU.out.2 i0 i1 (by rw [HZZ.out]; exact i2) (by rw [HZZ.out]; have := HSU.out.1; have := HLF.out; omega)
            rw [HN.out] at h1
            omega
          have HRp := Lib.hid (replace_any hX5 (c := c) (by rw [HN.out]; exact hL5.1) (by have := hg50.step.size; omega) (by rw [HN.out]; exact hc) (fun h0 b o e hb => hL5.2 (by rw [← HN.out]; exact h0) b o e ((hH5 b).2 (.inr hb))) HSU.out.2 i0 i1 (by rw [HZZ.out]; exact i2) (by have := HS.out.le; omega) (by rw [HZZ.out]; have := HSU.out.1; have := HLF.out; omega) hN hlen (by rw [HN.out]; omega))
          rw [HN.out] at HRp
          have H5' := Lib.hid (And.intro hq5 (And.intro hn5 (And.intro hH5 (And.intro hg50 hX5.lt))))
          clear hg5 hg50 hq5 hX5 hn5 hH5 hL5 hlen
          go_wp2_with fail
          refine HRp.out.mono ?_
          clear HRp
          rintro e w6 ⟨G6, ⟨v6, rfl⟩, hX6, hg6⟩
          have HF := Lib.hid (show SpR w H g (spX X i j l) (max (N + 2) (spX X i j l).length) (.int .i64 (spE X i j l)) (.returned (.int .i64 0)) w6 from by
            obtain ⟨hq5, hn5, hH5, hg50, hlt5⟩ := H5'.out
            have hgl := (Array.getElem?_eq_some_iff.1 hq5).1
            have hcn := repl_can (l := l) HS.out.can HXX.out.1 HP.out i0 i1
            have hsm := (repl_facts HXX.out.1 HSU.out.2 i0 i1 (by rw [HZZ.out]; exact i2) (by rw [HZZ.out]; have := HSU.out.1; have := HLF.out; omega)).2.2.2.2.1
            rw [HX'.out]
            refine ⟨fun k => k = g ∨ G6 k, by rw [HR.out], ⟨.inr ⟨gT, (hg6.step.block g hgl hn5).trans hq5, G6, hX6, fun e => ?_, fun _ => Iff.rfl⟩, hcn.1, ?_⟩, hg50.trans (hg6.wide (fun k hk => (hH5 k).2 (.inr hk)) (fun k hk => ?_))⟩
            · rcases hg6.new g e with e | e
              · exact hn5 e
              · omega
            · rw [replT_eq, sumT_append, sumT_append, hsm, HZZ.out]; have := HSU.out.1; have := HLF.out; omega
            · rcases hk with e | e
              · exact .inl ((hH5 k).2 (.inl e))
              · exact .inr e)
          clear hX6 hg6
          go_wp2_with fail
          go_ret
          exact HF.out
    · rw [hb, if_neg (by decide)] at hE
      have HE := Lib.hid hE
      have HB := Lib.hid hb
      have HX' := Lib.hid (show spX X i j l = X from spX_no (by rw [HE.out]; decide))
      rw [HE.out, HX'.out]
      clear hE hb hbad hpos
      go_enter Try.func10, Try.ntmps10
      go_wp2_with fail
      refine HCo.out.mono ?_
      clear HCo
      rintro e w1 ⟨rfl, hb1⟩
      have HW1 := Lib.hid (And.intro (HS.out.below hb1) (Grow.of_below (F := H) hb1))
      have HBt := Lib.hid (between_any HW1.out.1.ob i j)
      rw [HB.out] at HBt
      clear hb1
      go_wp2_with fail
      refine HBt.out.mono ?_
      clear HBt
      rintro e w2 ⟨H2, rfl, hW2, hg2⟩
      have HW2 := Lib.hid (show SpS w2 H2 g X N ∧ Grow H w w2 H2 from ⟨⟨hW2, HS.out.can, HS.out.le⟩, HW1.out.2.trans hg2⟩)
      clear hW2 hg2
      go_wp2_with fail
      go_ret
      exact ⟨H2, rfl, HW2.out.1.more (by omega), HW2.out.2⟩

end Go.Proofs.Ytbioomilnjikpaa
