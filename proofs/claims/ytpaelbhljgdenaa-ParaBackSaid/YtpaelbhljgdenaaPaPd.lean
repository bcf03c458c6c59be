/-
  para: Patch.
-/
import Derived.Test.YtpaelbhljgdenaaPaPc
namespace Go.Proofs.Ytpaelbhljgdenaa
open Go.RowKit

/-! ### Patch -/
theorem Sees.lt {w : World} {B size n : Nat} {A : Option Addr} {xs : List Value} (h : Sees w B size A n xs) (hn : 0 < n) {b o : Nat} (e : A = some ⟨b, o, none⟩) : b < B := by
  obtain ⟨b2, o2, hA, hb, _⟩ := h.2 hn
  rw [hA] at e
  simp only [Option.some.injEq, Addr.mk.injEq] at e
  omega

/-- .. where other blocks have changed since. -/
theorem put2_any {w w3 : World} {K H2 D : Nat → Prop} {g gT N m n b0 c : Nat} {A : Option Addr} {X L : List (List At)} {xs ys : List Th} (hst : Step K w w3) (hnew : ∀ k, H2 k ∨ D k → K k ∨ w.heap.size ≤ k) (hDl : ∀ k, D k → k < w3.heap.size) (hHD : ∀ k, H2 k → ¬ D k) (hS3 : SetsAt w3 D xs X) (hm : ∀ a ∈ X, a.length ≤ m)
    (hT : ObT w3 H2 g gT xs N) (hown : OwnT w3 b0 (.slice A n c) ys) (hnn : ys.length = n) (hoff : Off (.slice A n c) H2) (hys : SetsAt w3 (fun k => w.heap.size ≤ k ∧ ¬ H2 k) ys L) (hL : ∀ a ∈ L, a.length ≤ m)
    {i j : Int} (h0 : 0 ≤ i) (h1 : i ≤ j) (h2 : j ≤ X.length) (hN : N ≤ 79998) (hR : X.length + L.length ≤ 80000) :
    Calls Try.prog 26 #[.pointer (some ⟨gT, 0, none⟩), .int .i64 i, .int .i64 j, .slice A n c] w3 fun e w' => ∃ K' v, e = .returned v ∧ ParS w' K' g (X.take i.toNat ++ L ++ X.drop j.toNat) (max (N + 2) (X.length + L.length)) m ∧ Grow K w w' K' := by
  subst hnn
  obtain ⟨_, _, hv, hc, -⟩ := hown.shape
  simp only [Value.slice.injEq, true_and] at hv
  obtain ⟨_, rfl⟩ := hv
  have hr := replaceO_any hT (Sees.of_own hown) (Nat.le_refl _) hc (fun _ b o e hb => hoff b (by rw [e]; rfl) hb) h0 h1 (by rw [hS3.len]; exact h2) hN (by rw [hS3.len, hys.len]; exact hR)
  rw [hS3.len] at hr
  rw [← hys.len]
  refine hr.mono ?_
  rintro e w' ⟨H', v, rfl, hT', hg'⟩
  refine ⟨fun k => H' k ∨ (D k ∨ (w.heap.size ≤ k ∧ k < w3.heap.size ∧ ¬ H2 k)), v, rfl, ⟨⟨H', _, _, hT'.obW, SetsAt.step (G := H2) (w := w3) ((((hS3.take _).mono (fun k _ h => .inl h)).append (hys.mono (fun k hk h => .inr ⟨h.1, hk, h.2⟩))).append ((hS3.drop _).mono (fun k _ h => .inl h))) hg'.step (fun k hk hH => ?_), fun k hH hk => ?_, fun k hk => ?_, fun _ => Iff.rfl⟩, mem_put hm hL⟩, ⟨?_, fun k hk => ?_⟩⟩
  · rcases hk with e | ⟨_, _, e⟩
    · exact hHD k hH e
    · exact e hH
  · rcases hg'.new k hH with q | q
    · rcases hk with e | ⟨_, _, e⟩
      · exact hHD k q e
      · exact e q
    · rcases hk with e | ⟨_, e, _⟩
      · have := hDl k e; omega
      · omega
  · rcases hk with e | ⟨_, e, _⟩
    · exact Nat.lt_of_lt_of_le (hDl k e) hg'.step.size
    · exact Nat.lt_of_lt_of_le e hg'.step.size
  · exact ⟨hg'.step.os.trans hst.os, hg'.step.tape.trans hst.tape, hg'.step.output.trans hst.output, Nat.le_trans hst.size hg'.step.size, fun k hk hK => (hg'.step.block k (Nat.lt_of_lt_of_le hk hst.size) (fun hH => by
      rcases hnew k (.inl hH) with q | q
      · exact hK q
      · omega)).trans (hst.block k hk hK)⟩
  · rcases hk with e | e | ⟨e, _⟩
    · rcases hg'.new k e with q | q
      · exact hnew k (.inl q)
      · exact .inr (Nat.le_trans hst.size q)
    · exact hnew k (.inr e)
    · exact .inr e

def patX (X : List (List At)) (k j : Int) (p : List Ch) : List (List At) := if betP X k j = 0 then X.take k.toNat ++ ((X.drop k.toNat).take (j.toNat - k.toNat)).map (fun a => applyP a p) ++ X.drop j.toNat else X

set_option maxRecDepth 100000 in
set_option maxHeartbeats 4000000 in
theorem patchP_any {w : World} {K : Nat → Prop} {g N m B c : Nat} {A : Option Addr} {X : List (List At)} {p : List Ch} (h : ParS w K g X N m) (hs : Sees w B 6 A p.length (rowC p)) (hB : B ≤ w.heap.size) (hA : 0 < p.length → ∀ b o, A = some ⟨b, o, none⟩ → ¬ K b)
    (hm : m ≤ 90000) (hpl : p.length ≤ 1000) (hN : N ≤ 79998) (hX : X.length + X.length ≤ 80000) (k j : Int) :
    Calls Try.prog 12 #[.pointer (some ⟨g, 0, none⟩), .int .i64 k, .int .i64 j, .slice A p.length c] w fun e w' => PaR w K g (patX X k j p) (max (N + 2) (X.length + X.length)) (m + p.length) (.int .i64 (betP X k j)) e w' := by
  have HO := Lib.hid (overP_any h (by omega) k j)
  have HP := Lib.hid (fun (K1 : Nat → Prop) (w1 : World) (hg : Grow K w w1 K1) => hs.step hg.step hB hA)
  have HB := Lib.hid (show 0 < p.length → ∀ b o, A = some ⟨b, o, none⟩ → b < w.heap.size from fun h0 b o e => by have := hs.lt h0 e; omega)
  have HBs := Lib.hid hB
  have HXL := Lib.hid hX
  obtain ⟨np, hnp⟩ : ∃ n, p.length = n := ⟨_, rfl⟩
  have HNP := Lib.hid hnp
  rw [hnp] at HP HB hpl ⊢
  rcases betP_or X k j with hb | hb
  · obtain ⟨i0, i1, i2⟩ := betP_zero hb
    have HX := Lib.hid (show patX X k j p = X.take k.toNat ++ (overX X k j).map (fun a => applyP a p) ++ X.drop j.toNat by unfold patX overX; rw [if_pos hb, if_pos hb])
    have HBB := Lib.hid hb
    rw [hb]
    have HO := Lib.hid (show Calls Try.prog 13 #[.pointer (some ⟨g, 0, none⟩), .int .i64 k, .int .i64 j] w fun e w' => ∃ v xs K', e = .returned (.tuple #[v, .int .i64 0]) ∧ OwnT w' w.heap.size v xs ∧ SetsAt w' (fun k => w.heap.size ≤ k ∧ v.ownBlock ≠ some k ∧ ¬ K' k) xs (overX X k j) ∧ ParS w' K' g X N m ∧ Grow K w w' K' ∧ Off v K' by have h1 := HO.out; unfold OverR at h1; rw [hb] at h1; exact h1)
    clear h hs hA hB hnp hb
    go_enter Try.func12, Try.ntmps12
    go_wp2_with fail
    refine HO.out.mono ?_
    clear HO
    rintro e w1 ⟨v1, xs, K1, rfl, hown, hsx, hp1, hg1, hoff⟩
    obtain ⟨A1, c1, rfl, -, -⟩ := hown.shape
    obtain ⟨O, hO⟩ : ∃ O, overX X k j = O := ⟨_, rfl⟩
    have HOO := Lib.hid hO
    rw [hO] at hsx HX
    have hOm : ∀ a ∈ O, a.length ≤ m := by rw [← hO]; exact overX_le hp1.le k j
    have hOl : O.length ≤ X.length := by rw [← hO]; unfold overX; split; (rw [List.length_take, List.length_drop]; omega); exact Nat.zero_le _
    obtain ⟨n, hn⟩ : ∃ n, xs.length = n := ⟨_, rfl⟩
    have HLX := Lib.hid (show xs.length = n ∧ O.length = n from ⟨hn, by rw [← hsx.len, hn]⟩)
    have hnI : (n : Int) ≤ 100000 := by have := HLX.out.2; omega
    have HOM := Lib.hid (And.intro hOm hOl)
    obtain ⟨F, hFF⟩ : ∃ F : List At → List At, (fun a => applyP a p) = F := ⟨_, rfl⟩
    have HFF := Lib.hid (show ∀ a, F a = applyP a p from fun a => by rw [← hFF])
    have HX : RowKit.Hid (patX X k j p = X.take k.toNat ++ O.map F ++ X.drop j.toNat) := by rw [hFF] at HX; exact HX
    clear hFF
    have HM0 := Lib.hid (MapI.start (F := F) (X := O) (base := w1.heap.size) hown (Nat.le_refl _))
    have HSX := Lib.hid (show SetsAt w1 (fun q => w.heap.size ≤ q ∧ (Value.slice A1 xs.length c1).ownBlock ≠ some q ∧ ¬ K1 q) xs O ∧ ∀ bv, A1 = some ⟨bv, 0, none⟩ → ∀ q, (w.heap.size ≤ q ∧ (Value.slice A1 xs.length c1).ownBlock ≠ some q ∧ ¬ K1 q) → bv ≠ q from ⟨hsx, fun bv e q hq eq => hq.2.1 (by rw [e, eq]; rfl)⟩)
    have HP1 := Lib.hid (And.intro (HP.out K1 w1 hg1) (show B ≤ w1.heap.size by have h1 := hg1.step.size; have h2 := HBs.out; omega))
    have HOwn := Lib.hid (show ∀ q, (Value.slice A1 xs.length c1).ownBlock = some q → w.heap.size ≤ q from fun q hq => own_base hown hq)
    have HR1 := Lib.hid (And.intro hp1 (And.intro hg1 hoff))
    rw [hn] at HM0 HSX HOwn HR1 ⊢
    clear hown hsx hp1 hg1 hoff hO hOm hOl hn
    go_wp2_with fail
    go_loopw [24] (fun vk wr => ∃ (k : Nat) (ys : List Th), k ≤ n ∧ vk = .int .i64 k ∧ MapI (F) w1 w.heap.size w1.heap.size (.slice A1 n c1) xs O k ys wr) (fun vk _ => n - (intOf vk).toNat)
    case atStart => exact ⟨0, xs, Nat.zero_le _, rfl, HM0.out⟩
    case round =>
      obtain ⟨k, ys, hk, rfl, hM⟩ := hrel
      by_cases hlt : k < n
      · have hkI : (k : Int) < n := by omega
        obtain ⟨x, a, bv, hx, ha, hxs, rfl⟩ := hM.elem HLX.out hlt
        obtain ⟨cx, hSx⟩ := hM.cell ⟨HSX.out.1, HSX.out.2 bv rfl⟩ hx hxs ha
        have zx := hM.frozen HLX.out.1 k
        have HC := Lib.hid (show Calls Try.prog 28 #[.slice x.A a.length x.c, .slice A p.length c] wr (fun e w' => ∃ v, e = .returned v ∧ OwnA w' wr.heap.size v (F a) ∧ Below wr.heap.size wr w') by rw [HFF.out]; exact apply_any (cP := c) (S := a) (p := p) hSx.sees (by rw [HNP.out]; exact HP1.out.1.step hM.step HP1.out.2 (fun h0 b o e hb => by have h1 := HOwn.out b hb; have h2 := HB.out h0 b o e; omega)) (Nat.le_refl _) (Nat.le_trans HP1.out.2 hM.step.size) (by have h1 := hSx.cap; have h2 := hSx.len; omega) (by have h1 := HOM.out.1 a (List.mem_of_getElem? ha); omega) (by rw [HNP.out]; omega))
        rw [hSx.len, HNP.out] at HC
        have HMk := Lib.hid hM
        have HA := Lib.hid ha
        clear hM hx ha hxs hSx
        go_wp2_with fail
        refine HC.out.mono ?_
        clear HC
        rintro e w2 ⟨u, rfl, ho, hb⟩
        have cx2 : w2.cell? ⟨bv, k, none⟩ = some (.slice x.A x.n x.c) := cell_later cx hb
        have zx2 := HMk.out.frozen2 HLX.out.1 hb k
        have HMn := Lib.hid (fun (n2 : Nat) (hn2 : (F a).length = n2) => HMk.out.next HLX.out hlt HA.out hb ho hn2)
        obtain ⟨n2, hn2⟩ : ∃ n2, (F a).length = n2 := ⟨_, rfl⟩
        obtain ⟨A2, c2, ys', rfl, hM2⟩ := HMn.out n2 hn2
        have HM2 := Lib.hid hM2
        clear ho hb cx zx HMn hn2 hM2
        go_wp2_with fail
        go_roundw
        case rel => exact ⟨k + 1, ys', by omega, by go_num, HM2.out⟩
        case measure => simp [intOf]; omega
      · obtain rfl : k = n := by omega
        have HM2 := Lib.hid hM
        clear hM
        obtain ⟨h1, h2, h3, h4⟩ := HM2.out.done HLX.out
        have hpr := HR1.out.1.step h4 (fun q hq e => HR1.out.2.2 q e hq)
        obtain ⟨⟨H2, D2, x2, hO2, hS2, hHD2, hDl2, hK2⟩, hle2⟩ := hpr
        have HT := Lib.hid (tree_any hO2)
        have HS2 := Lib.hid (And.intro hS2 (And.intro hHD2 (And.intro hDl2 (And.intro hK2 hle2))))
        have HD := Lib.hid (And.intro h1 (And.intro h2 (And.intro h3 h4)))
        have HST := Lib.hid (show Step K w wr from ⟨h4.os.trans HR1.out.2.1.step.os, h4.tape.trans HR1.out.2.1.step.tape, h4.output.trans HR1.out.2.1.step.output, Nat.le_trans HR1.out.2.1.step.size h4.size, fun q hq hK => (h4.block q (Nat.lt_of_lt_of_le hq HR1.out.2.1.step.size) (fun e => by have := HOwn.out q e; omega)).trans (HR1.out.2.1.step.block q hq hK)⟩)
        clear h1 h2 h3 h4 hO2 hS2 hHD2 hDl2 hK2 hle2 HM2
        go_wp2_with fail
        refine HT.out.mono ?_
        clear HT
        rintro e w3 ⟨H3, gT, rfl, hT, hg⟩
        have hsub : ∀ q, H2 q → K1 q := fun q hq => (HS2.out.2.2.2.1 q).2 (.inl hq)
        have hK1 : ∀ q, K1 q → K q ∨ w.heap.size ≤ q := HR1.out.2.1.new
        have hK1l : ∀ q, K1 q → q < w1.heap.size := HR1.out.1.lt
        have hH3 : ∀ q, H3 q → (K1 q) ∨ wr.heap.size ≤ q := fun q hq => by
          rcases hg.new q hq with e | e
          · exact .inl (hsub q e)
          · exact .inr e
        have hw1 := HD.out.2.2.2.size
        have hww : w.heap.size ≤ w1.heap.size := HR1.out.2.1.step.size
        have q1 : Step K w w3 := ⟨hg.step.os.trans HST.out.os, hg.step.tape.trans HST.out.tape, hg.step.output.trans HST.out.output, Nat.le_trans HST.out.size hg.step.size, fun q hq hK => (hg.step.block q (Nat.lt_of_lt_of_le hq HST.out.size) (fun hH => by
            rcases hK1 q (hsub q hH) with e | e
            · exact hK e
            · omega)).trans (HST.out.block q hq hK)⟩
        have q2 : ∀ q, H3 q ∨ D2 q → K q ∨ w.heap.size ≤ q := fun q hq => by
            rcases hq with e | e
            · rcases hH3 q e with e | e
              · exact hK1 q e
              · exact .inr (Nat.le_trans hww (Nat.le_trans hw1 e))
            · exact hK1 q ((HS2.out.2.2.2.1 q).2 (.inr e))
        have q3 : ∀ q, D2 q → q < w3.heap.size := fun q hq => Nat.lt_of_lt_of_le (HS2.out.2.2.1 q hq) hg.step.size
        have q4 : ∀ q, H3 q → ¬ D2 q := fun q hq hD => by
            rcases hg.new q hq with e | e
            · exact HS2.out.2.1 q e hD
            · have := HS2.out.2.2.1 q hD; omega
        have q5 : SetsAt w3 D2 x2 X := HS2.out.1.step hg.step (fun q hD hH => HS2.out.2.1 q hH hD)
        have q6 : ∀ a ∈ X, a.length ≤ m + np := fun a ha => Nat.le_trans (HS2.out.2.2.2.2 a ha) (Nat.le_add_right _ _)
        have q7 : OwnT w3 w.heap.size (.slice A1 k c1) ys := own_step HD.out.1 hg.step (fun q hq hH => HR1.out.2.2 q hq (hsub q hH))
        have q8 : Off (.slice A1 k c1) H3 := fun q hq hH => by
            rcases hH3 q hH with e | e
            · exact HR1.out.2.2 q hq e
            · have := own_lt HD.out.1 hq; omega
        have q9 : SetsAt wr (fun q => w1.heap.size ≤ q ∧ q < wr.heap.size) ys (O.map F) := HD.out.2.1.mono (fun q hq h => ⟨h.1, hq⟩)
        have q10 : SetsAt w3 (fun q => w1.heap.size ≤ q ∧ q < wr.heap.size) ys (O.map F) := q9.step hg.step (fun q hq hH => by have h1 := hK1l q (hsub q hH); have h2 := hq.1; omega)
        have q11 : SetsAt w3 (fun q => w.heap.size ≤ q ∧ ¬ H3 q) ys (O.map F) := q10.mono (fun q _ hq => ⟨Nat.le_trans hww hq.1, fun hH => by
            have h2 := hq.1
            have h3 := hq.2
            rcases hH3 q hH with e | e
            · have h1 := hK1l q e; omega
            · omega⟩)
        have q12 : ∀ a ∈ O.map F, a.length ≤ m + np := fun a ha => by
          obtain ⟨b, hb, rfl⟩ := List.mem_map.1 ha
          rw [HFF.out]
          have h1 := apply_len p b
          have h2 := HOM.out.1 b hb
          rw [HNP.out] at h1
          omega
        have q13 : X.length + (O.map F).length ≤ 80000 := by rw [List.length_map]; have h1 := HOM.out.2; have h2 := HXL.out; omega
        have HRp := Lib.hid (put2_any q1 q2 q3 q4 q5 q6 hT q7 HD.out.2.2.1 q8 q11 q12 i0 i1 i2 hN q13)
        clear q1 q2 q3 q4 q5 q6 q7 q8 q9 q10 q11 q12 q13
        clear hT hg hsub hK1 hK1l hH3 hw1 hww
        go_wp2_with fail
        refine HRp.out.mono ?_
        clear HRp
        rintro e w5 ⟨K', v5, rfl, hp, hgk⟩
        have HF := Lib.hid (And.intro hp hgk)
        clear hp hgk
        go_wp2_with fail
        go_ret
        exact ⟨K', rfl, by rw [HX.out]; exact HF.out.1.more (by rw [List.length_map]; have := HOM.out.2; omega) (Nat.le_refl _), HF.out.2⟩
  · have HX := Lib.hid (show patX X k j p = X by unfold patX; rw [if_neg (by rw [hb]; decide)])
    have HBB := Lib.hid hb
    rw [hb]
    have HO := Lib.hid (show Calls Try.prog 13 #[.pointer (some ⟨g, 0, none⟩), .int .i64 k, .int .i64 j] w fun e w' => ∃ v xs K', e = .returned (.tuple #[v, .int .i64 5]) ∧ OwnT w' w.heap.size v xs ∧ ParS w' K' g X N m ∧ Grow K w w' K' by
      refine HO.out.mono ?_
      rintro e w' ⟨v, xs, K', he, h1, h2, h3, h4, h5⟩
      exact ⟨v, xs, K', by rw [he, hb], h1, h3, h4⟩)
    clear h hs hA hB hnp hb
    go_enter Try.func12, Try.ntmps12
    go_wp2_with fail
    refine HO.out.mono ?_
    clear HO
    rintro e w1 ⟨v1, xs, K1, rfl, hown, hp1, hg1⟩
    obtain ⟨A1, c1, rfl, -, -⟩ := hown.shape
    have HR := Lib.hid (And.intro hp1 hg1)
    clear hown hp1 hg1
    go_wp2_with fail
    go_ret
    exact ⟨K1, rfl, by rw [HX.out]; exact HR.out.1.more (by omega) (Nat.le_add_right _ _), HR.out.2⟩

end Go.Proofs.Ytpaelbhljgdenaa
