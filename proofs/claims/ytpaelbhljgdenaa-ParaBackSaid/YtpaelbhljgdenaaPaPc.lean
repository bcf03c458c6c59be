/-
  para: At, Over, Insert, Delete, Patch.
-/
import Derived.Test.YtpaelbhljgdenaaPaPb
namespace Go.Proofs.Ytpaelbhljgdenaa
open Go.RowKit

theorem ObT.tree {w : World} {H : Nat → Prop} {g gT N : Nat} {X : List Th} (h : ObT w H g gT X N) : ∃ G, TreeX w G gT X N := by obtain ⟨-, G, hX, -, -⟩ := h; exact ⟨G, hX⟩

theorem replaceO_any {w : World} {H : Nat → Prop} {g gT N B c : Nat} {A : Option Addr} {xs l : List Th} (h : ObT w H g gT xs N) (hl : Sees w B 1 A l.length (rowT l)) (hB : B ≤ w.heap.size) (hc : l.length ≤ c) (hoff : 0 < l.length → ∀ b o, A = some ⟨b, o, none⟩ → ¬ H b)
    {i j : Int} (h0 : 0 ≤ i) (h1 : i ≤ j) (h2 : j ≤ xs.length) (hN : N ≤ 79998) (hR : xs.length + l.length ≤ 80000) :
    Calls Try.prog 26 #[.pointer (some ⟨gT, 0, none⟩), .int .i64 i, .int .i64 j, .slice A l.length c] w fun e w' => ∃ H' v, e = .returned v ∧ ObT w' H' g gT (xs.take i.toNat ++ l ++ xs.drop j.toNat) (max (N + 2) (xs.length + l.length)) ∧ Grow H w w' H' := by
  obtain ⟨hq, G, hX, hn, hH⟩ := h
  have hr := replT_one xs h0 h1 l
  have hlen : (replT xs i j l).length ≤ xs.length + l.length := by
    rw [hr, List.length_append, List.length_append, List.length_take, List.length_drop]
    omega
  have hgl := (Array.getElem?_eq_some_iff.1 hq).1
  have hlt := hX.lt
  refine (replace_any hX hl hB hc (fun hl0 b o e hb => hoff hl0 b o e ((hH b).2 (.inr hb))) (okAll l) h0 h1 (by rw [sumT_len]; exact h2) (by rw [sumT_len]; omega) (by rw [sumT_len, sumT_len]; omega) hN (by omega) (by omega)).mono ?_
  rintro e w' ⟨G', ⟨v, rfl⟩, hX', hg⟩
  rw [hr] at hX'
  refine ⟨fun k => k = g ∨ G' k, v, rfl, ⟨(hg.step.block g hgl hn).trans hq, G', hX'.more (by rw [← hr]; omega), fun e => ?_, fun _ => Iff.rfl⟩, hg.wide (fun k hk => (hH k).2 (.inr hk)) (fun k hk => ?_)⟩
  · rcases hg.new g e with e | e
    · exact hn e
    · omega
  · rcases hk with e | e
    · exact .inl ((hH k).2 (.inl e))
    · exact .inr e

/-! ### At -/
def atE (X : List (List At)) (i : Int) : Int := if 0 ≤ i ∧ i < X.length then 0 else 5
def atA (X : List (List At)) (i : Int) : List At := if 0 ≤ i then (X[i.toNat]?).getD [] else []
/-- What At hands back: a set of one's own, beside the records. -/
def AtR (w : World) (K : Nat → Prop) (g : Nat) (X : List (List At)) (N m : Nat) (i : Int) (e : Ending) (w' : World) : Prop :=
  ∃ v K', e = .returned (.tuple #[v, .int .i64 (atE X i)]) ∧ OwnA w' w.heap.size v (atA X i) ∧ ParS w' K' g X N m ∧ Grow K w w' K' ∧ Off v K'

set_option maxRecDepth 100000 in
set_option maxHeartbeats 2000000 in
theorem atP_any {w : World} {K : Nat → Prop} {g N m : Nat} {X : List (List At)} (h : ParS w K g X N m) (hm : m ≤ 1000000) (i : Int) (hi : -9223372036854775808 ≤ i ∧ i ≤ 9223372036854775807) :
    Calls Try.prog 15 #[.pointer (some ⟨g, 0, none⟩), .int .i64 i] w fun e w' => AtR w K g X N m i e w' := by
  obtain ⟨⟨H, D, xs, hO, hS, hHD, hDl, hK⟩, hle⟩ := h
  have HT := Lib.hid (tree_any hO)
  have HF := Lib.hid (fun (w1 : World) (G : Nat → Prop) (gT : Nat) (hX : TreeX w1 G gT xs N) => find_any hX i hi)
  have HH := Lib.hid (And.intro hS (And.intro hHD (And.intro hDl (And.intro hK hle))))
  clear hO hS hHD hDl hK hle hi
  by_cases hin : 0 ≤ i ∧ i < X.length
  · obtain ⟨a, ha⟩ : ∃ a, X[i.toNat]? = some a := ⟨_, List.getElem?_eq_getElem (by omega)⟩
    obtain ⟨⟨xA, xn, xc⟩, hx⟩ : ∃ x, xs[i.toNat]? = some x := ⟨_, List.getElem?_eq_getElem (by rw [HH.out.1.len]; omega)⟩
    have HE := Lib.hid (show atE X i = 0 ∧ atA X i = a from ⟨by unfold atE; rw [if_pos hin], by unfold atA; rw [if_pos hin.1, ha]; rfl⟩)
    rw [show findV xs i = .tuple #[.slice xA xn xc, .int .i64 0, .bool true] by unfold findV; rw [findT_one, if_pos hin.1, hx]; rfl] at HF
    have HX := Lib.hid (HH.out.1.get _ _ _ hx ha)
    have HA := Lib.hid (show a.length ≤ 1000000 from Nat.le_trans (HH.out.2.2.2.2 a (List.mem_of_getElem? ha)) hm)
    have HXN := Lib.hid (show a.length = xn from HX.out.len)
    clear ha hx hin
    go_enter Try.func15, Try.ntmps15
    go_wp2_with fail
    refine HT.out.mono ?_
    rintro e w1 ⟨H1, gT, rfl, hT, hg⟩
    obtain ⟨G, hX⟩ := hT.tree
    have HF := Lib.hid (HF.out w1 G gT hX)
    have HR1 := Lib.hid (And.intro hT hg)
    clear hT hg HT hX
    go_wp2_with fail
    refine HF.out.mono ?_
    rintro e w2 ⟨rfl, hb2⟩
    have hg2 := HR1.out.2.to hb2
    have hx2 := HX.out.step hg2.step (fun k hk hH => HH.out.2.1 k hH hk)
    have HC := Lib.hid (copyA_any (c := xc) hx2.sees (Nat.le_refl _) HA.out (fun e => ⟨by have h1 := hx2.nil e; have h2 := hx2.cap; have h3 := HXN.out; dsimp only at h1 h2; omega, hx2.nil e⟩))
    rw [HXN.out] at HC
    obtain ⟨K', hp, hg⟩ := ParS.of HH.out.2.2.2.1 HH.out.2.2.1 HH.out.2.1 (HR1.out.1.below hb2).obW hg2 (E := D) (fun k hk => .inl hk) (HH.out.1.step hg2.step (fun k hk hH => HH.out.2.1 k hH hk)) HH.out.2.2.2.2
    have HR2 := Lib.hid (And.intro hp hg)
    clear hb2 HF hg2 hx2 hp hg
    go_wp2_with fail
    refine HC.out.mono ?_
    rintro e w3 ⟨v, rfl, ho, hb3⟩
    have HF := Lib.hid (show OwnA w3 w.heap.size v a ∧ ParS w3 K' g X N m ∧ Grow K w w3 K' ∧ Off v K' from ⟨own_lower ho HR2.out.2.step.size, HR2.out.1.below hb3, HR2.out.2.to hb3, fun k hk hk' => by have h1 := own_base ho hk; have h2 := HR2.out.1.lt k hk'; omega⟩)
    obtain ⟨A3, c3, hv, -, -⟩ := own_shape ho
    clear ho hb3 HC
    subst hv
    go_wp2_with fail
    go_ret2
    exact ⟨_, K', by rw [HE.out.1]; rfl, by rw [HE.out.2]; exact HF.out.1, HF.out.2.1, HF.out.2.2.1, HF.out.2.2.2⟩
  · have HE := Lib.hid (show atE X i = 5 ∧ atA X i = [] from ⟨by unfold atE; rw [if_neg hin], by
      unfold atA
      by_cases h0 : 0 ≤ i
      · rw [if_pos h0, List.getElem?_eq_none (by omega)]; rfl
      · rw [if_neg h0]⟩)
    rw [show findV xs i = .tuple #[.slice none 0 0, .int .i64 0, .bool false] by
      unfold findV
      rw [findT_one]
      by_cases h0 : 0 ≤ i
      · rw [if_pos h0, List.getElem?_eq_none (by rw [HH.out.1.len]; omega)]; rfl
      · rw [if_neg h0]] at HF
    clear hin
    go_enter Try.func15, Try.ntmps15
    go_wp2_with fail
    refine HT.out.mono ?_
    rintro e w1 ⟨H1, gT, rfl, hT, hg⟩
    obtain ⟨G, hX⟩ := hT.tree
    have HF := Lib.hid (HF.out w1 G gT hX)
    have HR1 := Lib.hid (And.intro hT hg)
    clear hT hg HT hX
    go_wp2_with fail
    refine HF.out.mono ?_
    rintro e w2 ⟨rfl, hb2⟩
    obtain ⟨K', hp, hg⟩ := ParS.of HH.out.2.2.2.1 HH.out.2.2.1 HH.out.2.1 (HR1.out.1.below hb2).obW (HR1.out.2.to hb2) (E := D) (fun k hk => .inl hk) (HH.out.1.step (HR1.out.2.to hb2).step (fun k hk hH => HH.out.2.1 k hH hk)) HH.out.2.2.2.2
    have HR := Lib.hid (And.intro hp hg)
    clear hb2 HF hp hg
    go_wp2_with fail
    go_ret2
    exact ⟨_, K', by rw [HE.out.1]; rfl, by rw [HE.out.2]; exact ⟨rfl, .inl ⟨rfl, rfl⟩⟩, HR.out.1, HR.out.2, Off.nil_ _⟩

/-! ### Over -/
def overX (X : List (List At)) (i j : Int) : List (List At) := if betP X i j = 0 then (X.drop i.toNat).take (j.toNat - i.toNat) else []
theorem overX_le {X : List (List At)} {m : Nat} (h : ∀ a ∈ X, a.length ≤ m) (i j : Int) : ∀ a ∈ overX X i j, a.length ≤ m := by
  intro a ha
  unfold overX at ha
  split at ha
  · exact h a (List.mem_of_mem_drop (List.mem_of_mem_take ha))
  · cases ha
/-- What Over hands back: sets of one's own, beside the records. -/
def OverR (w : World) (K : Nat → Prop) (g : Nat) (X : List (List At)) (N m : Nat) (i j : Int) (e : Ending) (w' : World) : Prop :=
  ∃ v xs K', e = .returned (.tuple #[v, .int .i64 (betP X i j)]) ∧ OwnT w' w.heap.size v xs ∧ SetsAt w' (fun k => w.heap.size ≤ k ∧ v.ownBlock ≠ some k ∧ ¬ K' k) xs (overX X i j) ∧ ParS w' K' g X N m ∧ Grow K w w' K' ∧ Off v K'

set_option maxRecDepth 100000 in
set_option maxHeartbeats 2000000 in
theorem overP_any {w : World} {K : Nat → Prop} {g N m : Nat} {X : List (List At)} (h : ParS w K g X N m) (hm : m ≤ 1000000) (i j : Int) :
    Calls Try.prog 13 #[.pointer (some ⟨g, 0, none⟩), .int .i64 i, .int .i64 j] w fun e w' => OverR w K g X N m i j e w' := by
  have hXl := h.len
  obtain ⟨⟨H, D, xs, hO, hS, hHD, hDl, hK⟩, hle⟩ := h
  have HB := Lib.hid (between_any hO i j)
  rw [betP_of hS] at HB
  have HH := Lib.hid (And.intro hS (And.intro hHD (And.intro hDl (And.intro hK hle))))
  rcases betP_or X i j with hb | hb
  · obtain ⟨i0, i1, i2⟩ := betP_zero hb
    have HX := Lib.hid (show overX X i j = (X.drop i.toNat).take (j.toNat - i.toNat) by unfold overX; rw [if_pos hb])
    have HBB := Lib.hid hb
    rw [hb] at HB
    clear hO hS hHD hDl hK hle hb
    go_enter Try.func13, Try.ntmps13
    go_wp2_with fail
    refine HB.out.mono ?_
    clear HB
    rintro e w1 ⟨H1, rfl, hW, hg⟩
    have HW := Lib.hid (And.intro hW hg)
    have HT := Lib.hid (tree_any hW)
    clear hW hg
    go_wp2_with fail
    refine HT.out.mono ?_
    clear HT
    rintro e w2 ⟨H2, gT, rfl, hT, hg⟩
    have HR2 := Lib.hid (And.intro hT (HW.out.2.trans hg))
    have HO := Lib.hid (overF_any gT i j w2)
    clear hT hg
    go_wp2_with fail
    refine HO.out.mono ?_
    clear HO
    rintro e w3 ⟨bb, rfl, hov, hb3, hbb⟩
    have HT3 := Lib.hid (HR2.out.1.below hb3)
    obtain ⟨G, hX⟩ := HT3.out.tree
    have HCo := Lib.hid (collect_any hX hov i0 (by omega) (by omega) (by omega))
    clear hX
    have HB3 := Lib.hid hb3
    clear hov hb3 hbb
    go_wp2_with fail
    refine HCo.out.mono ?_
    clear HCo
    rintro e w4 ⟨v, rfl, hown, hb4⟩
    have hgr : Grow H w w4 H2 := (HR2.out.2.to HB3.out).to hb4
    have hS4 := HH.out.1.step hgr.step (fun k hk hH => HH.out.2.1 k hH hk)
    have hSo : SetsAt w4 D (overT xs i j) (overX X i j) := by rw [overT_one, HX.out]; exact (hS4.drop _).take _
    have hol : (overT xs i j).length ≤ 100000 := by have h1 := (overT_ok xs i j (okAll xs)).2; rw [HH.out.1.len] at h1; omega
    obtain ⟨Av, cv, rfl, hcv, -⟩ := hown.shape
    have HCp := Lib.hid (copied_any (c := cv) (Sees.of_own hown) (Nat.le_refl _) (by omega) (fun e => by obtain ⟨_, _, hv, _, _, h3, _⟩ := own_shape hown; simp only [Value.slice.injEq] at hv; obtain ⟨rfl, _, rfl⟩ := hv; exact h3 e) hSo (fun a ha => Nat.le_trans (overX_le HH.out.2.2.2.2 i j a ha) hm))
    obtain ⟨K', hp, hgk⟩ := ParS.of HH.out.2.2.2.1 HH.out.2.2.1 HH.out.2.1 (HT3.out.below hb4).obW hgr (E := D) (fun k hk => .inl hk) hS4 HH.out.2.2.2.2
    have HR4 := Lib.hid (And.intro hp hgk)
    clear hown hb4 hgr hS4 hSo hol hcv hp hgk
    go_wp2_with fail
    refine HCp.out.mono ?_
    clear HCp
    rintro e w5 ⟨v5, rfl, ys, hy, hs, hb5⟩
    have HF := Lib.hid (show OwnT w5 w.heap.size v5 ys ∧ SetsAt w5 (fun k => w.heap.size ≤ k ∧ v5.ownBlock ≠ some k ∧ ¬ K' k) ys (overX X i j) ∧ ParS w5 K' g X N m ∧ Grow K w w5 K' ∧ Off v5 K' from
      ⟨own_lower hy HR4.out.2.step.size, hs.mono (fun k _ hk => ⟨Nat.le_trans HR4.out.2.step.size hk.1, hk.2, fun hK => by have h1 := HR4.out.1.lt k hK; omega⟩), HR4.out.1.below hb5, HR4.out.2.to hb5, fun k hk hk' => by have h1 := own_base hy hk; have h2 := HR4.out.1.lt k hk'; omega⟩)
    obtain ⟨A5, c5, rfl, -, -⟩ := hy.shape
    clear hy hs hb5
    go_wp2_with fail
    go_ret2
    exact ⟨_, ys, K', by rw [HBB.out]; rfl, HF.out⟩
  · have HX := Lib.hid (show overX X i j = [] by unfold overX; rw [if_neg (by rw [hb]; decide)])
    have HBB := Lib.hid hb
    rw [hb] at HB
    clear hO hS hHD hDl hK hle hb
    go_enter Try.func13, Try.ntmps13
    go_wp2_with fail
    refine HB.out.mono ?_
    clear HB
    rintro e w1 ⟨H1, rfl, hW, hg⟩
    obtain ⟨K', hp, hgk⟩ := ParS.of HH.out.2.2.2.1 HH.out.2.2.1 HH.out.2.1 hW hg (E := D) (fun k hk => .inl hk) (HH.out.1.step hg.step (fun k hk hH => HH.out.2.1 k hH hk)) HH.out.2.2.2.2
    have HR := Lib.hid (And.intro hp hgk)
    clear hW hg hp hgk
    go_wp2_with fail
    go_ret2
    exact ⟨_, [], K', by rw [HBB.out]; rfl, ⟨rfl, .inl ⟨rfl, rfl⟩⟩, by rw [HX.out]; exact SetsAt.nil_ _ _, HR.out.1, HR.out.2, Off.nil_ _⟩

theorem Sees.step {w w' : World} {B size n : Nat} {A : Option Addr} {xs : List Value} {H : Nat → Prop} (h : Sees w B size A n xs) (hs : Step H w w') (hB : B ≤ w.heap.size) (ho : 0 < n → ∀ b o, A = some ⟨b, o, none⟩ → ¬ H b) : Sees w' B size A n xs :=
  ⟨h.1, fun hn => by
    obtain ⟨b, o, hA, hb, hc⟩ := h.2 hn
    refine ⟨b, o, hA, hb, fun j u hu => ?_⟩
    exact (World.cell?_of_block (w := w) (a := ⟨b, o + j, none⟩) (hs.block b (by omega) (ho hn b o hA))).trans (hc j u hu)⟩

/-! ### Insert, Delete -/
def insX (X : List (List At)) (k : Int) (L : List (List At)) : List (List At) := if betP X k k = 0 then X.take k.toNat ++ L ++ X.drop k.toNat else X
def delX (X : List (List At)) (k m : Int) : List (List At) := if betP X k m = 0 then X.take k.toNat ++ X.drop m.toNat else X
theorem mem_put {X L : List (List At)} {i j m : Nat} (h : ∀ a ∈ X, a.length ≤ m) (hL : ∀ a ∈ L, a.length ≤ m) : ∀ a ∈ X.take i ++ L ++ X.drop j, a.length ≤ m := by
  intro a ha
  rcases List.mem_append.1 ha with e | e
  · rcases List.mem_append.1 e with e | e
    · exact h a (List.mem_of_mem_take e)
    · exact hL a e
  · exact h a (List.mem_of_mem_drop e)

/-- Sets of one's own are put into the tree: the records behind it. -/
theorem put_any {w w3 : World} {K H H2 D : Nat → Prop} {g gT N m n b0 c : Nat} {A : Option Addr} {X L : List (List At)} {xs ys : List Th} (hK : ∀ k, K k ↔ H k ∨ D k) (hDl : ∀ k, D k → k < w.heap.size) (hHD : ∀ k, H k → ¬ D k) (hS : SetsAt w D xs X) (hm : ∀ a ∈ X, a.length ≤ m)
    (hg : Grow H w w3 H2) (hT : ObT w3 H2 g gT xs N) (hown : OwnT w3 b0 (.slice A n c) ys) (hnn : ys.length = n) (hoff : Off (.slice A n c) H2) (hys : SetsAt w3 (fun k => w.heap.size ≤ k ∧ ¬ H2 k) ys L) (hL : ∀ a ∈ L, a.length ≤ m)
    {i j : Int} (h0 : 0 ≤ i) (h1 : i ≤ j) (h2 : j ≤ X.length) (hN : N ≤ 79998) (hR : X.length + L.length ≤ 80000) :
    Calls Try.prog 26 #[.pointer (some ⟨gT, 0, none⟩), .int .i64 i, .int .i64 j, .slice A n c] w3 fun e w' => ∃ K' v, e = .returned v ∧ ParS w' K' g (X.take i.toNat ++ L ++ X.drop j.toNat) (max (N + 2) (X.length + L.length)) m ∧ Grow K w w' K' := by
  subst hnn
  have hS3 := hS.step hg.step (fun k hk hH => hHD k hH hk)
  obtain ⟨_, _, hv, hc, -⟩ := hown.shape
  simp only [Value.slice.injEq, true_and] at hv
  obtain ⟨_, rfl⟩ := hv
  have hr := replaceO_any hT (Sees.of_own hown) (Nat.le_refl _) hc (fun _ b o e hb => hoff b (by rw [e]; rfl) hb) h0 h1 (by rw [hS.len]; exact h2) hN (by rw [hS.len, hys.len]; exact hR)
  rw [hS.len] at hr
  rw [← hys.len]
  refine hr.mono ?_
  rintro e w' ⟨H', v, rfl, hT', hg'⟩
  obtain ⟨K', hp, hgk⟩ := ParS.of (E := fun k => D k ∨ (w.heap.size ≤ k ∧ k < w3.heap.size ∧ ¬ H2 k)) hK hDl hHD hT'.obW (hg.trans hg') (fun k hk => by
    rcases hk with e | ⟨e1, e2, e3⟩
    · exact .inl e
    · refine .inr ⟨e1, Nat.lt_of_lt_of_le e2 hg'.step.size, fun e => ?_⟩
      rcases hg'.new k e with q | q
      · exact e3 q
      · omega) (X' := X.take i.toNat ++ L ++ X.drop j.toNat) (SetsAt.step (G := H2) (w := w3) ((((hS3.take _).mono (fun k _ h => .inl h)).append (hys.mono (fun k hk h => .inr ⟨h.1, hk, h.2⟩))).append ((hS3.drop _).mono (fun k _ h => .inl h))) hg'.step (fun k hk hH => by
    rcases hk with e | ⟨_, _, e⟩
    · rcases hg.new k hH with q | q
      · exact hHD k q e
      · have := hDl k e; omega
    · exact e hH)) (m' := m) (mem_put hm hL)
  exact ⟨K', v, rfl, hp, hgk⟩

set_option maxRecDepth 100000 in
set_option maxHeartbeats 2000000 in
theorem insertP_any {w : World} {K D0 : Nat → Prop} {g N m B c : Nat} {A : Option Addr} {X L : List (List At)} {x0 : List Th} (h : ParS w K g X N m) (hs : Sees w B 1 A x0.length (rowT x0)) (hB : B ≤ w.heap.size) (hc : A = none → x0.length = 0 ∧ c = 0) (hS0 : SetsAt w D0 x0 L) (hA : 0 < x0.length → ∀ b o, A = some ⟨b, o, none⟩ → ¬ K b) (hD0 : ∀ k, D0 k → ¬ K k)
    (hm : m ≤ 1000000) (hL : ∀ a ∈ L, a.length ≤ m) (hN : N ≤ 79998) (hX : X.length + L.length ≤ 80000) (k : Int) :
    Calls Try.prog 10 #[.pointer (some ⟨g, 0, none⟩), .int .i64 k, .slice A x0.length c] w fun e w' => PaR w K g (insX X k L) (max (N + 2) (X.length + L.length)) m (.int .i64 (betP X k k)) e w' := by
  obtain ⟨⟨H, D, xs, hO, hS, hHD, hDl, hK⟩, hle⟩ := h
  have HB := Lib.hid (between_any hO k k)
  rw [betP_of hS] at HB
  have HH := Lib.hid (And.intro hS (And.intro hHD (And.intro hDl (And.intro hK hle))))
  have HSa := Lib.hid (fun (H1 : Nat → Prop) (w1 : World) (hg : Grow H w w1 H1) => show Sees w1 B 1 A x0.length (rowT x0) ∧ SetsAt w1 D0 x0 L from ⟨hs.step hg.step hB (fun h0 b o e hb => hA h0 b o e ((hK b).2 (.inl hb))), hS0.step hg.step (fun q hq hH => hD0 q hq ((hK q).2 (.inl hH)))⟩)
  have HC := Lib.hid (And.intro hc (And.intro hL hS0.len))
  obtain ⟨n, hn⟩ : ∃ n, x0.length = n := ⟨_, rfl⟩
  have HN := Lib.hid hn
  have hnL : n = L.length := by rw [← hn, hS0.len]
  rw [hn] at ⊢
  have hnI : (n : Int) ≤ 80000 := by omega
  have hXI : (X.length : Int) ≤ 80000 := by omega
  rcases betP_or X k k with hb | hb
  · obtain ⟨i0, i1, i2⟩ := betP_zero hb
    have HX := Lib.hid (show insX X k L = X.take k.toNat ++ L ++ X.drop k.toNat by unfold insX; rw [if_pos hb])
    have HBB := Lib.hid hb
    rw [hb] at HB
    obtain ⟨nX, hnX⟩ : ∃ q, X.length = q := ⟨_, rfl⟩
    have HNX := Lib.hid hnX
    have HXL := Lib.hid hX
    rw [hnX] at hXI
    have g1 : IntKind.i64.wrap (536870912 - (nX : Int)) = 536870912 - nX := IntWalk.i64_in _ (by omega)
    have hnt : ¬ (536870912 - (nX : Int) < n) := by omega
    clear hO hS hHD hDl hK hle hb hs hS0 hA hD0 hc hL hn hnL hX hnX
    go_enter Try.func10, Try.ntmps10
    go_wp2_with fail
    refine HB.out.mono ?_
    clear HB
    rintro e w1 ⟨H1, rfl, hW, hg⟩
    have HW := Lib.hid (And.intro hW hg)
    have HL1 := Lib.hid (lenO_any hW)
    rw [sumT_len, HH.out.1.len, HNX.out] at HL1
    clear hW hg
    go_wp2_with fail
    refine HL1.out.mono ?_
    clear HL1
    rintro e w2 ⟨H2, rfl, hW, hg⟩
    have HW2 := Lib.hid (And.intro hW (HW.out.2.trans hg))
    have HT := Lib.hid (tree_any hW)
    clear hW hg
    go_wp2_with fail
    refine HT.out.mono ?_
    clear HT
    rintro e w3 ⟨H3, gT, rfl, hT, hg⟩
    have hg3 := HW2.out.2.trans hg
    have HR3 := Lib.hid (And.intro hT hg3)
    have hsa := HSa.out H3 w3 hg3
    have HCp := Lib.hid (copied_any (c := c) hsa.1 (by have := hg3.step.size; omega) (by rw [HN.out]; omega) HC.out.1 hsa.2 (fun a ha => Nat.le_trans (HC.out.2.1 a ha) hm))
    rw [HN.out] at HCp
    clear hT hg hg3 hsa
    go_wp2_with fail
    refine HCp.out.mono ?_
    clear HCp
    rintro e w4 ⟨v, rfl, ys, hy, hsy, hb4⟩
    obtain ⟨A4, c4, rfl, -, -⟩ := hy.shape
    have hyl : ys.length = n := by rw [hsy.len, ← HC.out.2.2, HN.out]
    rw [hyl] at hy hsy ⊢
    have HRp := Lib.hid (put_any HH.out.2.2.2.1 HH.out.2.2.1 HH.out.2.1 HH.out.1 HH.out.2.2.2.2 (HR3.out.2.to hb4) (HR3.out.1.below hb4) hy hyl (fun q hq hH => by have h1 := own_base hy hq; have h2 := HR3.out.1.obW.lt q hH; omega)
      (hsy.mono (fun q _ hq => ⟨Nat.le_trans HR3.out.2.step.size hq.1, fun hH => by have h2 := HR3.out.1.obW.lt q hH; have h1 := hq.1; omega⟩)) HC.out.2.1 i0 i1 i2 hN HXL.out)
    clear hy hsy hb4 hyl
    go_wp2_with fail
    refine HRp.out.mono ?_
    clear HRp
    rintro e w5 ⟨K', v5, rfl, hp, hgk⟩
    have HF := Lib.hid (And.intro hp hgk)
    clear hp hgk
    go_wp2_with fail
    go_ret
    exact ⟨K', by rw [HBB.out]; rfl, by rw [HX.out]; exact HF.out.1, HF.out.2⟩
  · have HX := Lib.hid (show insX X k L = X by unfold insX; rw [if_neg (by rw [hb]; decide)])
    have HBB := Lib.hid hb
    rw [hb] at HB
    clear hO hS hHD hDl hK hle hb hs hS0 hA hD0 hc hL hn hnL
    go_enter Try.func10, Try.ntmps10
    go_wp2_with fail
    refine HB.out.mono ?_
    clear HB
    rintro e w1 ⟨H1, rfl, hW, hg⟩
    obtain ⟨K', hp, hgk⟩ := ParS.of HH.out.2.2.2.1 HH.out.2.2.1 HH.out.2.1 hW hg (E := D) (fun k hk => .inl hk) (HH.out.1.step hg.step (fun k hk hH => HH.out.2.1 k hH hk)) HH.out.2.2.2.2
    have HR := Lib.hid (And.intro hp hgk)
    clear hW hg hp hgk
    go_wp2_with fail
    go_ret
    exact ⟨K', by rw [HBB.out]; rfl, by rw [HX.out]; exact HR.out.1.more (by omega) (Nat.le_refl _), HR.out.2⟩

set_option maxRecDepth 100000 in
set_option maxHeartbeats 2000000 in
theorem deleteP_any {w : World} {K : Nat → Prop} {g N m : Nat} {X : List (List At)} (h : ParS w K g X N m) (hN : N ≤ 79998) (hX : X.length ≤ 80000) (k j : Int) :
    Calls Try.prog 11 #[.pointer (some ⟨g, 0, none⟩), .int .i64 k, .int .i64 j] w fun e w' => PaR w K g (delX X k j) (max (N + 2) X.length) m (.int .i64 (betP X k j)) e w' := by
  obtain ⟨⟨H, D, xs, hO, hS, hHD, hDl, hK⟩, hle⟩ := h
  have HB := Lib.hid (between_any hO k j)
  rw [betP_of hS] at HB
  have HH := Lib.hid (And.intro hS (And.intro hHD (And.intro hDl (And.intro hK hle))))
  rcases betP_or X k j with hb | hb
  · obtain ⟨i0, i1, i2⟩ := betP_zero hb
    have HX := Lib.hid (show delX X k j = X.take k.toNat ++ [] ++ X.drop j.toNat by unfold delX; rw [if_pos hb, List.append_nil])
    have HBB := Lib.hid hb
    rw [hb] at HB
    clear hO hS hHD hDl hK hle hb
    go_enter Try.func11, Try.ntmps11
    go_wp2_with fail
    refine HB.out.mono ?_
    clear HB
    rintro e w1 ⟨H1, rfl, hW, hg⟩
    have HW := Lib.hid (And.intro hW hg)
    have HT := Lib.hid (tree_any hW)
    clear hW hg
    go_wp2_with fail
    refine HT.out.mono ?_
    clear HT
    rintro e w3 ⟨H3, gT, rfl, hT, hg⟩
    have hg3 := HW.out.2.trans hg
    have HRp := Lib.hid (put_any (ys := []) (L := []) (n := 0) (A := none) (c := 0) (b0 := 0) HH.out.2.2.2.1 HH.out.2.2.1 HH.out.2.1 HH.out.1 HH.out.2.2.2.2 hg3 hT ⟨rfl, .inl ⟨rfl, rfl⟩⟩ rfl (Off.nil_ _) (SetsAt.nil_ _ _) (fun _ h => nomatch h) i0 i1 i2 hN (by simpa using hX))
    clear hT hg hg3
    go_wp2_with fail
    refine HRp.out.mono ?_
    clear HRp
    rintro e w5 ⟨K', v5, rfl, hp, hgk⟩
    have HF := Lib.hid (And.intro hp hgk)
    clear hp hgk
    go_wp2_with fail
    go_ret
    exact ⟨K', by rw [HBB.out]; rfl, by rw [HX.out]; exact HF.out.1, HF.out.2⟩
  · have HX := Lib.hid (show delX X k j = X by unfold delX; rw [if_neg (by rw [hb]; decide)])
    have HBB := Lib.hid hb
    rw [hb] at HB
    clear hO hS hHD hDl hK hle hb
    go_enter Try.func11, Try.ntmps11
    go_wp2_with fail
    refine HB.out.mono ?_
    clear HB
    rintro e w1 ⟨H1, rfl, hW, hg⟩
    obtain ⟨K', hp, hgk⟩ := ParS.of HH.out.2.2.2.1 HH.out.2.2.1 HH.out.2.1 hW hg (E := D) (fun k hk => .inl hk) (HH.out.1.step hg.step (fun k hk hH => HH.out.2.1 k hH hk)) HH.out.2.2.2.2
    have HR := Lib.hid (And.intro hp hgk)
    clear hW hg hp hgk
    go_wp2_with fail
    go_ret
    exact ⟨K', by rw [HBB.out]; rfl, by rw [HX.out]; exact HR.out.1.more (by omega) (Nat.le_refl _), HR.out.2⟩

end Go.Proofs.Ytpaelbhljgdenaa
