/-
  Spans: All, as an iterator.
-/
import Derived.Test.YtbioomilnjikpaaSpLa
namespace Go.Proofs.Ytbioomilnjikpaa
open Go.RowKit
attribute [local go_sem] Oper.semAt_some

def allF (b : Nat) : Value := .func (.func 30) #[] #[.pointer (some ⟨b, 0, none⟩)]

theorem over_all {X : List Th} (hX : Can X) (hoX : ∀ x ∈ X, okT x) : overT X 0 (sumT X) = X := by
  refine Can.unique (can_over X 0 _ hX hoX).1 hX ?_
  have hl := nums_len X hoX
  rw [nums_over X _ _ hoX, List.take_of_length_le (by omega)]
  rfl

/-- What All hands back. -/
def AllR (w0 : World) (g m : Nat) (X : List Th) (e : Ending) (w' : World) : Prop := ∃ b v, e = .returned (allF b) ∧ OwnK w0 g m X v X b (.cells #[v] 26) w'

set_option maxRecDepth 100000 in
set_option maxHeartbeats 1000000 in
theorem allL_any {w0 w : World} {g m : Nat} {X : List Th} (h : SpL w0 g m X w) : Calls Try.prog 13 #[.pointer (some ⟨g, 0, none⟩)] w fun e w' => AllR w0 g m X e w' := by
  have hok := h.okX
  have HL := Lib.hid (lenL_any h)
  have HO := Lib.hid (over_all hok.2.1 hok.1)
  have HB := Lib.hid (show betE X 0 (sumT X) = 0 by unfold betE; rw [if_pos ⟨Int.le_refl 0, hok.2.2.2, Int.le_refl _⟩])
  clear h hok
  go_enter Try.func13, Try.ntmps13
  go_wp2_with fail
  refine HL.out.mono ?_
  rintro e w1 ⟨rfl, hL⟩
  have HOv := Lib.hid (overL_any hL 0 (sumT X))
  rw [HB.out, HO.out] at HOv
  clear hL HL
  go_wp2_with fail
  refine HOv.out.mono ?_
  clear HOv
  rintro e w2 ⟨v, xs, rfl, hO, hx, -⟩
  obtain rfl := hx rfl
  obtain ⟨A, c, rfl, -, -⟩ := hO.own.shape
  obtain ⟨v, hv⟩ : ∃ v : Value, .slice A xs.length c = v := ⟨_, rfl⟩
  have hN := hO.new (.cells #[v] 26)
  rw [hv] at hN
  obtain ⟨b, hb⟩ : ∃ b, w2.heap.size = b := ⟨_, rfl⟩
  rw [hb] at hN
  have HN := Lib.hid hN
  have HV := Lib.hid hv
  clear hO hx hN hv
  go_wp2_with fail
  go_ret
  refine ⟨b, v, rfl, ?_⟩
  have h1 := HN.out
  rw [← HV.out] at h1 ⊢
  exact h1

set_option maxRecDepth 100000 in
set_option maxHeartbeats 4000000 in
theorem all_stops {w : World} {base b : Nat} {X : List Th} {v : Value} (n : Nat) (ho : OwnT w base v X) (hb : w.heap[b]? = some (.cells #[v] 26)) (hlen : X.length ≤ 100000) (Bad : Nat → Obj → Prop) (hv : ∀ k, v.ownBlock = some k → ∀ o, ¬ Bad k o) :
    SeqStopsK Fence.wide n Try.prog 30 #[.pointer (some ⟨b, 0, none⟩)] (fun x => #[thV x]) (KeepsO Bad) (fun xs => xs = X) (fun pre => pre <+: X) X.length w := fun l J Jx W hW hJ hJx hY h00 => by
  obtain ⟨A, c, rfl, hc, -⟩ := ho.shape
  have hc0 : W.cell? ⟨b, 0, none⟩ = some (.slice A X.length c) := by rw [cell_of_row W b 0 _ _ _ (heap_later hb hW)]; rfl
  have HO := Lib.hid (ho.later hW)
  have HJ := Lib.hid (fun pre A B (hp : J pre A) (hb : Below A.heap.size A B) => hJ pre A B none hp (grown_none hb) (fun r e => by cases e))
  have HY := Lib.hid hY
  have HV := Lib.hid hv
  have H0 := Lib.hid h00
  obtain ⟨nX, hnX⟩ : ∃ n, X.length = n := ⟨_, rfl⟩
  have HN := Lib.hid hnX
  rw [hnX] at hc0 hc hlen HO HV HY
  have hnI : (nX : Int) ≤ 100000 := by omega
  clear hJ hJx hY h00 hb ho hv hnX
  refine callsIn_wide.2 ?_
  show Calls _ _ #[.func (.yield l) #[] #[], .pointer (some ⟨b, 0, none⟩)] W _
  go_enter Try.func30, Try.ntmps30
  go_wp2_with fail
  clear hc0
  go_loopw [7] (fun v7 wr => ∃ k : Nat, k ≤ nX ∧ v7 = .int .i64 k ∧ J (X.take k) wr ∧ OwnT wr base (.slice A nX c) X) (fun v7 _ => nX - (intOf v7).toNat)
  case atStart => exact ⟨0, Nat.zero_le _, rfl, by rw [List.take_zero]; exact H0.out, HO.out⟩
  case round =>
    obtain ⟨k, hk, rfl, hj, hO⟩ := hrel
    by_cases hlt : k < nX
    · have hkI : (k : Int) < nX := by omega
      obtain ⟨x, hx⟩ : ∃ x, X[k]? = some x := ⟨_, List.getElem?_eq_getElem (by rw [HN.out]; exact hlt)⟩
      obtain ⟨-, bP, rfl, hbP, hbPl, hrP, -⟩ := hO.thing hx
      have HRx := Lib.hid hrP
      have HT := Lib.hid (take_snoc' hx)
      obtain ⟨bx, hbx⟩ : ∃ v, wr.heap.size = v := ⟨_, rfl⟩
      obtain ⟨wx, hwx⟩ : ∃ v, wr.alloc (.cells (encT x).toArray 34) = v := ⟨_, rfl⟩
      have Bx : Below wr.heap.size wr wx := by rw [← hwx]; exact (Below.refl _ _).alloc (Nat.le_refl _) _
      have HF := Lib.hid (show wx.heap[bx]? = some (.cells (encT x).toArray 34) by rw [← hwx, ← hbx]; exact heap_alloc_new wr _)
      have HOx := Lib.hid (hO.later Bx)
      have HE := Lib.hid (And.intro hwx hbx)
      obtain ⟨fn, tmps, assign, body, hy, hR⟩ := HY.out (X.take k) x wx (HJ.out _ _ _ hj Bx) (by rw [List.length_take, HN.out]; omega)
      rw [thV_cells x] at hy
      have HR := Lib.hid hR
      clear hx hj hO hrP hbx hwx Bx hR
      go_upto_region 3 with (first
        | (refine wpList_load_mid rfl 34 (.tmp 9) rfl bP (k * 2) rfl (encT x) _ HRx.out Try.underlying34 rfl (thing_info _) ?_)
        | (refine wpList_store_row rfl 34 (.tmp 4) (.tmp 10) rfl wr.heap.size (encT x).toArray rfl rfl 34 _ (heap_alloc_new wr _) (by rw [List.size_toArray]; exact thing_info _) (by rfl) (all_oneCell_toArray (encT_one _)) ?_; rw [alloc_setRow, HE.out.1, HE.out.2]))
      refine (wpIn_wide (n := n - 1 + 1)).1 ?_
      gi_wp2_with (refine wpListIn_known rfl rfl (by intro c e; cases e) (exec_load_row 34 (.tmp 4) rfl bx rfl 34 (encT x).toArray (0, 0) _ HF.out Try.underlying34 rfl (by rw [List.size_toArray]; exact thing_info _)) ?_)
      refine HR.out.mono ?_
      rintro e w3 (⟨rfl, hj, hk'⟩ | ⟨rfl, hj⟩)
      · have HK := Lib.hid (show J (X.take (k + 1)) w3 ∧ OwnT w3 base (.slice (some ⟨bP, 0, none⟩) nX c) X from ⟨by rw [HT.out]; exact hj, hk'.own HOx.out HV.out⟩)
        clear hj hk' hy
        gi_wp2
        go_wp2_with fail
        go_roundw
        case rel => exact ⟨k + 1, by omega, by go_num, HK.out.1, HK.out.2⟩
        case measure => simp [intOf]; omega
      · have HK := Lib.hid (And.intro (show X.take k ++ [x] <+: X by rw [← HT.out]; exact List.take_prefix _ _) hj)
        clear hj hy
        gi_wp2
        go_wp2_with fail
        refine bodyPost_ret (results_none rfl _ _ _) rfl ?_
        exact ⟨⟨_, rfl⟩, .inr ⟨_, HK.out.1, HK.out.2⟩⟩
    · obtain rfl : k = nX := by omega
      have HK := Lib.hid (show J X wr by rw [List.take_of_length_le (by rw [HN.out]; exact Nat.le_refl _)] at hj; exact hj)
      clear hj hO
      go_wp2_with fail
      go_end0
      exact ⟨⟨_, rfl⟩, .inl ⟨_, rfl, HK.out⟩⟩

end Go.Proofs.Ytbioomilnjikpaa
