/-
  avl.Tree: concat, pick.
-/
import Derived.Test.YtbioomilnjikpaaSpM
namespace Go.Proofs.Ytbioomilnjikpaa
open Go.RowKit

set_option maxHeartbeats 2000000 in
theorem concat_any {w : World} {F : Nat → Prop} {gT gA : Nat} {root : Int} {s : List (Option Nd)} {fr : List Nat} (h : TreeW w F gT gA root s fr) {L R : Tr} (hl : Holds s L) (hr : Holds s R) (ho : OkL (L.nodes ++ R.nodes)) :
    Calls Try.prog 48 #[.pointer (some ⟨gT, 0, none⟩), .int .i64 L.rt, .int .i64 R.rt] w fun e w' => ∃ v, e = .returned v ∧ Post w F gT gA root s fr (L.nodes ++ R.nodes) v w' := by
  cases L with
  | nil =>
    show Calls _ _ #[.pointer (some ⟨gT, 0, none⟩), .int .i64 (-1), .int .i64 R.rt] w _
    have HP : Post w F gT gA root s fr ([] ++ R.nodes) (.int .i64 R.rt) w := ⟨R, s, rfl, h, hr, rfl, fun _ _ => rfl, rfl, Grow.refl _ _⟩
    have HP := Lib.hid HP
    clear h hl hr ho
    go_enter Try.func48, Try.ntmps48
    go_wp2_with fail
    go_ret
    exact ⟨_, rfl, HP.out⟩
  | nd k u A B =>
    have HL := Lib.hid (last_any (.nd k u A B) (by show (k : Int) ≠ -1; omega) w s h hl ho.left)
    have HR := Lib.hid hr
    obtain ⟨LN, hLN⟩ : ∃ x, (Tr.nd k u A B).nodes = x := ⟨_, rfl⟩
    rw [hLN] at HL ho ⊢
    have HO := Lib.hid ho
    show Calls _ _ #[.pointer (some ⟨gT, 0, none⟩), .int .i64 (k : Int), .int .i64 R.rt] w _
    have HL : RowKit.Hid (Calls Try.prog 42 #[.pointer (some ⟨gT, 0, none⟩), .int .i64 (k : Int)] w fun e w' => ∃ v, e = .returned v ∧ PostE w F gT gA root s fr LN false v w') := HL
    have hk1 : ((k : Int) == -1) = false := by simp
    clear h hl hr ho hLN
    go_enter Try.func48, Try.ntmps48
    go_wp2_with fail
    refine HL.out.mono ?_
    rintro e w1 ⟨v1, rfl, T', s1, p, x, l0, r0, h0, z0, m0, rfl, hT1, hH1, hn, hp, hk, hl1, hg⟩
    have hn : LN = T'.nodes ++ [(p, x)] := hn
    have hnod : (Tr.nd p x T' R).nodes = LN ++ R.nodes := by rw [hn]; simp [Tr.nodes]
    have HJ := Lib.hid (join_any _ T' R (Nat.le_refl _) w1 s1 hT1 hp hH1 (HR.out.keep fun z hz => hk z (fun e => HO.out.apart z e hz)) (by rw [hnod]; exact HO.out))
    rw [hnod] at HJ
    have HK := Lib.hid (And.intro hk (And.intro hl1 hg))
    clear hT1 hH1 hn hp hk hl1 hg hnod HL
    go_wp2_with fail
    refine HJ.out.mono ?_
    rintro e w2 ⟨v2, rfl, T2, s2, rfl, hT2, hH2, hn2, hk2, hl2, hg2⟩
    have HP := Lib.hid (show Post w F gT gA root s fr (LN ++ R.nodes) (.int .i64 T2.rt) w2 from ⟨T2, s2, rfl, hT2, hH2, hn2, fun j hj => (hk2 j hj).trans (HK.out.1 j (fun e => hj (by rw [ids_append]; exact List.mem_append.2 (.inl e)))), hl2.trans HK.out.2.1, HK.out.2.2.trans hg2⟩)
    clear hT2 hH2 hn2 hk2 hl2 hg2
    go_wp2_with fail
    go_ret
    exact ⟨_, rfl, HP.out⟩

end Go.Proofs.Ytbioomilnjikpaa
