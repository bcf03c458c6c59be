/-
  avl.Tree: Over, as an iterator.
-/
import Derived.Test.YtbioomilnjikpaaSpY7
import Derived.StillTailTactics
namespace Go.Proofs.Ytbioomilnjikpaa
open Go.RowKit
attribute [local go_sem] Oper.semAt_some

/-- An iterator over the parts of a tree. -/
def OverAt (w : World) (gT : Nat) (i j : Int) (b : Nat) : Prop :=
  w.cell? ⟨b, 0, none⟩ = some (.pointer (some ⟨gT, 0, none⟩)) ∧ w.cell? ⟨b + 1, 0, none⟩ = some (.int .i64 i) ∧ w.cell? ⟨b + 1 + 1, 0, none⟩ = some (.int .i64 j)
def overF (b : Nat) : Value := .func (.func 50) #[] #[.pointer (some ⟨b, 0, none⟩), .pointer (some ⟨b + 1, 0, none⟩), .pointer (some ⟨b + 1 + 1, 0, none⟩)]

theorem OverAt.below {w w' : World} {gT b : Nat} {i j : Int} (h : OverAt w gT i j b) (hb : Below w.heap.size w w') : OverAt w' gT i j b := ⟨cell_later h.1 hb, cell_later h.2.1 hb, cell_later h.2.2 hb⟩

set_option maxHeartbeats 1000000 in
theorem overF_any (gT : Nat) (i j : Int) (w : World) :
    Calls Try.prog 28 #[.pointer (some ⟨gT, 0, none⟩), .int .i64 i, .int .i64 j] w fun e w' => ∃ b, e = .returned (overF b) ∧ OverAt w' gT i j b ∧ Below w.heap.size w w' ∧ w.heap.size ≤ b := by
  go_enter Try.func28, Try.ntmps28
  go_wp2_with fail
  obtain ⟨b, hb⟩ : ∃ b, w.heap.size = b := ⟨_, rfl⟩
  obtain ⟨w1, hw1⟩ : ∃ v, ((w.alloc (.cells #[.pointer (some ⟨gT, 0, none⟩)] 47)).alloc (.cells #[.int .i64 i] 3)).alloc (.cells #[.int .i64 j] 3) = v := ⟨_, rfl⟩
  have q0 : w1.heap[b]? = some (.cells #[.pointer (some ⟨gT, 0, none⟩)] 47) := by
    rw [← hw1]; simp only [heap_alloc_get, World.size_alloc, hb]; repeat (first | rw [if_pos trivial] | rw [if_pos rfl] | rw [if_neg (by omega)])
  have q1 : w1.heap[b + 1]? = some (.cells #[.int .i64 i] 3) := by
    rw [← hw1]; simp only [heap_alloc_get, World.size_alloc, hb]; repeat (first | rw [if_pos trivial] | rw [if_pos rfl] | rw [if_neg (by omega)])
  have q2 : w1.heap[b + 1 + 1]? = some (.cells #[.int .i64 j] 3) := by
    rw [← hw1]; simp only [heap_alloc_get, World.size_alloc, hb]; repeat (first | rw [if_pos trivial] | rw [if_pos rfl] | rw [if_neg (by omega)])
  have hB : Below w.heap.size w w1 := by rw [← hw1]; exact (((Below.refl _ w).alloc (Nat.le_refl _) _).alloc (by simp) _).alloc (by simp; omega) _
  have HQ := Lib.hid (show OverAt w1 gT i j b ∧ Below w.heap.size w w1 from ⟨⟨by rw [cell_of_row w1 _ 0 _ _ _ q0]; rfl, by rw [cell_of_row w1 _ 0 _ _ _ q1]; rfl, by rw [cell_of_row w1 _ 0 _ _ _ q2]; rfl⟩, hB⟩)
  have HB := Lib.hid hb
  rw [hb, hw1]
  clear hw1 q0 q1 q2 hB hb
  go_ret
  exact ⟨b, rfl, HQ.out.1, by have h1 := HQ.out.2; rw [HB.out] at h1; exact h1, Nat.le_refl _⟩

set_option maxRecDepth 100000 in
set_option maxHeartbeats 4000000 in
theorem over_stops {w : World} {G : Nat → Prop} {gT N : Nat} {X : List Th} (n : Nat) (h : TreeX w G gT X N) {i j : Int} {b : Nat} (hb : OverAt w gT i j b) (h0 : 0 ≤ i) (h1 : i ≤ 1000000000000) (h2 : -1000000000000 ≤ j) (h3 : j ≤ 1000000000000) (Bad : Nat → Obj → Prop) (hG : ∀ k, G k → ∀ o, ¬ Bad k o) (hNB : ∀ b, w.heap.size ≤ b → ∀ cs fr, ¬ Bad b (.cells cs 80 fr)) :
    SeqStopsK Fence.wide n Try.prog 50 #[.pointer (some ⟨b, 0, none⟩), .pointer (some ⟨b + 1, 0, none⟩), .pointer (some ⟨b + 1 + 1, 0, none⟩)] (fun x => #[thV x]) (KeepsO Bad) (fun xs => xs = overT X i j) (fun pre => pre <+: overT X i j) (overT X i j).length w := fun l J Jx W hW hJ hJx hY h00 => by
  obtain ⟨F, gA, T, s, fr, hGF, hS, rfl, hsN⟩ := h
  have hO := hb.below hW
  have hT := hS.tw.below hW
  have hcR := hT.cR
  have HO := Lib.hid (over_any (F := F) (gT := gT) (gA := gA) (root := T.rt) (s := s) (fr := fr) (J := J) (Jx := Jx) (Bad := Bad) (N := (overT T.things i j).length) (m := n - 1) (l := l) (B0 := w.heap.size)
    (fun pre A B hp hb => hJ pre A B none hp (grown_none hb) (fun r e => by cases e)) hY (fun k hk => hG k ((hGF k).2 (.inl hk))) (hG gT ((hGF gT).2 (.inr rfl))) hNB T hS.holds hS.ok (W.drew) [] i j hW.size (hT.below ((Below.refl _ _).drew)) h0 h1 h2 h3 (hJ [] W _ none h00 (grown_none (Below.refl _ _).drew) (fun r e => by cases e)) (by simp))
  obtain ⟨c0, c1, c2⟩ := hO
  clear hJ hJx hY h00 hb hT hS hsN hGF
  refine callsIn_wide.2 ?_
  show Calls _ _ #[.func (.yield l) #[] #[], .pointer (some ⟨b, 0, none⟩), .pointer (some ⟨b + 1, 0, none⟩), .pointer (some ⟨b + 1 + 1, 0, none⟩)] W _
  go_enter Try.func50, Try.ntmps50
  go_wp2_with fail
  go_still_tail 8, (by kernel_rfl)
  change wpList _ _ _ _ _ W.drew
  go_wp2_with fail
  refine HO.out.mono ?_
  rintro e w1 (⟨rfl, hj, hk⟩ | ⟨rfl, q, hq, hj⟩)
  · have HR := Lib.hid (show J (overT T.things i j) w1 from hj)
    clear hj hk c0 c1 c2 hcR
    go_wp2_with fail
    go_end0
    exact ⟨⟨_, rfl⟩, .inl ⟨_, rfl, HR.out⟩⟩
  · have HR := Lib.hid (And.intro hq (show Jx q w1 from hj))
    clear hj hq c0 c1 c2 hcR
    go_wp2_with fail
    go_end0
    exact ⟨⟨_, rfl⟩, .inr ⟨q, HR.out.1, HR.out.2⟩⟩

end Go.Proofs.Ytbioomilnjikpaa
