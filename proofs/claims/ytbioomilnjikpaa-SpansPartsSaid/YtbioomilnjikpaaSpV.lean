/-
  avl.Tree: split.
-/
import Derived.Test.YtbioomilnjikpaaSpS
namespace Go.Proofs.Ytbioomilnjikpaa
open Go.RowKit

set_option maxRecDepth 100000 in
set_option maxHeartbeats 1000000 in
theorem split_nil {w : World} {F : Nat → Prop} {gT gA : Nat} {root : Int} {s : List (Option Nd)} {fr : List Nat} (h : TreeW w F gT gA root s fr) (p : Nat) (a : Int) :
    Calls Try.prog 40 #[.pointer (some ⟨gT, 0, none⟩), .int .i64 (-1), .int .i64 a] w fun e w' => ∃ v, e = .returned v ∧ PostS w F gT gA root s p [] a v w' := by
  have HW := Lib.hid h
  clear h
  go_enter Try.func40, Try.ntmps40
  go_wp2_with fail
  go_ret2
  exact ⟨.tuple #[.int .i64 (-1), .int .i64 (-1)], rfl, F, fr, s, .nil, .nil, rfl, HW.out, trivial, trivial, rfl, rfl, fun _ _ _ => rfl, by omega, Grow.refl _ _⟩

theorem split_any {F : Nat → Prop} {gT gA : Nat} {root : Int} {s : List (Option Nd)} {fr : List Nat} : ∀ (T : Tr) (w : World), TreeW w F gT gA root s fr → Holds s T → OkL T.nodes → s.length < 90000 → ∀ (a : Int), -1000000000000 ≤ a → a ≤ 1000000000000 →
    Calls Try.prog 40 #[.pointer (some ⟨gT, 0, none⟩), .int .i64 T.rt, .int .i64 a] w fun e w' => ∃ v, e = .returned v ∧ PostS w F gT gA root s (nextOf s fr) T.nodes a v w'
  | .nil, w, h, _, _, _, a, _, _ => split_nil h _ a
  | .nd k u L R, w, h, hT, ho, hl, a, h1, h2 => by
    have hp := gt_next h.ok
    by_cases ha : a ≤ L.z
    · exact split_left h hT ho hp hl a h1 h2 ha (fun w h a h1 h2 => split_any L w h hT.2.1 ho.left hl a h1 h2)
    · by_cases hb : L.z + sizeT u ≤ a
      · exact split_right h hT ho hp hl a h1 h2 (by omega) hb (fun w h a h1 h2 => split_any R w h hT.2.2 ho.right.tail hl a h1 h2)
      · exact split_mid h hT ho hp hl a h1 h2 (by omega) (by omega) rfl

end Go.Proofs.Ytbioomilnjikpaa
