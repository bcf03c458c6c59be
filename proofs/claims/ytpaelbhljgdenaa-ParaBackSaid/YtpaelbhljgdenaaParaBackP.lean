/-
  rubriclaw13.ParaBack answers true for every input and never panics, and changes nothing that was there: no condition.
  The frame round the walk follows the kit's proof-skeleton.
-/
import Derived.Test.YtpaelbhljgdenaaRows
import Derived.Test.YtpaelbhljgdenaaPaPk
import Derived.WalkKit
import Derived.ProofKit
import Derived.OpenShut
import Derived.ShutString
import Derived.ChangeOld
import Derived.Below
import Derived.SizedLaws
import Derived.Deep.Slices
namespace Go.Proofs.Ytpaelbhljgdenaa.paraBack
open Go.ChangeShapes Go.WideShapes Go.ChangeAt Go.RowKit
open Go.ChangeMaps (open_string shut_string)
set_option linter.unusedVariables false

theorem own : ownKnob Try.prog.godebug = none := by kernel_rfl
theorem laidOut : laidOutB Try.prog = true := by kernel_rfl

theorem walk (a0 : Option Addr) (len0 cap0 : Nat) (o1 : OpS) (w : World) (w0 : ∃ l : List OpS, Sees w w.heap.size 5 a0 len0 (l.flatMap OpS.cells) ∧ l.length = len0 ∧ ∀ o ∈ l, o.Ok w) (z0 : len0 * 72 ≤ 140737488351232) (w1 : o1.Ok w) :
    Calls Try.prog 3 #[.slice a0 len0 cap0, .agg o1.cells.toArray] w fun e w' => e = .returned (.bool true) ∧ Below w.heap.size w w' := by
  obtain ⟨l, hs, rfl, hok⟩ := w0
  exact back_law a0 cap0 l o1 w hs hok w1 z0

set_option maxRecDepth 100000 in
theorem lifted (os : Os) (started : os.Started) (H : Type) (enc : TypeId × Value → H) :
    ReturnsInHanded {} Try.checked os 3 .any (Rows.paraBackSpec.pre6 enc Try.prog Try.f3 Rows.paraBackRow.domain false) (Rows.paraBackSpec.post enc Try.prog Try.f3 false true false false) := by
  refine returnsInHanded_of_change_sized (C := Try.checked) own started (by kernel_rfl) Try.func3
    (ChangeSpec.witness6 (enc := enc) (C := Try.checked) false ⟨#[], #[.slice none 0 0, .agg #[.int .i64 0, .int .i64 0, .int .i64 0, .slice none 0 0, .slice none 0 0]], []⟩ 8 (by kernel_rfl) (by kernel_rfl) (by kernel_rfl) (by kernel_rfl)) ?_
  intro W base args ds gs before hval0 hW hcnd hsz _
  have hval : ∀ (j : Nat) t v, Try.f3.params[j]? = some t → args[j]? = some v → Value.okWide Try.prog W .any base t v := hval0
  have hW' := hW
  obtain ⟨p, q, hA0, hV, rfl, hfz, hnd⟩ := hW
  have hA : DataW.TrodAll enc Try.prog W 0 (fun _ => true) true Try.f3.params.toList args.toList ds p := hA0
  rw [Try.params3] at hA hval
  obtain ⟨v0, vs0, d0, ds0, p0, q0, hargs, rfl, rfl, h0, r0⟩ := trodAll_cons hA
  obtain ⟨v1, vs1, d1, ds1, p1, q1, rfl, rfl, rfl, h1, r1⟩ := trodAll_cons r0
  obtain ⟨rfl, rfl, rfl⟩ := trodAll_nil r1
  obtain rfl : args = #[v0, v1] := by cases args; simp_all
  obtain ⟨rfl, rfl⟩ := trodVars_none hV
  obtain ⟨a0, len0, cap0, rfl⟩ := okWide_slice Try.underlying22 (hval 0 22 v0 rfl rfl)
  have k0 := h0
  have lt0 : ∀ x ∈ p0, x.block < W.heap.size := by obtain ⟨m, hm⟩ := k0; exact DataW.trod_lt m _ _ _ hm
  have w0 : ∃ l : List OpS, Sees W W.heap.size 5 a0 len0 (l.flatMap OpS.cells) ∧ l.length = len0 ∧ ∀ o ∈ l, o.Ok W := by
    obtain ⟨fuel, hf⟩ := h0
    obtain ⟨A, c, l, he, hs, _, _, hok⟩ := open_opl hf
    cases he
    exact ⟨l, hs, rfl, hok⟩
  have z0 : len0 * 72 ≤ 140737488351232 := by
    obtain ⟨fuel, hf⟩ := h0
    rcases Deep.open_slice Try.underlying22 hf with ⟨e1, _⟩ | ⟨ad, ln, cp, m, n, D, Pl, e1, _, hl, _, _, e2, _⟩
    · cases e1; omega
    · cases e1
      obtain rfl := (Prod.mk.inj e2).1
      have hq := sized_slice hsz (j := 0) (t := 22) (e := 26) rfl rfl Try.underlying22
      rw [show Try.checked.prog.bytesOf 26 = 72 by kernel_rfl, List.length_map, List.length_range] at hq
      have hr : reachBytes = 140737488351232 := by decide
      exact Nat.le_trans (Nat.mul_le_mul_right _ (Nat.le_add_right _ _)) (hr ▸ hq)
  obtain ⟨cs1, rfl, _⟩ := okWide_struct Try.underlying26 (hval 1 26 v1 rfl rfl)
  have k1 := h1
  have lt1 : ∀ x ∈ p1, x.block < W.heap.size := by obtain ⟨m, hm⟩ := k1; exact DataW.trod_lt m _ _ _ hm
  obtain ⟨o1, e1, w1⟩ : ∃ o1 : OpS, cs1.toList = o1.cells.toArray.toList ∧ o1.Ok W := by
    obtain ⟨fuel, hf⟩ := h1
    exact open_op hf
  obtain rfl : cs1 = o1.cells.toArray := Array.toList_inj.1 e1
  clear hA0 hval0
  refine (walk a0 len0 cap0 o1 W w0 z0 w1).mono fun e W' ⟨he, bel⟩ => ?_
  subst he
  exact ⟨_, rfl, _, _, _, [], _, [], hW', trodAll_mk1 (shut_bool Try.underlying4 _), (trodAll_cons_mk (Below.trod laidOut (by kernel_rfl) (of_decide_eq_true (by kernel_rfl)) k0 bel lt0) (trodAll_cons_mk (Below.trod laidOut (by kernel_rfl) (of_decide_eq_true (by kernel_rfl)) k1 bel lt1) trodAll_mk0)), rfl, bel.frame _, fun h => by cases h⟩

theorem over : Rows.paraBackRow.holds Try.pinned (OpenSpec.ofChange Rows.paraBackSpec) :=
  OpenClaim.holds_of_wide 3 Try.f3 rfl rfl rfl rfl rfl rfl rfl ⟨rfl, rfl, rfl, rfl, rfl⟩ rfl rfl rfl rfl rfl (by kernel_rfl) Try.func3 (by kernel_rfl)
    (of_decide_eq_true (by kernel_rfl)) (by unfold Func.isWrapper; first | (rw [if_pos (by decide +kernel)]; kernel_rfl) | (rw [if_neg (by decide +kernel)]; exact ⟨rfl, rfl⟩))
    (fun os started H enc _ => lifted os started H enc)

theorem proved : Rows.ParaBackSaid := over
#print axioms proved
end Go.Proofs.Ytpaelbhljgdenaa.paraBack
