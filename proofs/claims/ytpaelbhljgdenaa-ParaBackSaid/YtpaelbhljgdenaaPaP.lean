/-
  avl.Tree: pick.
-/
import Derived.Test.YtpaelbhljgdenaaPaO
import Derived.Deep.DeepCutAuto
import Derived.Deep.CutRange
namespace Go.Proofs.Ytpaelbhljgdenaa
open Go.RowKit

set_option maxHeartbeats 2000000 in
theorem run_thing (x : Th) (l0 r0 h0 z0 m0 : Int) (w : World) : (Instr.field 90 (.agg #[.slice x.A x.n x.c, .int .i64 l0, .int .i64 r0, .int .i64 h0, .int .i64 z0, .int .i64 m0]) 0).run Try.prog w = .ok (.slice x.A x.n x.c) w := by kernel_rfl

set_option maxRecDepth 100000 in
theorem pick_any {w : World} {F : Nat → Prop} {gT gA : Nat} {root : Int} {s : List (Option Nd)} {fr : List Nat} (h : TreeW w F gT gA root s fr) {k : Nat} {x : Th} {l0 r0 h0 z0 m0 : Int} (hk : gt s k = some (mkN x l0 r0 h0 z0 m0)) :
    Calls Try.prog 43 #[.pointer (some ⟨gT, 0, none⟩), .int .i64 k] w fun e w' => e = .returned (thV x) ∧ ∃ F', TreeW w' F' gT gA root (s.set k none) (fr ++ [k]) ∧ Grow F w w' F' := by
  have HAt := Lib.hid (at_any h hk)
  have HAt : RowKit.Hid (Calls Try.prog 54 #[.pointer (some ⟨gT, 0, none⟩), .int .i64 k] w fun e w' => e = .returned (.agg #[.slice x.A x.n x.c, .int .i64 l0, .int .i64 r0, .int .i64 h0, .int .i64 z0, .int .i64 m0]) ∧ Below w.heap.size w w') := HAt
  have HW := Lib.hid (fun (w1 : World) (hb : Below w.heap.size w w1) => h.below hb)
  have HL := Lib.hid (And.intro h.len (And.intro h.ok h.ar.lt))
  have HK := Lib.hid (gt_some.1 hk)
  clear h hk
  unfold thV
  go_enter Try.func43, Try.ntmps43
  go_wp2_with fail
  refine HAt.out.mono ?_
  rintro e w1 ⟨rfl, hb1⟩
  have T1 := Lib.hid (HW.out w1 hb1)
  have hcN := T1.out.cN
  have HFr := Lib.hid (freeN_yes T1.out.ar (by have := HL.out.1; omega) (by have h1 := HL.out.2.1.len; have := HL.out.1; omega) HK.out)
  have HB := Lib.hid hb1
  clear hb1 HAt
  have hfd := run_thing x l0 r0 h0 z0 m0
  go_upto_region 2 with fail
  clear hfd
  go_wp2_with fail
  clear hcN
  refine HFr.out.mono ?_
  rintro e w3 ⟨F3, rfl, ha3, hg3⟩
  have HT3 := Lib.hid (And.intro (T1.out.arena ha3 (HL.out.2.1.free HK.out) hg3 (by rw [List.length_set]; exact HL.out.1)) ((Grow.of_below HB.out).trans hg3))
  clear ha3 hg3
  go_wp2_with fail
  go_ret
  exact ⟨rfl, F3, HT3.out.1, HT3.out.2⟩

end Go.Proofs.Ytpaelbhljgdenaa
