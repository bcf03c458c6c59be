/-
  avl.Tree: what is built of a thing; a thing of size one is never cut.
-/
import Derived.Test.YtpaelbhljgdenaaPaR
import Derived.Deep.RegionLaw
import Derived.Deep.DeepCutAuto
import Derived.Deep.CutRange
namespace Go.Proofs.Ytpaelbhljgdenaa
open Go.RowKit

theorem there_row {w : World} {b n : Nat} {cs : List Value} {t : TypeId} (h : w.heap[b]? = some (.cells cs.toArray t (0, 0))) (hn : n ≤ cs.length) : w.there b 0 n := fun j hj => by
  refine ⟨?_, frozen_of_row w b _ _ _ h⟩
  rw [Nat.zero_add, cell_of_row w b j _ _ _ h, List.getElem?_toArray, List.getElem?_eq_getElem (by omega)]
  rfl

theorem setMany_front : ∀ (vs a r : List Value), a.length = vs.length → setMany (a ++ r) 0 vs = vs ++ r := by
  intro vs a r h
  apply List.ext_getElem?
  intro i
  rw [setMany_get vs (a ++ r) 0 i (by rw [List.length_append]; omega)]
  by_cases hi : i < vs.length
  · rw [if_pos (by omega), Nat.sub_zero, List.getElem?_append_left hi]
  · rw [if_neg (by omega), List.getElem?_append_right (by omega), List.getElem?_append_right (by omega), h]

/-- A node's thing is written. -/
theorem NdAt.setX {w : World} {b : Nat} {n : Nd} (h : NdAt w b n) (t : Th) : NdAt (w.setCells b 0 (encT t)) b (mkN t n.l n.r n.h n.sz n.mk_) := ⟨by
  rw [setCells_get b _ (encT t) 0 w n.C h.blk, Nd.C, setMany_front _ _ _ (by rw [n.hx, encT_len])]
  rfl⟩
theorem NdAt.there {w : World} {b : Nat} {n : Nd} (h : NdAt w b n) : w.there b 0 1 := there_row h.blk (by rw [Nd.C_len]; omega)

theorem exec_build1 {P : Program} {o : Oper} {ev : Operand → Value} {w : World} (t : TypeId) (i : Nat) (x : Operand) (ho : o.op = .build t #[(i, x)]) (u : Value) (hx : ev x = u) (cells : Array Value)
    (h : P.built t [(i, u)] = some cells) : (execOp ev o).run P w = .ok (.value (.agg cells)) w := by
  subst hx
  unfold execOp
  simp only [ho, Sem.run_bind, List.map_toArray, List.map_cons, List.map_nil, run_build w t #[(i, ev x)] cells h, Result.andThen_ok, Sem.run_pure]

theorem built_node (t : Th) : Try.prog.built 90 [(0, thV t)] = some (mkN t 0 0 0 0 0).C.toArray := by
  kernel_rfl

end Go.Proofs.Ytpaelbhljgdenaa
