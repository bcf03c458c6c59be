/-
  What the body of a loop over a function keeps: cells that are not 'Bad' (by block and object). No function of the program stands here.
-/
import Derived.Test.YtbioomilnjikpaaRound
import Derived.Test.YtbioomilnjikpaaRowM
namespace Go.Proofs.Ytbioomilnjikpaa
open Go.RowKit

/-- Cells that are not Bad lie as they lay. -/
def KeepsO (Bad : Nat → Obj → Prop) (W W' : World) : Prop := W.heap.size ≤ W'.heap.size ∧ ∀ k o, W.heap[k]? = some o → o.isCells = true → ¬ Bad k o → W'.heap[k]? = some o

section
variable {Bad : Nat → Obj → Prop} {W W' A B C : World}
theorem KeepsO.refl (Bad : Nat → Obj → Prop) (W : World) : KeepsO Bad W W := ⟨Nat.le_refl _, fun _ _ h _ _ => h⟩
theorem KeepsO.trans (h : KeepsO Bad A B) (k : KeepsO Bad B C) : KeepsO Bad A C :=
  ⟨Nat.le_trans h.1 k.1, fun j o hj ho hG => k.2 j o (h.2 j o hj ho hG) ho hG⟩
theorem KeepsO.put {w : World} (W : World) (l : Nat) (o o' : Obj) (_ : w.heap.size ≤ l) (h : W.heap[l]? = some o) (hc : o.isCells = false) (_ : o.isWalk = false) : KeepsO Bad W (W.putObj l o') := by
  refine ⟨by simp, fun k o1 hk h1 _ => ?_⟩
  have hne : k ≠ l := fun e => by subst e; rw [h] at hk; cases hk; rw [hc] at h1; cases h1
  rw [World.putObj_heap_other hne]
  exact hk
theorem KeepsO.of_below (h : Below W.heap.size W W') : KeepsO Bad W W' := ⟨h.size, fun k _ hk _ _ => (h.block k (Array.getElem?_eq_some_iff.1 hk).1).trans hk⟩
/-- Only these blocks have changed, and they are Bad there. -/
theorem KeepsO.of_step {G : Nat → Prop} (h : Step G W W') (hb : ∀ k o, W.heap[k]? = some o → G k → Bad k o) : KeepsO Bad W W' :=
  ⟨h.size, fun k o hk _ hn => (h.block k (Array.getElem?_eq_some_iff.1 hk).1 (fun hG => hn (hb k o hk hG))).trans hk⟩
theorem KeepsO.row (h : KeepsO Bad W W') {g : Nat} {cs : Array Value} {t : TypeId} {fr : Nat × Nat} (hg : W.heap[g]? = some (.cells cs t fr)) (hb : ∀ o, ¬ Bad g o) : W'.heap[g]? = some (.cells cs t fr) := h.2 g _ hg rfl (hb _)
theorem KeepsO.own (h : KeepsO Bad W W') {base : Nat} {e : TypeId} {size : Nat} {v : Value} {n : Nat} {xs : List Value} (ho : W.ownsRow base e size v n xs) (hG : ∀ k, v.ownBlock = some k → ∀ o, ¬ Bad k o) : W'.ownsRow base e size v n xs := by
  refine ⟨ho.1, ?_⟩
  rcases ho.2 with hn | ⟨g, cap, cur, rfl, hbg, hgg, rest⟩
  · exact .inl hn
  · exact .inr ⟨g, cap, cur, rfl, hbg, h.2 g _ hgg rfl (hG g rfl _), rest⟩
theorem KeepsO.stF {F : Nat → Prop} {g : Nat} {T : TypeId} {rs : List RowD} (h : KeepsO Bad W W') (hs : StF W F g T rs) (hF : ∀ k, F k → ∀ o, ¬ Bad k o) : StF W' F g T rs :=
  ⟨⟨h.row hs.1.blk (hF g hs.2.1), fun j r hj => h.own (hs.1.own j r hj) (fun k hk => hF k (hs.2.2.1 j r hj k hk)), hs.1.nd, hs.1.nt⟩, hs.2.1, hs.2.2.1, fun k hk => Nat.lt_of_lt_of_le (hs.2.2.2 k hk) h.1⟩
theorem grown_none (h : Below W.heap.size W W') : W.grownBy W' none := ⟨h.os, h.tape, h.output, h.size, fun k hk _ => h.block k hk⟩
end

theorem KeepsFrom.of_step {B : Nat} {G : Nat → Prop} {W W' : World} (h : Step G W W') (hc : ∀ k o, W.heap[k]? = some o → G k → o.isCells = true) : KeepsFrom B W W' :=
  ⟨h.size, fun k o _ hk ho => (h.block k (Array.getElem?_eq_some_iff.1 hk).1 (fun hG => by rw [hc k o hk hG] at ho; cases ho)).trans hk⟩
theorem own_blk {w : World} {base : Nat} {e : TypeId} {size : Nat} {v : Value} {n : Nat} {xs : List Value} (h : w.ownsRow base e size v n xs) {k : Nat} (hk : v.ownBlock = some k) : ∃ cs, w.heap[k]? = some (.cells cs e (0, 0)) := by
  rcases h.2 with ⟨rfl, _⟩ | ⟨g, cap, cur, rfl, _, hg, _⟩
  · cases hk
  · have : g = k := by simpa [Value.ownBlock] using hk
    subst this
    exact ⟨_, hg⟩

/-! ### Rows within a fence -/
section
variable {F : Fence} {n : Nat} {P : Program} {ops : Array Oper} {rest : List Oper} {o : Oper} {a : Act} {Q : Exit → Act → World → Prop} {w w' : World}
theorem wpListIn_known (hgd : o.guard = none) (ha : o.about P w a.eval = none) (hc : ∀ c, o.op ≠ .defer c) {v : Value} (hrun : (execOp a.eval o).run P w = .ok (.value v) w') (h : wpListIn F n P ops Q rest (a.put o.dst v) w') : wpListIn F n P ops Q (o :: rest) a w := by
  refine wpListIn_plain hgd fun K hK => ?_
  unfold Oper.wpIn
  refine ⟨fun f hf => (by rw [ha] at hf; cases hf), ?_⟩
  rw [Oper.semAt_plain F a.eval o hc, hrun]
  exact hK _ _ h
theorem wpListIn_skipped (hgd : o.guard = none) (ha : o.about P w a.eval = none) (hc : ∀ c, o.op ≠ .defer c) (hrun : (execOp a.eval o).run P w = .ok .skip w') (h : wpListIn F n P ops Q rest (a.put o.dst undef) w') : wpListIn F n P ops Q (o :: rest) a w := by
  refine wpListIn_plain hgd fun K hK => ?_
  unfold Oper.wpIn
  refine ⟨fun f hf => (by rw [ha] at hf; cases hf), ?_⟩
  rw [Oper.semAt_plain F a.eval o hc, hrun]
  exact hK _ _ h
theorem exec_store_row {ev : Operand → Value} (ty : TypeId) (x y : Operand) (ho : o.op = .store ty x y) (g : Nat) (cells : Array Value) (hx : ev x = .pointer (some ⟨g, 0, none⟩)) (hy : ev y = .agg cells)
    (t : TypeId) (old : Array Value) (hg : w.heap[g]? = some (.cells old t (0, 0))) (hi : (P.info? ty).map (·.size) = some cells.size) (hold : old.size = cells.size) (h1 : cells.all (·.oneCell') = true) : (execOp ev o).run P w = .ok .skip (w.setRow g cells) := by
  unfold execOp
  simp only [ho, hx, hy, Instr.storeAt, Instr.sureAddr, Sem.run_bind, Sem.run_pure, Result.andThen_ok, run_storeVar_row w g t ty old cells hg hi hold h1]
end

end Go.Proofs.Ytbioomilnjikpaa
