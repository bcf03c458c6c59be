/-
  'append([]Op{o}, l...)' and 'append([]Op{a, b}, l...)' ahead of a law's script.
-/
import Derived.Test.YtpaelbhljgdenaaPaLa
namespace Go.Proofs.Ytpaelbhljgdenaa
open Go.RowKit

section
variable {P : Program} {w : World}
theorem wpList_append_when {ops : Array Oper} {rest : List Oper} {o : Oper} {a : Act} {Q : Exit → Act → World → Prop} (hgd : Region.wanted o (yielded ops a.tmps) = true) (s x : Operand) (t : TypeId)
    (ho : o.op = .call { callee := .builtin .append, args := #[s, x], argTypes := #[t, t] })
    (base : Nat) (e : TypeId) (i : TypeInfo) (z : Value) (size bytes : Nat) (ht : P.underlying t = some (.slice e)) (hi : P.info? e = some i) (hz : i.zero = some z)
    (hsize : i.size = size) (hby : i.bytes = bytes) (hzs : z.cells.size = size) (hsz : 0 < size)
    (v : Value) (n : Nat) (xs : List Value) (hs : a.eval s = v) (hown : w.ownsRow base e size v n xs)
    (B : Nat) (A : Option Addr) (m c : Nat) (news : List Value) (hx : a.eval x = .slice A m c) (hr : Sees w B size A m news) (h1 : ∀ u ∈ news, u.oneCell' = true)
    (h63 : n + m ≤ maxLen) (hbytes : (n + m) * bytes ≤ 140737488355328) (hbase : base ≤ w.heap.size)
    (h : ∀ v' w', w'.ownsRow base e size v' (n + m) (xs ++ news) → w.grownBy w' v.ownBlock → (v'.ownBlock = v.ownBlock ∨ v'.ownBlock = some w.heap.size) → (v' = .slice none 0 0 ↔ v = .slice none 0 0 ∧ m = 0) →
      wpList P ops Q rest (a.put o.dst v') w') : wpList P ops Q (o :: rest) a w := by
  obtain ⟨v', w', hrun, h2, h3, h4, h5⟩ := run_append_sees (P := P) w base t o.type e i z size bytes ht hi hz hsize hby hzs hsz v n xs hown B A m c news hr h1 h63 hbytes hbase
  refine wpList_known _ hgd (v := v') (w' := w') ?_ (h v' w' h2 h3 h4 h5)
  unfold execOp
  simp only [ho, resolve, invoke, builtin, Sem.run_bind, Sem.run_pure, Result.andThen_ok, List.map_toArray, List.map_cons, List.map_nil, hs, hx, hrun]
end

theorem exec_slice2 {P : Program} {o : Oper} {ev : Operand → Value} {w w' : World} {v : Value} (t : TypeId) (x y : Operand) (ho : o.op = .buildSlice t 2 #[(0, x), (1, y)]) (u u' : Value) (hx : ev x = u) (hy : ev y = u')
    (h : (Instr.buildSlice t 2 #[(0, u), (1, u')]).run P w = .ok v w') : (execOp ev o).run P w = .ok (.value v) w' := by
  subst hx hy
  unfold execOp
  simp only [ho, Sem.run_bind, List.map_toArray, List.map_cons, List.map_nil, h, Result.andThen_ok, Sem.run_pure]

theorem run_ops1 (o : OpS) (w : World) : (Instr.buildSlice 22 1 #[(0, .agg o.cells.toArray)]).run Try.prog w = .ok (.slice (some ⟨w.heap.size, 0, none⟩) 1 1) (w.alloc (.cells ([o].flatMap OpS.cells).toArray 26)) := by
  kernel_rfl
theorem run_ops2 (a b : OpS) (w : World) : (Instr.buildSlice 22 2 #[(0, .agg a.cells.toArray), (1, .agg b.cells.toArray)]).run Try.prog w = .ok (.slice (some ⟨w.heap.size, 0, none⟩) 2 2) (w.alloc (.cells ([a, b].flatMap OpS.cells).toArray 26)) := by
  kernel_rfl

theorem op_info : (Try.prog.info? 26).map (fun i => (i.zero, i.size, i.bytes)) = some (some (.agg #[.int .i64 0, .int .i64 0, .int .i64 0, .slice none 0 0, .slice none 0 0]), 5, 72) := by kernel_rfl
theorem ops_one (l : List OpS) : ∀ v ∈ l.flatMap OpS.cells, v.oneCell' = true := by
  intro v hv
  obtain ⟨o, _, ho⟩ := List.mem_flatMap.1 hv
  exact o.one v ho

/-- What lies there behind 'append(new, ops...)'. -/
theorem ops_grown {w w1 w2 : World} {b : Nat} {new ops : List OpS} {v : Value} {k n : Nat} (hk : new.length = k) (hn : ops.length = n) (hb : w.heap.size = b) (hw : w.alloc (.cells (new.flatMap OpS.cells).toArray 26) = w1)
    (ho : w2.ownsRow b 26 5 v (k + n) (new.flatMap OpS.cells ++ ops.flatMap OpS.cells)) (hg : w1.grownBy w2 (some b)) :
    Below w.heap.size w w2 ∧ ∃ A c, v = .slice A (new ++ ops).length c ∧ Sees w2 w2.heap.size 5 A (new ++ ops).length ((new ++ ops).flatMap OpS.cells) := by
  have B1 : Below w.heap.size w w1 := by rw [← hw]; exact (Below.refl _ _).alloc (Nat.le_refl _) _
  refine ⟨B1.grown hg B1.size (fun k hk => by cases hk; omega), ?_⟩
  rw [← List.flatMap_append, show k + n = (new ++ ops).length by rw [List.length_append]; omega] at ho
  obtain ⟨A, c, rfl, _⟩ := own_shape ho
  exact ⟨A, c, rfl, Sees.of_own ho⟩
theorem ops_own {w w1 : World} {b : Nat} {new : List OpS} {k : Nat} (hk : new.length = k) (h60 : k ≤ 60) (hb : w.heap.size = b) (hw : w.alloc (.cells (new.flatMap OpS.cells).toArray 26) = w1) :
    w1.ownsRow b 26 5 (.slice (some ⟨b, 0, none⟩) k k) k (new.flatMap OpS.cells) :=
  own_new (by rw [← hw, ← hb]; exact heap_alloc_new w _) (by rw [List.length_flatMap, ← hk]; clear hk hw hb; induction new with | nil => rfl | cons o l ih => simp only [List.map_cons, List.sum_cons, List.length_cons]; rw [show o.cells.length = 5 from rfl]; omega) (by simp only [maxLen]; omega) (Nat.le_refl _)

theorem smallL.tail {new ops : List OpS} (h : smallL (new ++ ops)) : smallL ops := ⟨by have := h.1; rw [List.length_append] at this; omega, fun o ho => h.2 o (List.mem_append_right _ ho)⟩

theorem betP_of_len {X Y : List (List At)} (h : X.length ≤ Y.length) {i j : Int} (e : betP X i j = 0) : betP Y i j = 0 := by
  obtain ⟨h0, h1, h2⟩ := betP_zero e
  unfold betP
  rw [if_pos (by omega)]
theorem insX_len {X L : List (List At)} {i : Int} (e : betP X i i = 0) : (insX X i L).length = X.length + L.length := by
  obtain ⟨h0, h1, h2⟩ := betP_zero e
  unfold insX
  rw [if_pos e, List.length_append, List.length_append, List.length_take, List.length_drop]
  omega


theorem Star.swap {w0 w : World} {I J : Item} {L : List Item} (h : Star w0 (I :: J :: L) w) : Star w0 (J :: I :: L) w := by
  have hm : ∀ K, K ∈ J :: I :: L → K ∈ I :: J :: L := fun K hK => by
    rcases List.mem_cons.1 hK with e | e
    · subst e; simp
    · rcases List.mem_cons.1 e with e | e
      · subst e; simp
      · simp [e]
  refine ⟨fun K hK => h.all K (hm K hK), ⟨fun K hK k hk hj => ?_, fun K hK => h.apart.1 K (List.mem_cons_of_mem _ hK), h.apart.2.2⟩, fun K hK => h.low K (hm K hK), h.below⟩
  rcases List.mem_cons.1 hK with e | e
  · subst e
    exact h.apart.1 J List.mem_cons_self k hj hk
  · exact h.apart.2.1 K e k hk hj

end Go.Proofs.Ytpaelbhljgdenaa
