/-
  Loops over functions: what a round keeps; the marks that such loops leave; append inside a fence. No function of the program stands here.
-/
import Derived.Test.YtbioomilnjikpaaStep
import Derived.RangeFuncNested
import Derived.RangeFuncBound
import Derived.RangeFuncCalls
import Derived.RangeFuncLeaves
import Derived.RangeFuncBox
import Derived.Shelf.Abstract
import Derived.OwnWalkIn
import Derived.TacticsInMore
import Derived.LoopNIn
import Derived.LoopIn
namespace Go.Proofs.Ytbioomilnjikpaa
open Go.RowKit

/-- Cells that are none of G's lie as they lay. -/
def KeepsCells (G : Nat → Prop) (W W' : World) : Prop := W.heap.size ≤ W'.heap.size ∧ ∀ k o, W.heap[k]? = some o → o.isCells = true → ¬ G k → W'.heap[k]? = some o

theorem KeepsCells.refl (G : Nat → Prop) (W : World) : KeepsCells G W W := ⟨Nat.le_refl _, fun _ _ h _ _ => h⟩
theorem KeepsCells.trans {G : Nat → Prop} {A B C : World} (h : KeepsCells G A B) (k : KeepsCells G B C) : KeepsCells G A C :=
  ⟨Nat.le_trans h.1 k.1, fun j o hj ho hG => k.2 j o (h.2 j o hj ho hG) ho hG⟩
theorem KeepsCells.put1 {G : Nat → Prop} (W : World) (l : Nat) (o o' : Obj) (h : W.heap[l]? = some o) (hc : o.isCells = false) : KeepsCells G W (W.putObj l o') := by
  refine ⟨by simp, fun k o1 hk h1 _ => ?_⟩
  have hne : k ≠ l := fun e => by subst e; rw [h] at hk; cases hk; rw [hc] at h1; cases h1
  rw [World.putObj_heap_other hne]
  exact hk
theorem KeepsCells.put {G : Nat → Prop} {w : World} (W : World) (l : Nat) (o o' : Obj) (_ : w.heap.size ≤ l) (h : W.heap[l]? = some o) (hc : o.isCells = false) (_ : o.isWalk = false) : KeepsCells G W (W.putObj l o') := KeepsCells.put1 W l o o' h hc
theorem KeepsCells.of_step {G : Nat → Prop} {W W' : World} (h : Step G W W') : KeepsCells G W W' :=
  ⟨h.size, fun k _ hk _ hG => (h.block k (Array.getElem?_eq_some_iff.1 hk).1 hG).trans hk⟩
theorem KeepsCells.own {G : Nat → Prop} {W W' : World} (h : KeepsCells G W W') {base : Nat} {e : TypeId} {size : Nat} {v : Value} {n : Nat} {xs : List Value} (ho : W.ownsRow base e size v n xs) (hG : Off v G) : W'.ownsRow base e size v n xs := by
  refine ⟨ho.1, ?_⟩
  rcases ho.2 with hn | ⟨g, cap, cur, rfl, hbg, hgg, rest⟩
  · exact .inl hn
  · exact .inr ⟨g, cap, cur, rfl, hbg, h.2 g _ hgg rfl (hG g rfl), rest⟩


theorem wpListIn_append_sees {F : Fence} {n : Nat} {P : Program} (w : World) {ops : Array Oper} {rest : List Oper} {o : Oper} {a : Act} {Q : Exit → Act → World → Prop} (hgd : o.guard = none) (s x : Operand) (t : TypeId)
    (ho : o.op = .call { callee := .builtin .append, args := #[s, x], argTypes := #[t, t] })
    (base : Nat) (e : TypeId) (i : TypeInfo) (z : Value) (size bytes : Nat) (ht : P.underlying t = some (.slice e)) (hi : P.info? e = some i) (hz : i.zero = some z)
    (hsize : i.size = size) (hby : i.bytes = bytes) (hzs : z.cells.size = size) (hsz : 0 < size)
    (v : Value) (k : Nat) (xs : List Value) (hs : a.eval s = v) (hown : w.ownsRow base e size v k xs)
    (B : Nat) (A : Option Addr) (m c : Nat) (news : List Value) (hx : a.eval x = .slice A m c) (hr : Sees w B size A m news) (h1 : ∀ u ∈ news, u.oneCell' = true)
    (h63 : k + m ≤ maxLen) (hbytes : (k + m) * bytes ≤ 140737488355328) (hbase : base ≤ w.heap.size)
    (h : ∀ v' w', w'.ownsRow base e size v' (k + m) (xs ++ news) → w.grownBy w' v.ownBlock → (v'.ownBlock = v.ownBlock ∨ v'.ownBlock = some w.heap.size) → (v' = .slice none 0 0 ↔ v = .slice none 0 0 ∧ m = 0) →
      wpListIn F n P ops Q rest (a.put o.dst v') w') : wpListIn F n P ops Q (o :: rest) a w := by
  refine wpListIn_plain hgd fun K hK => ?_
  obtain ⟨v', w', hrun, h2, h3, h4, h5⟩ := run_append_sees (P := P) w base t o.type e i z size bytes ht hi hz hsize hby hzs hsz v k xs hown B A m c news hr h1 h63 hbytes hbase
  unfold Oper.wpIn
  refine ⟨?_, ?_⟩
  · simp [Oper.about, ho, resolve, Target.leads, Sem.run_pure]
  · rw [Oper.semAt_plain F _ _ (by rw [ho]; intro c hc'; cases hc')]
    simp only [execOp, ho, resolve, invoke, builtin, Sem.run_bind, Sem.run_pure, Result.andThen_ok, List.map_toArray, List.map_cons, List.map_nil, hs, hx, hrun]
    exact hK _ _ (h v' w' h2 h3 h4 h5)

/-- The marks of loops over functions that are over: each block holds no deferred call. -/
def Marks (B : Nat) (w : World) (ds : List Deferred) : Prop :=
  (ds.map (·.target)).Nodup ∧ ∀ d ∈ ds, ∃ r, d.target = .collected r ∧ B ≤ r ∧ w.heap[r]? = some (.deferred (some []))

theorem Marks.nil_ (B : Nat) (w : World) : Marks B w [] := ⟨by simp, fun _ h => by cases h⟩

/-- What becomes of the world while the marks are taken. -/
structure Shuts (B : Nat) (w w' : World) : Prop where
  below : Below B w w'
  cells : KeepsCells (fun _ => False) w w'

theorem Shuts.refl (B : Nat) (w : World) : Shuts B w w := ⟨Below.refl _ _, KeepsCells.refl _ _⟩
theorem Shuts.trans {B : Nat} {a b c : World} (h : Shuts B a b) (k : Shuts B b c) : Shuts B a c := ⟨h.below.trans k.below, h.cells.trans k.cells⟩

theorem leaves_marks {F : Fence} {n : Nat} {P : Program} {fn : Func} {tmps : Array Value} {R : Ending → World → Prop} {B : Nat} : ∀ (ds : List Deferred) (w : World), Marks B w ds →
    (∀ w', Shuts B w w' → LeavesIn F n P fn tmps R [] .returning w') → LeavesInM F n P fn tmps R ds .returning w := by
  intro ds
  induction ds with
  | nil => intro w _ h; exact h w (Shuts.refl _ _)
  | cons d ds ih =>
    intro w hm h
    obtain ⟨r, hr, hB, hh⟩ := hm.2 d (by simp)
    have hnd := hm.1
    rw [List.map_cons, List.nodup_cons] at hnd
    have hs : Shuts B w (w.putObj r (.deferred none)) := ⟨(Below.refl B w).grown (grownBy_putObj' w r _) (by have := (Array.getElem?_eq_some_iff.1 hh).1; omega) (fun k e => by cases e; exact hB),
      KeepsCells.put1 w r _ _ hh rfl⟩
    refine ⟨by simp, .inl ⟨r, _, hr, run_takeDeferred hh, ih _ ⟨hnd.2, fun d' hd' => ?_⟩ fun w' hw' => h w' (hs.trans hw')⟩⟩
    obtain ⟨r', hr', hB', hh'⟩ := hm.2 d' (by simp [hd'])
    refine ⟨r', hr', hB', ?_⟩
    rw [World.putObj_heap_other (fun e => hnd.1 (by rw [hr, ← e, ← hr']; exact List.mem_map.2 ⟨d', hd', rfl⟩))]
    exact hh'

end Go.Proofs.Ytbioomilnjikpaa
