/-
  Arguments opened to lists: slices of structs. No function of the program stands here.
-/
import Derived.Test.YteelmlhknfbjdaaWords
import Derived.Deep.Slices
import Derived.Deep.Strs
import Derived.ChangeSame
namespace Go.Proofs.Yteelmlhknfbjdaa
open Go.RowKit Go.ChangeShapes Go.WideShapes Go.Deep

theorem list_of {α : Type} {Q : Nat → α → Prop} : ∀ n : Nat, (∀ i, i < n → ∃ o, Q i o) → ∃ l : List α, l.length = n ∧ ∀ i o, l[i]? = some o → Q i o := by
  intro n
  induction n with
  | zero => intro _; exact ⟨[], rfl, fun i o h => by simp at h⟩
  | succ n ih =>
    intro h
    obtain ⟨l, hl, hq⟩ := ih fun i hi => h i (by omega)
    obtain ⟨o, ho⟩ := h n (by omega)
    refine ⟨l ++ [o], by simp [hl], fun i o' hi => ?_⟩
    rw [List.getElem?_append] at hi
    split at hi
    · exact hq i o' hi
    · have hz : i - l.length = 0 := by
        rcases Nat.eq_zero_or_pos (i - l.length) with h0 | h0
        · exact h0
        · rw [List.getElem?_eq_none (by simp; omega)] at hi; cases hi
      rw [hz] at hi
      simp at hi
      subst hi
      rw [show i = n by omega]
      exact ho

theorem flat_get {α : Type} {enc : α → List Value} {C : Nat} (hC : ∀ o, (enc o).length = C) (l : List α) (k j : Nat) (hj : j < C) : (l.flatMap enc)[k * C + j]? = (l[k]?).bind fun o => (enc o)[j]? := by
  induction l generalizing k with
  | nil => simp
  | cons o l ih =>
    rw [List.flatMap_cons]
    cases k with
    | zero => rw [List.getElem?_append_left (by rw [hC]; omega)]; simp
    | succ k =>
      rw [List.getElem?_append_right (by rw [hC, Nat.succ_mul]; omega), hC, show (k + 1) * C + j - C = k * C + j by rw [Nat.succ_mul]; omega, ih k]
      simp

theorem flat_len {α : Type} {enc : α → List Value} {C : Nat} (hC : ∀ o, (enc o).length = C) (l : List α) : (l.flatMap enc).length = l.length * C := by
  induction l with
  | nil => simp
  | cons o l ih => rw [List.flatMap_cons, List.length_append, ih, hC, List.length_cons, Nat.succ_mul]; omega

theorem sees_rows {α : Type} {enc : α → List Value} {C : Nat} (hC : ∀ o, (enc o).length = C) (h0 : 0 < C) {w : World} {a : Addr} {l : List α} (h : ∀ i o, l[i]? = some o → ∀ j v, (enc o)[j]? = some v → w.cell? (a.add (i * C + j)) = some v) :
    Sees w w.heap.size C (some a) l.length (l.flatMap enc) := by
  refine ⟨flat_len hC l, fun hn => ?_⟩
  have hl0 : l[0]? = some (l[0]'hn) := List.getElem?_eq_getElem hn
  have hc0 := h 0 _ hl0 0 _ (List.getElem?_eq_getElem (by rw [hC]; exact h0))
  obtain ⟨b, o, sp⟩ := a
  have hsp : sp = none := by simpa [Addr.add] using World.cell?_spot hc0
  subst hsp
  refine ⟨b, o, rfl, ?_, fun j u hu => ?_⟩
  · have := World.block_lt_of_cell? w _ hc0
    simpa [Addr.add] using this
  · have hj : j = j / C * C + j % C := by rw [Nat.mul_comm]; exact (Nat.div_add_mod j C).symm
    rw [hj, flat_get hC _ _ _ (Nat.mod_lt _ h0)] at hu
    cases hq : l[j / C]? with
    | none => rw [hq] at hu; cases hu
    | some o' =>
      rw [hq] at hu
      have := h _ _ hq _ _ hu
      rw [Addr.add_lit, ← hj] at this
      exact this

/-- A call of a script: three whole numbers, as cells. -/
structure OpR where
  kind : Int
  i : Int
  x : Int
def OpR.cells (o : OpR) : List Value := [.int .i64 o.kind, .int .i64 o.i, .int .i64 o.x]
def OpR.Fits (o : OpR) : Prop := (Lit.int .i64 o.kind).wf = true ∧ (Lit.int .i64 o.i).wf = true ∧ (Lit.int .i64 o.x).wf = true

theorem open_ops {H : Type} {enc : TypeId × Value → H} {P : Program} {w : World} {base : Nat} {spare : Nat → Bool} {held : Bool} {t e : TypeId} {f0 f1 f2 : Field} {fuel : Nat} {a : Option Addr} {len cap : Nat} {x : DataW H × List MemPlace}
    (ht : P.underlying t = some (.slice e)) (he : P.underlying e = some (.struct #[f0, f1, f2])) (hC : P.cellsOf e = 3) (o0 : f0.offset = 0) (o1 : f1.offset = 1) (o2 : f2.offset = 2)
    (c0 : P.cellsOf f0.type = 1) (c1 : P.cellsOf f1.type = 1) (c2 : P.cellsOf f2.type = 1) (k0 : P.underlying f0.type = some (.int .i64)) (k1 : P.underlying f1.type = some (.int .i64)) (k2 : P.underlying f2.type = some (.int .i64))
    (h : DataW.trod enc P w base spare held fuel t [.slice a len cap] = some x) :
    ∃ l : List OpR, Sees w w.heap.size 3 a len (l.flatMap OpR.cells) ∧ l.length = len ∧ len ≤ maxLen ∧ ∀ o ∈ l, o.Fits := by
  rcases open_slice ht h with ⟨hcs, _⟩ | ⟨ad, len', cap', m, n, D, Pl, hcs, _, hl, hm, hmm, _, hi⟩
  · simp at hcs
    obtain ⟨rfl, rfl, rfl⟩ := hcs
    exact ⟨[], Sees.nil_ _ _ _ _, rfl, Nat.zero_le _, fun _ h => by cases h⟩
  · simp at hcs
    obtain ⟨rfl, rfl, rfl⟩ := hcs
    have hlm : len ≤ m := by rw [hmm]; split <;> omega
    obtain ⟨l, hll, hq⟩ := list_of (Q := fun i (o : OpR) => o.Fits ∧ ∀ j v, o.cells[j]? = some v → w.cell? (ad.add (i * 3 + j)) = some v) len fun i hil => by
      obtain ⟨cs', hc, ht'⟩ := hi i (by omega)
      rw [hC] at hc
      obtain ⟨_, hcl, hat⟩ := World.cells?_some hc
      obtain ⟨y0, y1, y2, n', _, _, g0, g1, g2⟩ := trod_struct3 he ht'
      rw [o0, c0] at g0
      rw [o1, c1] at g1
      rw [o2, c2] at g2
      obtain ⟨z0, e0, _, w0⟩ := DataW.trod_int k0 g0
      obtain ⟨z1, e1, _, w1⟩ := DataW.trod_int k1 g1
      obtain ⟨z2, e2, _, w2⟩ := DataW.trod_int k2 g2
      match cs', hcl with
      | [v0, v1, v2], _ =>
        simp at e0 e1 e2
        subst e0 e1 e2
        refine ⟨⟨z0, z1, z2⟩, ⟨w0, w1, w2⟩, fun j v hv => ?_⟩
        have hj : j < 3 := (List.getElem?_eq_some_iff.1 hv).1
        have := hat j hj
        rw [Deep.add_add] at this
        exact this.trans hv
    have hs := sees_rows (enc := OpR.cells) (C := 3) (fun _ => rfl) (by omega) (w := w) (a := ad) (l := l) (fun i o ho => (hq i o ho).2)
    rw [hll] at hs
    refine ⟨l, hs, hll, by omega, fun o ho => ?_⟩
    obtain ⟨i, hi'⟩ := List.getElem?_of_mem ho
    exact (hq i o hi').1

end Go.Proofs.Yteelmlhknfbjdaa
