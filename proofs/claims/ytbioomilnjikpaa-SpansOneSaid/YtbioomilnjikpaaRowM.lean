/-
  Structs of several cells in a row of one's own: read and written as lists of cells ('rangeAt', 'setCells'). No function of the program stands here.
-/
import Derived.Test.YtbioomilnjikpaaRowSt
import Derived.Deep.MidRow
namespace Go.Proofs.Ytbioomilnjikpaa
open Go.RowKit

/-- A list with some elements, from the o-th on, written over. -/
def setMany : List Value → Nat → List Value → List Value
  | xs, _, [] => xs
  | xs, o, v :: r => setMany (xs.set o v) (o + 1) r

theorem setMany_len : ∀ (vs xs : List Value) (o : Nat), (setMany xs o vs).length = xs.length
  | [], _, _ => rfl
  | v :: r, xs, o => by rw [setMany, setMany_len r, List.length_set]

theorem setMany_get : ∀ (vs xs : List Value) (o i : Nat), o + vs.length ≤ xs.length → (setMany xs o vs)[i]? = if o ≤ i ∧ i < o + vs.length then vs[i - o]? else xs[i]?
  | [], xs, o, i, _ => by rw [setMany, if_neg (by rw [List.length_nil]; omega)]
  | v :: r, xs, o, i, h => by
    rw [List.length_cons] at h
    rw [setMany, setMany_get r (xs.set o v) (o + 1) i (by rw [List.length_set]; omega), List.length_cons]
    by_cases h1 : o + 1 ≤ i ∧ i < o + 1 + r.length
    · rw [if_pos h1, if_pos (by omega), show i - o = (i - (o + 1)) + 1 by omega, List.getElem?_cons_succ]
    · rw [if_neg h1]
      by_cases h2 : i = o
      · subst h2
        rw [if_pos (by omega), Nat.sub_self, List.getElem?_set_self (by omega)]
        rfl
      · rw [if_neg (by omega), List.getElem?_set_ne (by omega)]

section
variable {α : Type}

theorem flat_len (f : α → List Value) (K : Nat) (hf : ∀ x, (f x).length = K) (s : List α) : (s.flatMap f).length = s.length * K := by
  induction s with
  | nil => simp
  | cons o s ih => rw [List.flatMap_cons, List.length_append, ih, hf, List.length_cons, Nat.succ_mul]; omega

theorem flat_get (f : α → List Value) (K : Nat) (hf : ∀ x, (f x).length = K) : ∀ (s : List α) (k j : Nat), j < K → (s.flatMap f)[k * K + j]? = (s[k]?).bind fun o => (f o)[j]? := by
  intro s
  induction s with
  | nil => intro k j _; simp
  | cons o s ih =>
    intro k j hj
    rw [List.flatMap_cons]
    cases k with
    | zero => rw [Nat.zero_mul, Nat.zero_add, List.getElem?_append_left (by rw [hf]; exact hj)]; rfl
    | succ k =>
      rw [Nat.succ_mul, List.getElem?_append_right (by rw [hf]; omega), hf, show k * K + K + j - K = k * K + j by omega, ih k j hj]
      rfl

theorem flat_ext (f : α → List Value) (K : Nat) (hf : ∀ x, (f x).length = K) (xs : List Value) (s : List α) (hl : xs.length = s.length * K) (h : ∀ k j, j < K → xs[k * K + j]? = (s[k]?).bind fun o => (f o)[j]?) : xs = s.flatMap f := by
  apply List.ext_getElem?
  intro i
  by_cases hK : K = 0
  · subst hK
    rw [List.getElem?_eq_none (by omega), List.getElem?_eq_none (by rw [flat_len f 0 hf]; omega)]
  · have hi : i = i / K * K + i % K := by rw [Nat.mul_comm]; exact (Nat.div_add_mod i K).symm
    have hm : i % K < K := Nat.mod_lt _ (by omega)
    rw [hi, h _ _ hm, flat_get f K hf _ _ _ hm]

theorem div_of {k j K a b : Nat} (hj : j < K) (hb : b < K) (h : k * K + j = a * K + b) : k = a ∧ j = b := by
  have h1 : (k * K + j) / K = k := by rw [Nat.mul_comm, Nat.mul_add_div (by omega), Nat.div_eq_of_lt hj]; omega
  have h2 : (a * K + b) / K = a := by rw [Nat.mul_comm, Nat.mul_add_div (by omega), Nat.div_eq_of_lt hb]; omega
  have h3 : k = a := by rw [← h1, h, h2]
  subst h3
  exact ⟨rfl, by omega⟩

/-- The first cells of the k-th element are written over. -/
theorem setMany_flat (f : α → List Value) (K : Nat) (hf : ∀ x, (f x).length = K) (s : List α) (k : Nat) (o : α) (hk : k < s.length) (vs : List Value) (hv : vs.length ≤ K) (h1 : ∀ j, j < vs.length → (f o)[j]? = vs[j]?) (h2 : ∀ j, vs.length ≤ j → j < K → (f o)[j]? = (f s[k])[j]?) :
    setMany (s.flatMap f) (k * K) vs = (s.set k o).flatMap f := by
  have hle : (k + 1) * K ≤ s.length * K := Nat.mul_le_mul_right _ (by omega)
  rw [Nat.succ_mul] at hle
  have hlen : k * K + vs.length ≤ (s.flatMap f).length := by rw [flat_len f K hf]; omega
  refine flat_ext f K hf _ _ (by rw [setMany_len, flat_len f K hf, List.length_set]) fun a j hj => ?_
  rw [setMany_get _ _ _ _ hlen, flat_get f K hf _ _ _ hj, List.getElem?_set]
  by_cases ha : k = a
  · subst ha
    rw [if_pos rfl, if_pos hk]
    by_cases hjv : j < vs.length
    · rw [if_pos (by omega), show k * K + j - k * K = j by omega, ← h1 j hjv]
      rfl
    · rw [if_neg (by omega), List.getElem?_eq_getElem hk]
      exact (h2 j (by omega) hj).symm
  · rw [if_neg ha, if_neg]
    rintro ⟨h3, h4⟩
    have h5 : a * K + j - k * K < K := by omega
    have := (div_of hj h5 (show a * K + j = k * K + (a * K + j - k * K) by omega)).1
    exact ha this.symm
end

section
variable {w w' w1 : World} {F : Nat → Prop} {g : Nat} {T : TypeId} {rs : List RowD}

/-- Cells of a row are written, from the o-th on. -/
theorem StF.stores : ∀ (vs : List Value) {w : World} {rs : List RowD} (_ : StF w F g T rs) {i : Nat} {r : RowD} (_ : rs[i]? = some r) {b c : Nat} (_ : r.v = .slice (some ⟨b, 0, none⟩) r.n c) (o : Nat),
    StF (w.setCells b o vs) F g T (rs.set i { r with xs := setMany r.xs o vs }) ∧ Grow F w (w.setCells b o vs) F
  | [], w, rs, h, i, r, hi, b, c, _, o => by
    obtain ⟨hil, hie⟩ := List.getElem?_eq_some_iff.1 hi
    refine ⟨?_, Grow.refl _ _⟩
    have e : rs.set i { r with xs := setMany r.xs o [] } = rs := by
      apply List.ext_getElem?
      intro j
      rw [List.getElem?_set]
      split
      · next e => subst e; rw [hi]; rfl
      · rfl
    rw [e]
    exact h
  | v :: vs, w, rs, h, i, r, hi, b, c, hv, o => by
    obtain ⟨hil, hie⟩ := List.getElem?_eq_some_iff.1 hi
    have h1 := h.store hi hv o v
    have h2 := StF.stores vs h1.1 (i := i) (r := { r with xs := r.xs.set o v }) (by rw [List.getElem?_set_self hil]) hv (o + 1)
    refine ⟨?_, h1.2.trans h2.2⟩
    have h3 := h2.1
    rw [List.set_set] at h3
    exact h3

/-- The k-th element's cells, of a row of elements of K cells. -/
theorem row_range {α : Type} {base : Nat} {e : TypeId} {v : Value} {n : Nat} (f : α → List Value) {K : Nat} (hf : ∀ x, (f x).length = K) {s : List α} (h : w.ownsRow base e K v n (s.flatMap f)) (hn : n = s.length) {k : Nat} (hk : k < s.length) :
    ∃ b c, v = .slice (some ⟨b, 0, none⟩) n c ∧ n ≤ c ∧ base ≤ b ∧ b < w.heap.size ∧ w.rangeAt b (k * K) (f s[k]) ∧ w.there b (k * K) K := by
  obtain ⟨A, c, rfl, hc, _, hn0, hs⟩ := own_shape h
  cases A with
  | none => have := (hn0 rfl).1; omega
  | some ad =>
    obtain ⟨b, rfl, hb, hbl⟩ := hs ad rfl
    have hle : (k + 1) * K ≤ n * K := Nat.mul_le_mul_right _ (by omega)
    rw [Nat.succ_mul] at hle
    have hcell : ∀ j, j < K → w.cell? ⟨b, k * K + j, none⟩ = (f s[k])[j]? := fun j hj => by
      rw [h.cellAt (k * K + j) (by omega), flat_get f K hf _ _ _ hj, List.getElem?_eq_getElem hk]
      rfl
    refine ⟨b, c, rfl, hc, hb, hbl, fun j u hu => ?_, fun j hj => ⟨?_, h.frozenAt _⟩⟩
    · have hj := (List.getElem?_eq_some_iff.1 hu).1
      rw [hf] at hj
      rw [hcell j hj]
      exact hu
    · rw [hcell j hj, List.getElem?_eq_getElem (by rw [hf]; exact hj)]
      rfl
end

section
variable {P : Program} {fn : Func}

theorem results_c {p : Tmp} {ty : TypeId} (h : fn.results = #[.cell p ty]) (tmps : Array Value) (w : World) (g : Nat) (t : TypeId) (cs : Array Value) (fr : Nat × Nat) (d : TypeDesc)
    (hp : tmps.getD p undef = .pointer (some ⟨g, 0, none⟩)) (hg : w.heap[g]? = some (.cells cs t fr))
    (hu : P.underlying ty = some d) (hd : (match d with | .struct _ | .array _ _ => true | _ => false) = true) (hi : (P.info? ty).map (·.size) = some cs.size) :
    (results fn tmps).run P w = .ok (.agg cs) w := by
  have hp' : tmps[p]?.getD undef = .pointer (some ⟨g, 0, none⟩) := by simpa using hp
  simp [results, h, hp', asAddr, run_loadVar_row w g t ty cs fr d hg hu hd hi]

theorem results_ct {p q : Tmp} {ty : TypeId} (h : fn.results = #[.cell p ty, .tmp q]) (tmps : Array Value) (w : World) (g : Nat) (t : TypeId) (cs : Array Value) (fr : Nat × Nat) (d : TypeDesc) (x : Value)
    (hp : tmps.getD p undef = .pointer (some ⟨g, 0, none⟩)) (hq : tmps.getD q undef = x) (hg : w.heap[g]? = some (.cells cs t fr))
    (hu : P.underlying ty = some d) (hd : (match d with | .struct _ | .array _ _ => true | _ => false) = true) (hi : (P.info? ty).map (·.size) = some cs.size) :
    (results fn tmps).run P w = .ok (.tuple #[.agg cs, x]) w := by
  have hp' : tmps[p]?.getD undef = .pointer (some ⟨g, 0, none⟩) := by simpa using hp
  have hq' : tmps[q]?.getD undef = x := by simpa using hq
  simp [results, h, hp', hq', asAddr, run_loadVar_row w g t ty cs fr d hg hu hd hi]
end

theorem alloc_setRow (w : World) (old cells : Array Value) (t : TypeId) : (w.alloc (.cells old t)).setRow w.heap.size cells = w.alloc (.cells cells t) := by
  show { w with heap := (w.heap.push (.cells old t)).modify w.heap.size _ } = { w with heap := w.heap.push (.cells cells t) }
  congr 1
  apply Array.ext_getElem?
  intro i
  rw [Array.getElem?_modify, Array.getElem?_push, Array.getElem?_push]
  by_cases h : i = w.heap.size
  · subst h
    rw [if_pos rfl, if_pos rfl, if_pos rfl]; rfl
  · rw [if_neg (fun e => h e.symm), if_neg h, if_neg h]

theorem range_below {w w' : World} {b o : Nat} {cs : List Value} (h : w.rangeAt b o cs) (hb : b < w.heap.size) (hs : Below w.heap.size w w') : w'.rangeAt b o cs := fun j v hv => (hs.cell (p := ⟨b, o + j, none⟩) hb).trans (h j v hv)

/-- A whole block as a range. -/
theorem range_row {w : World} {b : Nat} {cs : List Value} {t : TypeId} (h : w.heap[b]? = some (.cells cs.toArray t (0, 0))) : w.rangeAt b 0 cs := fun j v hv => by
  rw [Nat.zero_add, cell_of_row w b j _ _ _ h]
  simpa using hv

theorem exec_load_row {P : Program} {o : Oper} {ev : Operand → Value} {w : World} (ty : TypeId) (x : Operand) (ho : o.op = .load ty x)
    (g : Nat) (hx : ev x = .pointer (some ⟨g, 0, none⟩)) (t : TypeId) (cs : Array Value) (fr : Nat × Nat) (d : TypeDesc) (hg : w.heap[g]? = some (.cells cs t fr))
    (hu : P.underlying ty = some d) (hd : (match d with | .struct _ | .array _ _ => true | _ => false) = true) (hi : (P.info? ty).map (·.size) = some cs.size) : (execOp ev o).run P w = .ok (.value (.agg cs)) w := by
  unfold execOp
  simp only [ho, hx, Instr.loadAt, Instr.sureAddr, Sem.run_bind, Sem.run_pure, Result.andThen_ok, run_loadVar_row w g t ty cs fr d hg hu hd hi]

theorem Grow.of_below {F : Nat → Prop} {w w' : World} (h : Below w.heap.size w w') : Grow F w w' F := ⟨Step.of_below h F, fun _ h => .inl h⟩

/-- Where a row of one cell an element is not empty: its block, its cells. -/
theorem row_at {w : World} {base : Nat} {e : TypeId} {v : Value} {n : Nat} {xs : List Value} (h : w.ownsRow base e 1 v n xs) {k : Nat} (hk : k < n) :
    ∃ b c, v = .slice (some ⟨b, 0, none⟩) n c ∧ n ≤ c ∧ base ≤ b ∧ (∀ j u, xs[j]? = some u → w.cell? ⟨b, j, none⟩ = some u) ∧ (∀ j, w.frozen? ⟨b, j, none⟩ = false) := by
  obtain ⟨A, c, rfl, hc, _, hn, hs⟩ := own_shape h
  cases A with
  | none => have := (hn rfl).1; omega
  | some ad =>
    obtain ⟨b, rfl, hb, _⟩ := hs ad rfl
    refine ⟨b, c, rfl, hc, hb, fun j u hu => ?_, fun j => h.frozenAt j⟩
    have hl := h.1
    have hj := (List.getElem?_eq_some_iff.1 hu).1
    rw [h.cellAt j (by omega)]
    exact hu

theorem below_setRow {w w' : World} {b g : Nat} (h : Below b w w') (hw : b ≤ w'.heap.size) (hg : b ≤ g) (cs : Array Value) : Below b w (w'.setRow g cs) :=
  h.grown ⟨rfl, rfl, rfl, by simp [World.setRow], fun k _ hk => setRow_other w' g k _ (fun e => hk (by rw [e]))⟩ hw (fun k e => by cases e; exact hg)

theorem exec_load_mid {P : Program} {o : Oper} {ev : Operand → Value} {w : World} (ty : TypeId) (x : Operand) (ho : o.op = .load ty x)
    (b off : Nat) (hx : ev x = .pointer (some ⟨b, off, none⟩)) (cs : List Value) (d : TypeDesc) (hc : w.rangeAt b off cs)
    (hu : P.underlying ty = some d) (hd : d.isRow = true) (hi : (P.info? ty).map (·.size) = some cs.length) : (execOp ev o).run P w = .ok (.value (.agg cs.toArray)) w := by
  unfold execOp
  simp only [ho, hx, Instr.loadAt, Instr.sureAddr, Sem.run_bind, Sem.run_pure, Result.andThen_ok, run_loadVar_mid w b off ty cs d hc hu hd hi]

theorem setCells_get (b : Nat) (t : TypeId) : ∀ (vs : List Value) (o : Nat) (w : World) (cs : List Value), w.heap[b]? = some (.cells cs.toArray t (0, 0)) → (w.setCells b o vs).heap[b]? = some (.cells (setMany cs o vs).toArray t (0, 0))
  | [], _, _, _, h => h
  | v :: r, o, w, cs, h => by
    rw [World.setCells, setMany]
    refine setCells_get b t r (o + 1) _ _ ?_
    rw [heap_setCell_same w b o _ _ v h, List.setIfInBounds_toArray]

theorem setMany_all : ∀ (vs cs : List Value), cs.length = vs.length → setMany cs 0 vs = vs := by
  intro vs cs h
  apply List.ext_getElem?
  intro i
  rw [setMany_get vs cs 0 i (by omega)]
  by_cases hi : i < vs.length
  · rw [if_pos (by omega), Nat.sub_zero]
  · rw [if_neg (by omega), List.getElem?_eq_none (by omega), List.getElem?_eq_none (by omega)]

theorem setCells_row {w : World} {b : Nat} {t : TypeId} {cs vs : List Value} (h : w.heap[b]? = some (.cells cs.toArray t (0, 0))) (hl : cs.length = vs.length) : (w.setCells b 0 vs).heap[b]? = some (.cells vs.toArray t (0, 0)) := by
  rw [setCells_get b t vs 0 w cs h, setMany_all vs cs hl]

theorem setCells_other {b : Nat} : ∀ (vs : List Value) (o : Nat) (w : World) (k : Nat), k ≠ b → (w.setCells b o vs).heap[k]? = w.heap[k]?
  | [], _, _, _, _ => rfl
  | v :: r, o, w, k, h => by
    rw [World.setCells, setCells_other r (o + 1) _ k h]
    exact heap_setCell_other _ _ _ _ h

theorem below_setCells {b g : Nat} {w : World} (hg : b ≤ g) : ∀ (vs : List Value) (o : Nat) (w' : World), Below b w w' → Below b w (w'.setCells g o vs)
  | [], _, _, h => h
  | v :: r, o, _, h => below_setCells hg r (o + 1) _ (h.setCell (p := ⟨g, o, none⟩) hg v)

theorem heap_later {w w' : World} {g : Nat} {o : Obj} (h : w.heap[g]? = some o) (hb : Below w.heap.size w w') : w'.heap[g]? = some o := (hb.block g (Array.getElem?_eq_some_iff.1 h).1).trans h

end Go.Proofs.Ytbioomilnjikpaa
