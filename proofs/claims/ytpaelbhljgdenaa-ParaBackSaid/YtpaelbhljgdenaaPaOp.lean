/-
  The laws' arguments opened: sets of attributes, patches, calls that hold slices of sets, and a patch.
-/
import Derived.Test.YtpaelbhljgdenaaPaPd
import Derived.Test.YtpaelbhljgdenaaOpn
namespace Go.Proofs.Ytpaelbhljgdenaa
open Go.RowKit Go.ChangeShapes Go.WideShapes Go.Deep

section
variable {H : Type} {enc : TypeId × Value → H} {P : Program} {w : World} {base : Nat} {spare : Nat → Bool} {held : Bool}

theorem list_len4 {cs : List Value} (h : cs.length = 4) : ∃ v0 v1 v2 v3, cs = [v0, v1, v2, v3] := by
  rcases cs with _ | ⟨v0, _ | ⟨v1, _ | ⟨v2, _ | ⟨v3, _ | ⟨v4, _⟩⟩⟩⟩⟩
  · simp at h
  · simp at h
  · simp at h
  · simp at h
  · exact ⟨v0, v1, v2, v3, rfl⟩
  · simp at h
theorem list_len5 {cs : List Value} (h : cs.length = 5) : ∃ v0 v1 v2 v3 v4, cs = [v0, v1, v2, v3, v4] := by
  rcases cs with _ | ⟨v0, _ | ⟨v1, _ | ⟨v2, _ | ⟨v3, _ | ⟨v4, _ | ⟨v5, _⟩⟩⟩⟩⟩⟩
  · simp at h
  · simp at h
  · simp at h
  · simp at h
  · simp at h
  · exact ⟨v0, v1, v2, v3, v4, rfl⟩
  · simp at h
theorem list_len6 {cs : List Value} (h : cs.length = 6) : ∃ v0 v1 v2 v3 v4 v5, cs = [v0, v1, v2, v3, v4, v5] := by
  rcases cs with _ | ⟨v0, _ | ⟨v1, _ | ⟨v2, _ | ⟨v3, _ | ⟨v4, _ | ⟨v5, _ | ⟨v6, _⟩⟩⟩⟩⟩⟩⟩
  · simp at h
  · simp at h
  · simp at h
  · simp at h
  · simp at h
  · simp at h
  · exact ⟨v0, v1, v2, v3, v4, v5, rfl⟩
  · simp at h
theorem trod_str {fuel : Nat} {t : TypeId} {cs : List Value} {x : DataW H × List MemPlace} (ht : P.underlying t = some .string) (h : DataW.trod enc P w base spare held fuel t cs = some x) : ∃ s, cs = [.string s] := by
  cases fuel with
  | zero => simp [DataW.trod] at h
  | succ n =>
    unfold DataW.trod at h
    rw [ht] at h
    split at h <;> simp_all

theorem trod_fields {fuel : Nat} {t : TypeId} {fs : Array Field} {L : List (TypeId × Nat)} {cs : List Value} {x : DataW H × List MemPlace} (ht : P.underlying t = some (.struct fs)) (hL : fs.toList.map (fun q => (q.type, q.offset)) = L) (h : DataW.trod enc P w base spare held fuel t cs = some x) :
    cs.length = P.cellsOf t ∧ ∃ n, ∀ (i : Nat) (p : TypeId × Nat), L[i]? = some p → ∃ y, DataW.trod enc P w base spare held n p.1 ((cs.drop p.2).take (P.cellsOf p.1)) = some y := by
  obtain ⟨xs, n, _, _, hl, hlen, hf⟩ := DataW.trod_struct ht h
  refine ⟨hl, n, fun i p hp => ?_⟩
  rw [← hL, List.getElem?_map] at hp
  cases hq : fs.toList[i]? with
  | none => rw [hq] at hp; cases hp
  | some f =>
    rw [hq] at hp
    cases hp
    rw [Array.getElem?_toList] at hq
    have h1 := hf i f hq
    have hi := (Array.getElem?_eq_some_iff.1 hq).1
    rw [List.getElem?_eq_getElem (by omega)] at h1
    exact ⟨_, h1⟩
end

section
variable {H : Type} {enc : TypeId × Value → H} {w : World} {base : Nat} {spare : Nat → Bool} {held : Bool} {fuel : Nat} {cs : List Value} {x : DataW H × List MemPlace}

theorem open_val (h : DataW.trod enc Try.prog w base spare held fuel 44 cs = some x) : ∃ v : Vl, cs = v.cells := by
  obtain ⟨hl, n, hf⟩ := trod_fields (L := [(5, 0), (2, 1), (42, 2), (9, 3)]) Try.underlying44 rfl h
  rw [show Try.prog.cellsOf 44 = 4 by kernel_rfl] at hl
  obtain ⟨y0, g0⟩ := hf 0 _ rfl
  obtain ⟨y1, g1⟩ := hf 1 _ rfl
  obtain ⟨y2, g2⟩ := hf 2 _ rfl
  obtain ⟨y3, g3⟩ := hf 3 _ rfl
  dsimp only at g0 g1 g2 g3
  rw [show Try.prog.cellsOf 5 = 1 by kernel_rfl] at g0
  rw [show Try.prog.cellsOf 2 = 1 by kernel_rfl] at g1
  rw [show Try.prog.cellsOf 42 = 1 by kernel_rfl] at g2
  rw [show Try.prog.cellsOf 9 = 1 by kernel_rfl] at g3
  obtain ⟨z0, e0, _, _⟩ := DataW.trod_int Try.underlying5 g0
  obtain ⟨z1, e1, _, _⟩ := DataW.trod_int Try.underlying2 g1
  obtain ⟨z2, e2, _, _⟩ := DataW.trod_int Try.underlying42 g2
  obtain ⟨s, e3⟩ := trod_str Try.underlying9 g3
  obtain ⟨v0, v1, v2, v3, rfl⟩ := list_len4 hl
  clear hl hf
  simp at e0 e1 e2 e3
  subst e0 e1 e2 e3
  exact ⟨⟨z0, z1, z2, s⟩, rfl⟩

theorem open_attr (h : DataW.trod enc Try.prog w base spare held fuel 72 cs = some x) : ∃ a : At, cs = a.cells := by
  obtain ⟨hl, n, hf⟩ := trod_fields (L := [(3, 0), (44, 1)]) Try.underlying72 rfl h
  rw [show Try.prog.cellsOf 72 = 5 by kernel_rfl] at hl
  obtain ⟨y0, g0⟩ := hf 0 _ rfl
  obtain ⟨y1, g1⟩ := hf 1 _ rfl
  dsimp only at g0 g1
  rw [show Try.prog.cellsOf 3 = 1 by kernel_rfl] at g0
  rw [show Try.prog.cellsOf 44 = 4 by kernel_rfl] at g1
  obtain ⟨z0, e0, _, _⟩ := DataW.trod_int Try.underlying3 g0
  obtain ⟨v, e1⟩ := open_val g1
  obtain ⟨v0, v1, v2, v3, v4, rfl⟩ := list_len5 hl
  clear hl hf
  simp at e0 e1
  subst e0
  exact ⟨⟨z0, v⟩, by unfold At.cells; rw [← e1]⟩

theorem open_change (h : DataW.trod enc Try.prog w base spare held fuel 46 cs = some x) : ∃ c : Ch, cs = c.cells := by
  obtain ⟨hl, n, hf⟩ := trod_fields (L := [(3, 0), (4, 1), (44, 2)]) Try.underlying46 rfl h
  rw [show Try.prog.cellsOf 46 = 6 by kernel_rfl] at hl
  obtain ⟨y0, g0⟩ := hf 0 _ rfl
  obtain ⟨y1, g1⟩ := hf 1 _ rfl
  obtain ⟨y2, g2⟩ := hf 2 _ rfl
  dsimp only at g0 g1 g2
  rw [show Try.prog.cellsOf 3 = 1 by kernel_rfl] at g0
  rw [show Try.prog.cellsOf 4 = 1 by kernel_rfl] at g1
  rw [show Try.prog.cellsOf 44 = 4 by kernel_rfl] at g2
  obtain ⟨z0, e0, _, _⟩ := DataW.trod_int Try.underlying3 g0
  obtain ⟨b, e1, _⟩ := DataW.trod_bool Try.underlying4 g1
  obtain ⟨v, e2⟩ := open_val g2
  obtain ⟨v0, v1, v2, v3, v4, v5, rfl⟩ := list_len6 hl
  clear hl hf
  simp at e0 e1 e2
  subst e0 e1
  exact ⟨⟨z0, b, v⟩, by unfold Ch.cells; rw [← e2]⟩

/-- A slice of structs, opened by its element's law. -/
theorem open_structs {α : Type} (cells : α → List Value) (C : Nat) (hC : ∀ a, (cells a).length = C) (h0 : 0 < C) {t e : TypeId} (ht : Try.prog.underlying t = some (.slice e)) (he : Try.prog.cellsOf e = C)
    (hop : ∀ (fuel : Nat) (cs : List Value) (x : DataW H × List MemPlace), DataW.trod enc Try.prog w base spare held fuel e cs = some x → ∃ a, cs = cells a) (h : DataW.trod enc Try.prog w base spare held fuel t cs = some x) :
    ∃ (A : Option Addr) (c : Nat) (l : List α), cs = [.slice A l.length c] ∧ Sees w w.heap.size C A l.length (l.flatMap cells) ∧ l.length ≤ c ∧ c ≤ maxLen ∧ (A = none → c = 0) := by
  rcases open_slice ht h with ⟨rfl, _⟩ | ⟨ad, len, cap, m, n, D, Pl, rfl, _, hl, hm, hmm, _, hi⟩
  · exact ⟨none, 0, [], rfl, Sees.nil_ _ _ _ _, Nat.le_refl _, Nat.zero_le _, fun _ => rfl⟩
  · have hlm : len ≤ m := by rw [hmm]; split <;> omega
    obtain ⟨l, hll, hq⟩ := list_of (Q := fun i (o : α) => ∀ j v, (cells o)[j]? = some v → w.cell? (ad.add (i * C + j)) = some v) len fun i hil => by
      obtain ⟨cs', hc, ht'⟩ := hi i (by omega)
      rw [he] at hc
      obtain ⟨_, hcl, hat⟩ := World.cells?_some hc
      obtain ⟨a, rfl⟩ := hop _ _ _ ht'
      refine ⟨a, fun j v hv => ?_⟩
      have hj : j < C := by have := (List.getElem?_eq_some_iff.1 hv).1; rw [hC] at this; exact this
      have := hat j hj
      rw [Deep.add_add] at this
      exact this.trans hv
    have hs := sees_rows (enc := cells) (C := C) hC h0 (w := w) (a := ad) (l := l) hq
    subst hll
    exact ⟨some ad, cap, l, rfl, hs, hl, hm, fun e => by cases e⟩

theorem open_set (h : DataW.trod enc Try.prog w base spare held fuel 38 cs = some x) : ∃ (t : Th) (a : List At), cs = encT t ∧ SetAt w (fun b => b < w.heap.size) t a ∧ a.length ≤ maxLen := by
  obtain ⟨A, c, l, rfl, hs, hc, hm, hn⟩ := open_structs At.cells 5 (fun _ => rfl) (by decide) Try.underlying38 (by kernel_rfl) (fun _ _ _ h => open_attr h) h
  refine ⟨⟨A, l.length, c⟩, l, rfl, ⟨rfl, hc, hn, fun h0 => ?_⟩, by omega⟩
  obtain ⟨b, o, h1, h2, h3⟩ := hs.2 h0
  exact ⟨b, o, h1, h2, h2, h3⟩
theorem open_patch (h : DataW.trod enc Try.prog w base spare held fuel 24 cs = some x) : ∃ (A : Option Addr) (c : Nat) (l : List Ch), cs = [.slice A l.length c] ∧ Sees w w.heap.size 6 A l.length (rowC l) ∧ l.length ≤ c ∧ c ≤ maxLen := by
  obtain ⟨A, c, l, h1, h2, h3, h4, _⟩ := open_structs Ch.cells 6 (fun _ => rfl) (by decide) Try.underlying24 (by kernel_rfl) (fun _ _ _ h => open_change h) h
  exact ⟨A, c, l, h1, h2, h3, h4⟩
theorem open_sets (h : DataW.trod enc Try.prog w base spare held fuel 23 cs = some x) : ∃ (A : Option Addr) (c : Nat) (xs : List Th) (L : List (List At)), cs = [.slice A xs.length c] ∧ Sees w w.heap.size 1 A xs.length (rowT xs) ∧ xs.length ≤ c ∧ c ≤ maxLen ∧ (A = none → c = 0) ∧ SetsAt w (fun b => b < w.heap.size) xs L := by
  obtain ⟨A, c, l, rfl, hs, hc, hm, hn⟩ := open_structs (α := { p : Th × List At // SetAt w (fun b => b < w.heap.size) p.1 p.2 }) (fun p => encT p.1.1) 1 (fun _ => rfl) (by decide) Try.underlying23 (by kernel_rfl) (fun _ _ _ h => by
    obtain ⟨t, a, rfl, ha, _⟩ := open_set h
    exact ⟨⟨(t, a), ha⟩, rfl⟩) h
  refine ⟨A, c, l.map (·.1.1), l.map (·.1.2), by rw [List.length_map], ?_, by rw [List.length_map]; exact hc, hm, hn, by rw [List.length_map, List.length_map], fun i t a h1 h2 => ?_⟩
  · rw [List.length_map]
    have e : rowT (l.map (·.1.1)) = l.flatMap (fun p => encT p.1.1) := by rw [rowT, List.flatMap_map]
    rw [e]
    exact hs
  · rw [List.getElem?_map] at h1 h2
    cases hq : l[i]? with
    | none => rw [hq] at h1; cases h1
    | some p => rw [hq] at h1 h2; cases h1; cases h2; exact p.2
end

/-- A call of a script. -/
structure OpS where
  kind : Int
  k : Int
  m : Int
  A : Option Addr
  c : Nat
  xs : List Th
  A2 : Option Addr
  c2 : Nat
  p : List Ch
  L : List (List At)
def OpS.cells (o : OpS) : List Value := [.int .i64 o.kind, .int .i64 o.k, .int .i64 o.m, .slice o.A o.xs.length o.c, .slice o.A2 o.p.length o.c2]
structure OpS.Ok (w : World) (o : OpS) : Prop where
  sees : Sees w w.heap.size 1 o.A o.xs.length (rowT o.xs)
  le : o.xs.length ≤ o.c
  nil : o.A = none → o.c = 0
  sets : SetsAt w (fun b => b < w.heap.size) o.xs o.L
  sees2 : Sees w w.heap.size 6 o.A2 o.p.length (rowC o.p)
  wk : -9223372036854775808 ≤ o.k ∧ o.k ≤ 9223372036854775807
  wm : -9223372036854775808 ≤ o.m ∧ o.m ≤ 9223372036854775807

theorem wf_i64 {n : Int} (h : (Lit.int .i64 n).wf = true) : -9223372036854775808 ≤ n ∧ n ≤ 9223372036854775807 := by
  simp [Lit.wf, IntKind.min, IntKind.max, IntKind.bits, IntKind.signed] at h
  omega

section
variable {H : Type} {enc : TypeId × Value → H} {w : World} {base : Nat} {spare : Nat → Bool} {held : Bool} {fuel : Nat} {cs : List Value} {x : DataW H × List MemPlace}
theorem open_op (h : DataW.trod enc Try.prog w base spare held fuel 26 cs = some x) : ∃ o : OpS, cs = o.cells ∧ o.Ok w := by
  obtain ⟨hl, n, hf⟩ := trod_fields (L := [(3, 0), (3, 1), (3, 2), (23, 3), (24, 4)]) Try.underlying26 rfl h
  rw [show Try.prog.cellsOf 26 = 5 by kernel_rfl] at hl
  obtain ⟨y0, g0⟩ := hf 0 _ rfl
  obtain ⟨y1, g1⟩ := hf 1 _ rfl
  obtain ⟨y2, g2⟩ := hf 2 _ rfl
  obtain ⟨y3, g3⟩ := hf 3 _ rfl
  obtain ⟨y4, g4⟩ := hf 4 _ rfl
  dsimp only at g0 g1 g2 g3 g4
  rw [show Try.prog.cellsOf 3 = 1 by kernel_rfl] at g0 g1 g2
  rw [show Try.prog.cellsOf 23 = 1 by kernel_rfl] at g3
  rw [show Try.prog.cellsOf 24 = 1 by kernel_rfl] at g4
  obtain ⟨z0, e0, _, w0⟩ := DataW.trod_int Try.underlying3 g0
  obtain ⟨z1, e1, _, w1⟩ := DataW.trod_int Try.underlying3 g1
  obtain ⟨z2, e2, _, w2⟩ := DataW.trod_int Try.underlying3 g2
  obtain ⟨A, c, xs, L, e3, s1, s2, _, s3, s4⟩ := open_sets g3
  obtain ⟨A2, c2, p, e4, s5, _, _⟩ := open_patch g4
  obtain ⟨v0, v1, v2, v3, v4, rfl⟩ := list_len5 hl
  clear hl hf
  simp at e0 e1 e2 e3 e4
  subst e0 e1 e2 e3 e4
  exact ⟨⟨z0, z1, z2, A, c, xs, A2, c2, p, L⟩, rfl, s1, s2, s3, s4, s5, wf_i64 w1, wf_i64 w2⟩

theorem open_opl (h : DataW.trod enc Try.prog w base spare held fuel 22 cs = some x) :
    ∃ (A : Option Addr) (c : Nat) (l : List OpS), cs = [.slice A l.length c] ∧ Sees w w.heap.size 5 A l.length (l.flatMap OpS.cells) ∧ l.length ≤ c ∧ c ≤ maxLen ∧ ∀ o ∈ l, o.Ok w := by
  obtain ⟨A, c, l, rfl, hs, hc, hm, _⟩ := open_structs (α := { o : OpS // o.Ok w }) (fun o => o.1.cells) 5 (fun _ => rfl) (by decide) Try.underlying22 (by kernel_rfl) (fun _ _ _ h => by
    obtain ⟨o, rfl, ho⟩ := open_op h
    exact ⟨⟨o, ho⟩, rfl⟩) h
  refine ⟨A, c, l.map (·.1), by rw [List.length_map], ?_, by rw [List.length_map]; exact hc, hm, fun o ho => ?_⟩
  · rw [List.length_map, List.flatMap_map]
    exact hs
  · obtain ⟨q, _, rfl⟩ := List.mem_map.1 ho
    exact q.2
end

end Go.Proofs.Ytpaelbhljgdenaa
