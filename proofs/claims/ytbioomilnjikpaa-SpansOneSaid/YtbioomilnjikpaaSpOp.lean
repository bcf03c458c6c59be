/-
  The laws' arguments opened: slices of spans, slices of calls that hold slices of spans.
-/
import Derived.Test.YtbioomilnjikpaaSpW
import Derived.Test.YtbioomilnjikpaaOpn
namespace Go.Proofs.Ytbioomilnjikpaa
open Go.RowKit Go.ChangeShapes Go.WideShapes Go.Deep

section
variable {H : Type} {enc : TypeId × Value → H} {P : Program} {w : World} {base : Nat} {spare : Nat → Bool} {held : Bool}

theorem open_spans {t e : TypeId} {f0 f1 : Field} {fuel : Nat} {a : Option Addr} {len cap : Nat} {x : DataW H × List MemPlace}
    (ht : P.underlying t = some (.slice e)) (he : P.underlying e = some (.struct #[f0, f1])) (hC : P.cellsOf e = 2) (o0 : f0.offset = 0) (o1 : f1.offset = 1)
    (c0 : P.cellsOf f0.type = 1) (c1 : P.cellsOf f1.type = 1) (k0 : P.underlying f0.type = some (.int .i64)) (k1 : P.underlying f1.type = some (.int .i64))
    (h : DataW.trod enc P w base spare held fuel t [.slice a len cap] = some x) :
    ∃ l : List Th, Sees w w.heap.size 2 a len (rowT l) ∧ l.length = len ∧ len ≤ cap ∧ cap ≤ maxLen := by
  rcases open_slice ht h with ⟨hcs, _⟩ | ⟨ad, len', cap', m, n, D, Pl, hcs, _, hl, hm, hmm, _, hi⟩
  · simp at hcs
    obtain ⟨rfl, rfl, rfl⟩ := hcs
    exact ⟨[], Sees.nil_ _ _ _ _, rfl, Nat.le_refl _, Nat.zero_le _⟩
  · simp at hcs
    obtain ⟨rfl, rfl, rfl⟩ := hcs
    have hlm : len ≤ m := by rw [hmm]; split <;> omega
    obtain ⟨l, hll, hq⟩ := list_of (Q := fun i (o : Th) => ∀ j v, (encT o)[j]? = some v → w.cell? (ad.add (i * 2 + j)) = some v) len fun i hil => by
      obtain ⟨cs', hc, ht'⟩ := hi i (by omega)
      rw [hC] at hc
      obtain ⟨_, hcl, hat⟩ := World.cells?_some hc
      obtain ⟨y0, y1, n', _, _, g0, g1⟩ := trod_struct2 he ht'
      rw [o0, c0] at g0
      rw [o1, c1] at g1
      obtain ⟨z0, e0, _, w0⟩ := DataW.trod_int k0 g0
      obtain ⟨z1, e1, _, w1⟩ := DataW.trod_int k1 g1
      match cs', hcl with
      | [v0, v1], _ =>
        simp at e0 e1
        subst e0 e1
        refine ⟨⟨z0, z1⟩, fun j v hv => ?_⟩
        have hj : j < 2 := (List.getElem?_eq_some_iff.1 hv).1
        have := hat j hj
        rw [Deep.add_add] at this
        exact this.trans hv
    have hs := sees_rows (enc := encT) (C := 2) (fun _ => rfl) (by omega) (w := w) (a := ad) (l := l) hq
    rw [hll] at hs
    exact ⟨l, hs, hll, by omega, by omega⟩
end

/-- A call of a script. -/
structure OpS where
  kind : Int
  i : Int
  j : Int
  A : Option Addr
  len : Nat
  cap : Nat
  by_ : Int
  plus : Int
  l : List Th
def OpS.cells (o : OpS) : List Value := [.int .i64 o.kind, .int .i64 o.i, .int .i64 o.j, .slice o.A o.len o.cap, .int .i64 o.by_, .int .i64 o.plus]
structure OpS.Ok (w : World) (o : OpS) : Prop where
  sees : Sees w w.heap.size 2 o.A o.len (rowT o.l)
  len : o.l.length = o.len
  le : o.len ≤ o.cap
  cap : o.cap ≤ maxLen
  wi : -9223372036854775808 ≤ o.i ∧ o.i ≤ 9223372036854775807
  wj : -9223372036854775808 ≤ o.j ∧ o.j ≤ 9223372036854775807

theorem wf_i64 {n : Int} (h : (Lit.int .i64 n).wf = true) : -9223372036854775808 ≤ n ∧ n ≤ 9223372036854775807 := by
  simp [Lit.wf, IntKind.min, IntKind.max, IntKind.bits, IntKind.signed] at h
  omega

theorem open_op {H : Type} {enc : TypeId × Value → H} {w : World} {base : Nat} {spare : Nat → Bool} {held : Bool} {fuel : Nat} {cs : List Value} {x : DataW H × List MemPlace} (h : DataW.trod enc Try.prog w base spare held fuel 28 cs = some x) :
    ∃ o : OpS, cs = o.cells ∧ o.Ok w := by
  obtain ⟨f, hf6, hfl⟩ : ∃ f : Array Field, Try.prog.underlying 28 = some (.struct f) ∧ f.toList.map (fun q => (q.type, q.offset)) = [(3, 0), (3, 1), (3, 2), (26, 3), (3, 4), (3, 5)] := ⟨_, Try.underlying28, rfl⟩
  obtain ⟨xs, n, _, rfl, hl, hlen, hf⟩ := DataW.trod_struct hf6 h
  have hcl : Try.prog.cellsOf 28 = 6 := by kernel_rfl
  rw [hcl] at hl
  obtain ⟨g, hg⟩ : ∃ g : List Field, f.toList = g := ⟨_, rfl⟩
  have hgf : ∀ j, g[j]? = f[j]? := fun j => by rw [← hg, Array.getElem?_toList]
  have hsz : f.size = g.length := by rw [← hg, Array.length_toList]
  rw [hg] at hfl
  have hgl : g.length = 6 := by have := congrArg List.length hfl; simpa using this
  clear hg hf6 h
  rcases g with _ | ⟨f0, _ | ⟨f1, _ | ⟨f2, _ | ⟨f3, _ | ⟨f4, _ | ⟨f5, _ | ⟨f6, g⟩⟩⟩⟩⟩⟩⟩
  · simp at hgl
  · simp at hgl
  · simp at hgl
  · simp at hgl
  · simp at hgl
  · simp at hgl
  rotate_left
  · simp at hgl
  rcases cs with _ | ⟨v0, _ | ⟨v1, _ | ⟨v2, _ | ⟨v3, _ | ⟨v4, _ | ⟨v5, _ | ⟨v6, cs⟩⟩⟩⟩⟩⟩⟩
  · simp at hl
  · simp at hl
  · simp at hl
  · simp at hl
  · simp at hl
  · simp at hl
  rotate_left
  · simp at hl
  · simp only [List.map_cons, List.map_nil, List.cons.injEq, Prod.mk.injEq, and_true] at hfl
    obtain ⟨⟨t0, o0⟩, ⟨t1, o1⟩, ⟨t2, o2⟩, ⟨t3, o3⟩, ⟨t4, o4⟩, t5, o5⟩ := hfl
    have hxl : xs.length = 6 := by rw [hsz] at hlen; simpa using hlen
    have ci : Try.prog.cellsOf 3 = 1 := by kernel_rfl
    have cl : Try.prog.cellsOf 26 = 1 := by kernel_rfl
    have h0 := hf 0 f0 (by rw [← hgf]; rfl)
    have h1 := hf 1 f1 (by rw [← hgf]; rfl)
    have h2 := hf 2 f2 (by rw [← hgf]; rfl)
    have h3 := hf 3 f3 (by rw [← hgf]; rfl)
    have h4 := hf 4 f4 (by rw [← hgf]; rfl)
    have h5 := hf 5 f5 (by rw [← hgf]; rfl)
    rw [t0, o0, ci, List.getElem?_eq_getElem (by omega)] at h0
    rw [t1, o1, ci, List.getElem?_eq_getElem (by omega)] at h1
    rw [t2, o2, ci, List.getElem?_eq_getElem (by omega)] at h2
    rw [t3, o3, cl, List.getElem?_eq_getElem (by omega)] at h3
    rw [t4, o4, ci, List.getElem?_eq_getElem (by omega)] at h4
    rw [t5, o5, ci, List.getElem?_eq_getElem (by omega)] at h5
    obtain ⟨z0, e0, _, w0⟩ := DataW.trod_int Try.underlying3 h0
    obtain ⟨z1, e1, _, w1⟩ := DataW.trod_int Try.underlying3 h1
    obtain ⟨z2, e2, _, w2⟩ := DataW.trod_int Try.underlying3 h2
    obtain ⟨z4, e4, _, w4⟩ := DataW.trod_int Try.underlying3 h4
    obtain ⟨z5, e5, _, w5⟩ := DataW.trod_int Try.underlying3 h5
    simp at e0 e1 e2 e4 e5
    subst e0 e1 e2 e4 e5
    have hsl : ∃ a len cap, v3 = .slice a len cap := by
      rcases open_slice Try.underlying26 h3 with ⟨hcs, _⟩ | ⟨ad, len', cap', _, _, _, _, hcs, _⟩
      · simp at hcs; exact ⟨_, _, _, hcs⟩
      · simp at hcs; exact ⟨_, _, _, hcs⟩
    obtain ⟨a, len, cap, rfl⟩ := hsl
    obtain ⟨l, s1, s2, s3, s4⟩ := open_spans Try.underlying26 Try.underlying34 (by kernel_rfl) rfl rfl (by kernel_rfl) (by kernel_rfl) Try.underlying3 Try.underlying3 h3
    exact ⟨⟨z0, z1, z2, a, len, cap, z4, z5, l⟩, rfl, s1, s2, s3, s4, wf_i64 w1, wf_i64 w2⟩

theorem open_opl {H : Type} {enc : TypeId × Value → H} {w : World} {base : Nat} {spare : Nat → Bool} {held : Bool} {fuel : Nat} {a : Option Addr} {len cap : Nat} {x : DataW H × List MemPlace}
    (h : DataW.trod enc Try.prog w base spare held fuel 22 [.slice a len cap] = some x) :
    ∃ l : List OpS, Sees w w.heap.size 6 a len (l.flatMap OpS.cells) ∧ l.length = len ∧ len ≤ maxLen ∧ ∀ o ∈ l, o.Ok w := by
  rcases open_slice Try.underlying22 h with ⟨hcs, _⟩ | ⟨ad, len', cap', m, n, D, Pl, hcs, _, hl, hm, hmm, _, hi⟩
  · simp at hcs
    obtain ⟨rfl, rfl, rfl⟩ := hcs
    exact ⟨[], Sees.nil_ _ _ _ _, rfl, Nat.zero_le _, (fun _ h => nomatch h)⟩
  · simp at hcs
    obtain ⟨rfl, rfl, rfl⟩ := hcs
    have hlm : len ≤ m := by rw [hmm]; split <;> omega
    obtain ⟨l, hll, hq⟩ := list_of (Q := fun i (o : OpS) => o.Ok w ∧ ∀ j v, o.cells[j]? = some v → w.cell? (ad.add (i * 6 + j)) = some v) len fun i hil => by
      obtain ⟨cs', hc, ht'⟩ := hi i (by omega)
      rw [show Try.prog.cellsOf 28 = 6 by kernel_rfl] at hc
      obtain ⟨_, hcl, hat⟩ := World.cells?_some hc
      obtain ⟨o, rfl, ho⟩ := open_op ht'
      refine ⟨o, ho, fun j v hv => ?_⟩
      have hj : j < 6 := (List.getElem?_eq_some_iff.1 hv).1
      have := hat j hj
      rw [Deep.add_add] at this
      exact this.trans hv
    have hs := sees_rows (enc := OpS.cells) (C := 6) (fun _ => rfl) (by omega) (w := w) (a := ad) (l := l) (fun i o ho => (hq i o ho).2)
    rw [hll] at hs
    refine ⟨l, hs, hll, by omega, fun o ho => ?_⟩
    obtain ⟨i, hi'⟩ := List.getElem?_of_mem ho
    exact (hq i o hi').1

end Go.Proofs.Ytbioomilnjikpaa
