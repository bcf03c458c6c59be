/-
  The document's Insert into no runes; the walk of RopeNone.
-/
import Derived.Deep.Slices
import Derived.Deep.Strs
import Derived.ChangeSame
import Derived.Test.YtmfkdaannjibfaaBdP
namespace Go.Proofs.Ytmfkdaannjibfaa
open Go.RowKit Go.ChangeShapes Go.WideShapes Go.Deep

theorem list_of {α : Type} {Q : Nat → α → Prop} : ∀ n : Nat, (∀ i, i < n → ∃ o, Q i o) → ∃ l : List α, l.length = n ∧ ∀ i o, l[i]? = some o → Q i o := by
  intro n
  induction n with
  | zero => intro _; exact ⟨[], rfl, fun i o h => by simp at h⟩
  | succ n ih =>
    intro h
    obtain ⟨l, hl, hq⟩ := ih fun i hi => h i (by omega)
    obtain ⟨o, ho⟩ := h n (by omega)
    refine ⟨l ++ [o], by simp [hl], fun i o' hi => ?_⟩
    rw [List.getElem?_append] at hi
    split at hi
    · exact hq i o' hi
    · have hz : i - l.length = 0 := by
        rcases Nat.eq_zero_or_pos (i - l.length) with h0 | h0
        · exact h0
        · rw [List.getElem?_eq_none (by simp; omega)] at hi; cases hi
      rw [hz] at hi
      simp at hi
      subst hi
      rw [show i = n by omega]
      exact ho

theorem sees_rows {α : Type} {enc : α → List Value} {C : Nat} (hC : ∀ o, (enc o).length = C) (h0 : 0 < C) {w : World} {a : Addr} {l : List α} (h : ∀ i o, l[i]? = some o → ∀ j v, (enc o)[j]? = some v → w.cell? (a.add (i * C + j)) = some v) :
    Sees w w.heap.size C (some a) l.length (l.flatMap enc) := by
  refine ⟨flat_len enc C hC l, fun hn => ?_⟩
  have hl0 : l[0]? = some (l[0]'hn) := List.getElem?_eq_getElem hn
  have hc0 := h 0 _ hl0 0 _ (List.getElem?_eq_getElem (by rw [hC]; exact h0))
  obtain ⟨b, o, sp⟩ := a
  have hsp : sp = none := by simpa [Addr.add] using World.cell?_spot hc0
  subst hsp
  refine ⟨b, o, rfl, ?_, fun j u hu => ?_⟩
  · have := World.block_lt_of_cell? w _ hc0
    simpa [Addr.add] using this
  · have hj : j = j / C * C + j % C := by rw [Nat.mul_comm]; exact (Nat.div_add_mod j C).symm
    rw [hj, flat_get enc C hC _ _ _ (Nat.mod_lt _ h0)] at hu
    cases hq : l[j / C]? with
    | none => rw [hq] at hu; cases hu
    | some o' =>
      rw [hq] at hu
      have := h _ _ hq _ _ hu
      rw [Addr.add_lit, ← hj] at this
      exact this

end Go.Proofs.Ytmfkdaannjibfaa

namespace Go.Proofs.Ytmfkdaannjibfaa
open Go.RowKit Go.ChangeShapes Go.WideShapes Go.Deep

/-- A call of a script. -/
structure OpS where
  kind : Int
  i : Int
  j : Int
  n : Int
  A : Option Addr
  len : Nat
  cap : Nat
  l : List Int
def OpS.cells (o : OpS) : List Value := [.int .i64 o.kind, .int .i64 o.i, .int .i64 o.j, .int .i64 o.n, .slice o.A o.len o.cap]
structure OpS.Ok (w : World) (o : OpS) : Prop where
  sees : Sees w w.heap.size 1 o.A o.len (o.l.map r32)
  len : o.l.length = o.len
  le : o.len ≤ o.cap
  cap : o.cap ≤ maxLen
  wi : -9223372036854775808 ≤ o.i ∧ o.i ≤ 9223372036854775807
  wj : -9223372036854775808 ≤ o.j ∧ o.j ≤ 9223372036854775807

theorem wf_i64 {n : Int} (h : (Lit.int .i64 n).wf = true) : -9223372036854775808 ≤ n ∧ n ≤ 9223372036854775807 := by
  simp [Lit.wf, IntKind.min, IntKind.max, IntKind.bits, IntKind.signed] at h
  omega

theorem open_op {H : Type} {enc : TypeId × Value → H} {w : World} {base : Nat} {held : Bool} {fuel : Nat} {cs : List Value} {x : DataW H × List MemPlace} (h : DataW.trod enc Try.prog w base (fun _ => true) held fuel 28 cs = some x) :
    ∃ o : OpS, cs = o.cells ∧ o.Ok w := by
  obtain ⟨f, hf6, hfl⟩ : ∃ f : Array Field, Try.prog.underlying 28 = some (.struct f) ∧ f.toList.map (fun q => (q.type, q.offset)) = [(3, 0), (3, 1), (3, 2), (3, 3), (26, 4)] := ⟨_, Try.underlying28, rfl⟩
  obtain ⟨xs, n, _, rfl, hl, hlen, hf⟩ := DataW.trod_struct hf6 h
  have hcl : Try.prog.cellsOf 28 = 5 := by kernel_rfl
  rw [hcl] at hl
  obtain ⟨g, hg⟩ : ∃ g : List Field, f.toList = g := ⟨_, rfl⟩
  have hgf : ∀ j, g[j]? = f[j]? := fun j => by rw [← hg, Array.getElem?_toList]
  have hsz : f.size = g.length := by rw [← hg, Array.length_toList]
  rw [hg] at hfl
  have hgl : g.length = 5 := by have := congrArg List.length hfl; simpa using this
  clear hg hf6 h
  rcases g with _ | ⟨f0, _ | ⟨f1, _ | ⟨f2, _ | ⟨f3, _ | ⟨f4, _ | ⟨f5, g⟩⟩⟩⟩⟩⟩
  · simp at hgl
  · simp at hgl
  · simp at hgl
  · simp at hgl
  · simp at hgl
  rotate_left
  · simp at hgl
  rcases cs with _ | ⟨v0, _ | ⟨v1, _ | ⟨v2, _ | ⟨v3, _ | ⟨v4, _ | ⟨v5, cs⟩⟩⟩⟩⟩⟩
  · simp at hl
  · simp at hl
  · simp at hl
  · simp at hl
  · simp at hl
  rotate_left
  · simp at hl
  · simp only [List.map_cons, List.map_nil, List.cons.injEq, Prod.mk.injEq, and_true] at hfl
    obtain ⟨⟨t0, o0⟩, ⟨t1, o1⟩, ⟨t2, o2⟩, ⟨t3, o3⟩, t4, o4⟩ := hfl
    have hxl : xs.length = 5 := by rw [hsz] at hlen; simpa using hlen
    have ci : Try.prog.cellsOf 3 = 1 := by kernel_rfl
    have cl : Try.prog.cellsOf 26 = 1 := by kernel_rfl
    have h0 := hf 0 f0 (by rw [← hgf]; rfl)
    have h1 := hf 1 f1 (by rw [← hgf]; rfl)
    have h2 := hf 2 f2 (by rw [← hgf]; rfl)
    have h3 := hf 3 f3 (by rw [← hgf]; rfl)
    have h4 := hf 4 f4 (by rw [← hgf]; rfl)
    rw [t0, o0, ci, List.getElem?_eq_getElem (by omega)] at h0
    rw [t1, o1, ci, List.getElem?_eq_getElem (by omega)] at h1
    rw [t2, o2, ci, List.getElem?_eq_getElem (by omega)] at h2
    rw [t3, o3, ci, List.getElem?_eq_getElem (by omega)] at h3
    rw [t4, o4, cl, List.getElem?_eq_getElem (by omega)] at h4
    obtain ⟨z0, e0, _, w0⟩ := DataW.trod_int Try.underlying3 h0
    obtain ⟨z1, e1, _, w1⟩ := DataW.trod_int Try.underlying3 h1
    obtain ⟨z2, e2, _, w2⟩ := DataW.trod_int Try.underlying3 h2
    obtain ⟨z3, e3, _, w3⟩ := DataW.trod_int Try.underlying3 h3
    simp at e0 e1 e2 e3
    subst e0 e1 e2 e3
    have hsl : ∃ a len cap, v4 = .slice a len cap := by
      rcases open_slice Try.underlying26 h4 with ⟨hcs, _⟩ | ⟨ad, len', cap', _, _, _, _, hcs, _⟩
      · simp at hcs; exact ⟨_, _, _, hcs⟩
      · simp at hcs; exact ⟨_, _, _, hcs⟩
    obtain ⟨a, len, cap, rfl⟩ := hsl
    obtain ⟨l, s1, s2, s3, s4⟩ : ∃ l : List Int, Sees w w.heap.size 1 a len (l.map r32) ∧ l.length = len ∧ len ≤ cap ∧ cap ≤ maxLen := by
      rcases open_ints Try.underlying26 Try.underlying21 (by kernel_rfl) h4 with ⟨hcs, _⟩ | ⟨x, l, c, zs, hcs, _, hl2, hm, hz, _, hcell, hwz⟩
      · simp at hcs
        obtain ⟨rfl, rfl, rfl⟩ := hcs
        exact ⟨[], Sees.nil_ _ _ _ _, rfl, Nat.le_refl _, Nat.zero_le _⟩
      · simp at hcs
        obtain ⟨rfl, rfl, rfl⟩ := hcs
        obtain ⟨l, h1, h2, h3, h4, _⟩ := ints_of_row (w := w) (k := .i32) (a := some x) (len := len) (cap := cap) (zs := zs) (.inr ⟨_, rfl, hl2, hm, by simpa using hz, hcell, hwz⟩)
        exact ⟨l, h1, h2, h3, h4⟩
    exact ⟨⟨z0, z1, z2, z3, a, len, cap, l⟩, rfl, s1, s2, s3, s4, wf_i64 w1, wf_i64 w2⟩

theorem open_opl {H : Type} {enc : TypeId × Value → H} {w : World} {base : Nat} {held : Bool} {fuel : Nat} {a : Option Addr} {len cap : Nat} {x : DataW H × List MemPlace}
    (h : DataW.trod enc Try.prog w base (fun _ => true) held fuel 22 [.slice a len cap] = some x) :
    ∃ l : List OpS, Sees w w.heap.size 5 a len (l.flatMap OpS.cells) ∧ l.length = len ∧ len ≤ maxLen ∧ ∀ o ∈ l, o.Ok w := by
  rcases open_slice Try.underlying22 h with ⟨hcs, _⟩ | ⟨ad, len', cap', m, n, D, Pl, hcs, _, hl, hm, hmm, _, hi⟩
  · simp at hcs
    obtain ⟨rfl, rfl, rfl⟩ := hcs
    exact ⟨[], Sees.nil_ _ _ _ _, rfl, Nat.zero_le _, (fun _ h => nomatch h)⟩
  · simp at hcs
    obtain ⟨rfl, rfl, rfl⟩ := hcs
    have hlm : len ≤ m := by rw [hmm]; split <;> omega
    obtain ⟨l, hll, hq⟩ := list_of (Q := fun i (o : OpS) => o.Ok w ∧ ∀ j v, o.cells[j]? = some v → w.cell? (ad.add (i * 5 + j)) = some v) len fun i hil => by
      obtain ⟨cs', hc, ht'⟩ := hi i (by omega)
      rw [show Try.prog.cellsOf 28 = 5 by kernel_rfl] at hc
      obtain ⟨_, hcl, hat⟩ := World.cells?_some hc
      obtain ⟨o, rfl, ho⟩ := open_op ht'
      refine ⟨o, ho, fun j v hv => ?_⟩
      have hj : j < 5 := (List.getElem?_eq_some_iff.1 hv).1
      have := hat j hj
      rw [Deep.add_add] at this
      exact this.trans hv
    have hs := sees_rows (enc := OpS.cells) (C := 5) (fun _ => rfl) (by omega) (w := w) (a := ad) (l := l) (fun i o ho => (hq i o ho).2)
    rw [hll] at hs
    refine ⟨l, hs, hll, by omega, fun o ho => ?_⟩
    obtain ⟨i, hi'⟩ := List.getElem?_of_mem ho
    exact (hq i o hi').1

end Go.Proofs.Ytmfkdaannjibfaa

namespace Go.Proofs.Ytmfkdaannjibfaa
open Go.RowKit

set_option maxHeartbeats 1000000 in
theorem nil_between (i j : Int) (w : World) : Calls Try.prog 27 #[.pointer none, .int .i64 i, .int .i64 j] w fun e w' => e = .returned (.int .i64 1) ∧ w = w' := by
  go_enter Try.func27, Try.ntmps27
  go_wp2_with fail
  go_ret
  exact ⟨rfl, rfl⟩

set_option maxHeartbeats 1000000 in
theorem nil_at (i : Int) (w : World) : Calls Try.prog 17 #[.pointer none, .int .i64 i] w fun e w' => e = .returned (.tuple #[.int .i32 0, .int .i64 1]) ∧ w = w' := by
  go_enter Try.func17, Try.ntmps17
  go_wp2_with fail
  go_ret2
  exact ⟨rfl, rfl⟩

set_option maxHeartbeats 1000000 in
theorem nil_line (i : Int) (w : World) : Calls Try.prog 16 #[.pointer none, .int .i64 i] w fun e w' => e = .returned (.tuple #[.int .i64 0, .int .i64 1]) ∧ w = w' := by
  go_enter Try.func16, Try.ntmps16
  go_wp2_with fail
  refine (nil_between i i w).mono ?_
  rintro e w1 ⟨rfl, rfl⟩
  go_wp2_with fail
  go_ret2
  exact ⟨rfl, rfl⟩

set_option maxHeartbeats 1000000 in
theorem nil_off (i : Int) (w : World) : Calls Try.prog 15 #[.pointer none, .int .i64 i] w fun e w' => e = .returned (.tuple #[.int .i64 0, .int .i64 1]) ∧ w = w' := by
  go_enter Try.func15, Try.ntmps15
  go_wp2_with fail
  go_ret2
  exact ⟨rfl, rfl⟩

set_option maxHeartbeats 1000000 in
theorem nil_split (i : Int) (w : World) : Calls Try.prog 20 #[.pointer none, .int .i64 i] w fun e w' => e = .returned (.tuple #[.pointer none, .int .i64 1]) ∧ w = w' := by
  go_enter Try.func20, Try.ntmps20
  go_wp2_with fail
  refine (nil_between i i w).mono ?_
  rintro e w1 ⟨rfl, rfl⟩
  go_wp2_with fail
  go_ret2
  exact ⟨rfl, rfl⟩

set_option maxHeartbeats 1000000 in
theorem nil_delete (i j : Int) (w : World) : Calls Try.prog 12 #[.pointer none, .int .i64 i, .int .i64 j] w fun e w' => e = .returned (.int .i64 1) ∧ w = w' := by
  go_enter Try.func12, Try.ntmps12
  go_wp2_with fail
  refine (nil_between i j w).mono ?_
  rintro e w1 ⟨rfl, rfl⟩
  go_wp2_with fail
  go_ret
  exact ⟨rfl, rfl⟩

set_option maxHeartbeats 1000000 in
theorem nil_concat (a : Addr) (w : World) : Calls Try.prog 21 #[.pointer none, .pointer (some a)] w fun e w' => e = .returned (.int .i64 1) ∧ w = w' := by
  go_enter Try.func21, Try.ntmps21
  go_wp2_with fail
  go_ret
  exact ⟨rfl, rfl⟩

set_option maxHeartbeats 1000000 in
theorem nil_len  (w : World) : Calls Try.prog 11 #[.pointer none] w fun e w' => e = .returned (.int .i64 0) ∧ w = w' := by
  go_enter Try.func11, Try.ntmps11
  go_wp2_with fail
  go_ret
  exact ⟨rfl, rfl⟩

set_option maxHeartbeats 1000000 in
theorem nil_newlines  (w : World) : Calls Try.prog 14 #[.pointer none] w fun e w' => e = .returned (.int .i64 0) ∧ w = w' := by
  go_enter Try.func14, Try.ntmps14
  go_wp2_with fail
  go_ret
  exact ⟨rfl, rfl⟩

set_option maxHeartbeats 1000000 in
theorem nil_height  (w : World) : Calls Try.prog 23 #[.pointer none] w fun e w' => e = .returned (.int .i64 0) ∧ w = w' := by
  go_enter Try.func23, Try.ntmps23
  go_wp2_with fail
  go_ret
  exact ⟨rfl, rfl⟩

set_option maxHeartbeats 1000000 in
theorem nil_copy  (w : World) : Calls Try.prog 24 #[.pointer none] w fun e w' => e = .returned (.pointer none) ∧ w = w' := by
  go_enter Try.func24, Try.ntmps24
  go_wp2_with fail
  go_ret
  exact ⟨rfl, rfl⟩

set_option maxHeartbeats 1000000 in
theorem refCode_any (r : Int) (w : World) : Calls Try.prog 42 #[.int .i32 r] w fun e w' => e = .returned (.bool (codeB r)) ∧ w = w' := by
  have h : (codeB r = false ∧ ¬ 0 ≤ r) ∨ (codeB r = false ∧ 0 ≤ r ∧ ¬ r ≤ 1114111) ∨ (codeB r = true ∧ 0 ≤ r ∧ r ≤ 1114111 ∧ r < 55296) ∨ (codeB r = true ∧ 0 ≤ r ∧ r ≤ 1114111 ∧ ¬ r < 55296 ∧ 57343 < r) ∨ (codeB r = false ∧ 0 ≤ r ∧ r ≤ 1114111 ∧ ¬ r < 55296 ∧ ¬ 57343 < r) := by
    simp only [codeB, decide_eq_true_eq, decide_eq_false_iff_not]
    omega
  rcases h with ⟨hc, h1⟩ | ⟨hc, h1, h2⟩ | ⟨hc, h1, h2, h3⟩ | ⟨hc, h1, h2, h3, h4⟩ | ⟨hc, h1, h2, h3, h4⟩
  all_goals
    rw [hc]
    clear hc
    go_enter Try.func42, Try.ntmps42
    go_wp2_with fail
    go_ret
    exact ⟨rfl, rfl⟩

set_option maxHeartbeats 1000000 in
theorem nil_insert (i : Int) (A : Option Addr) (n c : Nat) (w : World) : Calls Try.prog 13 #[.pointer none, .int .i64 i, .slice A n c] w fun e w' => e = .returned (.int .i64 1) ∧ Below w.heap.size w w' := by
  go_enter Try.func13, Try.ntmps13
  go_wp2_with fail
  have hB : Below w.heap.size w (w.alloc (.cells #[.int .i64 1] 30)) := (Below.refl _ _).alloc (Nat.le_refl _) _
  have hc : (w.alloc (.cells #[.int .i64 1] 30)).cell? ⟨w.heap.size, 0, none⟩ = some (.int .i64 1) := by rw [cell_of_row _ w.heap.size 0 _ _ _ (heap_alloc_new w _)]; rfl
  obtain ⟨w1, hw⟩ : ∃ x, w.alloc (.cells #[.int .i64 1] 30) = x := ⟨_, rfl⟩
  rw [hw] at hB hc ⊢
  refine bodyPost_ret (v := .int .i64 1) (w := w1) ?_ (by rfl) ?_
  rotate_left
  · exact ⟨rfl, hB⟩
  simp [results, Try.f13, go_sem, hc]

set_option maxHeartbeats 1000000 in
theorem nil_slice (i j : Int) (w : World) : Calls Try.prog 18 #[.pointer none, .int .i64 i, .int .i64 j] w fun e w' => e = .returned (.tuple #[.slice none 0 0, .int .i64 1]) ∧ Below w.heap.size w w' := by
  go_enter Try.func18, Try.ntmps18
  go_wp2_with fail
  refine (nil_between i j _).mono ?_
  rintro e w1 ⟨rfl, hw⟩
  have hB : Below w.heap.size w w1 := by rw [← hw]; exact (Below.refl _ _).alloc (Nat.le_refl _) _
  obtain ⟨b, hb⟩ : ∃ x, w.heap.size = x := ⟨_, rfl⟩
  have hq : w1.heap[b]? = some (.cells #[.slice none 0 0] 26) := by rw [← hw, ← hb]; exact heap_alloc_new w _
  have hc : w1.cell? ⟨b, 0, none⟩ = some (.slice none 0 0) := by rw [cell_of_row w1 b 0 _ _ _ hq]; rfl
  have hf : w1.frozen? ⟨b, 0, none⟩ = false := frozen_of_row w1 b 0 _ _ hq
  have HB := Lib.hid (And.intro hB (And.intro hq hb))
  rw [hb]
  clear hw hB hq hb
  go_wp2_with fail
  have hB2 : Below b w (w1.setCell ⟨b, 0, none⟩ (.slice none 0 0)) := Below.setCell (HB.out.2.2 ▸ HB.out.1) (p := ⟨b, 0, none⟩) (Nat.le_refl _) _
  have hc2 : (w1.setCell ⟨b, 0, none⟩ (.slice none 0 0)).cell? ⟨b, 0, none⟩ = some (.slice none 0 0) := by rw [cell_of_row _ b 0 _ _ _ (heap_setCell_same w1 b 0 _ _ _ HB.out.2.1)]; rfl
  refine bodyPost_ret (v := .tuple #[.slice none 0 0, .int .i64 1]) (w := w1.setCell ⟨b, 0, none⟩ (.slice none 0 0)) ?_ (by rfl) ?_
  rotate_left
  · exact ⟨rfl, by rw [HB.out.2.2]; exact hB2⟩
  simp [results, Try.f18, go_sem, hc2]

/-- append's second type does not matter, if it is a slice. -/
theorem append_types {P : Program} {t t2 ty e e2 : TypeId} (ht : P.underlying t = some (.slice e)) (ht2 : P.underlying t2 = some (.slice e2)) (A0 A : Option Addr) (n0 c0 m c : Nat) (w : World) : (Builtin.append_ #[t, t2] ty #[.slice A0 n0 c0, .slice A m c]).run P w = (Builtin.append_ #[t, t] ty #[.slice A0 n0 c0, .slice A m c]).run P w := by
  unfold Builtin.append_
  simp [run_underlying ht, run_underlying ht2]

theorem append_sees2 {P : Program} {w : World} {ops : Array Oper} {rest : List Oper} {o : Oper} {a : Act} {Q : Exit → Act → World → Prop} (hgd : Region.wanted o (yielded ops a.tmps) = true) (s x : Operand) (t t2 e2 : TypeId)
    (ho : o.op = .call { callee := .builtin .append, args := #[s, x], argTypes := #[t, t2] }) (ht2 : P.underlying t2 = some (.slice e2))
    (base : Nat) (e : TypeId) (i : TypeInfo) (z : Value) (size bytes : Nat) (ht : P.underlying t = some (.slice e)) (hi : P.info? e = some i) (hz : i.zero = some z)
    (hsize : i.size = size) (hby : i.bytes = bytes) (hzs : z.cells.size = size) (hsz : 0 < size)
    (v : Value) (n : Nat) (xs : List Value) (hs : a.eval s = v) (hown : w.ownsRow base e size v n xs)
    (B : Nat) (A : Option Addr) (m c : Nat) (news : List Value) (hx : a.eval x = .slice A m c) (hr : Sees w B size A m news) (h1 : ∀ u ∈ news, u.oneCell' = true)
    (h63 : n + m ≤ maxLen) (hbytes : (n + m) * bytes ≤ 140737488355328) (hbase : base ≤ w.heap.size)
    (h : ∀ v' w', w'.ownsRow base e size v' (n + m) (xs ++ news) → w.grownBy w' v.ownBlock →
      wpList P ops Q rest (a.put o.dst v') w') : wpList P ops Q (o :: rest) a w := by
  refine wpList_step fun K hK => ?_
  rw [if_pos hgd]
  obtain ⟨v', w', hrun, h2, h3, h4, h5⟩ := run_append_sees (P := P) w base t o.type e i z size bytes ht hi hz hsize hby hzs hsz v n xs hown B A m c news hr h1 h63 hbytes hbase
  obtain ⟨A0, c0, rfl, -⟩ := own_shape hown
  unfold Oper.wp execOp
  simp only [ho, resolve, invoke, builtin, Sem.run_bind, Sem.run_pure, Result.andThen_ok, List.map_toArray, List.map_cons, List.map_nil, hs, hx, append_types ht ht2, hrun]
  exact hK _ _ (h v' w' h2 h3)

end Go.Proofs.Ytmfkdaannjibfaa

namespace Go.Proofs.Ytmfkdaannjibfaa
open Go.RowKit

theorem insR_nil_len {l : List Int} {i : Int} (h : insE [] i l = 0) : (insR [] i l).length = l.length := by
  unfold insR
  rw [if_pos h]
  simp
/-- What the document's Insert into no runes tells. -/
def RefIns (w : World) (i : Int) (l : List Int) (e : Ending) (w' : World) : Prop := ∃ A m c, e = .returned (.tuple #[.slice A m c, .int .i64 (insE [] i l)]) ∧ m = (insR [] i l).length ∧ Below w.heap.size w w'

set_option maxRecDepth 100000 in
set_option maxHeartbeats 2000000 in
theorem refIns_any {w : World} {B n c : Nat} {A : Option Addr} {l : List Int} (hs : Sees w B 1 A n (l.map r32)) (hB : B ≤ w.heap.size) (hn : n ≤ 1000) (i : Int) (br : Nat) :
    Calls Try.prog 22 #[.slice (some ⟨br, 0, none⟩) 0 0, .int .i64 i, .slice A n c] w fun e w' => RefIns w i l e w' := by
  obtain ⟨i0, ii0, iz0, iz1, iz2⟩ := info_parts r32_info
  have hl : l.length = n := by have := hs.1; simp at this; omega
  have HL := Lib.hid (And.intro hl hs)
  have hnI : (n : Int) ≤ 1000 := by omega
  have HB := Lib.hid hB
  clear hl hs hB
  go_enter Try.func22, Try.ntmps22
  go_wp2_with fail
  go_loop [8] (fun v8 => ∃ j : Nat, j ≤ n ∧ v8 = .int .i64 j ∧ (l.take j).all codeB = true) (fun v8 => n - (intOf v8).toNat)
  case atStart => exact ⟨0, Nat.zero_le _, rfl, rfl⟩
  case round =>
    obtain ⟨j, hj, rfl, hg⟩ := hrel
    by_cases hlt : j < n
    · obtain ⟨x, hx⟩ : ∃ x, l[j]? = some x := ⟨_, List.getElem?_eq_getElem (by rw [HL.out.1]; exact hlt)⟩
      have hltI : (j : Int) < n := by omega
      obtain ⟨bb, f, rfl, hbb, hcell⟩ := HL.out.2.2 (by omega)
      have hcx := hcell j (.int .i32 x) (by rw [List.getElem?_map, hx]; rfl)
      have hgs : (l.take (j + 1)).all codeB = codeB x := by
        obtain ⟨hj2, he⟩ := List.getElem?_eq_some_iff.1 hx
        rw [List.take_succ_eq_append_getElem hj2, List.all_append, hg, he]
        simp
      have HG := Lib.hid (And.intro hgs hx)
      have g2 : IntKind.i64.wrap ((j : Int) + 1) = (j : Int) + 1 := IntWalk.i64_in _ (by omega)
      clear hcell hx hgs hg
      have hcb := Classical.em (codeB x = true)
      obtain ⟨cb, hcc⟩ : ∃ y, codeB x = y := ⟨_, rfl⟩
      have HCB := Lib.hid (refCode_any x)
      rw [hcc] at HCB hcb
      have HCC := Lib.hid hcc
      clear hcc
      cases cb with
      | true =>
        go_wp2_with fail
        refine (HCB.out _).mono ?_
        rintro e w1 ⟨rfl, rfl⟩
        go_wp2_with fail
        go_round
        case rel => exact ⟨j + 1, by omega, by go_num, by rw [HG.out.1]; exact HCC.out⟩
        case measure => simp [intOf]; omega
      | false =>
        go_wp2_with fail
        refine (HCB.out _).mono ?_
        rintro e w1 ⟨rfl, rfl⟩
        have hbad : l.all codeB = false := by
          cases hq : l.all codeB with
          | false => rfl
          | true =>
            have := List.all_eq_true.1 hq x (List.mem_of_getElem? HG.out.2)
            rw [HCC.out] at this; cases this
        have HE := Lib.hid (insE_bad (R := []) (i := i) hbad)
        have HX := Lib.hid (show insR [] i l = [] from by unfold insR; rw [if_neg (by rw [HE.out]; decide)])
        clear hbad
        go_wp2_with fail
        go_ret2
        exact ⟨_, 0, 0, by rw [HE.out]; rfl, by rw [HX.out]; rfl, Below.refl _ _⟩
    · obtain rfl : j = n := by omega
      have hgood : l.all codeB = true := by rw [List.take_of_length_le (by rw [HL.out.1]; exact Nat.le_refl _)] at hg; exact hg
      have HGD := Lib.hid hgood
      clear hg hgood
      have hcase : i < 0 ∨ (¬ i < 0 ∧ (0 : Int) < i) ∨ i = 0 := by omega
      rcases hcase with h1 | ⟨h1, h2⟩ | rfl
      · have HE := Lib.hid (show insE [] i l = 5 from by unfold insE; rw [if_pos HGD.out]; unfold betR; rw [if_neg (by simp; omega)])
        have HX := Lib.hid (show insR [] i l = [] from by unfold insR; rw [if_neg (by rw [HE.out]; decide)])
        go_wp2_with fail
        go_ret2
        exact ⟨_, 0, 0, by rw [HE.out]; rfl, by rw [HX.out]; rfl, Below.refl _ _⟩
      · have HE := Lib.hid (show insE [] i l = 5 from by unfold insE; rw [if_pos HGD.out]; unfold betR; rw [if_neg (by simp; omega)])
        have HX := Lib.hid (show insR [] i l = [] from by unfold insR; rw [if_neg (by rw [HE.out]; decide)])
        go_wp2_with fail
        go_ret2
        exact ⟨_, 0, 0, by rw [HE.out]; rfl, by rw [HX.out]; rfl, Below.refl _ _⟩
      · have HE := Lib.hid (show insE [] 0 l = 0 ∧ insR [] 0 l = l from by
          rcases ins_nil l with ⟨e1, e2, -⟩ | ⟨-, -, e3⟩
          · exact ⟨e1, e2⟩
          · rw [HGD.out] at e3; cases e3)
        obtain ⟨b8, hb8⟩ : ∃ x, w.heap.size = x := ⟨_, rfl⟩
        obtain ⟨w8, hw8⟩ : ∃ x, w.alloc (.cells #[] 21) = x := ⟨_, rfl⟩
        have hB8 : Below b8 w w8 := by rw [← hw8, ← hb8]; exact (Below.refl _ _).alloc (Nat.le_refl _) _
        have hO8 : w8.ownsRow b8 21 1 (.slice (some ⟨b8, 0, none⟩) 0 0) 0 [] := by rw [← hw8, ← hb8]; exact own_zero1 w 21
        have h8 : b8 ≤ w8.heap.size := by rw [← hb8]; exact hb8 ▸ hB8.size
        have HA := Lib.hid (And.intro hB8 (And.intro hO8 (hb8 ▸ HB.out : B ≤ b8)))
        have HE7 := Lib.hid hb8
        clear hB8 hO8
        go_wp2_with (first
          | (refine append_seesG (by rfl) (.tmp 32) (.tmp 35) 51 rfl b8 21 i0 _ 1 4 Try.underlying51 ii0 iz0 iz1 iz2 rfl (by omega) _ 0 [] rfl HA.out.2.1 b8 _ 0 _ _ rfl (Sees.nil_ _ _ _ _) (fun _ h => nomatch h) (by simp only [maxLen]; omega) (by omega) h8 ?_
             intro v9 w9 hown9 hg9 hat9
             rw [Nat.zero_add, List.nil_append] at hown9
             have HA9 := Lib.hid (show w9.ownsRow b8 21 1 v9 0 [] ∧ Below b8 w w9 from ⟨hown9, HA.out.1.grown hg9 h8 (fun k hk => own_base HA.out.2.1 hk)⟩)
             have h9 : b8 ≤ w9.heap.size := Nat.le_trans h8 hg9.size
             have HS9 := Lib.hid (HL.out.2.below HA9.out.2 HA.out.2.2)
             obtain ⟨A9, c9, rfl, -, -, -, -⟩ := own_shape hown9
             clear hown9 hg9 hat9)
          | (refine append_sees2 (by rfl) (.tmp 37) (.tmp 38) 51 26 21 rfl Try.underlying26 b8 21 i0 _ 1 4 Try.underlying51 ii0 iz0 iz1 iz2 rfl (by omega) _ 0 [] rfl HA9.out.1 B _ j c _ rfl HS9.out (r32_one _) (by simp only [maxLen]; omega) (by omega) h9 ?_
             intro va wa0 howna hga
             rw [Nat.zero_add, List.nil_append] at howna
             have HAa := Lib.hid (show wa0.ownsRow b8 21 1 va j (l.map r32) ∧ Below b8 w wa0 from ⟨howna, HA9.out.2.grown hga h9 (fun k hk => own_base HA9.out.1 hk)⟩)
             have ha : b8 ≤ wa0.heap.size := Nat.le_trans h9 hga.size
             obtain ⟨Aa, ca, rfl, -, -, -, -⟩ := own_shape howna
             clear howna hga)
          | (refine append_seesG (by rfl) (.tmp 40) (.tmp 43) 51 rfl b8 21 i0 _ 1 4 Try.underlying51 ii0 iz0 iz1 iz2 rfl (by omega) _ j _ rfl HAa.out.1 b8 _ 0 _ _ rfl (Sees.nil_ _ _ _ _) (fun _ h => nomatch h) (by simp only [maxLen]; omega) (by omega) ha ?_
             intro vb wb0 hownb hgb hatb
             rw [Nat.add_zero, List.append_nil] at hownb
             have HAb := Lib.hid (HAa.out.2.grown hgb ha (fun k hk => own_base HAa.out.1 hk))
             obtain ⟨Ab, cb, rfl, -, -, -, -⟩ := own_shape hownb
             clear hownb hgb hatb))
        go_ret2
        exact ⟨_, j, _, by rw [HE.out.1]; rfl, by rw [HE.out.2, HL.out.1], by rw [HE7.out]; exact HAb.out⟩

set_option maxRecDepth 100000 in
set_option maxHeartbeats 4000000 in
theorem none_law (o : OpS) (w : World) (ho : o.Ok w) : Calls Try.prog 8 #[.agg o.cells.toArray] w fun e w' => e = .returned (.bool true) ∧ Below w.heap.size w w' := by
  obtain ⟨b1, hb1⟩ : ∃ v, w.heap.size = v := ⟨_, rfl⟩
  obtain ⟨w1, hw1⟩ : ∃ v, w.alloc (.cells #[.int .i64 o.kind, .int .i64 o.i, .int .i64 o.j, .int .i64 o.n, .slice o.A o.len o.cap] 28) = v := ⟨_, rfl⟩
  have S1 : Star w [boxI b1 (.cells #[.int .i64 o.kind, .int .i64 o.i, .int .i64 o.j, .int .i64 o.n, .slice o.A o.len o.cap] 28)] w1 := Star.add (Star.nil_ w) (by rw [← hw1]; exact (Below.refl _ _).alloc (Nat.le_refl _) _) (show w1.heap[b1]? = _ by rw [← hw1, ← hb1]; exact heap_alloc_new w _) (fun k hk => by have hk : k = b1 := hk; omega)
  obtain ⟨bz, hbz⟩ : ∃ v, w1.heap.size = v := ⟨_, rfl⟩
  obtain ⟨w2, hw2⟩ : ∃ v, w1.alloc (.cells #[.pointer none] 50) = v := ⟨_, rfl⟩
  have S2 : Star w [roI (fun k => k = bz) bz [] 0, boxI b1 (.cells #[.int .i64 o.kind, .int .i64 o.i, .int .i64 o.j, .int .i64 o.n, .slice o.A o.len o.cap] 28)] w2 := S1.add (by rw [← hw2]; exact (Below.refl _ _).alloc (Nat.le_refl _) _) (show RoS w2 (fun k => k = bz) bz [] 0 from ⟨[], .inl ⟨by rw [← hw2, ← hbz]; exact heap_alloc_new w1 _, rfl, fun _ => Iff.rfl⟩, rfl, Nat.le_refl _⟩) (fun k hk => by have hk : k = bz := hk; omega)
  have HS1 := Lib.hid S1
  have HS2 := Lib.hid S2
  have HO := Lib.hid ho
  have HE := Lib.hid (And.intro (And.intro hb1 hw1) (And.intro hbz hw2))
  have q1 : w1.heap[b1]? = some (.cells #[.int .i64 o.kind, .int .i64 o.i, .int .i64 o.j, .int .i64 o.n, .slice o.A o.len o.cap] 28) := S1.all (boxI b1 (.cells #[.int .i64 o.kind, .int .i64 o.i, .int .i64 o.j, .int .i64 o.n, .slice o.A o.len o.cap] 28)) (by simp)
  have c1_1 : w1.cell? ⟨b1, 1, none⟩ = some (.int .i64 o.i) := by rw [cell_of_row w1 b1 1 _ _ _ q1]; rfl
  have c1_2 : w1.cell? ⟨b1, 2, none⟩ = some (.int .i64 o.j) := by rw [cell_of_row w1 b1 2 _ _ _ q1]; rfl
  have c1_4 : w1.cell? ⟨b1, 4, none⟩ = some (.slice o.A o.len o.cap) := by rw [cell_of_row w1 b1 4 _ _ _ q1]; rfl
  have q2 : w2.heap[b1]? = some (.cells #[.int .i64 o.kind, .int .i64 o.i, .int .i64 o.j, .int .i64 o.n, .slice o.A o.len o.cap] 28) := S2.all (boxI b1 (.cells #[.int .i64 o.kind, .int .i64 o.i, .int .i64 o.j, .int .i64 o.n, .slice o.A o.len o.cap] 28)) (by simp)
  have c2_1 : w2.cell? ⟨b1, 1, none⟩ = some (.int .i64 o.i) := by rw [cell_of_row w2 b1 1 _ _ _ q2]; rfl
  have c2_2 : w2.cell? ⟨b1, 2, none⟩ = some (.int .i64 o.j) := by rw [cell_of_row w2 b1 2 _ _ _ q2]; rfl
  have c2_4 : w2.cell? ⟨b1, 4, none⟩ = some (.slice o.A o.len o.cap) := by rw [cell_of_row w2 b1 4 _ _ _ q2]; rfl
  clear S1 S2 ho q1 q2 hb1 hw1 hbz hw2
  show Calls _ _ #[.agg #[.int .i64 o.kind, .int .i64 o.i, .int .i64 o.j, .int .i64 o.n, .slice o.A o.len o.cap]] w _
  by_cases hbig : (100 : Int) < o.len
  · go_enter Try.func8, Try.ntmps8
    go_upto_region 1 with (fail)
    rw [HE.out.1.1, HE.out.1.2]
    go_wp2_with fail
    refine (known_any _).mono ?_
    rintro e wz ⟨rfl, hbz⟩
    have HBz := Lib.hid (HS1.out.below.trans (hbz.mono HS1.out.below.size))
    clear hbz
    go_wp2_with fail
    go_ret
    exact ⟨rfl, HBz.out⟩
  · have hn100 : o.len ≤ 100 := by omega
    go_enter Try.func8, Try.ntmps8
    go_upto_region 1 with (fail)
    rw [HE.out.1.1, HE.out.1.2]
    go_upto_region 5 with (fail)
    rw [HE.out.2.1, HE.out.2.2]
    clear c1_1 c1_2 c1_4
    go_wp2_with fail
    refine (nil_at o.i _).mono ?_
    rintro e w' ⟨rfl, rfl⟩
    go_wp2_with fail
    refine (nil_slice o.i o.j _).mono ?_
    rintro e w3 ⟨rfl, hb3⟩
    have S3 := HS2.out.later hb3
    have HS3 := Lib.hid S3
    have q3 : w3.heap[b1]? = some (.cells #[.int .i64 o.kind, .int .i64 o.i, .int .i64 o.j, .int .i64 o.n, .slice o.A o.len o.cap] 28) := S3.all (boxI b1 (.cells #[.int .i64 o.kind, .int .i64 o.i, .int .i64 o.j, .int .i64 o.n, .slice o.A o.len o.cap] 28)) (by simp)
    have c3_1 : w3.cell? ⟨b1, 1, none⟩ = some (.int .i64 o.i) := by rw [cell_of_row w3 b1 1 _ _ _ q3]; rfl
    have c3_2 : w3.cell? ⟨b1, 2, none⟩ = some (.int .i64 o.j) := by rw [cell_of_row w3 b1 2 _ _ _ q3]; rfl
    have c3_4 : w3.cell? ⟨b1, 4, none⟩ = some (.slice o.A o.len o.cap) := by rw [cell_of_row w3 b1 4 _ _ _ q3]; rfl
    clear hb3 S3 q3 c2_1 c2_2 c2_4
    go_wp2_with fail
    refine (nil_line o.i _).mono ?_
    rintro e w' ⟨rfl, rfl⟩
    go_wp2_with fail
    refine (nil_off o.i _).mono ?_
    rintro e w' ⟨rfl, rfl⟩
    go_wp2_with fail
    refine (nil_split o.i _).mono ?_
    rintro e w' ⟨rfl, rfl⟩
    obtain ⟨b4, hb4⟩ : ∃ v, w3.heap.size = v := ⟨_, rfl⟩
    obtain ⟨w4, hw4⟩ : ∃ v, w3.alloc (.cells #[] 21) = v := ⟨_, rfl⟩
    have S4 := HS3.out.later (w' := w4) (by rw [← hw4]; exact (Below.refl _ _).alloc (Nat.le_refl _) _)
    have HS4 := Lib.hid S4
    have HE4 := Lib.hid (And.intro hb4 hw4)
    have q4 : w4.heap[b1]? = some (.cells #[.int .i64 o.kind, .int .i64 o.i, .int .i64 o.j, .int .i64 o.n, .slice o.A o.len o.cap] 28) := S4.all (boxI b1 (.cells #[.int .i64 o.kind, .int .i64 o.i, .int .i64 o.j, .int .i64 o.n, .slice o.A o.len o.cap] 28)) (by simp)
    have c4_1 : w4.cell? ⟨b1, 1, none⟩ = some (.int .i64 o.i) := by rw [cell_of_row w4 b1 1 _ _ _ q4]; rfl
    have c4_2 : w4.cell? ⟨b1, 2, none⟩ = some (.int .i64 o.j) := by rw [cell_of_row w4 b1 2 _ _ _ q4]; rfl
    have c4_4 : w4.cell? ⟨b1, 4, none⟩ = some (.slice o.A o.len o.cap) := by rw [cell_of_row w4 b1 4 _ _ _ q4]; rfl
    have HRI := Lib.hid (refIns_any (c := o.cap) (arg_sees S4 HO.out.sees) (Nat.le_refl _) (by omega) o.i b4)
    clear S4 q4 c3_1 c3_2 c3_4
    go_wp2_with fail
    refine HRI.out.mono ?_
    clear HRI hb4 hw4
    rintro e w5 ⟨Aw, m, cw, rfl, hm, hb5⟩
    have S5 := HS4.out.later hb5
    have HS5 := Lib.hid S5
    have q5 : w5.heap[b1]? = some (.cells #[.int .i64 o.kind, .int .i64 o.i, .int .i64 o.j, .int .i64 o.n, .slice o.A o.len o.cap] 28) := S5.all (boxI b1 (.cells #[.int .i64 o.kind, .int .i64 o.i, .int .i64 o.j, .int .i64 o.n, .slice o.A o.len o.cap] 28)) (by simp)
    have c5_1 : w5.cell? ⟨b1, 1, none⟩ = some (.int .i64 o.i) := by rw [cell_of_row w5 b1 1 _ _ _ q5]; rfl
    have c5_2 : w5.cell? ⟨b1, 2, none⟩ = some (.int .i64 o.j) := by rw [cell_of_row w5 b1 2 _ _ _ q5]; rfl
    have c5_4 : w5.cell? ⟨b1, 4, none⟩ = some (.slice o.A o.len o.cap) := by rw [cell_of_row w5 b1 4 _ _ _ q5]; rfl
    obtain ⟨E, hE⟩ : ∃ x, insE [] o.i o.l = x := ⟨_, rfl⟩
    rw [hE]
    have HM := Lib.hid (And.intro hm hE)
    clear hb5 S5 q5 c4_1 c4_2 c4_4 hm hE
    go_wp2_with fail
    refine (nil_insert o.i o.A o.len o.cap _).mono ?_
    rintro e w6 ⟨rfl, hb6⟩
    have S6 := HS5.out.later hb6
    have HS6 := Lib.hid S6
    have q6 : w6.heap[b1]? = some (.cells #[.int .i64 o.kind, .int .i64 o.i, .int .i64 o.j, .int .i64 o.n, .slice o.A o.len o.cap] 28) := S6.all (boxI b1 (.cells #[.int .i64 o.kind, .int .i64 o.i, .int .i64 o.j, .int .i64 o.n, .slice o.A o.len o.cap] 28)) (by simp)
    have c6_1 : w6.cell? ⟨b1, 1, none⟩ = some (.int .i64 o.i) := by rw [cell_of_row w6 b1 1 _ _ _ q6]; rfl
    have c6_2 : w6.cell? ⟨b1, 2, none⟩ = some (.int .i64 o.j) := by rw [cell_of_row w6 b1 2 _ _ _ q6]; rfl
    have c6_4 : w6.cell? ⟨b1, 4, none⟩ = some (.slice o.A o.len o.cap) := by rw [cell_of_row w6 b1 4 _ _ _ q6]; rfl
    have HL := Lib.hid (len_star (A := []) (B := [boxI b1 (.cells #[.int .i64 o.kind, .int .i64 o.i, .int .i64 o.j, .int .i64 o.n, .slice o.A o.len o.cap] 28)]) S6)
    rw [show ((([] : List Int).length : Nat) : Int) = 0 from rfl] at HL
    clear hb6 S6 q6 c5_1 c5_2 c5_4
    go_wp2_with fail
    refine (nil_delete o.i o.j _).mono ?_
    rintro e w' ⟨rfl, rfl⟩
    go_wp2_with fail
    refine (nil_concat ⟨bz, 0, none⟩ _).mono ?_
    rintro e w' ⟨rfl, rfl⟩
    go_wp2_with fail
    refine (nil_len _).mono ?_
    rintro e w' ⟨rfl, rfl⟩
    go_wp2_with fail
    refine (nil_newlines _).mono ?_
    rintro e w' ⟨rfl, rfl⟩
    go_wp2_with fail
    refine (nil_height _).mono ?_
    rintro e w' ⟨rfl, rfl⟩
    go_wp2_with fail
    refine (nil_copy _).mono ?_
    rintro e w' ⟨rfl, rfl⟩
    go_wp2_with fail
    refine HL.out.mono ?_
    clear HL
    rintro e w7 ⟨H7, rfl, S7⟩
    have q7 : w7.heap[b1]? = some (.cells #[.int .i64 o.kind, .int .i64 o.i, .int .i64 o.j, .int .i64 o.n, .slice o.A o.len o.cap] 28) := S7.all (boxI b1 (.cells #[.int .i64 o.kind, .int .i64 o.i, .int .i64 o.j, .int .i64 o.n, .slice o.A o.len o.cap] 28)) (by simp)
    have c7_1 : w7.cell? ⟨b1, 1, none⟩ = some (.int .i64 o.i) := by rw [cell_of_row w7 b1 1 _ _ _ q7]; rfl
    have c7_2 : w7.cell? ⟨b1, 2, none⟩ = some (.int .i64 o.j) := by rw [cell_of_row w7 b1 2 _ _ _ q7]; rfl
    have c7_4 : w7.cell? ⟨b1, 4, none⟩ = some (.slice o.A o.len o.cap) := by rw [cell_of_row w7 b1 4 _ _ _ q7]; rfl
    have HI := Lib.hid (ins_star (A := []) (B := [boxI b1 (.cells #[.int .i64 o.kind, .int .i64 o.i, .int .i64 o.j, .int .i64 o.n, .slice o.A o.len o.cap] 28)]) S7 (arg_sees S7 HO.out.sees) HO.out.le (by omega) (by unfold chkN; omega) o.i)
    rw [HM.out.2] at HI
    clear S7 q7 c6_1 c6_2 c6_4
    go_wp2_with fail
    refine HI.out.mono ?_
    clear HI
    rintro e w8 ⟨H8, rfl, S8⟩
    have HL := Lib.hid (len_star (A := []) (B := [boxI b1 (.cells #[.int .i64 o.kind, .int .i64 o.i, .int .i64 o.j, .int .i64 o.n, .slice o.A o.len o.cap] 28)]) S8)
    rw [← HM.out.1] at HL
    clear S8 c7_1 c7_2 c7_4
    go_wp2_with fail
    refine HL.out.mono ?_
    clear HL
    rintro e w9 ⟨H9, rfl, S9⟩
    have HB := Lib.hid S9
    clear S9
    go_wp2_with fail
    refine (known_any _).mono ?_
    rintro e wz ⟨rfl, hbz⟩
    have HBz := Lib.hid (HB.out.below.trans (hbz.mono HB.out.below.size))
    clear hbz
    go_wp2_with fail
    go_ret
    exact ⟨rfl, HBz.out⟩

end Go.Proofs.Ytmfkdaannjibfaa
