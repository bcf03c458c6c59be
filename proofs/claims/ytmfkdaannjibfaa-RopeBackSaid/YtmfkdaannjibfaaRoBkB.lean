/-
  The walk of RopeBack.
-/
import Derived.Deep.Slices
import Derived.Deep.Strs
import Derived.ChangeSame
import Derived.Test.YtmfkdaannjibfaaBdP
namespace Go.Proofs.Ytmfkdaannjibfaa
open Go.RowKit Go.ChangeShapes Go.WideShapes Go.Deep

theorem list_of {α : Type} {Q : Nat → α → Prop} : ∀ n : Nat, (∀ i, i < n → ∃ o, Q i o) → ∃ l : List α, l.length = n ∧ ∀ i o, l[i]? = some o → Q i o := by
  intro n
  induction n with
  | zero => intro _; exact ⟨[], rfl, fun i o h => by simp at h⟩
  | succ n ih =>
    intro h
    obtain ⟨l, hl, hq⟩ := ih fun i hi => h i (by omega)
    obtain ⟨o, ho⟩ := h n (by omega)
    refine ⟨l ++ [o], by simp [hl], fun i o' hi => ?_⟩
    rw [List.getElem?_append] at hi
    split at hi
    · exact hq i o' hi
    · have hz : i - l.length = 0 := by
        rcases Nat.eq_zero_or_pos (i - l.length) with h0 | h0
        · exact h0
        · rw [List.getElem?_eq_none (by simp; omega)] at hi; cases hi
      rw [hz] at hi
      simp at hi
      subst hi
      rw [show i = n by omega]
      exact ho

theorem sees_rows {α : Type} {enc : α → List Value} {C : Nat} (hC : ∀ o, (enc o).length = C) (h0 : 0 < C) {w : World} {a : Addr} {l : List α} (h : ∀ i o, l[i]? = some o → ∀ j v, (enc o)[j]? = some v → w.cell? (a.add (i * C + j)) = some v) :
    Sees w w.heap.size C (some a) l.length (l.flatMap enc) := by
  refine ⟨flat_len enc C hC l, fun hn => ?_⟩
  have hl0 : l[0]? = some (l[0]'hn) := List.getElem?_eq_getElem hn
  have hc0 := h 0 _ hl0 0 _ (List.getElem?_eq_getElem (by rw [hC]; exact h0))
  obtain ⟨b, o, sp⟩ := a
  have hsp : sp = none := by simpa [Addr.add] using World.cell?_spot hc0
  subst hsp
  refine ⟨b, o, rfl, ?_, fun j u hu => ?_⟩
  · have := World.block_lt_of_cell? w _ hc0
    simpa [Addr.add] using this
  · have hj : j = j / C * C + j % C := by rw [Nat.mul_comm]; exact (Nat.div_add_mod j C).symm
    rw [hj, flat_get enc C hC _ _ _ (Nat.mod_lt _ h0)] at hu
    cases hq : l[j / C]? with
    | none => rw [hq] at hu; cases hu
    | some o' =>
      rw [hq] at hu
      have := h _ _ hq _ _ hu
      rw [Addr.add_lit, ← hj] at this
      exact this

end Go.Proofs.Ytmfkdaannjibfaa

namespace Go.Proofs.Ytmfkdaannjibfaa
open Go.RowKit Go.ChangeShapes Go.WideShapes Go.Deep

/-- A call of a script. -/
structure OpS where
  kind : Int
  i : Int
  j : Int
  n : Int
  A : Option Addr
  len : Nat
  cap : Nat
  l : List Int
def OpS.cells (o : OpS) : List Value := [.int .i64 o.kind, .int .i64 o.i, .int .i64 o.j, .int .i64 o.n, .slice o.A o.len o.cap]
structure OpS.Ok (w : World) (o : OpS) : Prop where
  sees : Sees w w.heap.size 1 o.A o.len (o.l.map r32)
  len : o.l.length = o.len
  le : o.len ≤ o.cap
  cap : o.cap ≤ maxLen
  wi : -9223372036854775808 ≤ o.i ∧ o.i ≤ 9223372036854775807
  wj : -9223372036854775808 ≤ o.j ∧ o.j ≤ 9223372036854775807

theorem wf_i64 {n : Int} (h : (Lit.int .i64 n).wf = true) : -9223372036854775808 ≤ n ∧ n ≤ 9223372036854775807 := by
  simp [Lit.wf, IntKind.min, IntKind.max, IntKind.bits, IntKind.signed] at h
  omega

theorem open_op {H : Type} {enc : TypeId × Value → H} {w : World} {base : Nat} {held : Bool} {fuel : Nat} {cs : List Value} {x : DataW H × List MemPlace} (h : DataW.trod enc Try.prog w base (fun _ => true) held fuel 28 cs = some x) :
    ∃ o : OpS, cs = o.cells ∧ o.Ok w := by
  obtain ⟨f, hf6, hfl⟩ : ∃ f : Array Field, Try.prog.underlying 28 = some (.struct f) ∧ f.toList.map (fun q => (q.type, q.offset)) = [(3, 0), (3, 1), (3, 2), (3, 3), (26, 4)] := ⟨_, Try.underlying28, rfl⟩
  obtain ⟨xs, n, _, rfl, hl, hlen, hf⟩ := DataW.trod_struct hf6 h
  have hcl : Try.prog.cellsOf 28 = 5 := by kernel_rfl
  rw [hcl] at hl
  obtain ⟨g, hg⟩ : ∃ g : List Field, f.toList = g := ⟨_, rfl⟩
  have hgf : ∀ j, g[j]? = f[j]? := fun j => by rw [← hg, Array.getElem?_toList]
  have hsz : f.size = g.length := by rw [← hg, Array.length_toList]
  rw [hg] at hfl
  have hgl : g.length = 5 := by have := congrArg List.length hfl; simpa using this
  clear hg hf6 h
  rcases g with _ | ⟨f0, _ | ⟨f1, _ | ⟨f2, _ | ⟨f3, _ | ⟨f4, _ | ⟨f5, g⟩⟩⟩⟩⟩⟩
  · simp at hgl
  · simp at hgl
  · simp at hgl
  · simp at hgl
  · simp at hgl
  rotate_left
  · simp at hgl
  rcases cs with _ | ⟨v0, _ | ⟨v1, _ | ⟨v2, _ | ⟨v3, _ | ⟨v4, _ | ⟨v5, cs⟩⟩⟩⟩⟩⟩
  · simp at hl
  · simp at hl
  · simp at hl
  · simp at hl
  · simp at hl
  rotate_left
  · simp at hl
  · simp only [List.map_cons, List.map_nil, List.cons.injEq, Prod.mk.injEq, and_true] at hfl
    obtain ⟨⟨t0, o0⟩, ⟨t1, o1⟩, ⟨t2, o2⟩, ⟨t3, o3⟩, t4, o4⟩ := hfl
    have hxl : xs.length = 5 := by rw [hsz] at hlen; simpa using hlen
    have ci : Try.prog.cellsOf 3 = 1 := by kernel_rfl
    have cl : Try.prog.cellsOf 26 = 1 := by kernel_rfl
    have h0 := hf 0 f0 (by rw [← hgf]; rfl)
    have h1 := hf 1 f1 (by rw [← hgf]; rfl)
    have h2 := hf 2 f2 (by rw [← hgf]; rfl)
    have h3 := hf 3 f3 (by rw [← hgf]; rfl)
    have h4 := hf 4 f4 (by rw [← hgf]; rfl)
    rw [t0, o0, ci, List.getElem?_eq_getElem (by omega)] at h0
    rw [t1, o1, ci, List.getElem?_eq_getElem (by omega)] at h1
    rw [t2, o2, ci, List.getElem?_eq_getElem (by omega)] at h2
    rw [t3, o3, ci, List.getElem?_eq_getElem (by omega)] at h3
    rw [t4, o4, cl, List.getElem?_eq_getElem (by omega)] at h4
    obtain ⟨z0, e0, _, w0⟩ := DataW.trod_int Try.underlying3 h0
    obtain ⟨z1, e1, _, w1⟩ := DataW.trod_int Try.underlying3 h1
    obtain ⟨z2, e2, _, w2⟩ := DataW.trod_int Try.underlying3 h2
    obtain ⟨z3, e3, _, w3⟩ := DataW.trod_int Try.underlying3 h3
    simp at e0 e1 e2 e3
    subst e0 e1 e2 e3
    have hsl : ∃ a len cap, v4 = .slice a len cap := by
      rcases open_slice Try.underlying26 h4 with ⟨hcs, _⟩ | ⟨ad, len', cap', _, _, _, _, hcs, _⟩
      · simp at hcs; exact ⟨_, _, _, hcs⟩
      · simp at hcs; exact ⟨_, _, _, hcs⟩
    obtain ⟨a, len, cap, rfl⟩ := hsl
    obtain ⟨l, s1, s2, s3, s4⟩ : ∃ l : List Int, Sees w w.heap.size 1 a len (l.map r32) ∧ l.length = len ∧ len ≤ cap ∧ cap ≤ maxLen := by
      rcases open_ints Try.underlying26 Try.underlying21 (by kernel_rfl) h4 with ⟨hcs, _⟩ | ⟨x, l, c, zs, hcs, _, hl2, hm, hz, _, hcell, hwz⟩
      · simp at hcs
        obtain ⟨rfl, rfl, rfl⟩ := hcs
        exact ⟨[], Sees.nil_ _ _ _ _, rfl, Nat.le_refl _, Nat.zero_le _⟩
      · simp at hcs
        obtain ⟨rfl, rfl, rfl⟩ := hcs
        obtain ⟨l, h1, h2, h3, h4, _⟩ := ints_of_row (w := w) (k := .i32) (a := some x) (len := len) (cap := cap) (zs := zs) (.inr ⟨_, rfl, hl2, hm, by simpa using hz, hcell, hwz⟩)
        exact ⟨l, h1, h2, h3, h4⟩
    exact ⟨⟨z0, z1, z2, z3, a, len, cap, l⟩, rfl, s1, s2, s3, s4, wf_i64 w1, wf_i64 w2⟩

theorem open_opl {H : Type} {enc : TypeId × Value → H} {w : World} {base : Nat} {held : Bool} {fuel : Nat} {a : Option Addr} {len cap : Nat} {x : DataW H × List MemPlace}
    (h : DataW.trod enc Try.prog w base (fun _ => true) held fuel 22 [.slice a len cap] = some x) :
    ∃ l : List OpS, Sees w w.heap.size 5 a len (l.flatMap OpS.cells) ∧ l.length = len ∧ len ≤ maxLen ∧ ∀ o ∈ l, o.Ok w := by
  rcases open_slice Try.underlying22 h with ⟨hcs, _⟩ | ⟨ad, len', cap', m, n, D, Pl, hcs, _, hl, hm, hmm, _, hi⟩
  · simp at hcs
    obtain ⟨rfl, rfl, rfl⟩ := hcs
    exact ⟨[], Sees.nil_ _ _ _ _, rfl, Nat.zero_le _, (fun _ h => nomatch h)⟩
  · simp at hcs
    obtain ⟨rfl, rfl, rfl⟩ := hcs
    have hlm : len ≤ m := by rw [hmm]; split <;> omega
    obtain ⟨l, hll, hq⟩ := list_of (Q := fun i (o : OpS) => o.Ok w ∧ ∀ j v, o.cells[j]? = some v → w.cell? (ad.add (i * 5 + j)) = some v) len fun i hil => by
      obtain ⟨cs', hc, ht'⟩ := hi i (by omega)
      rw [show Try.prog.cellsOf 28 = 5 by kernel_rfl] at hc
      obtain ⟨_, hcl, hat⟩ := World.cells?_some hc
      obtain ⟨o, rfl, ho⟩ := open_op ht'
      refine ⟨o, ho, fun j v hv => ?_⟩
      have hj : j < 5 := (List.getElem?_eq_some_iff.1 hv).1
      have := hat j hj
      rw [Deep.add_add] at this
      exact this.trans hv
    have hs := sees_rows (enc := OpS.cells) (C := 5) (fun _ => rfl) (by omega) (w := w) (a := ad) (l := l) (fun i o ho => (hq i o ho).2)
    rw [hll] at hs
    refine ⟨l, hs, hll, by omega, fun o ho => ?_⟩
    obtain ⟨i, hi'⟩ := List.getElem?_of_mem ho
    exact (hq i o hi').1

end Go.Proofs.Ytmfkdaannjibfaa

namespace Go.Proofs.Ytmfkdaannjibfaa
open Go.RowKit

/-- A call of a law's script, as cells. -/
theorem op_at {w : World} {A : Option Addr} {n : Nat} {ops : List OpS} (h : Sees w w.heap.size 5 A n (ops.flatMap OpS.cells)) {k : Nat} {o : OpS} (hx : ops[k]? = some o) :
    ∃ b f, A = some ⟨b, f, none⟩ ∧ b < w.heap.size ∧ w.cell? ⟨b, f + k * 5 + 0, none⟩ = some (.int .i64 o.kind) ∧ w.cell? ⟨b, f + k * 5 + 1, none⟩ = some (.int .i64 o.i) ∧ w.cell? ⟨b, f + k * 5 + 2, none⟩ = some (.int .i64 o.j) ∧ w.cell? ⟨b, f + k * 5 + 4, none⟩ = some (.slice o.A o.len o.cap) := by
  have hn : n = ops.length := by have h1 := h.1; rw [flat_len OpS.cells 5 (fun _ => rfl)] at h1; omega
  have hk := (List.getElem?_eq_some_iff.1 hx).1
  obtain ⟨b, f, hA, hb, hc⟩ := h.2 (by omega)
  have hg : ∀ j v, o.cells[j]? = some v → w.cell? ⟨b, f + k * 5 + j, none⟩ = some v := fun j v hv => by
    have hj : j < 5 := (List.getElem?_eq_some_iff.1 hv).1
    rw [Nat.add_assoc]
    refine hc _ v ?_
    rw [flat_get OpS.cells 5 (fun _ => rfl) _ _ _ hj, hx]
    exact hv
  exact ⟨b, f, hA, hb, hg 0 _ rfl, hg 1 _ rfl, hg 2 _ rfl, hg 4 _ rfl⟩

/-- A rope of a law's script. -/
structure LX (R : List Int) : Prop where
  len : R.length ≤ 3300
  good : R.all codeB = true
theorem LX.nil_ : LX [] := ⟨by decide, rfl⟩
theorem betR_bounds {R : List Int} {i j : Int} (h : betR R i j = 0) : 0 ≤ i ∧ i ≤ j ∧ j ≤ R.length := betR_zero h
theorem all_take {R : List Int} (h : R.all codeB = true) (k : Nat) : (R.take k).all codeB = true := List.all_eq_true.2 fun x hx => List.all_eq_true.1 h x (List.mem_of_mem_take hx)
theorem all_drop {R : List Int} (h : R.all codeB = true) (k : Nat) : (R.drop k).all codeB = true := List.all_eq_true.2 fun x hx => List.all_eq_true.1 h x (List.mem_of_mem_drop hx)
theorem insE_zero {R : List Int} {i : Int} {l : List Int} (h : insE R i l = 0) : 0 ≤ i ∧ i ≤ R.length ∧ l.all codeB = true := by
  unfold insE at h
  split at h
  · next hg => have := betR_zero h; exact ⟨this.1, this.2.2, hg⟩
  · cases h
theorem insR_len {R : List Int} {i : Int} {l : List Int} : (insR R i l).length ≤ R.length + l.length := by
  unfold insR
  split
  · next h =>
    have := insE_zero h
    rw [List.length_append, List.length_append, List.length_take, List.length_drop]
    omega
  · omega
theorem LX.ins {R : List Int} (h : LX R) (hR : R.length ≤ 3000) (i : Int) {l : List Int} (hl : l.length ≤ 300) : LX (insR R i l) := by
  refine ⟨Nat.le_trans insR_len (by omega), ?_⟩
  unfold insR
  split
  · next hE => rw [List.all_append, List.all_append, all_take h.good, all_drop h.good, (insE_zero hE).2.2]; rfl
  · exact h.good
theorem LX.del {R : List Int} (h : LX R) (i j : Int) : LX (delR R i j) := by
  unfold delR
  split
  · next hb =>
    have hz := betR_zero hb
    refine ⟨?_, by rw [List.all_append, all_take h.good, all_drop h.good]; rfl⟩
    have := h.len
    rw [List.length_append, List.length_take, List.length_drop]
    omega
  · exact h

section
variable {w0 w : World} {H : Nat → Prop} {g k : Nat} {R : List Int} {A B : List Item}
theorem ins_scr (h : Star w0 (A ++ roI H g R (12 * k) :: B) w) (hX : LX R) (hR : R.length ≤ 3000) (hk : k ≤ 40) {o : OpS} (ho : o.Ok w0) (hl : o.len ≤ 300) :
    Calls Try.prog 13 #[.pointer (some ⟨g, 0, none⟩), .int .i64 o.i, .slice o.A o.len o.cap] w fun e w' => ∃ H' v, e = .returned (.int .i64 v) ∧ Star w0 (A ++ roI H' g (insR R o.i o.l) (12 * (k + 1)) :: B) w' ∧ LX (insR R o.i o.l) := by
  have hll := ho.len
  refine (ins_star h (arg_sees h ho.sees) ho.le (by omega) (by unfold chkN; omega) o.i).mono ?_
  rintro e w' ⟨H', he, hS⟩
  exact ⟨H', _, he, ro_more hS (by unfold chkN; omega), hX.ins hR o.i (by omega)⟩
theorem del_scr (h : Star w0 (A ++ roI H g R (12 * k) :: B) w) (hX : LX R) (hk : k ≤ 40) (i j : Int) :
    Calls Try.prog 12 #[.pointer (some ⟨g, 0, none⟩), .int .i64 i, .int .i64 j] w fun e w' => ∃ H' v, e = .returned (.int .i64 v) ∧ Star w0 (A ++ roI H' g (delR R i j) (12 * (k + 1)) :: B) w' ∧ LX (delR R i j) := by
  refine (del_star h (by omega) i j).mono ?_
  rintro e w' ⟨H', he, hS⟩
  exact ⟨H', _, he, ro_more hS (by omega), hX.del i j⟩
end

/-! ### Lines and places -/
theorem off_facts {R : List Int} {n : Int} (h0 : 0 ≤ n) (h1 : n ≤ nls R) :
    ∃ a : Nat, offV R n = .tuple #[.int .i64 (a : Int), .int .i64 0] ∧ a ≤ R.length ∧ nls (R.take a) = n ∧ (0 < n → 0 < a ∧ R[a - 1]? = some 10 ∧ nls (R.take (a - 1)) = n - 1) ∧ (n = 0 → a = 0) := by
  unfold offV
  rw [if_pos ⟨h0, h1⟩]
  by_cases hz : n = 0
  · subst hz
    exact ⟨0, by rw [if_pos rfl]; rfl, Nat.zero_le _, rfl, fun h => absurd h (by decide), fun _ => rfl⟩
  · rw [if_neg hz]
    obtain ⟨j, e1, e2, e3⟩ := nlGo_spec R (n - 1) 0 (by omega) (by omega)
    rw [Nat.zero_add] at e1
    have hj := (List.getElem?_eq_some_iff.1 e2).1
    refine ⟨j + 1, ?_, by omega, ?_, fun _ => ⟨by omega, ?_, ?_⟩, fun h => absurd h hz⟩
    · unfold offK
      rw [e1]
      simp
    · rw [nls_take_succ e2, e3, if_pos rfl]; omega
    · rw [Nat.add_sub_cancel]; exact e2
    · rw [Nat.add_sub_cancel]; exact e3
theorem line_nat {R : List Int} {a : Nat} {n : Int} (h : a ≤ R.length) (hn : nls (R.take a) = n) : lineV R (a : Int) = .tuple #[.int .i64 n, .int .i64 0] := by
  rw [lineV_pos (by omega) (by omega), Int.toNat_natCast, hn]
theorem at_nat {R : List Int} {i : Int} {x : Int} (h0 : 0 ≤ i) (h : R[i.toNat]? = some x) : atR R i = .tuple #[.int .i32 x, .int .i64 0] := by
  have := (List.getElem?_eq_some_iff.1 h).1
  unfold atR
  rw [if_pos (by omega), h]
  rfl
theorem off_none {R : List Int} {n : Int} (h : nls R < n) : offV R n = .tuple #[.int .i64 0, .int .i64 5] := by unfold offV; rw [if_neg (by omega)]
/-- The line of a place begins at it or ahead of it, the next one behind it. -/
theorem off_le {R : List Int} {i : Int} {n : Int} {a : Nat} (h0 : 0 ≤ i) (hn : nls (R.take i.toNat) = n) (h1 : 0 < n → 0 < a ∧ R[a - 1]? = some 10 ∧ nls (R.take (a - 1)) = n - 1) (h2 : n = 0 → a = 0) : (a : Int) ≤ i := by
  have hp := (nls_le (R.take i.toNat)).1
  by_cases hz : n = 0
  · have := h2 hz; omega
  · obtain ⟨a1, a2, a3⟩ := h1 (by omega)
    by_cases hle : a ≤ i.toNat
    · omega
    · have := nls_mono R (i := i.toNat) (j := a - 1) (by omega)
      omega
theorem off_gt {R : List Int} {i : Int} {n : Int} {a : Nat} (h0 : 0 ≤ i) (hn : nls (R.take i.toNat) = n) (ha : nls (R.take a) = n + 1) : i < (a : Int) := by
  by_cases hle : i.toNat < a
  · omega
  · have := nls_mono R (i := a) (j := i.toNat) (by omega)
    omega

end Go.Proofs.Ytmfkdaannjibfaa

namespace Go.Proofs.Ytmfkdaannjibfaa
open Go.RowKit

section
variable {w0 w : World} {L L' : List Item}
theorem ApartAll.perm (hp : L.Perm L') : ApartAll L → ApartAll L' := by
  induction hp with
  | nil => exact id
  | cons x hp ih => exact fun h => ⟨fun J hJ => h.1 J (hp.mem_iff.2 hJ), ih h.2⟩
  | swap x y l =>
    exact fun h => ⟨fun J hJ k hk hj => by
      rcases List.mem_cons.1 hJ with e | e
      · subst e; exact h.1 x List.mem_cons_self k hj hk
      · exact h.2.1 J e k hk hj, fun J hJ => h.1 J (List.mem_cons_of_mem _ hJ), h.2.2⟩
  | trans _ _ h1 h2 => exact fun h => h2 (h1 h)
theorem Star.perm (h : Star w0 L w) (hp : L.Perm L') : Star w0 L' w := ⟨fun J hJ => h.all J (hp.mem_iff.2 hJ), h.apart.perm hp, fun J hJ => h.low J (hp.mem_iff.2 hJ), h.below⟩
end

/-- What is put in is there, and is taken out again. -/
theorem back_facts {R R1 l : List Int} {i : Int} (h : insE R i l = 0) (h1 : insR R i l = R1) : 0 ≤ i ∧ i ≤ R.length ∧ betR R1 i (i + l.length) = 0 ∧ cutR R1 i (i + l.length) = l ∧ delR R1 i (i + l.length) = R := by
  obtain ⟨a0, a1, hg⟩ := insE_zero h
  obtain ⟨P, Q, S, rfl, hp, hq⟩ := split3 (R := R) (i := i) (j := i) a0 (Int.le_refl _) a1
  obtain rfl : Q = [] := List.eq_nil_of_length_eq_zero (by omega)
  rw [List.nil_append] at h1 a1 ⊢
  rw [insR_app hp hg] at h1
  subst h1
  exact ⟨a0, a1, bet_app hp (by omega), cut_app hp (by omega), del_app hp (by omega)⟩

set_option maxRecDepth 100000 in
set_option maxHeartbeats 8000000 in
theorem back_law (A : Option Addr) (n c : Nat) (ops : List OpS) (i : Int) (Am : Option Addr) (nm cm : Nat) (lm : List Int) (w : World) (hs : Sees w w.heap.size 5 A n (ops.flatMap OpS.cells)) (hl : ops.length = n) (hn : n ≤ maxLen) (hok : ∀ o ∈ ops, o.Ok w)
    (hsm : Sees w w.heap.size 1 Am nm (lm.map r32)) (hcm : nm ≤ cm) (hnm : (nm : Int) ≤ 9223372036854775807) :
    Calls Try.prog 7 #[.slice A n c, .int .i64 i, .slice Am nm cm] w fun e w' => e = .returned (.bool true) ∧ Below w.heap.size w w' := by
  have hlm : lm.length = nm := by have := hsm.1; simp at this; omega
  have HSm := Lib.hid (And.intro hsm (And.intro hcm hlm))
  have HS := Lib.hid hs
  have HO := Lib.hid (And.intro hl hok)
  have S0 := Star.nil_ w
  have HC := Lib.hid (newR_star S0)
  unfold maxLen at hn
  clear S0 hs hl hok hsm hcm hlm
  go_enter Try.func7, Try.ntmps7
  go_wp2_with fail
  refine HC.out.mono ?_
  clear HC
  rintro e w1 ⟨g, rfl, S1⟩
  by_cases hbig : (40 : Int) < n
  · have HB := Lib.hid S1
    clear S1
    go_wp2_with fail
    refine (known_any _).mono ?_
    rintro e wz ⟨rfl, hbz⟩
    have HBz := Lib.hid (HB.out.below.trans (hbz.mono HB.out.below.size))
    clear hbz
    go_wp2_with fail
    go_ret
    exact ⟨rfl, HBz.out⟩
  by_cases hbigm : (1000 : Int) < nm
  · have HB := Lib.hid S1
    clear S1
    go_wp2_with fail
    refine (known_any _).mono ?_
    rintro e wz ⟨rfl, hbz⟩
    have HBz := Lib.hid (HB.out.below.trans (hbz.mono HB.out.below.size))
    clear hbz
    go_wp2_with fail
    go_ret
    exact ⟨rfl, HBz.out⟩
  · have HG := Lib.hid S1
    have hn40 : n ≤ 40 := by omega
    have hm1000 : nm ≤ 1000 := by omega
    clear S1
    go_wp2_with fail
    go_loopw [46] (fun vk wr => ∃ (k : Nat) (R : List Int) (H : Nat → Prop), k ≤ n ∧ vk = .int .i64 k ∧ Star w [roI H g R (12 * k)] wr ∧ LX R) (fun vk _ => n - (intOf vk).toNat)
    case atStart => exact ⟨0, [], _, Nat.zero_le _, rfl, HG.out, LX.nil_⟩
    case round =>
      obtain ⟨k, R, H, hk, rfl, hS, hX⟩ := hrel
      by_cases hlt : k < n
      · have hkI : (k : Int) < n := by omega
        have hk40 : k ≤ 39 := by omega
        obtain ⟨o, ho⟩ : ∃ o, ops[k]? = some o := ⟨_, List.getElem?_eq_getElem (by rw [HO.out.1]; exact hlt)⟩
        have HOk := Lib.hid (HO.out.2 o (List.mem_of_getElem? ho))
        obtain ⟨b, f, rfl, hbl, c0, c1, c2, c4⟩ := op_at HS.out ho
        have HC4 := Lib.hid (And.intro hbl (And.intro c0 (And.intro c1 (And.intro c2 c4))))
        have d4 := (hS.below.cell (p := ⟨b, f + k * 5 + 4, none⟩) hbl).trans c4
        have HXk := Lib.hid (And.intro hS hX)
        clear c0 c1 c2 c4 ho hbl hS hX
        by_cases hle : o.len ≤ 300
        · have hleI : (o.len : Int) ≤ 300 := by omega
          have HL := Lib.hid (len_star (A := []) (B := []) HXk.out.1)
          go_wp2_with fail
          refine HL.out.mono ?_
          clear HL d4
          rintro e w1 ⟨H1, rfl, S1⟩
          have HR1 := Lib.hid S1
          have d0 := (S1.below.cell (p := ⟨b, f + k * 5 + 0, none⟩) HC4.out.1).trans HC4.out.2.1
          have d1 := (S1.below.cell (p := ⟨b, f + k * 5 + 1, none⟩) HC4.out.1).trans HC4.out.2.2.1
          have d2 := (S1.below.cell (p := ⟨b, f + k * 5 + 2, none⟩) HC4.out.1).trans HC4.out.2.2.2.1
          have d4 := (S1.below.cell (p := ⟨b, f + k * 5 + 4, none⟩) HC4.out.1).trans HC4.out.2.2.2.2
          rw [Nat.add_zero] at d0
          clear S1
          by_cases h3 : R.length ≤ 3000
          · have h3I : ¬ (3000 : Int) < (R.length : Int) := by omega
            by_cases hk2 : o.kind = 2
            · rw [hk2] at d0
              have HSp := Lib.hid (del_scr (A := []) (B := []) (HR1.out.later ((Below.refl _ _).drew)) HXk.out.2 (by omega) o.i o.j)
              go_wp2_with fail
              go_still_tail 11, (by kernel_rfl)
              change wpList _ _ _ _ _ w1.drew
              go_wp2_with fail
              refine HSp.out.mono ?_
              rintro e w2 ⟨H2, vz, rfl, S2, X2⟩
              have HR := Lib.hid (And.intro S2 X2)
              clear S2 X2 d0 d1 d2 d4 HSp
              go_wp2_with fail
              go_roundw
              case rel => exact ⟨k + 1, _, _, by omega, by go_num, HR.out.1, HR.out.2⟩
              case measure => simp [intOf]; omega
            · have hkf : (o.kind == 2) = false := by simp [hk2]
              have HSp := Lib.hid (ins_scr (A := []) (B := []) (HR1.out.later ((Below.refl _ _).drew)) HXk.out.2 h3 (by omega) HOk.out hle)
              go_wp2_with fail
              go_still_tail 11, (by kernel_rfl)
              change wpList _ _ _ _ _ w1.drew
              go_wp2_with fail
              refine HSp.out.mono ?_
              rintro e w2 ⟨H2, vz, rfl, S2, X2⟩
              have HR := Lib.hid (And.intro S2 X2)
              clear S2 X2 d0 d1 d2 d4 HSp
              go_wp2_with fail
              go_roundw
              case rel => exact ⟨k + 1, _, _, by omega, by go_num, HR.out.1, HR.out.2⟩
              case measure => simp [intOf]; omega
          · have h3I : (3000 : Int) < (R.length : Int) := by omega
            have HR := Lib.hid (And.intro (ro_more (A := []) (B := []) HR1.out (N' := 12 * (k + 1)) (by omega)) HXk.out.2)
            clear d0 d1 d2 d4
            go_wp2_with fail
            go_roundw
            case rel => exact ⟨k + 1, _, _, by omega, by go_num, HR.out.1, HR.out.2⟩
            case measure => simp [intOf]; omega
        · have hleI : (300 : Int) < (o.len : Int) := by omega
          have HR := Lib.hid (And.intro (ro_more (A := []) (B := []) HXk.out.1 (N' := 12 * (k + 1)) (by omega)) HXk.out.2)
          go_wp2_with fail
          go_roundw
          case rel => exact ⟨k + 1, _, _, by omega, by go_num, HR.out.1, HR.out.2⟩
          case measure => simp [intOf]; omega
      · obtain rfl : k = n := by omega
        have HXR := Lib.hid hX
        have hRl := hX.len
        have hRI : (R.length : Int) ≤ 3300 := by omega
        obtain ⟨nr, hnr⟩ : ∃ x, R.length = x := ⟨_, rfl⟩
        rw [hnr] at hRI hRl
        have HNR := Lib.hid hnr
        have HB1 := Lib.hid (show betR R 0 nr = 0 ∧ cutR R 0 nr = R from by rw [← hnr]; exact ⟨betR_all R, cutR_all R⟩)
        have S20 := hS
        clear hS hX hnr
        have HC := Lib.hid (len_star (A := []) (B := []) S20)
        rw [HNR.out] at HC
        clear S20
        go_wp2_with fail
        refine HC.out.mono ?_
        clear HC
        rintro e w21 ⟨H21, rfl, S21⟩
        obtain ⟨bx, hbx⟩ : ∃ x, w21.heap.size = x := ⟨_, rfl⟩
        have HC := Lib.hid (slice_star (A := []) (B := []) S21 (0) (nr))
        rw [HB1.out.1] at HC
        clear S21
        go_wp2_with fail
        refine HC.out.mono ?_
        clear HC
        rintro e w22 ⟨H22, ux, rfl, S22⟩
        obtain ⟨vx, hvx⟩ : ∃ x, cutR R (0) (nr) = x := ⟨_, rfl⟩
        rw [hvx, hbx] at S22
        clear hbx
        obtain ⟨Ax, cx, rfl, hccx, -, -, -⟩ := own_shape (show w22.ownsRow bx 21 1 ux vx.length (vx.map r32) from S22.all _ (List.mem_cons_self))
        obtain ⟨nx, hnx⟩ : ∃ x, vx.length = x := ⟨_, rfl⟩
        have HVx := Lib.hid (And.intro hvx (And.intro hnx (hnx ▸ hccx)))
        rw [hnx] at S22 ⊢
        clear hvx hnx hccx
        have S22 : Star w [ruI (.slice Ax nx cx) bx vx, roI H22 g R (12 * k)] w22 := S22
        obtain rfl : R = vx := by rw [← HVx.out.1]; exact HB1.out.2.symm
        obtain rfl : nx = nr := by rw [← HVx.out.2.1]; exact HNR.out
        have hR2 : R.length = nx := HNR.out
        obtain ⟨E, hE⟩ : ∃ x, insE R i lm = x := ⟨_, rfl⟩
        rcases Classical.em (E = 0) with rfl | hE0
        rotate_left
        · have hE35 : E = 3 ∨ E = 5 := by rcases insE_or R i lm with h | h | h <;> omega
          have HC := Lib.hid (ins_star (A := [ruI (.slice Ax nx cx) bx R]) (B := []) S22 (arg_sees S22 HSm.out.1) HSm.out.2.1 (by omega) (by unfold chkN; omega) i)
          rw [hE] at HC
          clear S22 hE hE0
          rcases hE35 with rfl | rfl
          · go_wp2_with fail
            refine HC.out.mono ?_
            clear HC
            rintro e w23 ⟨H23, rfl, S23⟩
            have HB := Lib.hid S23
            clear S23
            go_wp2_with fail
            refine (known_any _).mono ?_
            rintro e wz ⟨rfl, hbz⟩
            have HBz := Lib.hid (HB.out.below.trans (hbz.mono HB.out.below.size))
            clear hbz
            go_wp2_with fail
            go_ret
            exact ⟨rfl, HBz.out⟩
          · go_wp2_with fail
            refine HC.out.mono ?_
            clear HC
            rintro e w23 ⟨H23, rfl, S23⟩
            have HB := Lib.hid S23
            clear S23
            go_wp2_with fail
            refine (known_any _).mono ?_
            rintro e wz ⟨rfl, hbz⟩
            have HBz := Lib.hid (HB.out.below.trans (hbz.mono HB.out.below.size))
            clear hbz
            go_wp2_with fail
            go_ret
            exact ⟨rfl, HBz.out⟩
        obtain ⟨R1, hR1⟩ : ∃ x, insR R i lm = x := ⟨_, rfl⟩
        have HBF := Lib.hid (back_facts hE hR1)
        have hi0 := HBF.out.1
        have hi1 := HBF.out.2.1
        rw [hR2] at hi1
        have hmI : (nm : Int) ≤ 1000 := by omega
        have gw1 : IntKind.i64.wrap (i + (nm : Int)) = i + (nm : Int) := IntWalk.i64_in _ (by omega)
        have HMF := Lib.hid (show betR R1 i (i + (nm : Int)) = 0 ∧ cutR R1 i (i + (nm : Int)) = lm ∧ delR R1 i (i + (nm : Int)) = R from by rw [← HSm.out.2.2]; exact HBF.out.2.2)
        have HEE := Lib.hid (And.intro hE hR1)
        clear hE hR1 hR2
        have HC := Lib.hid (ins_star (A := [ruI (.slice Ax nx cx) bx R]) (B := []) S22 (arg_sees S22 HSm.out.1) HSm.out.2.1 (by omega) (by unfold chkN; omega) i)
        rw [HEE.out.1, HEE.out.2] at HC
        clear S22
        go_wp2_with fail
        refine HC.out.mono ?_
        clear HC
        rintro e w23 ⟨H23, rfl, S23⟩
        obtain ⟨bd, hbd⟩ : ∃ x, w23.heap.size = x := ⟨_, rfl⟩
        have HC := Lib.hid (slice_star (A := [ruI (.slice Ax nx cx) bx R]) (B := []) S23 (i) (i + (nm : Int)))
        rw [HMF.out.1] at HC
        clear S23
        go_wp2_with fail
        refine HC.out.mono ?_
        clear HC
        rintro e w24 ⟨H24, ud, rfl, S24⟩
        obtain ⟨vd, hvd⟩ : ∃ x, cutR R1 (i) (i + (nm : Int)) = x := ⟨_, rfl⟩
        rw [hvd, hbd] at S24
        clear hbd
        obtain ⟨Ad, cd, rfl, hccd, -, -, -⟩ := own_shape (show w24.ownsRow bd 21 1 ud vd.length (vd.map r32) from S24.all _ (List.mem_cons_self))
        obtain ⟨nd, hnd⟩ : ∃ x, vd.length = x := ⟨_, rfl⟩
        have HVd := Lib.hid (And.intro hvd (And.intro hnd (hnd ▸ hccd)))
        rw [hnd] at S24 ⊢
        clear hvd hnd hccd
        have S24 : Star w [ruI (.slice Ad nd cd) bd vd, ruI (.slice Ax nx cx) bx R, roI H24 g R1 ((12 * k) + chkN nm + 2)] w24 := S24
        obtain rfl : lm = vd := by rw [← HVd.out.1]; exact HMF.out.2.1.symm
        obtain rfl : nd = nm := by rw [← HVd.out.2.1]; exact HSm.out.2.2
        obtain ⟨hd1, hd2, hd3⟩ := ru_sees S24 (A := Ad) (n := nd) (c := cd) (b := bd) (R := lm) (by simp)
        have HC := Lib.hid (same_star S24 hd1 (arg_sees S24 HSm.out.1) (c := cd) (c2 := cm) (by omega) (by omega))
        rw [show (lm == lm) = true from by simp] at HC
        clear S24 hd1 hd2 hd3
        go_wp2_with fail
        refine HC.out.mono ?_
        clear HC
        rintro e w25 ⟨rfl, S25⟩
        have HC := Lib.hid (del_star (A := [ruI (.slice Ad nd cd) bd lm, ruI (.slice Ax nx cx) bx R]) (B := []) S25 (by unfold chkN; omega) i (i + (nd : Int)))
        rw [HMF.out.1, HMF.out.2.2] at HC
        clear S25
        go_wp2_with fail
        refine HC.out.mono ?_
        clear HC
        rintro e w26 ⟨H26, rfl, S26⟩
        have HC := Lib.hid (split_star (A := [ruI (.slice Ad nd cd) bd lm, ruI (.slice Ax nx cx) bx R]) (B := []) S26 (by unfold chkN; omega) i)
        clear S26
        go_wp2_with fail
        refine HC.out.mono ?_
        clear HC
        rintro e w27 (⟨-, H27, Ho, go, rfl, S27⟩ | ⟨h5, -⟩)
        rotate_left
        · exact absurd h5 (by rw [betR_pos (R := R) (i := i) (j := i) hi0 (Int.le_refl _) (by rw [HNR.out]; exact hi1)]; decide)
        have S27 : Star w [roI H27 g (R.take i.toNat) ((((12 * k) + chkN nd + 2) + 2) + 2), roI Ho go (R.drop i.toNat) ((((12 * k) + chkN nd + 2) + 2) + 2), ruI (.slice Ad nd cd) bd lm, ruI (.slice Ax nx cx) bx R] w27 := S27.perm (List.perm_append_comm (l₁ := [roI Ho go (R.drop i.toNat) ((((12 * k) + chkN nd + 2) + 2) + 2), ruI (.slice Ad nd cd) bd lm, ruI (.slice Ax nx cx) bx R]) (l₂ := [roI H27 g (R.take i.toNat) ((((12 * k) + chkN nd + 2) + 2) + 2)]))
        have HC := Lib.hid (concat_star S27 (by unfold chkN; omega))
        rw [List.take_append_drop] at HC
        clear S27
        go_wp2_with fail
        refine HC.out.mono ?_
        clear HC
        rintro e w28 ⟨H28, Ho2, rfl, S28⟩
        have HC := Lib.hid (len_star (A := []) (B := [roI Ho2 go (R.drop i.toNat) ((((12 * k) + chkN nd + 2) + 2) + 2), ruI (.slice Ad nd cd) bd lm, ruI (.slice Ax nx cx) bx R]) S28)
        rw [HNR.out] at HC
        clear S28
        go_wp2_with fail
        refine HC.out.mono ?_
        clear HC
        rintro e w29 ⟨H29, rfl, S29⟩
        obtain ⟨byy, hbyy⟩ : ∃ x, w29.heap.size = x := ⟨_, rfl⟩
        have HC := Lib.hid (slice_star (A := []) (B := [roI Ho2 go (R.drop i.toNat) ((((12 * k) + chkN nd + 2) + 2) + 2), ruI (.slice Ad nd cd) bd lm, ruI (.slice Ax nx cx) bx R]) S29 (0) (nx))
        rw [HB1.out.1] at HC
        clear S29
        go_wp2_with fail
        refine HC.out.mono ?_
        clear HC
        rintro e w30 ⟨H30, uy, rfl, S30⟩
        obtain ⟨vy, hvy⟩ : ∃ x, cutR R (0) (nx) = x := ⟨_, rfl⟩
        rw [hvy, hbyy] at S30
        clear hbyy
        obtain ⟨Ay, cy, rfl, hccy, -, -, -⟩ := own_shape (show w30.ownsRow byy 21 1 uy vy.length (vy.map r32) from S30.all _ (List.mem_cons_self))
        obtain ⟨ny, hny⟩ : ∃ x, vy.length = x := ⟨_, rfl⟩
        have HVy := Lib.hid (And.intro hvy (And.intro hny (hny ▸ hccy)))
        rw [hny] at S30 ⊢
        clear hvy hny hccy
        have S30 : Star w [ruI (.slice Ay ny cy) byy vy, roI H30 g R (((((12 * k) + chkN nd + 2) + 2) + 2) + ((((12 * k) + chkN nd + 2) + 2) + 2) + 2), roI Ho2 go (R.drop i.toNat) ((((12 * k) + chkN nd + 2) + 2) + 2), ruI (.slice Ad nd cd) bd lm, ruI (.slice Ax nx cx) bx R] w30 := S30
        obtain rfl : R = vy := by rw [← HVy.out.1]; exact HB1.out.2.symm
        obtain rfl : ny = nx := by rw [← HVy.out.2.1]; exact HNR.out
        obtain ⟨hx1, hx2, hx3⟩ := ru_sees S30 (A := Ax) (n := ny) (c := cx) (b := bx) (R := R) (by simp)
        obtain ⟨hy1, hy2, hy3⟩ := ru_sees S30 (A := Ay) (n := ny) (c := cy) (b := byy) (R := R) (by simp)
        have HC := Lib.hid (same_star S30 hx1 hy1 (c := cx) (c2 := cy) (by omega) (by omega))
        rw [show (R == R) = true from by simp] at HC
        clear S30 hx1 hx2 hx3 hy1 hy2 hy3
        go_wp2_with fail
        refine HC.out.mono ?_
        clear HC
        rintro e w31 ⟨rfl, S31⟩
        have HC := Lib.hid (newR_star S31)
        clear S31
        go_wp2_with fail
        refine HC.out.mono ?_
        clear HC
        rintro e w32 ⟨q, rfl, S32⟩
        obtain ⟨hx1, hx2, hx3⟩ := ru_sees S32 (A := Ax) (n := ny) (c := cx) (b := bx) (R := R) (by simp)
        have HIN := Lib.hid (ins_nil R)
        have HI0 := Lib.hid (show insE [] 0 R = 0 ∧ insR [] 0 R = R from by
          rcases HIN.out with ⟨e1, e2, -⟩ | ⟨-, -, e3⟩
          · exact ⟨e1, e2⟩
          · rw [HXR.out.good] at e3; cases e3)
        have HC := Lib.hid (ins_star (A := []) (B := [ruI (.slice Ay ny cy) byy R, roI H30 g R (((((12 * k) + chkN nd + 2) + 2) + 2) + ((((12 * k) + chkN nd + 2) + 2) + 2) + 2), roI Ho2 go (R.drop i.toNat) ((((12 * k) + chkN nd + 2) + 2) + 2), ruI (.slice Ad nd cd) bd lm, ruI (.slice Ax ny cx) bx R]) S32 hx1 hx3 (by omega) (by unfold chkN; omega) 0)
        rw [HI0.out.1, HI0.out.2] at HC
        clear hx1 hx2 hx3
        clear S32
        go_wp2_with fail
        refine HC.out.mono ?_
        clear HC
        rintro e w33 ⟨H33, rfl, S33⟩
        have HC := Lib.hid (newlines_star (A := []) (B := [ruI (.slice Ay ny cy) byy R, roI H30 g R (((((12 * k) + chkN nd + 2) + 2) + 2) + ((((12 * k) + chkN nd + 2) + 2) + 2) + 2), roI Ho2 go (R.drop i.toNat) ((((12 * k) + chkN nd + 2) + 2) + 2), ruI (.slice Ad nd cd) bd lm, ruI (.slice Ax ny cx) bx R]) S33)
        clear S33
        go_wp2_with fail
        refine HC.out.mono ?_
        clear HC
        rintro e w34 ⟨H34, rfl, S34⟩
        have HC := Lib.hid (newlines_star (A := [roI H34 q R (0 + chkN ny + 2), ruI (.slice Ay ny cy) byy R]) (B := [roI Ho2 go (R.drop i.toNat) ((((12 * k) + chkN nd + 2) + 2) + 2), ruI (.slice Ad nd cd) bd lm, ruI (.slice Ax ny cx) bx R]) S34)
        clear S34
        go_wp2_with fail
        refine HC.out.mono ?_
        clear HC
        rintro e w35 ⟨H35, rfl, S35⟩
        obtain ⟨p, hp⟩ : ∃ p : Nat, nls (R.take i.toNat) = p := ⟨(nls (R.take i.toNat)).toNat, by have := (nls_le (R.take i.toNat)).1; omega⟩
        have hpm : (p : Int) ≤ nls R := by
          have h2 := nls_mono R (i := i.toNat) (j := R.length) (by rw [HNR.out]; omega)
          rw [List.take_length, hp] at h2
          exact h2
        obtain ⟨a, e1, -, -, -, -⟩ := off_facts (R := R) (n := p) (by omega) hpm
        have HF := Lib.hid (And.intro e1 (And.intro hp (And.intro hi0 (show i ≤ R.length from by rw [HNR.out]; exact hi1))))
        clear e1 hp hpm
        have HC := Lib.hid (line_star (A := []) (B := [ruI (.slice Ay ny cy) byy R, roI H35 g R (((((12 * k) + chkN nd + 2) + 2) + 2) + ((((12 * k) + chkN nd + 2) + 2) + 2) + 2), roI Ho2 go (R.drop i.toNat) ((((12 * k) + chkN nd + 2) + 2) + 2), ruI (.slice Ad nd cd) bd lm, ruI (.slice Ax ny cx) bx R]) S35 i)
        rw [lineV_pos HF.out.2.2.1 HF.out.2.2.2, HF.out.2.1] at HC
        clear S35
        go_wp2_with fail
        refine HC.out.mono ?_
        clear HC
        rintro e w36 ⟨H36, rfl, S36⟩
        have HC := Lib.hid (line_star (A := [roI H36 q R (0 + chkN ny + 2), ruI (.slice Ay ny cy) byy R]) (B := [roI Ho2 go (R.drop i.toNat) ((((12 * k) + chkN nd + 2) + 2) + 2), ruI (.slice Ad nd cd) bd lm, ruI (.slice Ax ny cx) bx R]) S36 i)
        rw [lineV_pos HF.out.2.2.1 HF.out.2.2.2, HF.out.2.1] at HC
        clear S36
        go_wp2_with fail
        refine HC.out.mono ?_
        clear HC
        rintro e w37 ⟨H37, rfl, S37⟩
        have HC := Lib.hid (off_star (A := []) (B := [ruI (.slice Ay ny cy) byy R, roI H37 g R (((((12 * k) + chkN nd + 2) + 2) + 2) + ((((12 * k) + chkN nd + 2) + 2) + 2) + 2), roI Ho2 go (R.drop i.toNat) ((((12 * k) + chkN nd + 2) + 2) + 2), ruI (.slice Ad nd cd) bd lm, ruI (.slice Ax ny cx) bx R]) S37 p)
        rw [HF.out.1] at HC
        clear S37
        go_wp2_with fail
        refine HC.out.mono ?_
        clear HC
        rintro e w38 ⟨H38, rfl, S38⟩
        have HC := Lib.hid (off_star (A := [roI H38 q R (0 + chkN ny + 2), ruI (.slice Ay ny cy) byy R]) (B := [roI Ho2 go (R.drop i.toNat) ((((12 * k) + chkN nd + 2) + 2) + 2), ruI (.slice Ad nd cd) bd lm, ruI (.slice Ax ny cx) bx R]) S38 p)
        rw [HF.out.1] at HC
        clear S38
        go_wp2_with fail
        refine HC.out.mono ?_
        clear HC
        rintro e w39 ⟨H39, rfl, S39⟩
        have HB := Lib.hid S39
        clear S39
        go_wp2_with fail
        refine (known_any _).mono ?_
        rintro e wz ⟨rfl, hbz⟩
        have HBz := Lib.hid (HB.out.below.trans (hbz.mono HB.out.below.size))
        clear hbz
        go_wp2_with fail
        go_ret
        exact ⟨rfl, HBz.out⟩

end Go.Proofs.Ytmfkdaannjibfaa
