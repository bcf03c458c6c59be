/-
  Spans under a law's script: what a call leaves.
-/
import Derived.Test.YtbioomilnjikpaaSpAe
import Derived.Test.YtbioomilnjikpaaSpOp
import Derived.StillTailTactics
namespace Go.Proofs.Ytbioomilnjikpaa
open Go.RowKit

/-- Spans of a law's own, behind so many calls. -/
def SpL (w0 : World) (g m : Nat) (X : List Th) (wr : World) : Prop := ∃ H N, SpS wr H g X N ∧ N ≤ m ∧ X.length ≤ m ∧ Below w0.heap.size w0 wr ∧ (∀ b, H b → w0.heap.size ≤ b)

theorem SpL.of {w0 wr w' : World} {H H' : Nat → Prop} {g m N' : Nat} {X' : List Th} (hS : SpS w' H' g X' N') (hg : Grow H wr w' H') (hN : N' ≤ m) (hX : X'.length ≤ m) (hB : Below w0.heap.size w0 wr) (hH : ∀ b, H b → w0.heap.size ≤ b) : SpL w0 g m X' w' :=
  ⟨H', N', hS, hN, hX, hB.trans (hg.step.below hB.size hH), fun b hb => by
    rcases hg.new b hb with e | e
    · exact hH b e
    · exact Nat.le_trans hB.size e⟩
theorem SpL.below {w0 wr w' : World} {g m : Nat} {X : List Th} (h : SpL w0 g m X wr) (hb : Below wr.heap.size wr w') : SpL w0 g m X w' := by
  obtain ⟨H, N, hS, hN, hX, hB, hH⟩ := h
  exact ⟨H, N, hS.below hb, hN, hX, hB.trans (hb.mono hB.size), hH⟩
theorem SpL.b {w0 wr : World} {g m : Nat} {X : List Th} (h : SpL w0 g m X wr) : Below w0.heap.size w0 wr := by obtain ⟨H, N, hS, hN, hX, hB, hH⟩ := h; exact hB
theorem SpL.okX {w0 wr : World} {g m : Nat} {X : List Th} (h : SpL w0 g m X wr) : (∀ x ∈ X, okT x) ∧ Can X ∧ sumT X ≤ 536870912 ∧ 0 ≤ sumT X := by
  obtain ⟨H, N, hS, hN, hX, hB, hH⟩ := h
  exact ⟨hS.ob.okX.1, hS.can, hS.le, sumT_nonneg hS.ob.okX.1⟩
theorem SpL.more {w0 wr : World} {g m m' : Nat} {X : List Th} (h : SpL w0 g m X wr) (hm : m ≤ m') : SpL w0 g m' X wr := by
  obtain ⟨H, N, hS, hN, hX, hB, hH⟩ := h
  exact ⟨H, N, hS, Nat.le_trans hN hm, Nat.le_trans hX hm, hB, hH⟩

theorem newL_any (w0 w : World) (hb : Below w0.heap.size w0 w) : Calls Try.prog 8 #[] w fun e w' => ∃ g, e = .returned (.pointer (some ⟨g, 0, none⟩)) ∧ SpL w0 g 0 [] w' :=
  (newS_any w).mono fun e w' ⟨g, he, hS, hb1, hg⟩ => ⟨g, he, _, 0, hS, Nat.le_refl _, Nat.le_refl _, hb.trans (hb1.mono hb.size), fun b e => by have e : b = g := e; have := hb.size; omega⟩

theorem spX_len {X l : List Th} {i j : Int} (hX : Can X) (hoX : ∀ x ∈ X, okT x) : (spX X i j l).length ≤ X.length + l.length + 2 := by
  unfold spX
  split
  · next h =>
    unfold spE at h
    by_cases hb : badL l = true
    · rw [if_pos hb] at h; cases h
    · rw [if_neg hb] at h
      by_cases he : betE X i j = 0
      · rw [if_pos he] at h
        obtain ⟨i0, i1, i2⟩ := betE_zero he
        by_cases hs : sumT l ≤ 536870912 - sumT X + j - i
        · have hp := not_bad (l := l) (by simpa using hb)
          have h1 := repl_len hX hoX (l := l) (fun x hx => by
            have h1 := hp x hx
            have h2 := sumT_mem (fun y hy => (hp y hy).1) hx
            have h3 := sumT_nonneg hoX
            exact ⟨h1.1, by omega⟩) i0 i1 i2 (by have h3 := sumT_nonneg hoX; omega)
          omega
        · rw [if_neg hs] at h; cases h
      · rw [if_neg he] at h; cases h
  · omega

theorem spliceL_any {w0 w : World} {g m : Nat} {X : List Th} (h : SpL w0 g m X w) {B c : Nat} {A : Option Addr} {l : List Th} (hl : Sees w B 2 A l.length (rowT l)) (hB : B ≤ w0.heap.size) (hc : l.length ≤ c) (i j : Int) (hn : l.length ≤ 100) (hm : m ≤ 70000) :
    Calls Try.prog 10 #[.pointer (some ⟨g, 0, none⟩), .int .i64 i, .int .i64 j, .slice A l.length c] w fun e w' => e = .returned (.int .i64 (spE X i j l)) ∧ SpL w0 g (m + 102) (spX X i j l) w' := by
  obtain ⟨H, N, hS, hN, hX, hb, hH⟩ := h
  refine (splice_any hS hl (Nat.le_trans hB hb.size) (fun h0 b o e hb' => ?_) hc i j (by omega) (by omega) (by omega)).mono ?_
  · obtain ⟨b2, o2, hA, hb2, _⟩ := hl.2 h0
    rw [hA] at e
    simp only [Option.some.injEq, Addr.mk.injEq] at e
    have := hH b hb'
    omega
  · rintro e w' ⟨H', rfl, hS', hg⟩
    have hlen := spX_len (l := l) (i := i) (j := j) hS.can hS.ob.okX.1
    exact ⟨rfl, SpL.of hS' hg (by omega) (by omega) hb hH⟩

/-- A call of the script: Splice. -/
theorem spliceO_any {w0 w : World} {g m : Nat} {X : List Th} (h : SpL w0 g m X w) {o : OpS} (ho : o.Ok w0) (hle : o.len ≤ 100) (hm : m ≤ 70000) :
    Calls Try.prog 10 #[.pointer (some ⟨g, 0, none⟩), .int .i64 o.i, .int .i64 o.j, .slice o.A o.len o.cap] w fun e w' => e = .returned (.int .i64 (spE X o.i o.j o.l)) ∧ SpL w0 g (m + 102) (spX X o.i o.j o.l) w' := by
  have h1 := ho.sees.below h.b (Nat.le_refl _)
  rw [← ho.len] at h1
  have h2 := spliceL_any h h1 (Nat.le_refl _) (c := o.cap) (by rw [ho.len]; exact ho.le) o.i o.j (by rw [ho.len]; exact hle) hm
  rw [ho.len] at h2
  exact h2

theorem lenL_any {w0 w : World} {g m : Nat} {X : List Th} (h : SpL w0 g m X w) : Calls Try.prog 14 #[.pointer (some ⟨g, 0, none⟩)] w fun e w' => e = .returned (.int .i64 (sumT X)) ∧ SpL w0 g m X w' := by
  obtain ⟨H, N, hS, hN, hX, hb, hH⟩ := h
  exact (len_any hS).mono fun e w' ⟨H', he, hS', hg⟩ => ⟨he, SpL.of hS' hg hN hX hb hH⟩
theorem countL_any {w0 w : World} {g m : Nat} {X : List Th} (h : SpL w0 g m X w) : Calls Try.prog 18 #[.pointer (some ⟨g, 0, none⟩)] w fun e w' => e = .returned (.int .i64 (X.length : Int)) ∧ SpL w0 g m X w' := by
  obtain ⟨H, N, hS, hN, hX, hb, hH⟩ := h
  exact (countS_any hS).mono fun e w' ⟨H', he, hS', hg⟩ => ⟨he, SpL.of hS' hg hN hX hb hH⟩
theorem atL_any {w0 w : World} {g m : Nat} {X : List Th} (h : SpL w0 g m X w) (i : Int) (hi : -9223372036854775808 ≤ i ∧ i ≤ 9223372036854775807) : Calls Try.prog 12 #[.pointer (some ⟨g, 0, none⟩), .int .i64 i] w fun e w' => e = .returned (atV X i) ∧ SpL w0 g m X w' ∧ ∃ H, (∀ b, H b → w0.heap.size ≤ b) ∧ Step H w w' ∧ ∀ b, H b → b < w.heap.size := by
  obtain ⟨H, N, hS, hN, hX, hb, hH⟩ := h
  exact (at_any' hS i hi).mono fun e w' ⟨H', he, hS', hg⟩ => ⟨he, SpL.of hS' hg hN hX hb hH, H, hH, hg.step, hS.ob.lt⟩

/-- A row of spans that is none of the spans' own, beside them. -/
def OwnL (w0 : World) (g m : Nat) (X : List Th) (v : Value) (xs : List Th) (wr : World) : Prop := ∃ H N, SpS wr H g X N ∧ N ≤ m ∧ X.length ≤ m ∧ Below w0.heap.size w0 wr ∧ (∀ b, H b → w0.heap.size ≤ b) ∧ OwnT wr w0.heap.size v xs ∧ Off v H

theorem OwnL.spL {w0 wr : World} {g m : Nat} {X xs : List Th} {v : Value} (h : OwnL w0 g m X v xs wr) : SpL w0 g m X wr := by
  obtain ⟨H, N, hS, hN, hX, hb, hH, _⟩ := h
  exact ⟨H, N, hS, hN, hX, hb, hH⟩
theorem OwnL.own {w0 wr : World} {g m : Nat} {X xs : List Th} {v : Value} (h : OwnL w0 g m X v xs wr) : OwnT wr w0.heap.size v xs := by obtain ⟨H, N, hS, hN, hX, hb, hH, ho, _⟩ := h; exact ho
theorem OwnL.below {w0 wr w' : World} {g m : Nat} {X xs : List Th} {v : Value} (h : OwnL w0 g m X v xs wr) (hb : Below wr.heap.size wr w') : OwnL w0 g m X v xs w' := by
  obtain ⟨H, N, hS, hN, hX, hB, hH, ho, hf⟩ := h
  exact ⟨H, N, hS.below hb, hN, hX, hB.trans (hb.mono hB.size), hH, ho.later hb, hf⟩
theorem OwnL.of {w0 wr w' : World} {H H' : Nat → Prop} {g m N' : Nat} {X' xs : List Th} {v : Value} (hS : SpS w' H' g X' N') (hg : Grow H wr w' H') (hN : N' ≤ m) (hX : X'.length ≤ m) (hB : Below w0.heap.size w0 wr) (hH : ∀ b, H b → w0.heap.size ≤ b) (ho : OwnT wr w0.heap.size v xs) (hf : Off v H) : OwnL w0 g m X' v xs w' := by
  obtain ⟨H2, N2, a1, a2, a3, a4, a5⟩ := SpL.of hS hg hN hX hB hH
  exact ⟨H', N', hS, hN, hX, a4, fun b hb => by
    rcases hg.new b hb with e | e
    · exact hH b e
    · exact Nat.le_trans hB.size e, own_step ho hg.step hf, hf.grow hg (fun k hk => own_lt ho hk)⟩
theorem atO_any {w0 w : World} {g m : Nat} {X xs : List Th} {v : Value} (h : OwnL w0 g m X v xs w) (i : Int) (hi : -9223372036854775808 ≤ i ∧ i ≤ 9223372036854775807) : Calls Try.prog 12 #[.pointer (some ⟨g, 0, none⟩), .int .i64 i] w fun e w' => e = .returned (atV X i) ∧ OwnL w0 g m X v xs w' ∧ ∃ H, (∀ b, H b → w0.heap.size ≤ b) ∧ Step H w w' ∧ SpS w H g X m := by
  obtain ⟨H, N, hS, hN, hX, hb, hH, ho, hf⟩ := h
  exact (at_any' hS i hi).mono fun e w' ⟨H', he, hS', hg⟩ => ⟨he, OwnL.of hS' hg hN hX hb hH ho hf, H, hH, hg.step, hS.more hN⟩
/-- Over, under a law's script. -/
def OverL (w0 : World) (g m : Nat) (X : List Th) (b : Int) (P : List Th) (e : Ending) (w' : World) : Prop :=
  ∃ v xs, e = .returned (.tuple #[v, .int .i64 b]) ∧ OwnL w0 g m X v xs w' ∧ (b = 0 → xs = P) ∧ (b ≠ 0 → v = .slice none 0 0 ∧ xs = [])
theorem overL_any {w0 w : World} {g m : Nat} {X : List Th} (h : SpL w0 g m X w) (i j : Int) : Calls Try.prog 11 #[.pointer (some ⟨g, 0, none⟩), .int .i64 i, .int .i64 j] w fun e w' => OverL w0 g m X (betE X i j) (overT X i j) e w' := by
  obtain ⟨H, N, hS, hN, hX, hb, hH⟩ := h
  refine (overS_any hS i j).mono ?_
  rintro e w' ⟨v, xs, rfl, ho, h1, h2, H', hS', hg, hf⟩
  obtain ⟨H2, N2, a1, a2, a3, a4, a5⟩ := SpL.of hS' hg hN hX hb hH
  exact ⟨v, xs, rfl, ⟨H', N, hS', hN, hX, a4, fun b hb' => by
    rcases hg.new b hb' with e | e
    · exact hH b e
    · exact Nat.le_trans hb.size e, own_lower ho hb.size, hf⟩, h1, h2⟩

/-- .. and blocks beside them. -/
def OwnK (w0 : World) (g m : Nat) (X : List Th) (v : Value) (xs : List Th) (b : Nat) (o : Obj) (wr : World) : Prop := ∃ H N, SpS wr H g X N ∧ N ≤ m ∧ X.length ≤ m ∧ Below w0.heap.size w0 wr ∧ (∀ b, H b → w0.heap.size ≤ b) ∧ OwnT wr w0.heap.size v xs ∧ Off v H ∧ wr.heap[b]? = some o ∧ ¬ H b
theorem OwnK.ownL {w0 wr : World} {g m b : Nat} {X xs : List Th} {v : Value} {o : Obj} (h : OwnK w0 g m X v xs b o wr) : OwnL w0 g m X v xs wr := by
  obtain ⟨H, N, a1, a2, a3, a4, a5, a6, a7, _⟩ := h
  exact ⟨H, N, a1, a2, a3, a4, a5, a6, a7⟩
theorem OwnK.blk {w0 wr : World} {g m b : Nat} {X xs : List Th} {v : Value} {o : Obj} (h : OwnK w0 g m X v xs b o wr) : wr.heap[b]? = some o := by
  obtain ⟨H, N, a1, a2, a3, a4, a5, a6, a7, a8, _⟩ := h
  exact a8
theorem OwnL.new {w0 wr : World} {g m : Nat} {X xs : List Th} {v : Value} (h : OwnL w0 g m X v xs wr) (o : Obj) : OwnK w0 g m X v xs wr.heap.size o (wr.alloc o) := by
  obtain ⟨H, N, a1, a2, a3, a4, a5, a6, a7⟩ := h
  have hb : Below wr.heap.size wr (wr.alloc o) := (Below.refl _ _).alloc (Nat.le_refl _) _
  exact ⟨H, N, a1.below hb, a2, a3, a4.trans (hb.mono a4.size), a5, a6.later hb, a7, heap_alloc_new wr o, fun hH => by have := a1.ob.lt _ hH; omega⟩
theorem atK_any {w0 w : World} {g m b : Nat} {X xs : List Th} {v : Value} {o : Obj} (h : OwnK w0 g m X v xs b o w) (i : Int) (hi : -9223372036854775808 ≤ i ∧ i ≤ 9223372036854775807) : Calls Try.prog 12 #[.pointer (some ⟨g, 0, none⟩), .int .i64 i] w fun e w' => e = .returned (atV X i) ∧ OwnK w0 g m X v xs b o w' := by
  obtain ⟨H, N, hS, hN, hX, hb, hH, ho, hf, hq, hn⟩ := h
  refine (at_any' hS i hi).mono ?_
  rintro e w' ⟨H', he, hS', hg⟩
  have hbl := (Array.getElem?_eq_some_iff.1 hq).1
  refine ⟨he, H', N, hS', hN, hX, hb.trans (hg.step.below hb.size hH), fun k hk => ?_, own_step ho hg.step hf, hf.grow hg (fun k hk => own_lt ho hk), (hg.step.block b hbl hn).trans hq, fun hH' => ?_⟩
  · rcases hg.new k hk with e | e
    · exact hH k e
    · exact Nat.le_trans hb.size e
  · rcases hg.new b hH' with e | e
    · exact hn e
    · omega

/-- A call of the script, as the law reads it. -/
theorem op_at {w : World} {A : Option Addr} {n : Nat} {ops : List OpS} (hs : Sees w w.heap.size 6 A n (ops.flatMap OpS.cells)) {k : Nat} {o : OpS} (ho : ops[k]? = some o) :
    ∃ b f, A = some ⟨b, f, none⟩ ∧ b < w.heap.size ∧ w.cell? ⟨b, f + k * 6 + 1, none⟩ = some (.int .i64 o.i) ∧ w.cell? ⟨b, f + k * 6 + 2, none⟩ = some (.int .i64 o.j) ∧ w.cell? ⟨b, f + k * 6 + 3, none⟩ = some (.slice o.A o.len o.cap) ∧ w.cell? ⟨b, f + k * 6, none⟩ = some (.int .i64 o.kind) ∧ w.cell? ⟨b, f + k * 6 + 4, none⟩ = some (.int .i64 o.by_) ∧ w.cell? ⟨b, f + k * 6 + 5, none⟩ = some (.int .i64 o.plus) := by
  have hk := (List.getElem?_eq_some_iff.1 ho).1
  have hn : n = ops.length := by have h1 := hs.1; rw [flat_len OpS.cells 6 (fun _ => rfl)] at h1; omega
  obtain ⟨b, f, hA, hb, hc⟩ := hs.2 (by omega)
  have hg : ∀ j v, j < 6 → o.cells[j]? = some v → w.cell? ⟨b, f + k * 6 + j, none⟩ = some v := fun j v hj hv => by
    rw [Nat.add_assoc]
    refine hc _ v ?_
    rw [flat_get OpS.cells 6 (fun _ => rfl) ops k j hj, ho]
    exact hv
  exact ⟨b, f, hA, hb, hg 1 _ (by decide) rfl, hg 2 _ (by decide) rfl, hg 3 _ (by decide) rfl, hg 0 _ (by decide) rfl, hg 4 _ (by decide) rfl, hg 5 _ (by decide) rfl⟩

end Go.Proofs.Ytbioomilnjikpaa
