/-
  'for x := range s.All() { l = append(l, x) }' in a law: the box, the row, nothing else.
-/
import Derived.Test.YtbioomilnjikpaaSpSt
namespace Go.Proofs.Ytbioomilnjikpaa
open Go.RowKit

/-- A body that does not panic: 'bodyPostM', its panics struck. -/
def outM (F : Fence) (n : Nat) (P : Program) (fn : Func) (R : Ending → World → Prop) : Exit → Act → World → Prop
  | .normal, a, w | .ret, a, w => LeavesInM F n P fn a.tmps R a.defers .returning w
  | _, _, _ => False
theorem outM_le {F : Fence} {n : Nat} {P : Program} {fn : Func} {R : Ending → World → Prop} : ∀ e a w, outM F n P fn R e a w → bodyPostM F n P fn R e a w := by
  intro e a w h
  cases e <;> first | exact h | exact h.elim

theorem marks_one {B D : Nat} {w : World} (h : w.heap[D]? = some (.deferred (some []))) (b : B ≤ D) : Marks B w [{ target := .collected D, args := #[] }] :=
  ⟨by simp, fun d hd => by simp at hd; subst hd; exact ⟨D, rfl, b, h⟩⟩
theorem marks_two {B D E : Nat} {w : World} (h : w.heap[D]? = some (.deferred (some []))) (k : w.heap[E]? = some (.deferred (some []))) (b : B ≤ D) (c : B ≤ E) (ne : D ≠ E) : Marks B w [{ target := .collected D, args := #[] }, { target := .collected E, args := #[] }] :=
  ⟨by simpa using ne, fun d hd => by
    simp at hd
    rcases hd with hd | hd
    · subst hd; exact ⟨D, rfl, b, h⟩
    · subst hd; exact ⟨E, rfl, c, k⟩⟩

/-- While they are appended: the box, the row; nothing else has changed. -/
def WasI (w1 : World) (bw : Nat) (xs : List Th) (W : World) : Prop := ∃ v, W.heap[bw]? = some (.cells #[v] 26) ∧ OwnT W w1.heap.size v xs ∧ Step (fun k => k = bw) w1 W

theorem WasI.own {w1 : World} {bw : Nat} (hb : bw < w1.heap.size) : OwnFrom w1.heap.size (WasI w1 bw) := by
  rintro xs W W' row ⟨v, h1, h2, h3⟩ hg hr
  refine ⟨v, (hg.block bw (Array.getElem?_eq_some_iff.1 h1).1 (fun e => by have := (hr bw e.symm).1; omega)).trans h1, ?_, h3.grown hg (fun k e => .inr (hr k e).1)⟩
  refine own_step h2 (grown_step hg) (fun k hk e => ?_)
  obtain ⟨cs, hc⟩ := own_blk h2 hk
  obtain ⟨_, o, ho, hn⟩ := hr k e
  rw [hc] at ho
  cases ho
  cases hn
theorem WasI.start {w1 : World} {bw : Nat} (h : w1.heap[bw]? = some (.cells #[.slice none 0 0] 26)) : WasI w1 bw [] w1 := ⟨_, h, ⟨rfl, .inl ⟨rfl, rfl⟩⟩, Step.refl _ _⟩

/-- Behind the loop. -/
theorem WasI.done {w0 w1 W : World} {bw : Nat} {xs : List Th} {u : Value} {A B : List Item} (hs : Star w0 (A ++ boxI bw (.cells #[u] 26) :: B) w1) (h : WasI w1 bw xs W) :
    ∃ v, Star w0 (thI v w1.heap.size xs :: (A ++ boxI bw (.cells #[v] 26) :: B)) W := by
  obtain ⟨v, h1, h2, h3⟩ := h
  refine ⟨v, hs.update_add (I' := boxI bw (.cells #[v] 26)) (K := thI v w1.heap.size xs) h1 ⟨h3, fun _ h => .inl h⟩ h2 (fun _ hk => own_base h2 hk) (fun k hk e => ?_)⟩
  have e : k = bw := e
  subst e
  exact own_row_blk h2 h1 (by decide) hk

/-- .. and the mark that the loop leaves. -/
theorem WasI.marked {w0 w1 W : World} {bw D : Nat} {xs : List Th} {u : Value} {A B : List Item} (hs : Star w0 (A ++ boxI bw (.cells #[u] 26) :: B) w1) (h : WasI w1 bw xs W) (hD : w1.heap.size ≤ D) (hK : W.heap[D]? = some (.deferred (some []))) :
    ∃ v, Star w0 (boxI D (.deferred (some [])) :: thI v w1.heap.size xs :: (A ++ boxI bw (.cells #[v] 26) :: B)) W := by
  obtain ⟨v, hS⟩ := h.done hs
  have hbw : bw < w1.heap.size := (boxI bw (.cells #[u] 26)).lt w1 (hs.all _ (by simp)) bw rfl
  refine ⟨v, hS.add' hK (fun k hk => by have hk : k = D := hk; have := hs.below.size; omega) (fun J hJ k hk hj => ?_)⟩
  have hk : k = D := hk
  subst hk
  rcases List.mem_cons.1 hJ with e | e
  · subst e
    obtain ⟨cs, hc⟩ := own_blk (show OwnT W w1.heap.size v xs from hS.all _ (List.mem_cons_self)) hj
    rw [hc] at hK; cases hK
  · rcases List.mem_append.1 e with e | e
    · have := J.lt w1 (hs.all J (by simp [e])) k hj; omega
    · rcases List.mem_cons.1 e with e | e
      · subst e
        have hj : k = bw := hj
        omega
      · have := J.lt w1 (hs.all J (by simp [e])) k hj; omega

/-- A round's end. -/
theorem WasI.round {w1 W wa w5 : World} {bw np : Nat} {pre : List Th} {x : Th} {v v5 : Value} (hq : W.heap[bw]? = some (.cells #[v] 26)) (ho : OwnT W w1.heap.size v pre) (hst : Step (fun k => k = bw) w1 W) (hbw : bw < w1.heap.size) (hnp : pre.length = np) (Ba : Below W.heap.size W wa)
    (hown5 : w5.ownsRow w1.heap.size 34 2 v5 (np + 1) (rowT pre ++ rowT [x])) (hg5 : wa.grownBy w5 v.ownBlock) :
    KeepsFrom w1.heap.size W (w5.setCell ⟨bw, 0, none⟩ v5) ∧ KeepsO (fun k o => k = bw ∨ (w1.heap.size ≤ k ∧ ∃ cs fr, o = .cells cs 34 fr)) W (w5.setCell ⟨bw, 0, none⟩ v5) ∧ WasI w1 bw (pre ++ [x]) (w5.setCell ⟨bw, 0, none⟩ v5) ∧ w5.cell? ⟨bw, 0, none⟩ = some v ∧ w5.frozen? ⟨bw, 0, none⟩ = false := by
  have hvb : ∀ k, v.ownBlock = some k → w1.heap.size ≤ k ∧ k ≠ bw := fun k hk => ⟨own_base ho hk, fun e => own_row_blk ho hq (by decide) (e ▸ hk)⟩
  have hq5 : w5.heap[bw]? = some (.cells #[v] 26) := (hg5.block bw (Nat.lt_of_lt_of_le (Array.getElem?_eq_some_iff.1 hq).1 Ba.size) (fun e => (hvb bw e.symm).2 rfl)).trans (heap_later hq Ba)
  have hs : Step (fun k => k = bw ∨ v.ownBlock = some k) W (w5.setCell ⟨bw, 0, none⟩ v5) :=
    (((Step.of_below Ba _).trans ((grown_step hg5).mono (fun k _ hk => .inr hk)))).setCell (p := ⟨bw, 0, none⟩) (.inl (.inl rfl)) _
  refine ⟨KeepsFrom.of_step hs (fun k o ho' hk => ?_), KeepsO.of_step hs (fun k o ho' hk => ?_), ⟨v5, ?_, ?_, ?_⟩, by rw [cell_of_row w5 bw 0 _ _ _ hq5]; rfl, frozen_of_row w5 bw 0 _ _ hq5⟩
  · rcases hk with e | e
    · rw [e, hq] at ho'; cases ho'; rfl
    · obtain ⟨cs, hc⟩ := own_blk ho e
      rw [hc] at ho'; cases ho'; rfl
  · rcases hk with e | e
    · exact .inl e
    · obtain ⟨cs, hc⟩ := own_blk ho e
      rw [hc] at ho'
      exact .inr ⟨(hvb k e).1, cs, _, (Option.some.inj ho').symm⟩
  · rw [heap_setCell_same w5 bw 0 _ _ _ hq5]; rfl
  · refine own_step (show OwnT w5 w1.heap.size v5 (pre ++ [x]) from ?_) ((Step.refl (fun k => k = bw) w5).setCell (p := ⟨bw, 0, none⟩) (.inl rfl) _) (fun k hk e => ?_)
    · unfold OwnT; rw [rowT_append, List.length_append, hnp]; exact hown5
    · have e : k = bw := e
      subst e
      exact own_row_blk hown5 hq5 (by decide) hk
  · exact ⟨hs.os.trans hst.os, hs.tape.trans hst.tape, hs.output.trans hst.output, Nat.le_trans hst.size hs.size, fun k hk hF => (hs.block k (Nat.lt_of_lt_of_le hk hst.size) (fun hG => by
      rcases hG with e | e
      · exact hF e
      · have := (hvb k e).1; omega)).trans (hst.block k hk hF)⟩

/-- A call of the script, beside other things. -/
theorem spliceO_star {w0 w : World} {H : Nat → Prop} {g m : Nat} {X : List Th} {A B : List Item} (h : Star w0 (A ++ spI H g X m :: B) w) (hX : X.length ≤ m) {o : OpS} (ho : o.Ok w0) (hle : o.len ≤ 100) (hm : m ≤ 70000) :
    Calls Try.prog 10 #[.pointer (some ⟨g, 0, none⟩), .int .i64 o.i, .int .i64 o.j, .slice o.A o.len o.cap] w fun e w' => ∃ H', e = .returned (.int .i64 (spE X o.i o.j o.l)) ∧ Star w0 (A ++ spI H' g (spX X o.i o.j o.l) (m + 102) :: B) w' ∧ (spX X o.i o.j o.l).length ≤ m + 102 := by
  have h1 := ho.sees.below h.below (Nat.le_refl _)
  rw [← ho.len] at h1
  have hS : SpS w H g X m := h.get
  have hlen := spX_len (l := o.l) (i := o.i) (j := o.j) hS.can hS.ob.okX.1
  have hll := ho.len
  have h2 := splice_star h h1 h.below.size (fun h0 b f e hb => by
    obtain ⟨b2, o2, hA, hb2, _⟩ := h1.2 h0
    rw [hA] at e
    simp only [Option.some.injEq, Addr.mk.injEq] at e
    have := h.low _ (show spI H g X m ∈ A ++ spI H g X m :: B by simp) b hb
    omega) (c := o.cap) (by rw [ho.len]; exact ho.le) o.i o.j (by omega) (by omega) (by omega)
  rw [ho.len] at h2
  refine h2.mono ?_
  rintro e w' ⟨H', he, hS'⟩
  exact ⟨H', he, hS'.update (I' := spI H' g _ (m + 102)) ((show SpS w' H' g _ _ from hS'.get).more (by omega)) (Grow.refl _ _), by omega⟩

/-- A struct of a call in a block: its fields. -/
theorem op_box {w : World} {b : Nat} {o : OpS} (h : w.heap[b]? = some (.cells #[.int .i64 o.kind, .int .i64 o.i, .int .i64 o.j, .slice o.A o.len o.cap, .int .i64 o.by_, .int .i64 o.plus] 28)) :
    w.cell? ⟨b, 1, none⟩ = some (.int .i64 o.i) ∧ w.cell? ⟨b, 2, none⟩ = some (.int .i64 o.j) ∧ w.cell? ⟨b, 3, none⟩ = some (.slice o.A o.len o.cap) :=
  ⟨by rw [cell_of_row w b 1 _ _ _ h]; rfl, by rw [cell_of_row w b 2 _ _ _ h]; rfl, by rw [cell_of_row w b 3 _ _ _ h]; rfl⟩

end Go.Proofs.Ytbioomilnjikpaa
