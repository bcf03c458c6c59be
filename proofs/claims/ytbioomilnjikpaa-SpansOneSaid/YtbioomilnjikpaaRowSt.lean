/-
  A struct behind a pointer whose fields are slices of its own, each of another element type: as a list of rows, with the set F of its blocks. No function of the program stands here.
-/
import Derived.Test.YtbioomilnjikpaaStep
namespace Go.Proofs.Ytbioomilnjikpaa
open Go.RowKit

/-- A field that is a slice: the elements' type, cells an element, the slice's value, its length, its cells. -/
structure RowD where
  e : TypeId
  size : Nat
  v : Value
  n : Nat
  xs : List Value

structure StAt (w : World) (g : Nat) (T : TypeId) (rs : List RowD) : Prop where
  blk : w.heap[g]? = some (.cells (rs.map (·.v)).toArray T (0, 0))
  own : ∀ (j : Nat) (r : RowD), rs[j]? = some r → w.ownsRow 0 r.e r.size r.v r.n r.xs
  nd : ∀ (i j : Nat) (r r' : RowD), i ≠ j → rs[i]? = some r → rs[j]? = some r' → r.e ≠ r'.e
  nt : ∀ (j : Nat) (r : RowD), rs[j]? = some r → r.e ≠ T

/-- .. of the blocks F. -/
def StF (w : World) (F : Nat → Prop) (g : Nat) (T : TypeId) (rs : List RowD) : Prop :=
  StAt w g T rs ∧ F g ∧ (∀ (j : Nat) (r : RowD), rs[j]? = some r → ∀ k, r.v.ownBlock = some k → F k) ∧ ∀ k, F k → k < w.heap.size

section
variable {w w' w1 : World} {F : Nat → Prop} {g : Nat} {T : TypeId} {rs : List RowD}

theorem own_row_blk {base : Nat} {e t : TypeId} {size n : Nat} {v : Value} {xs : List Value} {cs : Array Value} (h : w.ownsRow base e size v n xs) (hg : w.heap[g]? = some (.cells cs t (0, 0))) (hne : e ≠ t) : v.ownBlock ≠ some g := by
  rcases h.2 with ⟨rfl, _⟩ | ⟨g', cap, cur, rfl, _, hh, _⟩
  · simp [Value.ownBlock]
  · intro he
    have : g' = g := by simpa [Value.ownBlock] using he
    subst this
    rw [hh] at hg
    injection hg with hg
    injection hg with _ ht
    exact hne ht

theorem own_row_row {base base' : Nat} {e e' : TypeId} {size size' n n' : Nat} {v v' : Value} {xs xs' : List Value} (h : w.ownsRow base e size v n xs) (h' : w.ownsRow base' e' size' v' n' xs') (hne : e ≠ e') : v.ownBlock = none ∨ v.ownBlock ≠ v'.ownBlock := by
  rcases h.2 with ⟨rfl, _⟩ | ⟨g, cap, cur, rfl, _, hh, _⟩
  · exact .inl rfl
  · refine .inr fun he => ?_
    rcases h'.2 with ⟨rfl, _⟩ | ⟨g', cap', cur', rfl, _, hh', _⟩
    · simp [Value.ownBlock] at he
    · have : g = g' := by simpa [Value.ownBlock] using he
      subst this
      rw [hh] at hh'
      injection hh' with hh'
      injection hh' with _ ht
      exact hne ht

theorem StAt.lt (h : StAt w g T rs) : g < w.heap.size := (Array.getElem?_eq_some_iff.1 h.blk).1

theorem StAt.cell (h : StAt w g T rs) {j : Nat} {r : RowD} (hj : rs[j]? = some r) : w.cell? ⟨g, j, none⟩ = some r.v := by
  rw [cell_of_row w g j _ _ _ h.blk]
  simp [hj]

theorem StF.cell (h : StF w F g T rs) {j : Nat} {r : RowD} (hj : rs[j]? = some r) : w.cell? ⟨g, j, none⟩ = some r.v := h.1.cell hj
theorem StF.lt (h : StF w F g T rs) : ∀ k, F k → k < w.heap.size := h.2.2.2
theorem StF.row (h : StF w F g T rs) {j : Nat} {r : RowD} (hj : rs[j]? = some r) : w.ownsRow 0 r.e r.size r.v r.n r.xs := h.1.own j r hj
theorem StF.frozen (h : StF w F g T rs) (j : Nat) : w.frozen? ⟨g, j, none⟩ = false := frozen_of_row w g j _ _ h.1.blk

theorem StF.drewN (h : StF w F g T rs) (n : Nat) : StF (w.drewN n) F g T rs :=
  ⟨⟨h.1.blk, fun j r hj => own_drewN (h.1.own j r hj) n, h.1.nd, h.1.nt⟩, h.2⟩
theorem StF.drew (h : StF w F g T rs) : StF w.drew F g T rs := h.drewN 1

/-- Where none of its blocks has changed it is what it was. -/
theorem StF.step {G : Nat → Prop} (h : StF w F g T rs) (hs : Step G w w') (hG : ∀ k, F k → ¬ G k) : StF w' F g T rs :=
  ⟨⟨(hs.block g h.1.lt (hG g h.2.1)).trans h.1.blk, fun j r hj => own_step (h.1.own j r hj) hs (fun k hk => hG k (h.2.2.1 j r hj k hk)), h.1.nd, h.1.nt⟩, h.2.1, h.2.2.1, fun k hk => Nat.lt_of_lt_of_le (h.2.2.2 k hk) hs.size⟩
theorem StF.below (h : StF w F g T rs) (hs : Below w.heap.size w w') : StF w' F g T rs := h.step (Step.of_below hs fun _ => False) (fun _ _ h => h)

/-- A cell of a row is written. -/
theorem StF.store (h : StF w F g T rs) {i : Nat} {r : RowD} (hi : rs[i]? = some r) {b c : Nat} (hv : r.v = .slice (some ⟨b, 0, none⟩) r.n c) (k : Nat) (u : Value) :
    StF (w.setCell ⟨b, k, none⟩ u) F g T (rs.set i { r with xs := r.xs.set k u }) ∧ Grow F w (w.setCell ⟨b, k, none⟩ u) F := by
  obtain ⟨hil, hie⟩ := List.getElem?_eq_some_iff.1 hi
  have ho := h.1.own i r hi
  have hob : r.v.ownBlock = some b := by rw [hv]; rfl
  rw [hv] at ho
  have hst := ho.stored k u
  have hFb : F b := h.2.2.1 i r hi b hob
  have hgr : w.grownBy (w.setCell ⟨b, k, none⟩ u) (some b) := hst.2
  have hstep : Step F w (w.setCell ⟨b, k, none⟩ u) := (Step.refl F w).grown hgr (fun j e => by cases e; exact .inl hFb)
  have hmap : (rs.set i { r with xs := r.xs.set k u }).map (·.v) = rs.map (·.v) := by
    rw [List.map_set]
    apply List.ext_getElem?
    intro j
    rw [List.getElem?_set]
    split
    · next e => subst e; simp [hil, hie]
    · rfl
  have hget : ∀ (j : Nat) (r' : RowD), (rs.set i { r with xs := r.xs.set k u })[j]? = some r' → (j = i ∧ r' = { r with xs := r.xs.set k u }) ∨ (j ≠ i ∧ rs[j]? = some r') := by
    intro j r' hj
    rw [List.getElem?_set] at hj
    split at hj
    · next e => subst e; exact .inl ⟨rfl, (Option.some.inj hj).symm⟩
    · next e => exact .inr ⟨fun e' => e e'.symm, hj⟩
  have hty : ∀ (j : Nat) (r' : RowD), (rs.set i { r with xs := r.xs.set k u })[j]? = some r' → ∃ r0, rs[j]? = some r0 ∧ r0.e = r'.e ∧ r0.v = r'.v := by
    intro j r' hj
    rcases hget j r' hj with ⟨rfl, rfl⟩ | ⟨_, hj⟩
    · exact ⟨r, hi, rfl, rfl⟩
    · exact ⟨r', hj, rfl, rfl⟩
  refine ⟨⟨⟨?_, fun j r' hj => ?_, fun a b' ra rb hne ha hb => ?_, fun j r' hj => ?_⟩, h.2.1, fun j r' hj k' hk' => ?_, fun k' hk' => ?_⟩, hstep, fun _ h => .inl h⟩
  · rw [hmap, hgr.block g h.1.lt (fun e => own_row_blk (h.1.own i r hi) h.1.blk (h.1.nt i r hi) (by rw [hob, ← e]))]
    exact h.1.blk
  · rcases hget j r' hj with ⟨rfl, rfl⟩ | ⟨hne, hj⟩
    · show World.ownsRow _ 0 r.e r.size r.v r.n (r.xs.set k u)
      rw [hv]
      exact hst.1
    · refine (h.1.own j r' hj).kept hgr ?_
      rcases own_row_row (h.1.own j r' hj) (h.1.own i r hi) (h.1.nd j i r' r hne hj hi) with e | e
      · exact .inl e
      · exact .inr (by rw [← hob]; exact e)
  · obtain ⟨r0, h0, e0, _⟩ := hty _ _ ha
    obtain ⟨r1, h1, e1, _⟩ := hty _ _ hb
    rw [← e0, ← e1]
    exact h.1.nd a b' r0 r1 hne h0 h1
  · obtain ⟨r0, h0, e0, _⟩ := hty _ _ hj
    rw [← e0]
    exact h.1.nt j r0 h0
  · obtain ⟨r0, h0, _, e0⟩ := hty _ _ hj
    exact h.2.2.1 j r0 h0 k' (by rw [e0]; exact hk')
  · exact Nat.lt_of_lt_of_le (h.2.2.2 k' hk') hstep.size

/-- A row is appended to (w to w1); its new slice is laid in its field. -/
theorem StF.renew (h : StF w F g T rs) {i : Nat} {r : RowD} (hi : rs[i]? = some r) {v' : Value} {n' : Nat} {xs' : List Value} (hg : w.grownBy w1 r.v.ownBlock) (hown : w1.ownsRow 0 r.e r.size v' n' xs')
    (hat : ∀ k, v'.ownBlock = some k → r.v.ownBlock = some k ∨ w.heap.size ≤ k) :
    (w1.cell? ⟨g, i, none⟩ = some r.v ∧ w1.frozen? ⟨g, i, none⟩ = false) ∧
    StF (w1.setCell ⟨g, i, none⟩ v') (fun k => F k ∨ v'.ownBlock = some k) g T (rs.set i { r with v := v', n := n', xs := xs' }) ∧ Grow F w (w1.setCell ⟨g, i, none⟩ v') (fun k => F k ∨ v'.ownBlock = some k) := by
  obtain ⟨hil, hie⟩ := List.getElem?_eq_some_iff.1 hi
  have hb1 : w1.heap[g]? = some (.cells (rs.map (·.v)).toArray T (0, 0)) := by
    rw [hg.block g h.1.lt (fun e => own_row_blk (h.1.own i r hi) h.1.blk (h.1.nt i r hi) e.symm)]
    exact h.1.blk
  have hgs : w1.grownBy (w1.setCell ⟨g, i, none⟩ v') (some g) := ⟨rfl, rfl, rfl, by simp [World.setCell], fun k _ hk => heap_setCell_other w1 ⟨g, i, none⟩ k v' (fun e => hk (by simp [e]))⟩
  have hsame := heap_setCell_same w1 g i _ _ v' hb1
  have hs1 : Step F w w1 := (Step.refl F w).grown hg (fun k e => .inl (h.2.2.1 i r hi k e))
  have hstep : Step F w (w1.setCell ⟨g, i, none⟩ v') := hs1.setCell (.inl h.2.1) v'
  have hget : ∀ (j : Nat) (r' : RowD), (rs.set i { r with v := v', n := n', xs := xs' })[j]? = some r' → (j = i ∧ r' = { r with v := v', n := n', xs := xs' }) ∨ (j ≠ i ∧ rs[j]? = some r') := by
    intro j r' hj
    rw [List.getElem?_set] at hj
    split at hj
    · next e => subst e; exact .inl ⟨rfl, (Option.some.inj hj).symm⟩
    · next e => exact .inr ⟨fun e' => e e'.symm, hj⟩
  have hty : ∀ (j : Nat) (r' : RowD), (rs.set i { r with v := v', n := n', xs := xs' })[j]? = some r' → ∃ r0, rs[j]? = some r0 ∧ r0.e = r'.e := by
    intro j r' hj
    rcases hget j r' hj with ⟨rfl, rfl⟩ | ⟨_, hj⟩
    · exact ⟨r, hi, rfl⟩
    · exact ⟨r', hj, rfl⟩
  have hvlt : ∀ k, v'.ownBlock = some k → k < w1.heap.size := fun k hk => own_lt hown hk
  refine ⟨⟨by rw [cell_of_row w1 g i _ _ _ hb1]; simp [hi], frozen_of_row w1 g i _ _ hb1⟩, ⟨⟨?_, fun j r' hj => ?_, fun a b' ra rb hne ha hb => ?_, fun j r' hj => ?_⟩, .inl h.2.1, fun j r' hj k' hk' => ?_, fun k' hk' => ?_⟩, hstep, fun k hk => ?_⟩
  · rw [hsame]
    simp [List.map_set]
  · rcases hget j r' hj with ⟨rfl, rfl⟩ | ⟨hne, hj⟩
    · exact hown.kept hgs (.inr (own_row_blk hown hb1 (h.1.nt j r hi)))
    · have h1 := (h.1.own j r' hj).kept hg (own_row_row (h.1.own j r' hj) (h.1.own i r hi) (h.1.nd j i r' r hne hj hi))
      exact h1.kept hgs (.inr (own_row_blk h1 hb1 (h.1.nt j r' hj)))
  · obtain ⟨r0, h0, e0⟩ := hty _ _ ha
    obtain ⟨r1, h1, e1⟩ := hty _ _ hb
    rw [← e0, ← e1]
    exact h.1.nd a b' r0 r1 hne h0 h1
  · obtain ⟨r0, h0, e0⟩ := hty _ _ hj
    rw [← e0]
    exact h.1.nt j r0 h0
  · rcases hget j r' hj with ⟨rfl, rfl⟩ | ⟨hne, hj⟩
    · exact .inr hk'
    · exact .inl (h.2.2.1 j r' hj k' hk')
  · have hz : (w1.setCell ⟨g, i, none⟩ v').heap.size = w1.heap.size := by simp [World.setCell]
    rcases hk' with hk' | hk'
    · exact Nat.lt_of_lt_of_le (h.2.2.2 k' hk') hstep.size
    · rw [hz]; exact hvlt k' hk'
  · rcases hk with hk | hk
    · exact .inl hk
    · rcases hat k hk with e | e
      · exact .inl (h.2.2.1 i r hi k e)
      · exact .inr e
end

end Go.Proofs.Ytbioomilnjikpaa
