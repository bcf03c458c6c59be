/-
  What a call may have changed, by blocks: a set F of blocks that belong to a thing, 'Step F' (nothing else has changed), 'Grow' (the thing's blocks behind the call are its old ones and new ones), 'Keeps' (all is above block B). No function of the program stands here.
-/
import Derived.Test.YtbioomilnjikpaaWords
namespace Go.Proofs.Ytbioomilnjikpaa
open Go.RowKit

/-- Nothing has changed but the blocks of F, and new ones. -/
structure Step (F : Nat → Prop) (w w' : World) : Prop where
  os : w'.os = w.os
  tape : w'.tape = w.tape
  output : w'.output = w.output
  size : w.heap.size ≤ w'.heap.size
  block : ∀ k, k < w.heap.size → ¬ F k → w'.heap[k]? = w.heap[k]?

theorem Step.refl (F : Nat → Prop) (w : World) : Step F w w := ⟨rfl, rfl, rfl, Nat.le_refl _, fun _ _ _ => rfl⟩

theorem Step.mono {F G : Nat → Prop} {w w' : World} (h : Step F w w') (hFG : ∀ k, k < w.heap.size → F k → G k) : Step G w w' :=
  ⟨h.os, h.tape, h.output, h.size, fun k hk hG => h.block k hk (fun hF => hG (hFG k hk hF))⟩

theorem Step.trans {F : Nat → Prop} {a b c : World} (h : Step F a b) (k : Step F b c) : Step F a c :=
  ⟨k.os.trans h.os, k.tape.trans h.tape, k.output.trans h.output, Nat.le_trans h.size k.size, fun i hi hF => (k.block i (Nat.lt_of_lt_of_le hi h.size) hF).trans (h.block i hi hF)⟩

theorem Step.below {F : Nat → Prop} {w w' : World} {B : Nat} (h : Step F w w') (hB : B ≤ w.heap.size) (hF : ∀ k, F k → B ≤ k) : Below B w w' :=
  ⟨h.os, h.tape, h.output, h.size, fun k hk => h.block k (by omega) (fun hf => by have := hF k hf; omega)⟩

theorem Step.of_below {w w' : World} (h : Below w.heap.size w w') (F : Nat → Prop) : Step F w w' :=
  ⟨h.os, h.tape, h.output, h.size, fun k hk _ => h.block k hk⟩

theorem Step.drewN {F : Nat → Prop} {w w' : World} (h : Step F w w') (n : Nat) : Step F w (w'.drewN n) := ⟨h.os, h.tape, h.output, h.size, h.block⟩

theorem Step.alloc {F : Nat → Prop} {a w : World} (h : Step F a w) (o : Obj) : Step F a (w.alloc o) :=
  h.trans ⟨rfl, rfl, rfl, by simp, fun k hk _ => Below.heap_alloc _ _ _ hk⟩

theorem Step.setCell {F : Nat → Prop} {a w : World} (h : Step F a w) {p : Addr} (hp : F p.block ∨ a.heap.size ≤ p.block) (u : Value) : Step F a (w.setCell p u) :=
  ⟨h.os, h.tape, h.output, by have := h.size; simpa [World.setCell] using this, fun k hk hF => (Below.heap_setCell _ _ _ _ (fun e => by subst e; rcases hp with hp | hp; exact hF hp; omega)).trans (h.block k hk hF)⟩

theorem Step.grown {F : Nat → Prop} {a w w' : World} {row : Option Nat} (h : Step F a w) (hg : w.grownBy w' row) (hr : ∀ k, row = some k → F k ∨ a.heap.size ≤ k) : Step F a w' :=
  ⟨hg.os.trans h.os, hg.tape.trans h.tape, hg.output.trans h.output, Nat.le_trans h.size hg.size, fun k hk hF => (hg.block k (Nat.lt_of_lt_of_le hk h.size) (fun e => by rcases hr k e.symm with h | h; exact hF h; omega)).trans (h.block k hk hF)⟩

/-- The thing's blocks, behind the call. -/
structure Grow (F : Nat → Prop) (w w' : World) (F' : Nat → Prop) : Prop where
  step : Step F w w'
  new : ∀ k, F' k → F k ∨ w.heap.size ≤ k

theorem Grow.refl (F : Nat → Prop) (w : World) : Grow F w w F := ⟨Step.refl _ _, fun _ h => .inl h⟩

theorem Grow.trans {F F' F'' : Nat → Prop} {a b c : World} (h : Grow F a b F') (k : Grow F' b c F'') : Grow F a c F'' :=
  ⟨⟨k.step.os.trans h.step.os, k.step.tape.trans h.step.tape, k.step.output.trans h.step.output, Nat.le_trans h.step.size k.step.size,
    fun i hi hF => (k.step.block i (Nat.lt_of_lt_of_le hi h.step.size) (fun hF' => by rcases h.new i hF' with h' | h'; exact hF h'; omega)).trans (h.step.block i hi hF)⟩,
   fun i hi => by
    rcases k.new i hi with h' | h'
    · exact h.new i h'
    · exact .inr (Nat.le_trans h.step.size h')⟩

/-- All of F lies from B on, and below B nothing has changed since w0. -/
structure Keeps (B : Nat) (w0 w : World) (F : Nat → Prop) : Prop where
  low : B ≤ w0.heap.size
  below : Below B w0 w
  own : ∀ k, F k → B ≤ k

theorem Keeps.next {B : Nat} {w0 w w' : World} {F F' : Nat → Prop} (h : Keeps B w0 w F) (g : Grow F w w' F') : Keeps B w0 w' F' :=
  ⟨h.low, h.below.trans (g.step.below (Nat.le_trans h.low h.below.size) h.own), fun k hk => by
    rcases g.new k hk with h' | h'
    · exact h.own k h'
    · exact Nat.le_trans (Nat.le_trans h.low h.below.size) h'⟩

theorem Keeps.drewN {B : Nat} {w0 w : World} {F : Nat → Prop} (h : Keeps B w0 w F) (n : Nat) : Keeps B w0 (w.drewN n) F := ⟨h.low, below_drewN h.below n, h.own⟩

theorem Keeps.of_below {B : Nat} {w0 w w' : World} {F : Nat → Prop} (h : Keeps B w0 w F) (g : Below w.heap.size w w') : Keeps B w0 w' F :=
  h.next ⟨Step.of_below g F, fun _ h => .inl h⟩

/-- A row of one's own that is none of F's. -/
theorem own_step {w w' : World} {F : Nat → Prop} {base : Nat} {e : TypeId} {size : Nat} {v : Value} {n : Nat} {xs : List Value} (h : w.ownsRow base e size v n xs) (hs : Step F w w') (hF : ∀ k, v.ownBlock = some k → ¬ F k) : w'.ownsRow base e size v n xs := by
  refine ⟨h.1, ?_⟩
  rcases h.2 with hn | ⟨g, cap, cur, rfl, hbg, hgg, rest⟩
  · exact .inl hn
  · exact .inr ⟨g, cap, cur, rfl, hbg, (hs.block g (Array.getElem?_eq_some_iff.1 hgg).1 (hF g rfl)).trans hgg, rest⟩

theorem own_lt {w : World} {base : Nat} {e : TypeId} {size : Nat} {v : Value} {n : Nat} {xs : List Value} (h : w.ownsRow base e size v n xs) {k : Nat} (hk : v.ownBlock = some k) : k < w.heap.size := by
  rcases h.2 with ⟨rfl, _⟩ | ⟨g, cap, cur, rfl, _, hgg, _⟩
  · cases hk
  · have : g = k := by simpa [Value.ownBlock] using hk
    subst this
    exact (Array.getElem?_eq_some_iff.1 hgg).1

theorem own_base {w : World} {base : Nat} {e : TypeId} {size : Nat} {v : Value} {n : Nat} {xs : List Value} (h : w.ownsRow base e size v n xs) {k : Nat} (hk : v.ownBlock = some k) : base ≤ k := by
  rcases h.2 with ⟨rfl, _⟩ | ⟨g, cap, cur, rfl, hb, _⟩
  · cases hk
  · have : g = k := by simpa [Value.ownBlock] using hk
    subst this
    exact hb

theorem own_slice {w : World} {base : Nat} {e : TypeId} {size : Nat} {A : Option Addr} {n m c : Nat} {xs : List Value} (h : w.ownsRow base e size (.slice A n c) m xs) :
    n = m ∧ m ≤ c ∧ c ≤ maxLen ∧ (0 < m → ∃ g, A = some ⟨g, 0, none⟩ ∧ base ≤ g ∧ g < w.heap.size) := by
  obtain ⟨A', c', hv, h1, h2, h3, h4⟩ := own_shape h
  simp only [Value.slice.injEq] at hv
  obtain ⟨rfl, rfl, rfl⟩ := hv
  refine ⟨rfl, h1, h2, fun hn => ?_⟩
  cases A with
  | none => have := (h3 rfl).1; omega
  | some ad => obtain ⟨g, rfl, h5, h6⟩ := h4 ad rfl; exact ⟨g, rfl, h5, h6⟩

theorem heap_alloc_get (w : World) (o : Obj) (k : Nat) : (w.alloc o).heap[k]? = if k = w.heap.size then some o else w.heap[k]? := by
  show (w.heap.push o)[k]? = _
  rw [Array.getElem?_push]

/-! ### A row of one's own beside a thing of blocks F -/
theorem grown_step {w w' : World} {row : Option Nat} (hg : w.grownBy w' row) : Step (fun k => row = some k) w w' :=
  ⟨hg.os, hg.tape, hg.output, hg.size, fun k hk hF => hg.block k hk (fun e => hF e.symm)⟩

theorem Keeps.row {B : Nat} {w0 w w' : World} {F : Nat → Prop} {row : Option Nat} (h : Keeps B w0 w F) (hg : w.grownBy w' row) (hb : ∀ k, row = some k → B ≤ k) : Keeps B w0 w' F :=
  ⟨h.low, h.below.grown hg (Nat.le_trans h.low h.below.size) hb, h.own⟩

/-- The row 'v' is none of the blocks F. -/
def Off (v : Value) (F : Nat → Prop) : Prop := ∀ k, v.ownBlock = some k → ¬ F k

theorem Off.grow {v : Value} {F F' : Nat → Prop} {w w' : World} (h : Off v F) (hg : Grow F w w' F') (hl : ∀ k, v.ownBlock = some k → k < w.heap.size) : Off v F' := by
  intro k hk hF
  rcases hg.new k hF with h' | h'
  · exact h k hk h'
  · have := hl k hk
    omega

theorem Off.at {v v' : Value} {F : Nat → Prop} {n : Nat} (h : Off v F) (hl : ∀ k, F k → k < n) (hat : v'.ownBlock = v.ownBlock ∨ v'.ownBlock = some n) : Off v' F := by
  intro k hk hF
  rcases hat with e | e
  · exact h k (by rw [← e]; exact hk) hF
  · rw [e] at hk
    injection hk with hk
    have := hl k hF
    omega

theorem Off.nil_ (F : Nat → Prop) : Off (.slice none 0 0) F := fun _ h => by cases h

/-- Two rows in blocks apart. -/
def Apart (v u : Value) : Prop := ∀ k, v.ownBlock = some k → u.ownBlock ≠ some k

theorem Apart.symm {v u : Value} (h : Apart v u) : Apart u v := fun k h1 h2 => h k h2 h1

theorem Apart.at {v v' u : Value} {n : Nat} (h : Apart v u) (hl : ∀ k, u.ownBlock = some k → k < n) (hat : v'.ownBlock = v.ownBlock ∨ v'.ownBlock = some n) : Apart v' u := by
  intro k hk hu
  rcases hat with e | e
  · exact h k (by rw [← e]; exact hk) hu
  · rw [e] at hk
    injection hk with hk
    have := hl k hu
    omega

theorem Apart.kept {w w' : World} {base : Nat} {t : TypeId} {size : Nat} {v u : Value} {n : Nat} {xs : List Value} (h : w.ownsRow base t size u n xs) (ha : Apart u v) (hg : w.grownBy w' v.ownBlock) : w'.ownsRow base t size u n xs :=
  own_step h (grown_step hg) fun k hk e => ha k hk e

/-- A slice of whole numbers that came in, as its row's proof tells it. -/
theorem ints_of_row {w : World} {k : IntKind} {a : Option Addr} {len cap : Nat} {zs : List Int}
    (h : (a = none ∧ len = 0 ∧ cap = 0 ∧ zs = []) ∨
      ∃ x, a = some x ∧ len ≤ cap ∧ cap ≤ maxLen ∧ zs.length = cap ∧ (∀ i, i < zs.length → w.cell? (x.add i) = some (.int k (zs.getD i 0))) ∧ ∀ n ∈ zs, (Lit.int k n).wf = true) :
    ∃ l : List Int, Sees w w.heap.size 1 a len (l.map (Value.int k)) ∧ l.length = len ∧ len ≤ cap ∧ cap ≤ maxLen ∧ ∀ n ∈ l, (Lit.int k n).wf = true := by
  rcases h with ⟨rfl, rfl, rfl, rfl⟩ | ⟨x, rfl, hl, hm, hz, hcell, hwf⟩
  · exact ⟨[], Sees.nil_ _ _ _ _, rfl, Nat.le_refl _, Nat.zero_le _, fun _ h => by cases h⟩
  · refine ⟨zs.take len, ⟨by simp; omega, fun hn => ?_⟩, by simp; omega, hl, hm, fun n hn => hwf n (List.mem_of_mem_take hn)⟩
    have h0 := hcell 0 (by omega)
    obtain ⟨b, o, sp⟩ := x
    have hsp : sp = none := by simpa [Addr.add] using World.cell?_spot h0
    subst hsp
    refine ⟨b, o, rfl, ?_, fun j u hu => ?_⟩
    · have := World.block_lt_of_cell? w _ h0
      simpa [Addr.add] using this
    · have hj : j < len := by
        have := (List.getElem?_eq_some_iff.1 hu).1
        simp at this
        omega
      have hc := hcell j (by omega)
      rw [Addr.add_lit] at hc
      rw [hc]
      simp only [List.getElem?_map, List.getElem?_take, if_pos hj, List.getElem?_eq_getElem (show j < zs.length by omega), Option.map_some, Option.some.injEq] at hu
      subst hu
      simp only [List.getD, List.getElem?_eq_getElem (show j < zs.length by omega), Option.getD_some]

/-- Numbers as cells. -/
def ints (l : List Nat) : List Value := l.map fun (i : Nat) => Value.int .i64 (i : Int)
theorem ints_length (l : List Nat) : (ints l).length = l.length := by simp [ints]
theorem ints_append (l m : List Nat) : ints (l ++ m) = ints l ++ ints m := by simp [ints]
theorem ints_get {l : List Nat} {j : Nat} (h : j < l.length) : (ints l)[j]? = some (.int .i64 ((l[j] : Nat) : Int)) := by simp [ints, h]
theorem ints_one (l : List Nat) : ∀ u ∈ ints l, u.oneCell' = true := by
  intro u hu
  obtain ⟨_, _, rfl⟩ := List.mem_map.1 hu
  rfl

end Go.Proofs.Ytbioomilnjikpaa
