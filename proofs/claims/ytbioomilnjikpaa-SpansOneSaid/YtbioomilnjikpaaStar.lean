/-
  A law's own things beside one another: each has its blocks; a call that changes one of them leaves the others. No function of the program stands here.
-/
import Derived.Test.YtbioomilnjikpaaStep
namespace Go.Proofs.Ytbioomilnjikpaa
open Go.RowKit

/-- A thing in memory: its blocks, what it is; it stays where none of its blocks changes. -/
structure Item where
  D : Nat → Prop
  P : World → Prop
  keep : ∀ (w w' : World) (G : Nat → Prop), P w → Step G w w' → (∀ k, D k → ¬ G k) → P w'
  lt : ∀ w, P w → ∀ k, D k → k < w.heap.size

/-- Blocks apart, one thing from those behind it. -/
def ApartAll : List Item → Prop
  | [] => True
  | I :: L => (∀ J ∈ L, ∀ k, I.D k → ¬ J.D k) ∧ ApartAll L

structure Star (w0 : World) (L : List Item) (w : World) : Prop where
  all : ∀ I ∈ L, I.P w
  apart : ApartAll L
  low : ∀ I ∈ L, ∀ k, I.D k → w0.heap.size ≤ k
  below : Below w0.heap.size w0 w

theorem ApartAll.mem : ∀ {A B : List Item} {I : Item}, ApartAll (A ++ I :: B) → ∀ J, J ∈ A ∨ J ∈ B → ∀ k, I.D k → ¬ J.D k
  | [], B, I, h, J, hJ, k, hk => by
    rcases hJ with e | e
    · cases e
    · exact h.1 J e k hk
  | K :: A, B, I, h, J, hJ, k, hk => by
    rcases hJ with e | e
    · rcases List.mem_cons.1 e with e | e
      · subst e
        exact fun hj => h.1 I (by simp) k hj hk
      · exact ApartAll.mem (A := A) h.2 J (.inl e) k hk
    · exact ApartAll.mem (A := A) h.2 J (.inr e) k hk

theorem ApartAll.change : ∀ {A B : List Item} {I I' : Item} {n : Nat}, ApartAll (A ++ I :: B) → (∀ k, I'.D k → I.D k ∨ n ≤ k) → (∀ J, J ∈ A ∨ J ∈ B → ∀ k, J.D k → k < n) → ApartAll (A ++ I' :: B)
  | [], B, I, I', n, h, hI, hl => ⟨fun J hJ k hk hj => by
    rcases hI k hk with e | e
    · exact h.1 J hJ k e hj
    · have := hl J (.inr hJ) k hj; omega, h.2⟩
  | K :: A, B, I, I', n, h, hI, hl => ⟨fun J hJ k hk hj => by
    rcases List.mem_append.1 hJ with e | e
    · exact h.1 J (by simp [e]) k hk hj
    · rcases List.mem_cons.1 e with e | e
      · subst e
        rcases hI k hj with q | q
        · exact h.1 I (by simp) k hk q
        · have := hl K (.inl (by simp)) k hk; omega
      · exact h.1 J (by simp [e]) k hk hj, ApartAll.change (A := A) h.2 hI (fun J hJ k hk => hl J (by rcases hJ with e | e; exact .inl (by simp [e]); exact .inr e) k hk)⟩

section
variable {w0 w w' : World} {A B L : List Item} {I I' : Item}

theorem Star.get (h : Star w0 (A ++ I :: B) w) : I.P w := h.all I (by simp)

/-- One of the things becomes another; the others stay. -/
theorem Star.update (h : Star w0 (A ++ I :: B) w) (hP : I'.P w') (hg : Grow I.D w w' I'.D) : Star w0 (A ++ I' :: B) w' := by
  have hlt : ∀ J, J ∈ A ∨ J ∈ B → ∀ k, J.D k → k < w.heap.size := fun J hJ => J.lt w (h.all J (by rcases hJ with e | e <;> simp [e]))
  refine ⟨fun J hJ => ?_, h.apart.change (n := w.heap.size) hg.new hlt, fun J hJ k hk => ?_, h.below.trans (hg.step.below h.below.size (fun k hk => h.low I (by simp) k hk))⟩
  · rcases List.mem_append.1 hJ with e | e
    · exact J.keep w w' _ (h.all J (by simp [e])) hg.step (fun k hk hi => h.apart.mem J (.inl e) k hi hk)
    · rcases List.mem_cons.1 e with e | e
      · subst e; exact hP
      · exact J.keep w w' _ (h.all J (by simp [e])) hg.step (fun k hk hi => h.apart.mem J (.inr e) k hi hk)
  · rcases List.mem_append.1 hJ with e | e
    · exact h.low J (by simp [e]) k hk
    · rcases List.mem_cons.1 e with e | e
      · subst e
        rcases hg.new k hk with q | q
        · exact h.low I (by simp) k q
        · exact Nat.le_trans h.below.size q
      · exact h.low J (by simp [e]) k hk

theorem Star.later (h : Star w0 L w) (hb : Below w.heap.size w w') : Star w0 L w' :=
  ⟨fun I hI => I.keep w w' (fun _ => False) (h.all I hI) (Step.of_below hb _) (fun _ _ h => h), h.apart, h.low, h.below.trans (hb.mono h.below.size)⟩
/-- A new thing. -/
theorem Star.add (h : Star w0 L w) (hb : Below w.heap.size w w') (hP : I.P w') (hn : ∀ k, I.D k → w.heap.size ≤ k) : Star w0 (I :: L) w' := by
  have h1 := h.later hb
  refine ⟨fun J hJ => ?_, ⟨fun J hJ k hk hj => ?_, h.apart⟩, fun J hJ k hk => ?_, h1.below⟩
  · rcases List.mem_cons.1 hJ with e | e
    · subst e; exact hP
    · exact h1.all J e
  · have a1 := hn k hk
    have a2 := J.lt w (h.all J hJ) k hj
    omega
  · rcases List.mem_cons.1 hJ with e | e
    · subst e; exact Nat.le_trans h.below.size (hn k hk)
    · exact h.low J e k hk
/-- A thing is forgotten. -/
theorem Star.drop (h : Star w0 (A ++ I :: B) w) : Star w0 (A ++ B) w := by
  refine ⟨fun J hJ => h.all J (by rcases List.mem_append.1 hJ with e | e <;> simp [e]), ?_, fun J hJ => h.low J (by rcases List.mem_append.1 hJ with e | e <;> simp [e]), h.below⟩
  have ha := h.apart
  clear h
  induction A with
  | nil => exact ha.2
  | cons K A ih => exact ⟨fun J hJ => ha.1 J (by rcases List.mem_append.1 hJ with e | e <;> simp [e]), ih ha.2⟩
/-- One becomes another, and a new thing is there. -/
theorem Star.update_add {K : Item} (h : Star w0 (A ++ I :: B) w) (hP : I'.P w') (hg : Grow I.D w w' I'.D) (hQ : K.P w') (hK : ∀ k, K.D k → w.heap.size ≤ k) (hap : ∀ k, K.D k → ¬ I'.D k) : Star w0 (K :: (A ++ I' :: B)) w' := by
  have h1 := h.update hP hg
  refine ⟨fun J hJ => ?_, ⟨fun J hJ k hk hj => ?_, h1.apart⟩, fun J hJ k hk => ?_, h1.below⟩
  · rcases List.mem_cons.1 hJ with e | e
    · subst e; exact hQ
    · exact h1.all J e
  · have a1 := hK k hk
    rcases List.mem_append.1 hJ with e | e
    · have := J.lt w (h.all J (by simp [e])) k hj; omega
    · rcases List.mem_cons.1 e with e | e
      · subst e; exact hap k hk hj
      · have := J.lt w (h.all J (by simp [e])) k hj; omega
  · rcases List.mem_cons.1 hJ with e | e
    · subst e; exact Nat.le_trans h.below.size (hK k hk)
    · exact h1.low J e k hk
/-- A thing that lies apart from all. -/
theorem Star.add' {K : Item} (h : Star w0 L w) (hQ : K.P w) (hlow : ∀ k, K.D k → w0.heap.size ≤ k) (hap : ∀ J ∈ L, ∀ k, K.D k → ¬ J.D k) : Star w0 (K :: L) w :=
  ⟨fun J hJ => by rcases List.mem_cons.1 hJ with e | e; subst e; exact hQ; exact h.all J e, ⟨hap, h.apart⟩, fun J hJ => by rcases List.mem_cons.1 hJ with e | e; subst e; exact hlow; exact h.low J e, h.below⟩
theorem Star.nil_ (w : World) : Star w [] w := ⟨(fun _ h => nomatch h), trivial, (fun _ h => nomatch h), Below.refl _ _⟩
/-- Blocks of one of the things alone have changed. -/
theorem Star.step_low (h : Star w0 (A ++ I :: B) w) : ∀ k, I.D k → w0.heap.size ≤ k := h.low I (by simp)
end

/-- A block that holds these cells. -/
def boxI (b : Nat) (o : Obj) : Item := ⟨fun k => k = b, fun w => w.heap[b]? = some o, fun w w' G h hs hG => (hs.block b (Array.getElem?_eq_some_iff.1 h).1 (hG b rfl)).trans h, fun w h k hk => by have hk : k = b := hk; rw [hk]; exact (Array.getElem?_eq_some_iff.1 h).1⟩
/-- A row of one's own. -/
def rowI (base : Nat) (e : TypeId) (size : Nat) (v : Value) (n : Nat) (xs : List Value) : Item := ⟨fun k => v.ownBlock = some k, fun w => w.ownsRow base e size v n xs, fun _ _ _ h hs hG => own_step h hs hG, fun _ h _ hk => own_lt h hk⟩

theorem boxI.set {w : World} {b : Nat} {cs : Array Value} {t : TypeId} (h : w.heap[b]? = some (.cells cs t)) (j : Nat) (v : Value) : (boxI b (.cells (cs.setIfInBounds j v) t)).P (w.setCell ⟨b, j, none⟩ v) ∧ Grow (fun k => k = b) w (w.setCell ⟨b, j, none⟩ v) (fun k => k = b) :=
  ⟨heap_setCell_same w b j _ _ _ h, ⟨(Step.refl (fun k => k = b) w).setCell (p := ⟨b, j, none⟩) (.inl rfl) v, fun _ h => .inl h⟩⟩
theorem rowI.grown {w w' : World} {row : Option Nat} {v' : Value} (hg : w.grownBy w' row) (hat : v'.ownBlock = row ∨ v'.ownBlock = some w.heap.size) : Grow (fun k => row = some k) w w' (fun k => v'.ownBlock = some k) :=
  ⟨grown_step hg, fun k hk => by
    have hk : v'.ownBlock = some k := hk
    rcases hat with e | e
    · exact .inl (by rw [← e]; exact hk)
    · rw [e] at hk; cases hk; exact .inr (Nat.le_refl _)⟩

end Go.Proofs.Ytbioomilnjikpaa
