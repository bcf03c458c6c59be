/-
  Records beside a law's other things; a call of a law's script.
-/
import Derived.Test.YtpaelbhljgdenaaPaOp
import Derived.Test.YtpaelbhljgdenaaStar
namespace Go.Proofs.Ytpaelbhljgdenaa
open Go.RowKit

def paI (K : Nat → Prop) (g : Nat) (X : List (List At)) (N m : Nat) : Item := ⟨K, fun w => ParS w K g X N m, fun _ _ _ h hs hG => h.step hs hG, fun _ h => h.lt⟩
/-- A set of one's own. -/
def setI (v : Value) (base : Nat) (a : List At) : Item := rowI base 72 5 v a.length (rowA a)
/-- Sets of one's own, in a row of one's own. -/
def setsI (v : Value) (base : Nat) (D : Nat → Prop) (X : List (List At)) : Item :=
  ⟨fun k => v.ownBlock = some k ∨ D k, fun w => (∃ xs, OwnT w base v xs ∧ SetsAt w D xs X) ∧ ∀ k, D k → k < w.heap.size,
   fun _ _ _ h hs hG => by
    obtain ⟨⟨xs, h1, h2⟩, h3⟩ := h
    exact ⟨⟨xs, own_step h1 hs (fun k hk => hG k (.inl hk)), h2.step hs (fun k hk => hG k (.inr hk))⟩, fun k hk => Nat.lt_of_lt_of_le (h3 k hk) hs.size⟩,
   fun w h k hk => by
    obtain ⟨⟨xs, h1, _⟩, h3⟩ := h
    rcases hk with e | e
    · exact own_lt h1 e
    · exact h3 k e⟩

section
variable {w0 w : World} {K : Nat → Prop} {g N m : Nat} {X : List (List At)} {A B : List Item}

theorem newP_star (h : Star w0 A w) : Calls Try.prog 7 #[] w fun e w' => ∃ g, e = .returned (.pointer (some ⟨g, 0, none⟩)) ∧ Star w0 (paI (fun k => k = g) g [] 0 0 :: A) w' :=
  (newP_any w).mono fun e w' ⟨g, he, hS, hb, hg⟩ => ⟨g, he, h.add hb hS (fun k hk => by have hk : k = g := hk; omega)⟩

/-- A call that hands back v and leaves these records. -/
theorem pa_star {f : FuncId} {args : Array Value} {v : Value} {N' m' : Nat} {X' : List (List At)} (h : Star w0 (A ++ paI K g X N m :: B) w) (hc : Calls Try.prog f args w fun e w' => PaR w K g X' N' m' v e w') : Calls Try.prog f args w fun e w' => ∃ K', e = .returned v ∧ Star w0 (A ++ paI K' g X' N' m' :: B) w' :=
  hc.mono fun _ _ ⟨K', he, hS, hg⟩ => ⟨K', he, h.update (I' := paI K' g X' N' m') hS hg⟩

theorem len_star (h : Star w0 (A ++ paI K g X N m :: B) w) : Calls Try.prog 14 #[.pointer (some ⟨g, 0, none⟩)] w fun e w' => ∃ K', e = .returned (.int .i64 X.length) ∧ Star w0 (A ++ paI K' g X N m :: B) w' :=
  pa_star h (lenP_any h.get)

theorem del_star (h : Star w0 (A ++ paI K g X N m :: B) w) (hN : N ≤ 79998) (hX : X.length ≤ 80000) (k j : Int) : Calls Try.prog 11 #[.pointer (some ⟨g, 0, none⟩), .int .i64 k, .int .i64 j] w fun e w' => ∃ K', e = .returned (.int .i64 (betP X k j)) ∧ Star w0 (A ++ paI K' g (delX X k j) (max (N + 2) X.length) m :: B) w' :=
  pa_star h (deleteP_any h.get hN hX k j)

/-- At: a new row beside all. -/
theorem at_star (h : Star w0 (A ++ paI K g X N m :: B) w) (hm : m ≤ 1000000) (i : Int) (hi : -9223372036854775808 ≤ i ∧ i ≤ 9223372036854775807) : Calls Try.prog 15 #[.pointer (some ⟨g, 0, none⟩), .int .i64 i] w fun e w' => ∃ K' v, e = .returned (.tuple #[v, .int .i64 (atE X i)]) ∧ Star w0 (setI v w.heap.size (atA X i) :: (A ++ paI K' g X N m :: B)) w' :=
  (atP_any h.get hm i hi).mono fun _ _ ⟨v, K', he, ho, hS, hg, hf⟩ => ⟨K', v, he, h.update_add (I' := paI K' g X N m) (K := setI v w.heap.size (atA X i)) hS hg ho (fun _ hk => own_base ho hk) hf⟩

/-- Over: new sets beside all. -/
theorem over_star (h : Star w0 (A ++ paI K g X N m :: B) w) (hm : m ≤ 1000000) (i j : Int) : Calls Try.prog 13 #[.pointer (some ⟨g, 0, none⟩), .int .i64 i, .int .i64 j] w fun e w' => ∃ K' v D, e = .returned (.tuple #[v, .int .i64 (betP X i j)]) ∧ Star w0 (setsI v w.heap.size D (overX X i j) :: (A ++ paI K' g X N m :: B)) w' := by
  refine (overP_any h.get hm i j).mono ?_
  rintro e w' ⟨v, xs, K', he, ho, hs, hS, hg, hf⟩
  refine ⟨K', v, fun k => w.heap.size ≤ k ∧ ¬ K' k ∧ k < w'.heap.size, he, h.update_add (I' := paI K' g X N m) (K := setsI v w.heap.size _ (overX X i j)) hS hg ⟨⟨xs, ho, hs.mono (fun k hk h => ⟨h.1, h.2.2, hk⟩)⟩, fun k hk => hk.2.2⟩ (fun k hk => ?_) (fun k hk => ?_)⟩
  · rcases hk with e | e
    · exact own_base ho e
    · exact e.1
  · rcases hk with e | e
    · exact hf k e
    · exact e.2.1

/-- Insert, Patch of what came in. -/
theorem ins_star (h : Star w0 (A ++ paI K g X N m :: B) w) {o : OpS} (ho : o.Ok w0) (hm : m ≤ 1000000) (hL : ∀ a ∈ o.L, a.length ≤ m) (hN : N ≤ 79998) (hX : X.length + o.L.length ≤ 80000) (k : Int) :
    Calls Try.prog 10 #[.pointer (some ⟨g, 0, none⟩), .int .i64 k, .slice o.A o.xs.length o.c] w fun e w' => ∃ K', e = .returned (.int .i64 (betP X k k)) ∧ Star w0 (A ++ paI K' g (insX X k o.L) (max (N + 2) (X.length + o.L.length)) m :: B) w' := by
  have hlow : ∀ q, K q → w0.heap.size ≤ q := fun q hq => h.low (paI K g X N m) (by simp) q hq
  refine pa_star h (insertP_any h.get (ho.sees.below h.below (Nat.le_refl _)) h.below.size (fun e => ⟨by have h1 := ho.nil e; have h2 := ho.le; omega, ho.nil e⟩) (ho.sets.step (G := fun q => w0.heap.size ≤ q) ⟨h.below.os, h.below.tape, h.below.output, h.below.size, fun q hq _ => h.below.block q hq⟩ (fun q hq e => by omega)) (fun h0 b f e hb => ?_) (fun q hq hK => by have := hlow q hK; omega) hm hL hN hX k)
  have h1 := ho.sees.lt h0 e
  have h2 := hlow b hb
  omega

theorem pat_star (h : Star w0 (A ++ paI K g X N m :: B) w) {o : OpS} (ho : o.Ok w0) (hm : m ≤ 90000) (hp : o.p.length ≤ 1000) (hN : N ≤ 79998) (hX : X.length + X.length ≤ 80000) (k j : Int) :
    Calls Try.prog 12 #[.pointer (some ⟨g, 0, none⟩), .int .i64 k, .int .i64 j, .slice o.A2 o.p.length o.c2] w fun e w' => ∃ K', e = .returned (.int .i64 (betP X k j)) ∧ Star w0 (A ++ paI K' g (patX X k j o.p) (max (N + 2) (X.length + X.length)) (m + o.p.length) :: B) w' := by
  have hlow : ∀ q, K q → w0.heap.size ≤ q := fun q hq => h.low (paI K g X N m) (by simp) q hq
  refine pa_star h (patchP_any h.get (ho.sees2.below h.below (Nat.le_refl _)) h.below.size (fun h0 b f e hb => ?_) hm hp hN hX k j)
  have h1 := ho.sees2.lt h0 e
  have h2 := hlow b hb
  omega

theorem pa_more (h : Star w0 (A ++ paI K g X N m :: B) w) {N' m' : Nat} (hN : N ≤ N') (hm : m ≤ m') : Star w0 (A ++ paI K g X N' m' :: B) w :=
  h.update (I' := paI K g X N' m') ((show ParS w K g X N m from h.get).more hN hm) (Grow.refl _ _)
end

/-- Two sets told alike. -/
theorem same_star {w0 w : World} {A : List Item} {v u : Value} {b1 b2 : Nat} {x y : List At} (h : Star w0 A w) (hv : w.ownsRow b1 72 5 v x.length (rowA x)) (hu : w.ownsRow b2 72 5 u y.length (rowA y)) (hx : x.length ≤ 1000000) (hy : y.length ≤ 1000000) :
    Calls Try.prog 16 #[v, u] w fun e w' => e = .returned (.bool (decide (x = y))) ∧ Star w0 A w' := by
  obtain ⟨A1, c1, rfl, -, -⟩ := own_shape hv
  obtain ⟨A2, c2, rfl, -, -⟩ := own_shape hu
  exact (same05_any (Sees.of_own hv) (Sees.of_own hu) hx hy).mono fun _ _ ⟨he, hb⟩ => ⟨he, h.later hb⟩

end Go.Proofs.Ytpaelbhljgdenaa
