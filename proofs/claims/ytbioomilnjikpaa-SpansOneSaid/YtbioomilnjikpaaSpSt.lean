/-
  Spans beside a law's other things.
-/
import Derived.Test.YtbioomilnjikpaaSpLc
import Derived.Test.YtbioomilnjikpaaStar
namespace Go.Proofs.Ytbioomilnjikpaa
open Go.RowKit

def spI (H : Nat → Prop) (g : Nat) (X : List Th) (N : Nat) : Item := ⟨H, fun w => SpS w H g X N, fun _ _ _ h hs hG => h.step hs hG, fun _ h => h.ob.lt⟩
def thI (v : Value) (base : Nat) (xs : List Th) : Item := rowI base 34 2 v xs.length (rowT xs)

section
variable {w0 w : World} {H : Nat → Prop} {g N : Nat} {X : List Th} {A B : List Item}

theorem newS_star (h : Star w0 A w) : Calls Try.prog 8 #[] w fun e w' => ∃ g, e = .returned (.pointer (some ⟨g, 0, none⟩)) ∧ Star w0 (spI (fun k => k = g) g [] 0 :: A) w' :=
  (newS_any w).mono fun e w' ⟨g, he, hS, hb, hg⟩ => ⟨g, he, h.add hb hS (fun k hk => by have hk : k = g := hk; omega)⟩

/-- A call that leaves the spans as they were. -/
theorem star_same {f : FuncId} {args : Array Value} {v : Value} (h : Star w0 (A ++ spI H g X N :: B) w) (hc : Calls Try.prog f args w fun e w' => SpR w H g X N v e w') : Calls Try.prog f args w fun e w' => ∃ H', e = .returned v ∧ Star w0 (A ++ spI H' g X N :: B) w' :=
  hc.mono fun _ _ ⟨H', he, hS, hg⟩ => ⟨H', he, h.update (I' := spI H' g X N) hS hg⟩

theorem splice_star (h : Star w0 (A ++ spI H g X N :: B) w) {Bb c : Nat} {Aa : Option Addr} {l : List Th} (hl : Sees w Bb 2 Aa l.length (rowT l)) (hB : Bb ≤ w.heap.size) (hA : 0 < l.length → ∀ b o, Aa = some ⟨b, o, none⟩ → ¬ H b) (hc : l.length ≤ c) (i j : Int) (hn : l.length ≤ 70000) (hN : N ≤ 79998) (hX : X.length + l.length + 2 ≤ 80000) :
    Calls Try.prog 10 #[.pointer (some ⟨g, 0, none⟩), .int .i64 i, .int .i64 j, .slice Aa l.length c] w fun e w' => ∃ H', e = .returned (.int .i64 (spE X i j l)) ∧ Star w0 (A ++ spI H' g (spX X i j l) (max (N + 2) (spX X i j l).length) :: B) w' :=
  (splice_any h.get hl hB hA hc i j hn hN hX).mono fun _ _ ⟨H', he, hS, hg⟩ => ⟨H', he, h.update (I' := spI H' g _ _) hS hg⟩

/-- Over: a new row beside all. -/
theorem over_star (h : Star w0 (A ++ spI H g X N :: B) w) (i j : Int) : Calls Try.prog 11 #[.pointer (some ⟨g, 0, none⟩), .int .i64 i, .int .i64 j] w fun e w' => ∃ H' v xs, e = .returned (.tuple #[v, .int .i64 (betE X i j)]) ∧ Star w0 (thI v w.heap.size xs :: (A ++ spI H' g X N :: B)) w' ∧ (betE X i j = 0 → xs = overT X i j) ∧ (betE X i j ≠ 0 → v = .slice none 0 0 ∧ xs = []) :=
  (overS_any h.get i j).mono fun _ _ ⟨v, xs, he, ho, h1, h2, H', hS, hg, hf⟩ => ⟨H', v, xs, he, h.update_add (I' := spI H' g X N) (K := thI v w.heap.size xs) hS hg ho (fun _ hk => own_base ho hk) hf, h1, h2⟩
end

/-- All: a new row, and the box that holds it. -/
def AllS (w0 : World) (g N : Nat) (X : List Th) (A B : List Item) (e : Ending) (w' : World) : Prop := ∃ H' b v base, e = .returned (allF b) ∧ Star w0 (boxI b (.cells #[v] 26) :: thI v base X :: (A ++ spI H' g X N :: B)) w'

set_option maxRecDepth 100000 in
set_option maxHeartbeats 1000000 in
theorem all_star {w0 w : World} {H : Nat → Prop} {g N : Nat} {X : List Th} {A B : List Item} (h : Star w0 (A ++ spI H g X N :: B) w) : Calls Try.prog 13 #[.pointer (some ⟨g, 0, none⟩)] w fun e w' => AllS w0 g N X A B e w' := by
  have hS := h.get
  have hS : SpS w H g X N := hS
  have hok := hS.ob.okX.1
  have HL := Lib.hid (star_same h (len_any hS))
  have HO := Lib.hid (over_all hS.can hok)
  have HB := Lib.hid (show betE X 0 (sumT X) = 0 by unfold betE; rw [if_pos ⟨Int.le_refl 0, sumT_nonneg hok, Int.le_refl _⟩])
  clear h hok hS
  go_enter Try.func13, Try.ntmps13
  go_wp2_with fail
  refine HL.out.mono ?_
  rintro e w1 ⟨H1, rfl, hL⟩
  have HOv := Lib.hid (over_star hL 0 (sumT X))
  rw [HB.out, HO.out] at HOv
  clear hL HL
  go_wp2_with fail
  refine HOv.out.mono ?_
  clear HOv
  rintro e w2 ⟨H2, v, xs, rfl, hO, hx, -⟩
  obtain rfl := hx trivial
  obtain ⟨Aa, c, rfl, -, -⟩ := OwnT.shape (show OwnT w2 w1.heap.size v xs from hO.all _ (List.mem_cons_self))
  obtain ⟨v, hv⟩ : ∃ v : Value, .slice Aa xs.length c = v := ⟨_, rfl⟩
  rw [hv] at hO
  obtain ⟨b, hb⟩ : ∃ b, w2.heap.size = b := ⟨_, rfl⟩
  have hN := hO.add (I := boxI b (.cells #[v] 26)) ((Below.refl _ _).alloc (Nat.le_refl _) (.cells #[v] 26)) (by rw [← hb]; exact heap_alloc_new w2 _) (fun k hk => by have hk : k = b := hk; omega)
  have HN := Lib.hid hN
  have HV := Lib.hid hv
  have HB2 := Lib.hid hb
  clear hO hx hN hv
  go_wp2_with fail
  go_ret
  exact ⟨H2, b, .slice Aa xs.length c, w1.heap.size, rfl, by have h1 := HN.out; rw [← HV.out] at h1; exact h1⟩

end Go.Proofs.Ytbioomilnjikpaa
