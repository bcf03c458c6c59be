/-
  Records under a law's script: what a call leaves.
-/
import Derived.Test.YtpaelbhljgdenaaPaKo
namespace Go.Proofs.Ytpaelbhljgdenaa
open Go.RowKit

/-- So many records there are at most behind k calls; all sets rise. -/
structure PX (X : List (List At)) (k : Nat) : Prop where
  len : X.length ≤ 60 * k
  rise : ∀ a ∈ X, riseA a

theorem PX.nil_ : PX [] 0 := ⟨Nat.le_refl _, fun _ h => nomatch h⟩
theorem PX.more {X : List (List At)} {k k' : Nat} (h : PX X k) (hk : k ≤ k') : PX X k' := ⟨by have := h.len; omega, h.rise⟩
theorem PX.ins {X : List (List At)} {k : Nat} {o : OpS} (h : PX X k) (ho : smallO o) (hl : o.L.length = o.xs.length) (i : Int) : PX (insX X i o.L) (k + 1) := by
  unfold insX
  split
  · refine ⟨?_, fun a ha => ?_⟩
    · rw [List.length_append, List.length_append, List.length_take, List.length_drop]
      have h1 := h.len
      have h2 := ho.1
      omega
    · rcases List.mem_append.1 ha with e | e
      · rcases List.mem_append.1 e with e | e
        · exact h.rise a (List.mem_of_mem_take e)
        · exact (ho.2.2.2 a e).2
      · exact h.rise a (List.mem_of_mem_drop e)
  · exact h.more (by omega)
theorem PX.del {X : List (List At)} {k : Nat} (h : PX X k) (i j : Int) : PX (delX X i j) (k + 1) := by
  unfold delX
  split
  · next hb =>
    have hz := betP_zero hb
    refine ⟨?_, fun a ha => ?_⟩
    · rw [List.length_append, List.length_take, List.length_drop]
      have h1 := h.len
      omega
    · rcases List.mem_append.1 ha with e | e
      · exact h.rise a (List.mem_of_mem_take e)
      · exact h.rise a (List.mem_of_mem_drop e)
  · exact h.more (by omega)
theorem patX_len (X : List (List At)) (i j : Int) (p : List Ch) : (patX X i j p).length = X.length := by
  unfold patX
  split
  · next hb =>
    obtain ⟨h0, h1, h2⟩ := betP_zero hb
    rw [List.length_append, List.length_append, List.length_take, List.length_map, List.length_take, List.length_drop, List.length_drop]
    omega
  · rfl
theorem PX.pat {X : List (List At)} {k : Nat} {p : List Ch} (h : PX X k) (hp : riseC p) (i j : Int) : PX (patX X i j p) (k + 1) := by
  refine ⟨by rw [patX_len]; have := h.len; omega, fun a ha => ?_⟩
  unfold patX at ha
  split at ha
  · rcases List.mem_append.1 ha with e | e
    · rcases List.mem_append.1 e with e | e
      · exact h.rise a (List.mem_of_mem_take e)
      · obtain ⟨b, hb, rfl⟩ := List.mem_map.1 e
        exact apply_rise p b (h.rise b (List.mem_of_mem_drop (List.mem_of_mem_take hb))) hp
    · exact h.rise a (List.mem_of_mem_drop e)
  · exact h.rise a ha

section
variable {w0 w : World} {K : Nat → Prop} {g k : Nat} {X : List (List At)} {A B : List Item}

theorem ins_scr (h : Star w0 (A ++ paI K g X (7200 + 2 * k) (70 * (k + 1)) :: B) w) (hX : PX X k) (hk : k ≤ 59) {o : OpS} (ho : o.Ok w0) (hs : smallO o) (i : Int) :
    Calls Try.prog 10 #[.pointer (some ⟨g, 0, none⟩), .int .i64 i, .slice o.A o.xs.length o.c] w fun e w' => ∃ K', e = .returned (.int .i64 (betP X i i)) ∧ Star w0 (A ++ paI K' g (insX X i o.L) (7200 + 2 * (k + 1)) (70 * (k + 1 + 1)) :: B) w' := by
  have h1 := hX.len
  have h2 := hs.1
  have h3 := ho.sets.len
  refine (ins_star h ho (by omega) (fun a ha => by have := (hs.2.2.2 a ha).1; omega) (by omega) (by omega) i).mono ?_
  rintro e w' ⟨K', he, hS⟩
  exact ⟨K', he, pa_more hS (by omega) (by omega)⟩
theorem del_scr (h : Star w0 (A ++ paI K g X (7200 + 2 * k) (70 * (k + 1)) :: B) w) (hX : PX X k) (hk : k ≤ 59) (i j : Int) :
    Calls Try.prog 11 #[.pointer (some ⟨g, 0, none⟩), .int .i64 i, .int .i64 j] w fun e w' => ∃ K', e = .returned (.int .i64 (betP X i j)) ∧ Star w0 (A ++ paI K' g (delX X i j) (7200 + 2 * (k + 1)) (70 * (k + 1 + 1)) :: B) w' := by
  have h1 := hX.len
  refine (del_star h (by omega) (by omega) i j).mono ?_
  rintro e w' ⟨K', he, hS⟩
  exact ⟨K', he, pa_more hS (by omega) (by omega)⟩
theorem pat_scr (h : Star w0 (A ++ paI K g X (7200 + 2 * k) (70 * (k + 1)) :: B) w) (hX : PX X k) (hk : k ≤ 59) {o : OpS} (ho : o.Ok w0) (hs : smallO o) (i j : Int) :
    Calls Try.prog 12 #[.pointer (some ⟨g, 0, none⟩), .int .i64 i, .int .i64 j, .slice o.A2 o.p.length o.c2] w fun e w' => ∃ K', e = .returned (.int .i64 (betP X i j)) ∧ Star w0 (A ++ paI K' g (patX X i j o.p) (7200 + 2 * (k + 1)) (70 * (k + 1 + 1)) :: B) w' := by
  have h1 := hX.len
  have h2 := hs.2.1
  refine (pat_star h ho (by omega) (by omega) (by omega) (by omega) i j).mono ?_
  rintro e w' ⟨K', he, hS⟩
  exact ⟨K', he, pa_more hS (by omega) (by omega)⟩
end

/-- A set told, and one of a row of sets, or two of rows, told alike. -/
theorem sets_at {w : World} {v : Value} {base n c : Nat} {A : Option Addr} {D : Nat → Prop} {X : List (List At)} (h : (setsI v base D X).P w) (hv : v = .slice A n c) {j : Nat} {a : List At} (ha : X[j]? = some a) :
    n = X.length ∧ ∃ b t, A = some ⟨b, 0, none⟩ ∧ w.cell? ⟨b, j, none⟩ = some (.slice t.A a.length t.c) ∧ SetAt w D t a := by
  subst hv
  obtain ⟨⟨xs, h1, h2⟩, _⟩ := h
  obtain ⟨t, ht⟩ : ∃ t, xs[j]? = some t := ⟨_, List.getElem?_eq_getElem (by rw [h2.len]; exact (List.getElem?_eq_some_iff.1 ha).1)⟩
  obtain ⟨hn, b, hA, _, _, hr, _⟩ := h1.thing ht
  rw [Nat.mul_one] at hr
  have hs := h2.get j t a ht ha
  exact ⟨by rw [hn, h2.len], b, t, hA, by rw [hs.len]; exact thing_cell hr, hs⟩
theorem sets_shape {w : World} {v : Value} {base : Nat} {D : Nat → Prop} {X : List (List At)} (h : (setsI v base D X).P w) : ∃ A c, v = .slice A X.length c := by
  obtain ⟨⟨xs, h1, h2⟩, _⟩ := h
  obtain ⟨A, c, hv, _⟩ := h1.shape
  exact ⟨A, c, by rw [hv, h2.len]⟩
theorem set_shape {w : World} {v : Value} {base : Nat} {a : List At} (h : (setI v base a).P w) : ∃ A c, v = .slice A a.length c ∧ Sees w w.heap.size 5 A a.length (rowA a) := by
  obtain ⟨A, c, hv, _⟩ := own_shape (show w.ownsRow base 72 5 v a.length (rowA a) from h)
  subst hv
  exact ⟨A, c, rfl, Sees.of_own (show w.ownsRow base 72 5 (.slice A a.length c) a.length (rowA a) from h)⟩

/-- A call of a law's script, as cells. -/
theorem op_range {w : World} {A : Option Addr} {n : Nat} {ops : List OpS} (hs : Sees w w.heap.size 5 A n (ops.flatMap OpS.cells)) {k : Nat} {o : OpS} (ho : ops[k]? = some o) :
    ∃ b f, A = some ⟨b, f, none⟩ ∧ b < w.heap.size ∧ w.rangeAt b (f + k * 5) o.cells := by
  obtain ⟨_, b, f, hA, hb, hr⟩ := hs.elem OpS.cells 5 (fun _ => rfl) ho
  exact ⟨b, f, hA, hb, hr⟩

end Go.Proofs.Ytpaelbhljgdenaa
