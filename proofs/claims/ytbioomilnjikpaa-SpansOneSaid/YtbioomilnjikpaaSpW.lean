/-
  avl.Tree: split; lists of things: rows of them; the meld, plainly.
-/
import Derived.Test.YtbioomilnjikpaaSpS
namespace Go.Proofs.Ytbioomilnjikpaa
open Go.RowKit

set_option maxRecDepth 100000 in
set_option maxHeartbeats 1000000 in
theorem split_nil {w : World} {F : Nat → Prop} {gT gA : Nat} {root : Int} {s : List (Option Nd)} {fr : List Nat} (h : TreeW w F gT gA root s fr) (p : Nat) (a : Int) :
    Calls Try.prog 40 #[.pointer (some ⟨gT, 0, none⟩), .int .i64 (-1), .int .i64 a] w fun e w' => ∃ v, e = .returned v ∧ PostS w F gT gA root s p [] a v w' := by
  have HW := Lib.hid h
  clear h
  go_enter Try.func40, Try.ntmps40
  go_wp2_with fail
  go_ret2
  exact ⟨.tuple #[.int .i64 (-1), .int .i64 (-1)], rfl, F, fr, s, .nil, .nil, rfl, HW.out, trivial, trivial, rfl, rfl, fun _ _ _ => rfl, by omega, Grow.refl _ _⟩

theorem split_any {F : Nat → Prop} {gT gA : Nat} {root : Int} {s : List (Option Nd)} {fr : List Nat} : ∀ (T : Tr) (w : World), TreeW w F gT gA root s fr → Holds s T → OkL T.nodes → s.length < 90000 → ∀ (a : Int), -1000000000000 ≤ a → a ≤ 1000000000000 →
    Calls Try.prog 40 #[.pointer (some ⟨gT, 0, none⟩), .int .i64 T.rt, .int .i64 a] w fun e w' => ∃ v, e = .returned v ∧ PostS w F gT gA root s (nextOf s fr) T.nodes a v w'
  | .nil, w, h, _, _, _, a, _, _ => split_nil h _ a
  | .nd k u L R, w, h, hT, ho, hl, a, h1, h2 => by
    have hp := gt_next h.ok
    by_cases ha : a ≤ L.z
    · exact split_left h hT ho hp hl a h1 h2 ha (fun w h a h1 h2 => split_any L w h hT.2.1 ho.left hl a h1 h2)
    · by_cases hb : L.z + sizeT u ≤ a
      · exact split_right h hT ho hp hl a h1 h2 (by omega) hb (fun w h a h1 h2 => split_any R w h hT.2.2 ho.right.tail hl a h1 h2)
      · exact split_mid h hT ho hp hl a h1 h2 (by omega) (by omega) rfl

def sumT : List Th → Int
  | [] => 0
  | x :: l => sizeT x + sumT l
theorem sumT_append (A B : List Th) : sumT (A ++ B) = sumT A + sumT B := by
  induction A with
  | nil => simp [sumT]
  | cons p A ih => rw [List.cons_append, sumT, sumT, ih]; omega
theorem sumT_nonneg {l : List Th} (h : ∀ x ∈ l, okT x) : 0 ≤ sumT l := by
  induction l with
  | nil => exact Int.le_refl 0
  | cons x l ih =>
    have h1 := ih (fun y hy => h y (by simp [hy]))
    have h2 := sizeT_ok (h x (by simp))
    rw [sumT]
    omega
theorem sumT_of (L : List (Nat × Th)) : sumZ L = sumT (L.map (·.2)) := by
  induction L with
  | nil => rfl
  | cons p L ih => rw [sumZ, List.map_cons, sumT, ih]

/-- A thing is put behind a list, melded with its last one where it may be. -/
def meldStep (O : List Th) (x : Th) : List Th :=
  if sizeT x = 0 then O else
  match O.getLast? with
  | none => O ++ [x]
  | some y => if meldB y x then O.dropLast ++ [meldT y x] else O ++ [x]
def meldL (l : List Th) : List Th := l.foldl meldStep []

theorem meldL_take {l : List Th} {j : Nat} {x : Th} (h : l[j]? = some x) : meldL (l.take (j + 1)) = meldStep (meldL (l.take j)) x := by
  rw [List.take_add_one, h]
  simp [meldL]

theorem meldStep_ok {O : List Th} {x : Th} (hO : ∀ y ∈ O, okT y) (hx : okT x) (hs : sumT O + sizeT x ≤ 1000000000) :
    (∀ y ∈ meldStep O x, okT y) ∧ sumT (meldStep O x) = sumT O + sizeT x ∧ (meldStep O x).length ≤ O.length + 1 := by
  unfold meldStep
  split
  · next h => exact ⟨hO, by omega, by omega⟩
  · have happ : (∀ y ∈ O ++ [x], okT y) ∧ sumT (O ++ [x]) = sumT O + sizeT x ∧ (O ++ [x]).length ≤ O.length + 1 :=
      ⟨fun y hy => by rcases List.mem_append.1 hy with h | h; exact hO y h; rw [List.mem_singleton] at h; exact h ▸ hx, by rw [sumT_append, sumT, sumT]; omega, by simp⟩
    rcases List.eq_nil_or_concat O with rfl | ⟨P, y, rfl⟩
    · exact happ
    · rw [List.concat_eq_append] at *
      rw [List.getLast?_append, List.getLast?_singleton]
      simp only [Option.some_or]
      split
      · next hm =>
        have h1 := sumT_nonneg (l := P) (fun z hz => hO z (by simp [hz]))
        rw [sumT_append, sumT, sumT] at hs
        have hok := meld_ok (hO y (by simp)) hx (by omega) hm
        rw [List.dropLast_concat]
        refine ⟨fun z hz => ?_, ?_, by simp⟩
        · rcases List.mem_append.1 hz with h | h
          · exact hO z (by simp [h])
          · rw [List.mem_singleton] at h; exact h ▸ hok.1
        · rw [sumT_append, sumT_append, sumT, sumT, sumT, sumT, hok.2]; omega
      · exact happ

theorem meldF_ok : ∀ (l O : List Th), (∀ y ∈ O, okT y) → (∀ y ∈ l, okT y) → sumT O + sumT l ≤ 1000000000 →
    (∀ y ∈ l.foldl meldStep O, okT y) ∧ sumT (l.foldl meldStep O) = sumT O + sumT l ∧ (l.foldl meldStep O).length ≤ O.length + l.length
  | [], O, hO, _, _ => ⟨hO, by rw [sumT, List.foldl_nil]; omega, by simp⟩
  | x :: l, O, hO, hl, hs => by
    have hn := sumT_nonneg (l := l) (fun y hy => hl y (by simp [hy]))
    rw [sumT] at hs
    obtain ⟨a1, a2, a3⟩ := meldStep_ok hO (hl x (by simp)) (by omega)
    obtain ⟨b1, b2, b3⟩ := meldF_ok l (meldStep O x) a1 (fun y hy => hl y (by simp [hy])) (by omega)
    rw [List.foldl_cons]
    exact ⟨b1, by rw [b2, a2, sumT]; omega, by rw [List.length_cons]; omega⟩
theorem meldL_ok {l : List Th} (h : ∀ y ∈ l, okT y) (hs : sumT l ≤ 1000000000) : (∀ y ∈ meldL l, okT y) ∧ sumT (meldL l) = sumT l ∧ (meldL l).length ≤ l.length := by
  have := meldF_ok l [] (fun _ h => by cases h) h (by rw [sumT]; omega)
  simpa [sumT, meldL] using this

/-- Things as a row's cells. -/
def rowT (l : List Th) : List Value := l.flatMap encT
theorem rowT_len (l : List Th) : (rowT l).length = l.length * 2 := flat_len encT 2 encT_len l
theorem rowT_append (a b : List Th) : rowT (a ++ b) = rowT a ++ rowT b := List.flatMap_append
theorem rowT_one (x : Th) : rowT [x] = encT x := by simp [rowT]
theorem rowT_oneCell (l : List Th) : ∀ v ∈ rowT l, v.oneCell' = true := fun v hv => by
  obtain ⟨x, _, hx⟩ := List.mem_flatMap.1 hv
  exact encT_one x v hx
/-- A row of things of one's own. -/
def OwnT (w : World) (base : Nat) (v : Value) (l : List Th) : Prop := w.ownsRow base 34 2 v l.length (rowT l)

theorem own_later {w w' : World} {base : Nat} {e : TypeId} {size : Nat} {v : Value} {n : Nat} {xs : List Value} (h : w.ownsRow base e size v n xs) (hb : Below w.heap.size w w') : w'.ownsRow base e size v n xs :=
  own_below h hb (fun g hg => (h.lt g hg).2)
theorem OwnT.later {w w' : World} {base : Nat} {v : Value} {l : List Th} (h : OwnT w base v l) (hb : Below w.heap.size w w') : OwnT w' base v l := own_later h hb

theorem own_stores {base : Nat} {e : TypeId} {size g n cap : Nat} : ∀ (vs : List Value) (w : World) (xs : List Value) (o : Nat), w.ownsRow base e size (.slice (some ⟨g, 0, none⟩) n cap) n xs →
    (w.setCells g o vs).ownsRow base e size (.slice (some ⟨g, 0, none⟩) n cap) n (setMany xs o vs)
  | [], _, _, _, h => h
  | v :: vs, w, xs, o, h => by
    rw [World.setCells, setMany]
    exact own_stores vs _ _ (o + 1) (h.stored o v).1

/-- An element is written. -/
theorem OwnT.set {w : World} {base g cap : Nat} {l : List Th} (h : OwnT w base (.slice (some ⟨g, 0, none⟩) l.length cap) l) {k : Nat} (hk : k < l.length) (x : Th) :
    OwnT (w.setCells g (k * 2) (encT x)) base (.slice (some ⟨g, 0, none⟩) l.length cap) (l.set k x) := by
  have h1 := own_stores (encT x) w (rowT l) (k * 2) h
  rw [rowT, setMany_flat encT 2 encT_len l k x hk (encT x) (by rw [encT_len]; exact Nat.le_refl _) (fun _ _ => rfl) (fun j h1 h2 => by rw [encT_len] at h1; omega)] at h1
  unfold OwnT
  rw [List.length_set]
  exact h1

theorem thing_info4 : (Try.prog.info? 34).map (fun i => (i.zero, i.size, i.bytes)) = some (some (.agg #[.int .i64 0, .int .i64 0]), 2, 16) := by kernel_rfl

/-- A slice of one thing. -/
theorem run_things (x : Th) (w : World) : (Instr.buildSlice 26 1 #[(0, .agg (encT x).toArray)]).run Try.prog w = .ok (.slice (some ⟨w.heap.size, 0, none⟩) 1 1) (w.alloc (.cells (encT x).toArray 34)) := by
  kernel_rfl

theorem exec_slice1 {P : Program} {o : Oper} {ev : Operand → Value} {w w' : World} {v : Value} (t : TypeId) (x : Operand) (ho : o.op = .buildSlice t 1 #[(0, x)]) (u : Value) (hx : ev x = u)
    (h : (Instr.buildSlice t 1 #[(0, u)]).run P w = .ok v w') : (execOp ev o).run P w = .ok (.value v) w' := by
  subst hx
  unfold execOp
  simp only [ho, Sem.run_bind, List.map_toArray, List.map_cons, List.map_nil, h, Result.andThen_ok, Sem.run_pure]

theorem Sees.things {w : World} {b : Nat} {l : List Th} (h : w.heap[b]? = some (.cells (rowT l).toArray 34)) : Sees w (b + 1) 2 (some ⟨b, 0, none⟩) l.length (rowT l) :=
  ⟨rowT_len l, fun _ => ⟨b, 0, rfl, by omega, fun j u hu => by rw [cell_of_row w b _ _ _ _ h, Nat.zero_add]; simpa using hu⟩⟩

/-- A thing of a slice of things. -/
theorem Sees.thing {w : World} {B n : Nat} {A : Option Addr} {l : List Th} (h : Sees w B 2 A n (rowT l)) {k : Nat} {x : Th} (hx : l[k]? = some x) :
    n = l.length ∧ ∃ b o, A = some ⟨b, o, none⟩ ∧ b < B ∧ w.rangeAt b (o + k * 2) (encT x) := by
  have hn : n = l.length := by have h1 := h.1; rw [rowT_len] at h1; omega
  have hk := (List.getElem?_eq_some_iff.1 hx).1
  obtain ⟨b, o, hA, hb, hc⟩ := h.2 (by omega)
  refine ⟨hn, b, o, hA, hb, fun j v hv => ?_⟩
  have hj : j < 2 := by have := (List.getElem?_eq_some_iff.1 hv).1; rw [encT_len] at this; exact this
  rw [Nat.add_assoc]
  refine hc _ v ?_
  rw [rowT, flat_get encT 2 encT_len l k j hj, hx]
  exact hv

theorem OwnT.shape {w : World} {base : Nat} {v : Value} {l : List Th} (h : OwnT w base v l) : ∃ A c, v = .slice A l.length c ∧ l.length ≤ c ∧ c ≤ maxLen := by
  obtain ⟨A, c, hv, h1, h2, _⟩ := own_shape h
  exact ⟨A, c, hv, h1, h2⟩

theorem OwnT.thing {w : World} {base : Nat} {A : Option Addr} {n c : Nat} {l : List Th} (h : OwnT w base (.slice A n c) l) {k : Nat} {x : Th} (hx : l[k]? = some x) :
    n = l.length ∧ ∃ b, A = some ⟨b, 0, none⟩ ∧ base ≤ b ∧ b < w.heap.size ∧ w.rangeAt b (k * 2) (encT x) ∧ w.there b (k * 2) 2 := by
  obtain ⟨hk, he⟩ := List.getElem?_eq_some_iff.1 hx
  obtain ⟨b, c', hv, _, h1, h2, h3, h4⟩ := row_range encT encT_len (show w.ownsRow base 34 2 (.slice A n c) l.length (l.flatMap encT) from h) rfl hk
  simp only [Value.slice.injEq] at hv
  rw [he] at h3
  exact ⟨hv.2.1, b, hv.1, h1, h2, h3, h4⟩

end Go.Proofs.Ytbioomilnjikpaa
