/-
  Several texts in one: RoLw.
-/
import Derived.Test.YtmfkdaannjibfaaBdO

namespace Go.Proofs.Ytmfkdaannjibfaa
open Go.RowKit

theorem append_seesG {P : Program} {w : World} {ops : Array Oper} {rest : List Oper} {o : Oper} {a : Act} {Q : Exit → Act → World → Prop} (hgd : Region.wanted o (yielded ops a.tmps) = true) (s x : Operand) (t : TypeId)
    (ho : o.op = .call { callee := .builtin .append, args := #[s, x], argTypes := #[t, t] })
    (base : Nat) (e : TypeId) (i : TypeInfo) (z : Value) (size bytes : Nat) (ht : P.underlying t = some (.slice e)) (hi : P.info? e = some i) (hz : i.zero = some z)
    (hsize : i.size = size) (hby : i.bytes = bytes) (hzs : z.cells.size = size) (hsz : 0 < size)
    (v : Value) (n : Nat) (xs : List Value) (hs : a.eval s = v) (hown : w.ownsRow base e size v n xs)
    (B : Nat) (A : Option Addr) (m c : Nat) (news : List Value) (hx : a.eval x = .slice A m c) (hr : Sees w B size A m news) (h1 : ∀ u ∈ news, u.oneCell' = true)
    (h63 : n + m ≤ maxLen) (hbytes : (n + m) * bytes ≤ 140737488355328) (hbase : base ≤ w.heap.size)
    (h : ∀ v' w', w'.ownsRow base e size v' (n + m) (xs ++ news) → w.grownBy w' v.ownBlock → (v'.ownBlock = v.ownBlock ∨ v'.ownBlock = some w.heap.size) →
      wpList P ops Q rest (a.put o.dst v') w') : wpList P ops Q (o :: rest) a w := by
  refine wpList_step fun K hK => ?_
  rw [if_pos hgd]
  obtain ⟨v', w', hrun, h2, h3, h4, h5⟩ := run_append_sees (P := P) w base t o.type e i z size bytes ht hi hz hsize hby hzs hsz v n xs hown B A m c news hr h1 h63 hbytes hbase
  unfold Oper.wp execOp
  simp only [ho, resolve, invoke, builtin, Sem.run_bind, Sem.run_pure, Result.andThen_ok, List.map_toArray, List.map_cons, List.map_nil, hs, hx, hrun]
  exact hK _ _ (h v' w' h2 h3 h4)

theorem own_zero1 (w : World) (e : TypeId) : (w.alloc (.cells #[] e)).ownsRow w.heap.size e 1 (.slice (some ⟨w.heap.size, 0, none⟩) 0 0) 0 [] :=
  ⟨rfl, .inr ⟨w.heap.size, 0, #[], rfl, Nat.le_refl _, heap_alloc_new w _, Nat.le_refl _, Nat.zero_le _, rfl, rfl⟩⟩

/-- Two rows told alike. -/
theorem same_star {w0 w : World} {L : List Item} (h : Star w0 L w) {A A2 : Option Addr} {n n2 c c2 B B2 : Nat} {l m : List Int} (hs : Sees w B 1 A n (l.map r32)) (hs2 : Sees w B2 1 A2 n2 (m.map r32)) (hn : (n : Int) ≤ 1000000000000) (hn2 : (n2 : Int) ≤ 1000000000000) :
    Calls Try.prog 19 #[.slice A n c, .slice A2 n2 c2] w fun e w' => e = .returned (.bool (l == m)) ∧ Star w0 L w' :=
  (same_any A A2 n n2 c c2 B B2 l m w hs hs2 (by omega) (by omega)).mono fun _ _ ⟨he, k, hk⟩ => ⟨he, by rw [hk]; exact h.later (below_drewN (Below.refl _ _) k)⟩

/-- A row of runes, as it reads. -/
theorem ru_sees {w0 w : World} {L : List Item} (h : Star w0 L w) {A : Option Addr} {n c b : Nat} {R : List Int} (hm : ruI (.slice A n c) b R ∈ L) : Sees w w.heap.size 1 A n (R.map r32) ∧ R.length = n ∧ n ≤ c := by
  have ho : w.ownsRow b 21 1 (.slice A n c) R.length (R.map r32) := h.all _ hm
  obtain ⟨A', c', e, h1, -⟩ := own_shape ho
  injection e with e1 e2 e3
  subst e1 e2 e3
  exact ⟨Sees.of_own ho, rfl, h1⟩

/-- What came in, as it reads beside a law's things. -/
theorem arg_sees {w0 w : World} {L : List Item} (h : Star w0 L w) {A : Option Addr} {n : Nat} {xs : List Value} (hs : Sees w0 w0.heap.size 1 A n xs) : Sees w w.heap.size 1 A n xs := (hs.below h.below (Nat.le_refl _)).up h.below.size

/-! ### Plainly -/
theorem insE_or (R : List Int) (i : Int) (l : List Int) : insE R i l = 0 ∨ insE R i l = 3 ∨ insE R i l = 5 := by
  unfold insE
  split
  · rcases betR_or R i i with h | h
    · exact .inl h
    · exact .inr (.inr h)
  · exact .inr (.inl rfl)
theorem ins_nil (l : List Int) : (insE [] 0 l = 0 ∧ insR [] 0 l = l ∧ l.all codeB = true) ∨ (insE [] 0 l = 3 ∧ insR [] 0 l = [] ∧ l.all codeB = false) := by
  cases h : l.all codeB with
  | true =>
    have e : insE [] 0 l = 0 := by unfold insE; rw [if_pos h]; rfl
    exact .inl ⟨e, by unfold insR; rw [if_pos e]; simp, rfl⟩
  | false =>
    have e : insE [] 0 l = 3 := by unfold insE; rw [if_neg (by simp [h])]
    exact .inr ⟨e, by unfold insR; rw [if_neg (by rw [e]; decide)], rfl⟩
theorem betR_pos {R : List Int} {i j : Int} (h0 : 0 ≤ i) (h1 : i ≤ j) (h2 : j ≤ R.length) : betR R i j = 0 := by unfold betR; rw [if_pos ⟨h0, h1, h2⟩]
theorem cutR_pos {R : List Int} {i j : Int} (h0 : 0 ≤ i) (h1 : i ≤ j) (h2 : j ≤ R.length) : cutR R i j = (R.take j.toNat).drop i.toNat := by unfold cutR; rw [if_pos (betR_pos h0 h1 h2)]
theorem cutR_all (R : List Int) : cutR R 0 R.length = R := by
  rw [cutR_pos (Int.le_refl 0) (by omega) (Int.le_refl _), show (R.length : Int).toNat = R.length by omega, List.take_length]
  rfl
theorem betR_all (R : List Int) : betR R 0 R.length = 0 := betR_pos (Int.le_refl 0) (by omega) (Int.le_refl _)
theorem cutR_parts {R : List Int} {i j k : Int} (h0 : 0 ≤ i) (h1 : i ≤ j) (h2 : j ≤ k) (h3 : k ≤ R.length) : cutR R i j ++ cutR R j k = cutR R i k := by
  rw [cutR_pos h0 h1 (by omega), cutR_pos (by omega) h2 h3, cutR_pos h0 (by omega) h3]
  obtain ⟨a, rfl⟩ : ∃ a : Nat, i = a := ⟨i.toNat, by omega⟩
  obtain ⟨b, rfl⟩ : ∃ a : Nat, j = a := ⟨j.toNat, by omega⟩
  obtain ⟨c, rfl⟩ : ∃ a : Nat, k = a := ⟨k.toNat, by omega⟩
  simp only [Int.toNat_natCast]
  have e1 : R.take b = (R.take c).take b := by rw [List.take_take, Nat.min_eq_left (by omega)]
  rw [e1]
  generalize R.take c = Q
  have e2 : Q.drop b = (Q.drop a).drop (b - a) := by rw [List.drop_drop, show a + (b - a) = b by omega]
  have e3 : (Q.take b).drop a = (Q.drop a).take (b - a) := by rw [List.drop_take]
  rw [e2, e3, List.take_append_drop]
theorem nls_cut {R : List Int} {i k : Int} (h0 : 0 ≤ i) (h1 : i ≤ k) (h3 : k ≤ R.length) : nls (cutR R i k) = nls (R.take k.toNat) - nls (R.take i.toNat) := by
  have e := cutR_parts (R := R) (i := 0) (j := i) (k := k) (Int.le_refl 0) h0 h1 h3
  rw [cutR_pos (Int.le_refl 0) h0 (by omega), cutR_pos (Int.le_refl 0) (by omega) h3] at e
  have e2 := congrArg nls e
  rw [nls_app] at e2
  simp only [Int.toNat_zero, List.drop_zero] at e2
  omega
theorem lineV_pos {R : List Int} {i : Int} (h0 : 0 ≤ i) (h1 : i ≤ R.length) : lineV R i = .tuple #[.int .i64 (nls (R.take i.toNat)), .int .i64 0] := by unfold lineV; rw [if_pos ⟨h0, h1⟩]
theorem lineV_neg {R : List Int} {i : Int} (h : ¬ (0 ≤ i ∧ i ≤ R.length)) : lineV R i = .tuple #[.int .i64 0, .int .i64 5] := by unfold lineV; rw [if_neg h]
theorem nls_take_succ {R : List Int} {j : Nat} {x : Int} (h : R[j]? = some x) : nls (R.take (j + 1)) = nls (R.take j) + (if x = 10 then 1 else 0) := by
  obtain ⟨hj, rfl⟩ := List.getElem?_eq_some_iff.1 h
  rw [List.take_succ_eq_append_getElem hj, nls_app]
  congr 1
  unfold nls
  rw [List.count_singleton]
  by_cases h : R[j] = 10
  · simp [h]
  · simp [h]

/-! ### Parts one behind the other -/
theorem split3 {R : List Int} {i j : Int} (h0 : 0 ≤ i) (h1 : i ≤ j) (h2 : j ≤ R.length) : ∃ P Q S, R = P ++ (Q ++ S) ∧ (P.length : Int) = i ∧ (Q.length : Int) = j - i := by
  refine ⟨R.take i.toNat, (R.drop i.toNat).take (j - i).toNat, (R.drop i.toNat).drop (j - i).toNat, ?_, ?_, ?_⟩
  · rw [List.take_append_drop, List.take_append_drop]
  · rw [List.length_take]; omega
  · rw [List.length_take, List.length_drop]; omega
theorem bet_app {P Q S : List Int} {i j : Int} (hi : (P.length : Int) = i) (hj : (P.length : Int) + Q.length = j) : betR (P ++ (Q ++ S)) i j = 0 := by
  refine betR_pos (by omega) (by omega) ?_
  rw [List.length_append, List.length_append]
  omega
theorem del_app {P Q S : List Int} {i j : Int} (hi : (P.length : Int) = i) (hj : (P.length : Int) + Q.length = j) : delR (P ++ (Q ++ S)) i j = P ++ S := by
  unfold delR
  rw [if_pos (bet_app hi hj), show i.toNat = P.length by omega, show j.toNat = P.length + Q.length by omega, List.take_left, List.drop_append]
  congr 1
  rw [List.drop_of_length_le (by omega), show P.length + Q.length - P.length = Q.length by omega, List.drop_left]
  rfl
theorem cut_app {P Q S : List Int} {i j : Int} (hi : (P.length : Int) = i) (hj : (P.length : Int) + Q.length = j) : cutR (P ++ (Q ++ S)) i j = Q := by
  unfold cutR
  rw [if_pos (bet_app hi hj), show i.toNat = P.length by omega, show j.toNat = P.length + Q.length by omega, ← List.append_assoc, List.take_left' (by rw [List.length_append]), List.drop_left]
theorem insE_app {P S l : List Int} {i : Int} (hi : (P.length : Int) = i) (hg : l.all codeB = true) : insE (P ++ S) i l = 0 := by
  unfold insE
  rw [if_pos hg]
  refine betR_pos (by omega) (Int.le_refl _) ?_
  rw [List.length_append]
  omega
theorem insR_app {P S l : List Int} {i : Int} (hi : (P.length : Int) = i) (hg : l.all codeB = true) : insR (P ++ S) i l = P ++ (l ++ S) := by
  unfold insR
  rw [if_pos (insE_app hi hg), show i.toNat = P.length by omega, List.take_left, List.drop_left, List.append_assoc]
theorem insE_bad {R l : List Int} {i : Int} (hg : l.all codeB = false) : insE R i l = 3 := by unfold insE; rw [if_neg (by simp [hg])]

/-- Two parts taken out, in either order. -/
theorem del_two {R : List Int} {i j k m : Int} (h0 : 0 ≤ i) (h1 : i ≤ j) (h2 : j ≤ k) (h3 : k ≤ m) (h4 : m ≤ R.length) :
    ∃ Z : List Int, betR R k m = 0 ∧ betR (delR R k m) i j = 0 ∧ betR R i j = 0 ∧ betR (delR R i j) (k - (j - i)) (m - (j - i)) = 0 ∧ delR (delR R k m) i j = Z ∧ delR (delR R i j) (k - (j - i)) (m - (j - i)) = Z ∧ (Z.length : Int) = R.length - (j - i) - (m - k) ∧ (delR R k m).length ≤ R.length ∧ (delR R i j).length ≤ R.length := by
  obtain ⟨A, B, S, rfl, ha, hb⟩ := split3 h0 h1 (by omega : j ≤ R.length)
  rw [List.length_append, List.length_append] at h4
  obtain ⟨C, D, E, rfl, hc, hd⟩ := split3 (R := S) (i := k - j) (j := m - j) (by omega) (by omega) (by omega)
  have e1 : A ++ (B ++ (C ++ (D ++ E))) = (A ++ (B ++ C)) ++ (D ++ E) := by simp [List.append_assoc]
  have e2 : A ++ (B ++ C) ++ E = A ++ (B ++ (C ++ E)) := by simp [List.append_assoc]
  have e3 : A ++ (C ++ (D ++ E)) = (A ++ C) ++ (D ++ E) := by simp [List.append_assoc]
  have l1 : ((A ++ (B ++ C)).length : Int) = k := by simp only [List.length_append]; omega
  have d1 : delR (A ++ (B ++ (C ++ (D ++ E)))) k m = A ++ (B ++ (C ++ E)) := by rw [e1, del_app l1 (by omega), e2]
  have d2 : delR (A ++ (B ++ (C ++ (D ++ E)))) i j = A ++ (C ++ (D ++ E)) := del_app ha (by omega)
  have l2 : ((A ++ C).length : Int) = k - (j - i) := by simp only [List.length_append]; omega
  refine ⟨A ++ (C ++ E), ?_, ?_, bet_app ha (by omega), ?_, ?_, ?_, ?_, ?_, ?_⟩
  · rw [e1]; exact bet_app l1 (by omega)
  · rw [d1]; exact bet_app ha (by omega)
  · rw [d2, e3]; exact bet_app l2 (by omega)
  · rw [d1]; exact del_app ha (by omega)
  · rw [d2, e3, del_app l2 (by omega), List.append_assoc]
  · simp only [List.length_append]; omega
  · rw [d1]; simp only [List.length_append]; omega
  · rw [d2]; simp only [List.length_append]; omega

/-- Two texts put in, in either order. -/
theorem ins_two {l a b : List Int} {i j : Int} (h0 : 0 ≤ i) (h1 : i ≤ j) (h2 : j ≤ l.length) (ha : a.all codeB = true) (hb : b.all codeB = true) :
    ∃ R1 R2 Z : List Int, insE l j b = 0 ∧ insR l j b = R1 ∧ insE R1 i a = 0 ∧ insR R1 i a = Z ∧ insE l i a = 0 ∧ insR l i a = R2 ∧ insE R2 (j + a.length) b = 0 ∧ insR R2 (j + a.length) b = Z ∧ (Z.length : Int) = l.length + a.length + b.length := by
  obtain ⟨P, Q, S, rfl, hp, hq⟩ := split3 h0 h1 h2
  have e1 : P ++ (Q ++ S) = (P ++ Q) ++ S := by simp [List.append_assoc]
  have l1 : ((P ++ Q).length : Int) = j := by rw [List.length_append]; omega
  have d1 : insR (P ++ (Q ++ S)) j b = P ++ (Q ++ (b ++ S)) := by rw [e1, insR_app l1 hb, List.append_assoc]
  have d2 : insR (P ++ (Q ++ S)) i a = P ++ (a ++ (Q ++ S)) := insR_app hp ha
  have e2 : P ++ (a ++ (Q ++ S)) = (P ++ (a ++ Q)) ++ S := by simp [List.append_assoc]
  have l2 : ((P ++ (a ++ Q)).length : Int) = j + a.length := by simp only [List.length_append]; omega
  refine ⟨_, _, P ++ (a ++ (Q ++ (b ++ S))), ?_, d1, insE_app hp ha, insR_app hp ha, insE_app hp ha, d2, ?_, ?_, ?_⟩
  · rw [e1]; exact insE_app l1 hb
  · rw [e2]; exact insE_app l2 hb
  · rw [e2, insR_app l2 hb]; simp [List.append_assoc]
  · simp only [List.length_append]; omega
theorem all_or (a : List Int) : a.all codeB = true ∨ a.all codeB = false := by cases a.all codeB <;> simp
theorem insE_good {R l : List Int} {i : Int} (h0 : 0 ≤ i) (h1 : i ≤ R.length) (hg : l.all codeB = true) : insE R i l = 0 := by unfold insE; rw [if_pos hg]; exact betR_pos h0 (Int.le_refl _) h1

end Go.Proofs.Ytmfkdaannjibfaa
