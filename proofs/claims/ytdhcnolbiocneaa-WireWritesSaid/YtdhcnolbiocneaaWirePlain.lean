/-
  Plain laws of the forms of natural and whole numbers: no program in sight.
-/
import Derived.WalkKit
namespace Go.Proofs.Ytdhcnolbiocneaa
open Go.RowKit

/-- The form of a natural number, in at most k + 1 bytes. -/
def form : Nat → Nat → List UInt8
  | 0, x => [UInt8.ofNat x]
  | k + 1, x => if x < 128 then [UInt8.ofNat x] else UInt8.ofNat (x % 128 + 128) :: form k (x / 128)

/-- What is read behind i bytes that made n: the number, how many bytes, the error's number. -/
def rd : Nat → Nat → List UInt8 → Nat × Nat × Nat
  | _, _, [] => (0, 0, 3)
  | i, n, x :: r => if (i = 9 ∧ 1 < x.toNat) ∨ (0 < i ∧ x.toNat = 0) then (0, 0, 3) else if x.toNat < 128 then (n + x.toNat * 2 ^ (7 * i), i + 1, 0) else rd (i + 1) (n + (x.toNat % 128) * 2 ^ (7 * i)) r

/-- The number that bytes make, whatever they are. -/
def val : List UInt8 → Nat
  | [] => 0
  | x :: r => x.toNat % 128 + 128 * val r

theorem toNat_low {x : Nat} (h : x < 256) : (UInt8.ofNat x).toNat = x := by simp; omega

theorem form_pos (k x : Nat) : 1 ≤ (form k x).length := by
  cases k with
  | zero => simp [form]
  | succ k => unfold form; split <;> simp

theorem form_le (k : Nat) : ∀ x, (form k x).length ≤ k + 1 := by
  induction k with
  | zero => intro x; simp [form]
  | succ k ih =>
    intro x
    unfold form
    split
    · simp
    · have := ih (x / 128); simp; omega

theorem form_fuel (k : Nat) : ∀ x, (form k x).length ≤ (form (k + 1) x).length := by
  induction k with
  | zero => intro x; have := form_pos 1 x; simpa [form] using this
  | succ k ih =>
    intro x
    rw [form, form]
    split
    · simp
    · have := ih (x / 128); simp; omega

theorem form_mono (k : Nat) : ∀ x y, x ≤ y → (form k x).length ≤ (form k y).length := by
  induction k with
  | zero => intro x y _; simp [form]
  | succ k ih =>
    intro x y h
    by_cases hx : x < 128
    · rw [form, if_pos hx]; exact form_pos _ _
    · rw [form, if_neg hx, form, if_neg (by omega)]
      have := ih (x / 128) (y / 128) (by omega)
      simp; omega

theorem form_next (k : Nat) (x y : Nat) (h : y / 128 ≤ x) : (form k y).length ≤ (form k x).length + 1 := by
  cases k with
  | zero => simp [form]
  | succ k =>
    rw [form]
    split
    · simp
    · have h1 := form_mono k _ _ h
      have h2 := form_fuel k x
      simp only [List.length_cons]; omega

theorem rd_form (k : Nat) : ∀ (x i n : Nat) (rest : List UInt8), i + k = 9 → x < 2 ^ (64 - 7 * i) → (0 < i → x ≠ 0) → rd i n (form k x ++ rest) = (n + x * 2 ^ (7 * i), i + (form k x).length, 0) := by
  induction k with
  | zero =>
    intro x i n rest hi hx hz
    obtain rfl : i = 9 := by omega
    have hx2 : x < 2 := by simpa using hx
    have hz' := hz (by omega)
    obtain rfl : x = 1 := by omega
    simp [form, rd]
  | succ k ih =>
    intro x i n rest hi hx hz
    by_cases h : x < 128
    · rw [form, if_pos h]
      simp only [List.cons_append, List.nil_append, rd, toNat_low (show x < 256 by omega), List.length_singleton]
      rw [if_neg (by omega), if_pos h]
    · rw [form, if_neg h]
      simp only [List.cons_append, rd, toNat_low (show x % 128 + 128 < 256 by omega), List.length_cons]
      rw [if_neg (by omega), if_neg (by omega)]
      have hp : 2 ^ (64 - 7 * i) = 128 * 2 ^ (64 - 7 * (i + 1)) := by
        rw [show 64 - 7 * i = 7 + (64 - 7 * (i + 1)) by omega, Nat.pow_add]
      have hp2 : 2 ^ (7 * (i + 1)) = 128 * 2 ^ (7 * i) := by rw [show 7 * (i + 1) = 7 + 7 * i by omega, Nat.pow_add]
      rw [ih (x / 128) (i + 1) _ rest (by omega) (by omega) (by omega)]
      refine Prod.ext ?_ (Prod.ext ?_ rfl)
      · show n + (x % 128 + 128) % 128 * 2 ^ (7 * i) + x / 128 * 2 ^ (7 * (i + 1)) = n + x * 2 ^ (7 * i)
        rw [hp2, show (x % 128 + 128) % 128 = x % 128 by omega, ← Nat.mul_assoc, Nat.add_assoc, ← Nat.add_mul, show x % 128 + x / 128 * 128 = x by omega]
      · show i + 1 + (form k (x / 128)).length = i + ((form k (x / 128)).length + 1)
        omega

theorem rd_only : ∀ (l : List UInt8) (i n v c : Nat), i ≤ 9 → rd i n l = (v, c, 0) →
    i < c ∧ c ≤ i + l.length ∧ c ≤ 10 ∧ ∃ x, x < 2 ^ (64 - 7 * i) ∧ v = n + x * 2 ^ (7 * i) ∧ l.take (c - i) = form (9 - i) x ∧ (0 < i → x ≠ 0) := by
  intro l
  induction l with
  | nil => intro i n v c _ h; simp [rd] at h
  | cons b r ih =>
    intro i n v c hi h
    rw [rd] at h
    by_cases h1 : (i = 9 ∧ 1 < b.toNat) ∨ (0 < i ∧ b.toNat = 0)
    · rw [if_pos h1] at h; simp at h
    · rw [if_neg h1] at h
      by_cases h2 : b.toNat < 128
      · rw [if_pos h2] at h
        simp only [Prod.mk.injEq] at h
        obtain ⟨rfl, rfl, _⟩ := h
        refine ⟨by omega, by simp, by omega, b.toNat, ?_, rfl, ?_, by omega⟩
        · by_cases h9 : i = 9
          · subst h9; have : b.toNat ≤ 1 := by omega
            exact Nat.lt_of_le_of_lt this (by decide)
          · exact Nat.lt_of_lt_of_le h2 (Nat.pow_le_pow_right (n := 2) (by omega) (by omega : 7 ≤ 64 - 7 * i))
        · rw [show i + 1 - i = 1 by omega]
          simp only [List.take_succ_cons, List.take_zero]
          cases hk : 9 - i with
          | zero => simp [form]
          | succ k => rw [form, if_pos h2]; simp
      · rw [if_neg h2] at h
        have hi8 : i ≤ 8 := by
          rcases Nat.lt_or_ge i 9 with h8 | h8
          · omega
          · exact absurd (Or.inl ⟨by omega, by omega⟩) h1
        obtain ⟨g1, g2, g3, x, g4, g5, g6, g7⟩ := ih (i + 1) _ v c (by omega) h
        have hp : 2 ^ (64 - 7 * i) = 128 * 2 ^ (64 - 7 * (i + 1)) := by
          rw [show 64 - 7 * i = 7 + (64 - 7 * (i + 1)) by omega, Nat.pow_add]
        have hp2 : 2 ^ (7 * (i + 1)) = 128 * 2 ^ (7 * i) := by rw [show 7 * (i + 1) = 7 + 7 * i by omega, Nat.pow_add]
        have hx0 := g7 (by omega)
        have hb := b.toNat_lt
        have hb' : b.toNat < 256 := by simpa using hb
        refine ⟨by omega, by simp only [List.length_cons]; omega, g3, b.toNat % 128 + 128 * x, by omega, ?_, ?_, by omega⟩
        · rw [g5, hp2, Nat.add_assoc, Nat.add_mul]
          congr 2
          rw [← Nat.mul_assoc, Nat.mul_comm x 128]
        · rw [show c - i = (c - (i + 1)) + 1 by omega, List.take_succ_cons, g6, show 9 - i = (9 - (i + 1)) + 1 by omega, form, if_neg (by omega)]
          rw [show (b.toNat % 128 + 128 * x) % 128 + 128 = b.toNat by omega, show (b.toNat % 128 + 128 * x) / 128 = x by omega]
          simp

theorem rd_fail : ∀ (l : List UInt8) (i n : Nat), (rd i n l).2.2 = 0 ∨ rd i n l = (0, 0, 3) := by
  intro l
  induction l with
  | nil => intro i n; exact .inr rfl
  | cons b r ih =>
    intro i n
    rw [rd]
    split
    · exact .inr rfl
    · split
      · exact .inl rfl
      · exact ih _ _

theorem rd_form0 (x : Nat) (hx : x < 18446744073709551616) (rest : List UInt8) : rd 0 0 (form 9 x ++ rest) = (x, (form 9 x).length, 0) := by
  have := rd_form 9 x 0 0 rest rfl (by simpa using hx) (by omega)
  simpa using this

theorem rd_only0 (l : List UInt8) (v c : Nat) (h : rd 0 0 l = (v, c, 0)) : 1 ≤ c ∧ c ≤ l.length ∧ c ≤ 10 ∧ v < 18446744073709551616 ∧ l.take c = form 9 v := by
  obtain ⟨h1, h2, h3, x, h4, h5, h6, _⟩ := rd_only l 0 0 v c (by omega) h
  have hv : v = x := by simpa using h5
  subst hv
  exact ⟨by omega, by omega, h3, by simpa using h4, by simpa using h6⟩

theorem form_prefix (x y : Nat) (hx : x < 18446744073709551616) (hy : y < 18446744073709551616) (c : Nat) (h : (form 9 y).take c = form 9 x) : x = y := by
  have h1 := rd_form0 x hx ((form 9 y).drop c)
  have h2 := rd_form0 y hy []
  rw [← h, List.take_append_drop] at h1
  rw [List.append_nil, h1] at h2
  simp only [Prod.mk.injEq] at h2
  exact h2.1

theorem val_form (k : Nat) : ∀ x, x < 128 ^ (k + 1) → val (form k x) = x := by
  induction k with
  | zero => intro x hx; simp [form, val] at hx ⊢; omega
  | succ k ih =>
    intro x hx
    rw [form]
    split
    · simp [val]; omega
    · rw [val, ih _ (by rw [Nat.pow_succ] at hx; omega), toNat_low (by omega)]
      omega

theorem form_bytes (k : Nat) : ∀ (x j : Nat) (h : j < (form k x).length), x < 128 ^ (k + 1) → (j + 1 < (form k x).length → 128 ≤ ((form k x)[j]).toNat) ∧ (j + 1 = (form k x).length → ((form k x)[j]).toNat < 128) := by
  induction k with
  | zero =>
    intro x j h hx
    have hj : j = 0 := by simpa [form] using h
    subst hj
    have : x < 128 := by simpa using hx
    refine ⟨fun h => by simp [form] at h, fun _ => ?_⟩
    simp only [form, List.getElem_cons_zero, toNat_low (show x < 256 by omega)]
    omega
  | succ k ih =>
    intro x j h hx
    by_cases hlt : x < 128
    · have he : form (k + 1) x = [UInt8.ofNat x] := by rw [form, if_pos hlt]
      simp only [he] at h ⊢
      have hj : j = 0 := by simpa using h
      subst hj
      refine ⟨fun h => by simp at h, fun _ => ?_⟩
      simp only [List.getElem_cons_zero, toNat_low (show x < 256 by omega)]
      omega
    · have he : form (k + 1) x = UInt8.ofNat (x % 128 + 128) :: form k (x / 128) := by rw [form, if_neg hlt]
      simp only [he] at h ⊢
      cases j with
      | zero =>
        refine ⟨fun _ => ?_, fun h => ?_⟩
        · simp only [List.getElem_cons_zero, toNat_low (show x % 128 + 128 < 256 by omega)]
          omega
        · have := form_pos k (x / 128)
          simp only [List.length_cons] at h
          omega
      | succ j =>
        simp only [List.length_cons, Nat.add_lt_add_iff_right] at h
        have := ih (x / 128) j h (by rw [Nat.pow_succ] at hx; omega)
        simp only [List.length_cons, List.getElem_cons_succ]
        exact ⟨fun h' => this.1 (by omega), fun h' => this.2 (by omega)⟩

theorem big_pow {v : Nat} (h : v < 18446744073709551616) : v < 128 ^ (9 + 1) := Nat.lt_trans h (by decide)

/-- The first byte below 128 stands at c: what is read is told by the number that the bytes so far make. -/
theorem rd_stop (l : List UInt8) (c : Nat) (_hc : c < 10) (hl : c < l.length) (hall : ∀ j (h : j < l.length), j < c → 128 ≤ (l[j]).toNat) (hx : (l[c]).toNat < 128) :
    rd 0 0 l = if form 9 (val (l.take (c + 1)) % 18446744073709551616) = l.take (c + 1) then (val (l.take (c + 1)) % 18446744073709551616, c + 1, 0) else (0, 0, 3) := by
  have hm : val (l.take (c + 1)) % 18446744073709551616 < 18446744073709551616 := Nat.mod_lt _ (by omega)
  by_cases h : form 9 (val (l.take (c + 1)) % 18446744073709551616) = l.take (c + 1)
  · rw [if_pos h]
    have h1 := rd_form0 _ hm (l.drop (c + 1))
    rw [h, List.take_append_drop, List.length_take, Nat.min_eq_left (by omega)] at h1
    exact h1
  · rw [if_neg h]
    rcases rd_fail l 0 0 with h0 | h0
    · exfalso
      obtain ⟨v, d, e, hr⟩ : ∃ v d e, rd 0 0 l = (v, d, e) := ⟨_, _, _, rfl⟩
      rw [hr] at h0
      have he : e = 0 := h0
      subst he
      obtain ⟨g1, g2, g3, g4, g5⟩ := rd_only0 l v d hr
      have hlen : (form 9 v).length = d := by rw [← g5, List.length_take]; omega
      have hb : ∀ j (hj : j < d), ∃ hj' : j < (form 9 v).length, (form 9 v)[j] = l[j]'(by omega) := by
        intro j hj
        refine ⟨by omega, ?_⟩
        have : (form 9 v)[j]? = l[j]? := by rw [← g5, List.getElem?_take, if_pos hj]
        rw [List.getElem?_eq_getElem (by omega), List.getElem?_eq_getElem (by omega)] at this
        exact Option.some.inj this
      have hdc : d = c + 1 := by
        rcases Nat.lt_trichotomy d (c + 1) with hlt | heq | hgt
        · exfalso
          obtain ⟨hj', e1⟩ := hb (d - 1) (by omega)
          have := (form_bytes 9 v (d - 1) hj' (big_pow g4)).2 (by omega)
          rw [e1] at this
          have := hall (d - 1) (by omega) (by omega)
          omega
        · exact heq
        · exfalso
          obtain ⟨hj', e1⟩ := hb c (by omega)
          have := (form_bytes 9 v c hj' (big_pow g4)).1 (by omega)
          rw [e1] at this
          omega
      subst hdc
      apply h
      rw [g5, val_form 9 v (big_pow g4), Nat.mod_eq_of_lt g4]
    · exact h0

/-- No byte below 128 stands among the first ten. -/
theorem rd_none (l : List UInt8) (hall : ∀ j (h : j < l.length), j < 10 → 128 ≤ (l[j]).toNat) : rd 0 0 l = (0, 0, 3) := by
  rcases rd_fail l 0 0 with h0 | h0
  · exfalso
    obtain ⟨v, d, e, hr⟩ : ∃ v d e, rd 0 0 l = (v, d, e) := ⟨_, _, _, rfl⟩
    rw [hr] at h0
    have he : e = 0 := h0
    subst he
    obtain ⟨g1, g2, g3, g4, g5⟩ := rd_only0 l v d hr
    have hlen : (form 9 v).length = d := by rw [← g5, List.length_take]; omega
    have := (form_bytes 9 v (d - 1) (by omega) (big_pow g4)).2 (by omega)
    have h2 : (form 9 v)[d - 1]? = l[d - 1]? := by rw [← g5, List.getElem?_take, if_pos (by omega)]
    rw [List.getElem?_eq_getElem (by omega), List.getElem?_eq_getElem (by omega)] at h2
    rw [Option.some.inj h2] at this
    have := hall (d - 1) (by omega) (by omega)
    omega
  · exact h0

theorem val_snoc (l : List UInt8) (x : UInt8) : val (l ++ [x]) = val l + x.toNat % 128 * 128 ^ l.length := by
  induction l with
  | nil => simp [val]
  | cons b r ih =>
    rw [List.cons_append, val, ih, val, List.length_cons, Nat.pow_succ, Nat.mul_add, Nat.mul_comm (128 ^ r.length) 128, Nat.mul_left_comm, Nat.add_assoc]

/-! ### Whole numbers -/
/-- The natural number of a whole one. -/
def zigN (i : Int) : Nat := if 0 ≤ i then (2 * i).toNat else (-(2 * i) - 1).toNat
/-- The whole number of a natural one. -/
def zagN (n : Nat) : Int := if n % 2 = 0 then ((n / 2 : Nat) : Int) else -((n / 2 : Nat) : Int) - 1

theorem zag_zig (i : Int) : zagN (zigN i) = i := by
  unfold zagN zigN
  split <;> split <;> omega

theorem zig_lt (i : Int) (h1 : -9223372036854775808 ≤ i) (h2 : i ≤ 9223372036854775807) : zigN i < 18446744073709551616 := by
  unfold zigN; split <;> omega

/-! ### The program's own bits -/
theorem wrap_u64 (n : Int) : IntKind.u64.wrap n = n % 18446744073709551616 := by simp [IntKind.wrap, IntKind.bits, IntKind.signed]
theorem xor_ones (a : Nat) (ha : a < 18446744073709551616) : BitVec.ofNat 64 a ^^^ BitVec.ofInt 64 (-1) = BitVec.ofNat 64 (18446744073709551615 - a) := by
  have h : BitVec.ofInt 64 (-1) = BitVec.allOnes 64 := by decide
  rw [h, BitVec.xor_allOnes]
  apply BitVec.eq_of_toNat_eq
  rw [BitVec.toNat_not, BitVec.toNat_ofNat, BitVec.toNat_ofNat]
  omega

theorem zig_neg (a : Nat) (ha : a < 18446744073709551616) : bits BinOp.xor IntKind.u64 (a : Int) 18446744073709551615 = ((18446744073709551615 - a : Nat) : Int) := by
  show IntKind.u64.wrap ((BitVec.ofInt 64 (a : Int) ^^^ BitVec.ofInt 64 18446744073709551615).toNat : Int) = _
  have h : BitVec.ofInt 64 18446744073709551615 = BitVec.ofInt 64 (-1) := by decide
  rw [h, BitVec.ofInt_natCast, xor_ones a ha, BitVec.toNat_ofNat]
  rw [wrap_u64]
  omega

theorem zag_neg (a : Nat) (ha : a < 9223372036854775808) : bits BinOp.xor IntKind.i64 (a : Int) (-1) = -(a : Int) - 1 := by
  show IntKind.i64.wrap ((BitVec.ofInt 64 (a : Int) ^^^ BitVec.ofInt 64 (-1)).toNat : Int) = _
  rw [BitVec.ofInt_natCast, xor_ones a (by omega), BitVec.toNat_ofNat, IntKind.wrap_i64]
  omega
theorem zag_pos (a : Nat) (ha : a < 9223372036854775808) : bits BinOp.xor IntKind.i64 (a : Int) 0 = (a : Int) := by
  show IntKind.i64.wrap ((BitVec.ofInt 64 (a : Int) ^^^ BitVec.ofInt 64 0).toNat : Int) = _
  have h : BitVec.ofInt 64 0 = 0#64 := by decide
  rw [BitVec.ofInt_natCast, h, BitVec.xor_zero, BitVec.toNat_ofNat, IntKind.wrap_i64]
  omega

theorem zig_bits (i : Int) (h0 : -9223372036854775808 ≤ i) (h1 : i ≤ 9223372036854775807) :
   bits BinOp.xor IntKind.u64 (IntKind.u64.wrap (IntKind.u64.wrap i * 2)) (IntKind.u64.wrap (i / 9223372036854775808)) = zigN i := by
  rw [wrap_u64, wrap_u64, wrap_u64]
  by_cases h : 0 ≤ i
  · obtain ⟨a, rfl⟩ := Int.eq_ofNat_of_zero_le h
    have e1 : (a : Int) % 18446744073709551616 * 2 % 18446744073709551616 = ((2 * a : Nat) : Int) := by omega
    have e2 : (a : Int) / 9223372036854775808 % 18446744073709551616 = ((0 : Nat) : Int) := by omega
    rw [e1, e2, u64_xor_nat _ _ (by omega) (by omega), Nat.xor_zero]
    unfold zigN; rw [if_pos h]; omega
  · obtain ⟨a, ha, ha2⟩ : ∃ a : Nat, (a : Int) = 2 * i + 18446744073709551616 ∧ a < 18446744073709551616 := ⟨(2 * i + 18446744073709551616).toNat, by omega, by omega⟩
    have e1 : i % 18446744073709551616 * 2 % 18446744073709551616 = (a : Int) := by omega
    have e2 : i / 9223372036854775808 % 18446744073709551616 = 18446744073709551615 := by omega
    rw [e1, e2, zig_neg a ha2]
    unfold zigN; rw [if_neg h]; omega
theorem zag_bits (n : Nat) (hn : n < 18446744073709551616) : bits BinOp.xor IntKind.i64 ((n : Int) / 2) (wrap64 (-wrap64 (bits BinOp.and IntKind.u64 (n : Int) 1))) = zagN n := by
  have h1 : bits BinOp.and IntKind.u64 (n : Int) 1 = ((n % 2 : Nat) : Int) := by
    have := u64_and_nat n 1 hn (by omega)
    rw [nat_mask1] at this
    exact this
  have e1 : (n : Int) / 2 = ((n / 2 : Nat) : Int) := by omega
  rw [h1, e1]
  unfold zagN
  rcases Nat.mod_two_eq_zero_or_one n with h | h
  · have e2 : wrap64 (-wrap64 ((0 : Nat) : Int)) = 0 := by unfold wrap64; omega
    rw [h, if_pos rfl, e2]
    exact zag_pos (n / 2) (by omega)
  · have e2 : wrap64 (-wrap64 ((1 : Nat) : Int)) = -1 := by unfold wrap64; omega
    rw [h, if_neg (by omega), e2]
    exact zag_neg (n / 2) (by omega)

end Go.Proofs.Ytdhcnolbiocneaa
