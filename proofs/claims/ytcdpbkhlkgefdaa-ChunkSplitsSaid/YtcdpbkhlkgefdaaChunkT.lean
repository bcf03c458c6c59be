/-
  The walk of rubriclaw09.is.
-/
import Derived.Test.YtcdpbkhlkgefdaaChunkS
namespace Go.Proofs.Ytcdpbkhlkgefdaa
open Go.RowKit

theorem nls_nlAt : ∀ (l : List Int) (i : Nat), nls l = ((nlAt l i).length : Int) := by
  intro l
  induction l with
  | nil => intro i; rfl
  | cons x l ih =>
    intro i
    rw [nls_cons, nlAt, ih (i + 1)]
    split
    · simp; omega
    · simp

theorem nlGo_nlAt : ∀ (l : List Int) (k i : Nat), k < (nlAt l i).length → ∃ j : Nat, nlGo l k i = some j ∧ (nlAt l i)[k]? = some (j : Int) := by
  intro l
  induction l with
  | nil => intro k i h; simp [nlAt] at h
  | cons x l ih =>
    intro k i h
    unfold nlAt at h ⊢
    unfold nlGo
    by_cases hx : x = 10
    · rw [if_pos hx] at h ⊢
      rw [if_pos hx]
      cases k with
      | zero => exact ⟨i, by simp, by simp⟩
      | succ k =>
        rw [if_neg (by omega), show ((k + 1 : Nat) : Int) - 1 = (k : Int) by omega, List.getElem?_cons_succ]
        exact ih k (i + 1) (by simpa using h)
    · rw [if_neg hx] at h ⊢
      rw [if_neg hx]
      exact ih k (i + 1) h

theorem nlGo_neg : ∀ (l : List Int) (k : Int) (i : Nat), k < 0 → nlGo l k i = none := by
  intro l
  induction l with
  | nil => intro k i _; rfl
  | cons x l ih =>
    intro k i h
    unfold nlGo
    by_cases hx : x = 10
    · rw [if_pos hx, if_neg (by omega), ih (k - 1) (i + 1) (by omega)]
    · rw [if_neg hx, ih k (i + 1) h]

theorem own_addr {w : World} {base : Nat} {e : TypeId} {size : Nat} {A : Option Addr} {n c : Nat} {xs : List Value} (h : w.ownsRow base e size (.slice A n c) n xs) (hn : 0 < n) : ∃ g, A = some ⟨g, 0, none⟩ ∧ base ≤ g := by
  obtain ⟨A', c', e1, _, _, h0, h2⟩ := own_shape h
  cases e1
  cases A with
  | none => have := (h0 rfl).1; omega
  | some ad =>
    obtain ⟨g, rfl, h3, _⟩ := h2 ad rfl
    exact ⟨g, rfl, h3⟩

set_option maxRecDepth 100000 in
set_option maxHeartbeats 8000000 in
theorem is_any (A : Option Addr) (n c B : Nat) (l : List Int) (w : World) (hs : Sees w B 1 A n (l.map r32)) (hB : B ≤ w.heap.size) (hn : n ≤ 32) :
    Calls Try.prog 13 #[chV l, .slice A n c] w fun e w' => e = .returned (.bool true) ∧ Below w.heap.size w w' := by
  have hl : l.length = n := by have := hs.1; simp at this; omega
  have lh : l.length ≤ 32 := by omega
  have hnI : (n : Int) ≤ 32 := by omega
  have HLI := Lib.hid hl
  obtain ⟨g, hg⟩ : ∃ g, w.heap.size = g := ⟨_, rfl⟩
  obtain ⟨w0, hw0⟩ : ∃ v, w.alloc (.cells (chC l).toArray 26) = v := ⟨_, rfl⟩
  have G0 := Lib.hid (show w0.heap[g]? = some (.cells (chC l).toArray 26) by rw [← hw0, ← hg]; exact heap_alloc_new w _)
  have K0 := Lib.hid (show Below w.heap.size w w0 by rw [← hw0]; exact (Below.refl _ w).alloc (Nat.le_refl _) _)
  have S0 := Lib.hid (show Sees w0 B 1 A n (l.map r32) by rw [← hw0]; exact hs.alloc hB _)
  have B0 := Lib.hid (show B ≤ w0.heap.size by have := K0.out.size; omega)
  obtain ⟨q, hq⟩ : ∃ q, (nlAt l 0).length = q := ⟨_, rfl⟩
  have HQ := Lib.hid hq
  have hq32 : (q : Int) ≤ 32 := by have := nlAt_len l 0; omega
  have e0 : (((n : Nat) : Int) != (n : Int)) = false := by simp
  have e1 : (((q : Nat) : Int) != (q : Int)) = false := by simp
  have HN := Lib.hid (refNewlines_any A n c B l w0 S0.out B0.out (by omega))
  have HRu := Lib.hid (fun w => by have := runes_any l w lh; rw [hl] at this; exact this)
  have HLn := Lib.hid (fun w => by have := len_any l w lh; rw [hl] at this; exact this)
  have HNl := Lib.hid (fun w => by have := newlines_any l w lh; rw [nls_nlAt l 0, hq] at this; exact this)
  rw [hq] at HN
  have BW1 := Lib.hid (fun (w1 : World) (h : Below w.heap.size w w1) => Nat.le_trans hB h.size)
  clear hl hs hq
  have hcv : chV l = .agg (chC l).toArray := rfl
  go_enter Try.func13, Try.ntmps13
  unfold chV
  go_wp2_with fail
  clear hw0 hg
  refine HN.out.mono ?_
  rintro e w1 ⟨vn, rfl, ho1, hb1⟩
  have N1 := Lib.hid ho1
  have G1 := Lib.hid (heap_later G0.out hb1)
  have K1 := Lib.hid (K0.out.trans (hb1.mono K0.out.size))
  have S1 := Lib.hid (S0.out.below hb1 B0.out)
  obtain ⟨A5, c5, rfl, _⟩ := own_shape ho1
  clear ho1 hb1
  go_wp2_with (refine load_rowG (by rfl) 26 (.tmp 2) rfl g rfl 26 (chC l).toArray (0, 0) _ G1.out Try.underlying26 rfl (ch_info l lh) ?_)
  refine (HRu.out _).mono ?_
  rintro e w2 ⟨v2, rfl, ho2, hb2⟩
  obtain ⟨A6, c6, rfl, _⟩ := own_shape ho2
  have R2 := Lib.hid ho2
  have G2 := Lib.hid (heap_later G1.out hb2)
  have K2 := Lib.hid hb2
  have S2 := Lib.hid (S1.out.below hb2 (by have := B0.out; have := K1.out.size; have := K0.out.size; omega))
  clear ho2 hb2
  go_wp2_with fail
  refine (same_any A6 A n n c6 c w2.heap.size B l l w2 (Sees.of_own R2.out) S2.out (by omega) (by omega)).mono ?_
  rintro e w3' ⟨rfl, k3, rfl⟩
  rw [show (l == l) = true from beq_self_eq_true l]
  obtain ⟨w3, hw3⟩ : ∃ v, w2.drewN k3 = v := ⟨_, rfl⟩
  have G3 := Lib.hid (show w3.heap[g]? = some (.cells (chC l).toArray 26) by rw [← hw3]; exact G2.out)
  have K3 := Lib.hid (show Below w1.heap.size w1 w3 by rw [← hw3]; exact below_drewN K2.out k3)
  have R3 := Lib.hid (show w3.ownsRow w1.heap.size 21 1 (.slice A6 n c6) n (l.map r32) by rw [← hw3]; exact R2.out)
  rw [hw3]
  clear hw3
  go_wp2_with (refine load_rowG (by rfl) 26 (.tmp 2) rfl g rfl 26 (chC l).toArray (0, 0) _ G3.out Try.underlying26 rfl (ch_info l lh) ?_)
  refine (HLn.out _).mono ?_
  rintro e w4 ⟨rfl, hb4⟩
  have G4 := Lib.hid (heap_later G3.out hb4)
  have K4 := Lib.hid (K3.out.trans (hb4.mono K3.out.size))
  have R4 := Lib.hid (own_below R3.out hb4 (fun _ hk => own_lt R3.out hk))
  clear hb4
  go_wp2_with (refine load_rowG (by rfl) 26 (.tmp 2) rfl g rfl 26 (chC l).toArray (0, 0) _ G4.out Try.underlying26 rfl (ch_info l lh) ?_)
  refine (HNl.out _).mono ?_
  rintro e w5 ⟨rfl, hb5⟩
  have K5 := Lib.hid (K4.out.trans (hb5.mono K4.out.size))
  have R5 := Lib.hid (own_below R4.out hb5 (fun _ hk => own_lt R4.out hk))
  clear hb5
  go_wp2_with fail
  go_loopw [39] (fun v39 wr => ∃ (j : Nat) (xs : List Value), j ≤ n ∧ v39 = .int .i64 j ∧ wr.ownsRow w1.heap.size 21 1 (.slice A6 n c6) n xs ∧ Below w1.heap.size w1 wr) (fun v39 _ => n - (intOf v39).toNat)
  case atStart => exact ⟨0, _, Nat.zero_le _, rfl, R5.out, K5.out⟩
  case round =>
    obtain ⟨j, xs, hj, rfl, ho, hbr⟩ := hrel
    have HO := Lib.hid (And.intro ho hbr)
    by_cases hlt : j < n
    · obtain ⟨g6, rfl, hlow⟩ := own_addr ho (by omega)
      obtain ⟨b6, o6, e6, hb6, hcell⟩ := (Sees.of_own ho).2 (by omega)
      cases e6
      obtain ⟨y, hy⟩ : ∃ y, xs[j]? = some y := ⟨_, List.getElem?_eq_getElem (by have := ho.1; omega)⟩
      have hcx := hcell j y hy
      have hfz := ho.frozenAt j
      rw [Nat.zero_add] at hcx
      have hjI : (j : Int) < n := by omega
      clear hcell hy ho hbr
      go_wp2_with fail
      go_roundw
      case rel => exact ⟨j + 1, _, by omega, by go_num, (HO.out.1.stored j _).1, HO.out.2.setCell hlow _⟩
      case measure => simp [intOf]; omega
    · obtain rfl : j = n := by omega
      have G6 := Lib.hid (heap_later G1.out hbr)
      have K6 := Lib.hid hbr
      clear ho hbr
      go_wp2_with fail
      go_loopw [8, 9] (fun v8 v9 wr => ∃ i : Int, -1 ≤ i ∧ i ≤ j + 2 ∧ v9 = .int .i64 i ∧ v8 = .int .i64 (nls (l.take (i - 1).toNat)) ∧ Below w1.heap.size w1 wr) (fun _ v9 _ => (j : Int).toNat + 3 - (intOf v9 + 1).toNat)
      case atStart => exact ⟨-1, by omega, by omega, rfl, rfl, K6.out⟩
      case round =>
        obtain ⟨i, hi0, hi1, rfl, rfl, hbr⟩ := hrel
        have G7 := Lib.hid (heap_later G1.out hbr)
        have K7 := Lib.hid hbr
        have S7 := Lib.hid (S1.out.below hbr (BW1.out w1 K1.out))
        clear hbr
        have hcs : i = -1 ∨ (i = 0 ∧ j = 0) ∨ (i = 0 ∧ 0 < j) ∨ (∃ k : Nat, i = (k : Int) + 1 ∧ k + 1 < j) ∨ (∃ k : Nat, i = (k : Int) + 1 ∧ k + 1 = j) ∨ i = (j : Int) + 1 ∨ i = (j : Int) + 2 := by
          rcases Int.lt_or_le i 0 with h | h
          · exact .inl (by omega)
          · rcases Int.lt_or_le i 1 with h | h
            · omega
            · have h5 : (((i - 1).toNat : Nat) : Int) = i - 1 := Int.toNat_of_nonneg (by omega)
              by_cases h6 : i < j
              · exact .inr (.inr (.inr (.inl ⟨(i - 1).toNat, by omega, by omega⟩)))
              · by_cases h7 : i = j
                · exact .inr (.inr (.inr (.inr (.inl ⟨(i - 1).toNat, by omega, by omega⟩))))
                · omega
        rcases hcs with rfl | ⟨rfl, hz⟩ | ⟨rfl, hz⟩ | ⟨k, rfl, hk⟩ | ⟨k, rfl, hk⟩ | rfl | rfl
        · have HAh := Lib.hid (fun w => ahead_any l (-1) w lh (by decide))
          rw [show nls (l.take (-1 : Int).toNat) = nls (l.take (-1 - 1 : Int).toNat) from rfl] at HAh
          have HAt := Lib.hid (fun w => at_no l (-1) w lh (.inl (by decide)))
          go_wp2_with (refine load_rowG (by rfl) 26 (.tmp 2) rfl g rfl 26 (chC l).toArray (0, 0) _ G7.out Try.underlying26 rfl (ch_info l lh) ?_)
          refine (HAh.out _).mono ?_
          rintro e w8 ⟨rfl, hb8⟩
          have G8 := Lib.hid (heap_later G7.out hb8)
          have K8 := Lib.hid (K7.out.trans (hb8.mono K7.out.size))
          clear hb8
          go_wp2_with (refine load_rowG (by rfl) 26 (.tmp 2) rfl g rfl 26 (chC l).toArray (0, 0) _ G8.out Try.underlying26 rfl (ch_info l lh) ?_)
          refine (HAt.out _).mono ?_
          rintro e w9 ⟨rfl, hb9⟩
          have K9 := Lib.hid (K8.out.trans (hb9.mono K8.out.size))
          clear hb9
          go_wp2_with fail
          go_roundw
          case rel => exact ⟨0, by omega, by omega, by go_num, rfl, K9.out⟩
          case measure => simp [intOf] <;> omega
        · have HAh := Lib.hid (fun w => ahead_any l 0 w lh (by decide))
          rw [show nls (l.take (0 : Int).toNat) = nls (l.take (0 - 1 : Int).toNat) from rfl] at HAh
          have HAt := Lib.hid (fun w => at_no l 0 w lh (.inr (by have := HLI.out; omega)))
          have hzI : (j : Int) ≤ 0 := by omega
          clear hz
          go_wp2_with (refine load_rowG (by rfl) 26 (.tmp 2) rfl g rfl 26 (chC l).toArray (0, 0) _ G7.out Try.underlying26 rfl (ch_info l lh) ?_)
          refine (HAh.out _).mono ?_
          rintro e w8 ⟨rfl, hb8⟩
          have G8 := Lib.hid (heap_later G7.out hb8)
          have K8 := Lib.hid (K7.out.trans (hb8.mono K7.out.size))
          clear hb8
          go_wp2_with (refine load_rowG (by rfl) 26 (.tmp 2) rfl g rfl 26 (chC l).toArray (0, 0) _ G8.out Try.underlying26 rfl (ch_info l lh) ?_)
          refine (HAt.out _).mono ?_
          rintro e w9 ⟨rfl, hb9⟩
          have K9 := Lib.hid (K8.out.trans (hb9.mono K8.out.size))
          clear hb9
          go_wp2_with fail
          go_roundw
          case rel => exact ⟨1, by omega, by omega, by go_num, rfl, K9.out⟩
          case measure => simp [intOf] <;> omega
        · obtain ⟨b, o, rfl, hb, hcell⟩ := S1.out.2 (by omega)
          have HB := Lib.hid (Nat.lt_of_lt_of_le hb (BW1.out w1 K1.out))
          obtain ⟨y, hy⟩ : ∃ y, l[0]? = some y := ⟨_, List.getElem?_eq_getElem (by have := HLI.out; omega)⟩
          have HC := Lib.hid (hcell 0 (.int .i32 y) (by simp [hy, r32]))
          rw [Nat.add_zero] at HC
          have HAh := Lib.hid (fun w => ahead_any l 0 w lh (by decide))
          rw [show nls (l.take (0 : Int).toNat) = nls (l.take (0 - 1 : Int).toNat) from rfl] at HAh
          have HAt := Lib.hid (fun w => show Calls Try.prog 16 #[chV l, .int .i64 0] w (fun e w' => e = .returned (.tuple #[.int .i32 y, .int .i64 0]) ∧ Below w.heap.size w w') from at_yes l 0 y w lh (by have := HLI.out; omega) hy)
          have hzI : (0 : Int) < j := by omega
          have e2 : (y != y) = false := by simp
          clear hz hcell hb hy
          go_wp2_with (refine load_rowG (by rfl) 26 (.tmp 2) rfl g rfl 26 (chC l).toArray (0, 0) _ G7.out Try.underlying26 rfl (ch_info l lh) ?_)
          refine (HAh.out _).mono ?_
          rintro e w8 ⟨rfl, hb8⟩
          have G8 := Lib.hid (heap_later G7.out hb8)
          have K8 := Lib.hid (K7.out.trans (hb8.mono K7.out.size))
          clear hb8
          go_wp2_with (refine load_rowG (by rfl) 26 (.tmp 2) rfl g rfl 26 (chC l).toArray (0, 0) _ G8.out Try.underlying26 rfl (ch_info l lh) ?_)
          refine (HAt.out _).mono ?_
          rintro e w9 ⟨rfl, hb9⟩
          have K9 := Lib.hid (K8.out.trans (hb9.mono K8.out.size))
          have hc9 := (K9.out.cell (p := ⟨b, o, none⟩) HB.out).trans HC.out
          clear hb9
          go_wp2_with fail
          go_roundw
          case rel => exact ⟨1, by omega, by omega, by go_num, rfl, K9.out⟩
          case measure => simp [intOf] <;> omega
        · obtain ⟨b, o, rfl, hb, hcell⟩ := S1.out.2 (by omega)
          have HB := Lib.hid (Nat.lt_of_lt_of_le hb (BW1.out w1 K1.out))
          obtain ⟨x, hx⟩ : ∃ x, l[k]? = some x := ⟨_, List.getElem?_eq_getElem (by have := HLI.out; omega)⟩
          have hc7 := (K7.out.cell (p := ⟨b, o + k, none⟩) HB.out).trans (hcell k (.int .i32 x) (by simp [hx, r32]))
          obtain ⟨y, hy⟩ : ∃ y, l[k + 1]? = some y := ⟨_, List.getElem?_eq_getElem (by have := HLI.out; omega)⟩
          have HC2 := Lib.hid (hcell (k + 1) (.int .i32 y) (by simp [hy, r32]))
          have HAt := Lib.hid (fun w => show Calls Try.prog 16 #[chV l, .int .i64 ((k : Int) + 1)] w (fun e w' => e = .returned (.tuple #[.int .i32 y, .int .i64 0]) ∧ Below w.heap.size w w') from at_yes l (k + 1) y w lh (by have := HLI.out; omega) hy)
          have e2 : (y != y) = false := by simp
          clear hy
          have hsn := nls_snoc l k x hx
          obtain ⟨u, hu⟩ : ∃ u, nls (l.take k) = u := ⟨_, rfl⟩
          rw [show ((k : Int) + 1 - 1).toNat = k by omega, hu]
          rw [hu] at hsn
          have hu1 : 0 ≤ u ∧ u ≤ 32 := by
            have h1 := nls_le (l.take k)
            rw [List.length_take] at h1
            omega
          obtain ⟨hu0, hu1⟩ := hu1
          have hkI : (k : Int) + 1 < j := by omega
          clear hcell hb hx hu hk
          by_cases hx10 : x = 10
          · subst hx10
            rw [if_pos rfl] at hsn
            have HAh := Lib.hid (fun w => ahead_any l ((k : Int) + 1) w lh (by omega))
            rw [show ((k : Int) + 1).toNat = k + 1 by omega, hsn] at HAh
            have HV := Lib.hid (show nls (l.take ((k : Int) + 1 + 1 - 1).toNat) = u + 1 by rw [show ((k : Int) + 1 + 1 - 1).toNat = k + 1 by omega]; exact hsn)
            clear hsn
            go_wp2_with (refine load_rowG (by rfl) 26 (.tmp 2) rfl g rfl 26 (chC l).toArray (0, 0) _ G7.out Try.underlying26 rfl (ch_info l lh) ?_)
            refine (HAh.out _).mono ?_
            rintro e w8 ⟨rfl, hb8⟩
            have G8 := Lib.hid (heap_later G7.out hb8)
            have K8 := Lib.hid (K7.out.trans (hb8.mono K7.out.size))
            clear hb8
            go_wp2_with (refine load_rowG (by rfl) 26 (.tmp 2) rfl g rfl 26 (chC l).toArray (0, 0) _ G8.out Try.underlying26 rfl (ch_info l lh) ?_)
            refine (HAt.out _).mono ?_
            rintro e w9 ⟨rfl, hb9⟩
            have K9 := Lib.hid (K8.out.trans (hb9.mono K8.out.size))
            have hc9 := (K9.out.cell (p := ⟨b, o + (k + 1), none⟩) HB.out).trans HC2.out
            clear hb9
            go_wp2_with fail
            go_roundw
            case rel => exact ⟨(k : Int) + 1 + 1, by omega, by omega, by go_num, by rw [HV.out], K9.out⟩
            case measure => simp [intOf] <;> omega
          · have e3 : (x == 10) = false := by simp [hx10]
            rw [if_neg hx10, Int.add_zero] at hsn
            have HAh := Lib.hid (fun w => ahead_any l ((k : Int) + 1) w lh (by omega))
            rw [show ((k : Int) + 1).toNat = k + 1 by omega, hsn] at HAh
            have HV := Lib.hid (show nls (l.take ((k : Int) + 1 + 1 - 1).toNat) = u by rw [show ((k : Int) + 1 + 1 - 1).toNat = k + 1 by omega]; exact hsn)
            clear hsn hx10
            go_wp2_with (refine load_rowG (by rfl) 26 (.tmp 2) rfl g rfl 26 (chC l).toArray (0, 0) _ G7.out Try.underlying26 rfl (ch_info l lh) ?_)
            refine (HAh.out _).mono ?_
            rintro e w8 ⟨rfl, hb8⟩
            have G8 := Lib.hid (heap_later G7.out hb8)
            have K8 := Lib.hid (K7.out.trans (hb8.mono K7.out.size))
            clear hb8
            go_wp2_with (refine load_rowG (by rfl) 26 (.tmp 2) rfl g rfl 26 (chC l).toArray (0, 0) _ G8.out Try.underlying26 rfl (ch_info l lh) ?_)
            refine (HAt.out _).mono ?_
            rintro e w9 ⟨rfl, hb9⟩
            have K9 := Lib.hid (K8.out.trans (hb9.mono K8.out.size))
            have hc9 := (K9.out.cell (p := ⟨b, o + (k + 1), none⟩) HB.out).trans HC2.out
            clear hb9
            go_wp2_with fail
            go_roundw
            case rel => exact ⟨(k : Int) + 1 + 1, by omega, by omega, by go_num, by rw [HV.out], K9.out⟩
            case measure => simp [intOf] <;> omega
        · obtain ⟨b, o, rfl, hb, hcell⟩ := S1.out.2 (by omega)
          have HB := Lib.hid (Nat.lt_of_lt_of_le hb (BW1.out w1 K1.out))
          obtain ⟨x, hx⟩ : ∃ x, l[k]? = some x := ⟨_, List.getElem?_eq_getElem (by have := HLI.out; omega)⟩
          have hc7 := (K7.out.cell (p := ⟨b, o + k, none⟩) HB.out).trans (hcell k (.int .i32 x) (by simp [hx, r32]))
          have HAt := Lib.hid (fun w => at_no l ((k : Int) + 1) w lh (.inr (by have := HLI.out; omega)))
          have hsn := nls_snoc l k x hx
          obtain ⟨u, hu⟩ : ∃ u, nls (l.take k) = u := ⟨_, rfl⟩
          rw [show ((k : Int) + 1 - 1).toNat = k by omega, hu]
          rw [hu] at hsn
          have hu1 : 0 ≤ u ∧ u ≤ 32 := by
            have h1 := nls_le (l.take k)
            rw [List.length_take] at h1
            omega
          obtain ⟨hu0, hu1⟩ := hu1
          have hkI : (k : Int) + 1 ≤ j := by omega
          have hkI2 : (j : Int) ≤ (k : Int) + 1 := by omega
          clear hcell hb hx hu hk
          by_cases hx10 : x = 10
          · subst hx10
            rw [if_pos rfl] at hsn
            have HAh := Lib.hid (fun w => ahead_any l ((k : Int) + 1) w lh (by omega))
            rw [show ((k : Int) + 1).toNat = k + 1 by omega, hsn] at HAh
            have HV := Lib.hid (show nls (l.take ((k : Int) + 1 + 1 - 1).toNat) = u + 1 by rw [show ((k : Int) + 1 + 1 - 1).toNat = k + 1 by omega]; exact hsn)
            clear hsn
            go_wp2_with (refine load_rowG (by rfl) 26 (.tmp 2) rfl g rfl 26 (chC l).toArray (0, 0) _ G7.out Try.underlying26 rfl (ch_info l lh) ?_)
            refine (HAh.out _).mono ?_
            rintro e w8 ⟨rfl, hb8⟩
            have G8 := Lib.hid (heap_later G7.out hb8)
            have K8 := Lib.hid (K7.out.trans (hb8.mono K7.out.size))
            clear hb8
            go_wp2_with (refine load_rowG (by rfl) 26 (.tmp 2) rfl g rfl 26 (chC l).toArray (0, 0) _ G8.out Try.underlying26 rfl (ch_info l lh) ?_)
            refine (HAt.out _).mono ?_
            rintro e w9 ⟨rfl, hb9⟩
            have K9 := Lib.hid (K8.out.trans (hb9.mono K8.out.size))
            clear hb9
            go_wp2_with fail
            go_roundw
            case rel => exact ⟨(k : Int) + 1 + 1, by omega, by omega, by go_num, by rw [HV.out], K9.out⟩
            case measure => simp [intOf] <;> omega
          · have e3 : (x == 10) = false := by simp [hx10]
            rw [if_neg hx10, Int.add_zero] at hsn
            have HAh := Lib.hid (fun w => ahead_any l ((k : Int) + 1) w lh (by omega))
            rw [show ((k : Int) + 1).toNat = k + 1 by omega, hsn] at HAh
            have HV := Lib.hid (show nls (l.take ((k : Int) + 1 + 1 - 1).toNat) = u by rw [show ((k : Int) + 1 + 1 - 1).toNat = k + 1 by omega]; exact hsn)
            clear hsn hx10
            go_wp2_with (refine load_rowG (by rfl) 26 (.tmp 2) rfl g rfl 26 (chC l).toArray (0, 0) _ G7.out Try.underlying26 rfl (ch_info l lh) ?_)
            refine (HAh.out _).mono ?_
            rintro e w8 ⟨rfl, hb8⟩
            have G8 := Lib.hid (heap_later G7.out hb8)
            have K8 := Lib.hid (K7.out.trans (hb8.mono K7.out.size))
            clear hb8
            go_wp2_with (refine load_rowG (by rfl) 26 (.tmp 2) rfl g rfl 26 (chC l).toArray (0, 0) _ G8.out Try.underlying26 rfl (ch_info l lh) ?_)
            refine (HAt.out _).mono ?_
            rintro e w9 ⟨rfl, hb9⟩
            have K9 := Lib.hid (K8.out.trans (hb9.mono K8.out.size))
            clear hb9
            go_wp2_with fail
            go_roundw
            case rel => exact ⟨(k : Int) + 1 + 1, by omega, by omega, by go_num, by rw [HV.out], K9.out⟩
            case measure => simp [intOf] <;> omega
        · obtain ⟨u, hu⟩ : ∃ u, nls l = u := ⟨_, rfl⟩
          have hl := HLI.out
          rw [show ((j : Int) + 1 - 1).toNat = j by omega, List.take_of_length_le (by omega), hu]
          have HAh := Lib.hid (fun w => ahead_any l ((j : Int) + 1) w lh (by omega))
          rw [show ((j : Int) + 1).toNat = j + 1 by omega, List.take_of_length_le (by omega), hu] at HAh
          have HAt := Lib.hid (fun w => at_no l ((j : Int) + 1) w lh (.inr (by omega)))
          have HV := Lib.hid (show nls (l.take ((j : Int) + 1 + 1 - 1).toNat) = u by rw [show ((j : Int) + 1 + 1 - 1).toNat = j + 1 by omega, List.take_of_length_le (by omega)]; exact hu)
          clear hl hu
          go_wp2_with (refine load_rowG (by rfl) 26 (.tmp 2) rfl g rfl 26 (chC l).toArray (0, 0) _ G7.out Try.underlying26 rfl (ch_info l lh) ?_)
          refine (HAh.out _).mono ?_
          rintro e w8 ⟨rfl, hb8⟩
          have G8 := Lib.hid (heap_later G7.out hb8)
          have K8 := Lib.hid (K7.out.trans (hb8.mono K7.out.size))
          clear hb8
          go_wp2_with (refine load_rowG (by rfl) 26 (.tmp 2) rfl g rfl 26 (chC l).toArray (0, 0) _ G8.out Try.underlying26 rfl (ch_info l lh) ?_)
          refine (HAt.out _).mono ?_
          rintro e w9 ⟨rfl, hb9⟩
          have K9 := Lib.hid (K8.out.trans (hb9.mono K8.out.size))
          clear hb9
          go_wp2_with fail
          go_roundw
          case rel => exact ⟨(j : Int) + 1 + 1, by omega, by omega, by go_num, by rw [HV.out], K9.out⟩
          case measure => simp [intOf] <;> omega
        · obtain ⟨u, hu⟩ : ∃ u, nls (l.take ((j : Int) + 2 - 1).toNat) = u := ⟨_, rfl⟩
          rw [hu]
          clear hu
          go_wp2_with fail
          go_loopw [12] (fun v12 wr => ∃ k : Int, -1 ≤ k ∧ k ≤ q + 1 ∧ v12 = .int .i64 k ∧ Below w1.heap.size w1 wr) (fun v12 _ => (q : Int).toNat + 2 - (intOf v12 + 1).toNat)
          case atStart => exact ⟨-1, by omega, by omega, rfl, K7.out⟩
          case round =>
            obtain ⟨k, hk0, hk1, rfl, hbr⟩ := hrel
            have G8 := Lib.hid (heap_later G1.out hbr)
            have K8 := Lib.hid hbr
            clear hbr
            have hcs : k = -1 ∨ (∃ i : Nat, k = i ∧ i < q) ∨ k = q ∨ k = (q : Int) + 1 := by
              rcases Int.lt_or_le k 0 with h | h
              · omega
              · have h5 : ((k.toNat : Nat) : Int) = k := Int.toNat_of_nonneg h
                by_cases h6 : k < q
                · exact .inr (.inl ⟨k.toNat, by omega, by omega⟩)
                · omega
            rcases hcs with rfl | ⟨i, rfl, hi⟩ | rfl | rfl
            · have HNa := Lib.hid (fun w => newlineAt_any l (-1) w lh (by decide) (by decide))
              rw [show nlV (nlGo l (-1) 0) = .tuple #[.int .i64 0, .bool false] by rw [nlGo_neg l (-1) 0 (by decide)]; rfl] at HNa
              go_wp2_with (refine load_rowG (by rfl) 26 (.tmp 2) rfl g rfl 26 (chC l).toArray (0, 0) _ G8.out Try.underlying26 rfl (ch_info l lh) ?_)
              refine (HNa.out _).mono ?_
              rintro e w9 ⟨rfl, hb9⟩
              have K9 := Lib.hid (K8.out.trans (hb9.mono K8.out.size))
              clear hb9
              go_wp2_with fail
              go_roundw
              case rel => exact ⟨0, by omega, by omega, by go_num, K9.out⟩
              case measure => simp [intOf] <;> omega
            · obtain ⟨p, e4, e5⟩ := nlGo_nlAt l i 0 (by have := HQ.out; omega)
              have HNa := Lib.hid (fun w => newlineAt_any l i w lh (by omega) (by omega))
              rw [show nlV (nlGo l i 0) = .tuple #[.int .i64 p, .bool true] by rw [e4]; rfl] at HNa
              obtain ⟨g5, rfl, _⟩ := own_addr N1.out (by omega)
              obtain ⟨b5, o5, e6, hb5, hcell⟩ := (Sees.of_own N1.out).2 (by omega)
              cases e6
              have HC := Lib.hid (hcell i (.int .i64 p) (by simp [e5]))
              rw [Nat.zero_add] at HC
              have HB := Lib.hid hb5
              have hiI : (i : Int) < q := by omega
              have e2 : ((p : Int) != (p : Int)) = false := by simp
              clear hcell hb5 e4 e5 hi
              go_wp2_with (refine load_rowG (by rfl) 26 (.tmp 2) rfl g rfl 26 (chC l).toArray (0, 0) _ G8.out Try.underlying26 rfl (ch_info l lh) ?_)
              refine (HNa.out _).mono ?_
              rintro e w9 ⟨rfl, hb9⟩
              have K9 := Lib.hid (K8.out.trans (hb9.mono K8.out.size))
              have hc9 := (K9.out.cell (p := ⟨g5, i, none⟩) HB.out).trans HC.out
              clear hb9
              go_wp2_with fail
              go_roundw
              case rel => exact ⟨(i : Int) + 1, by omega, by omega, by go_num, K9.out⟩
              case measure => simp [intOf] <;> omega
            · have HNa := Lib.hid (fun w => newlineAt_any l q w lh (by omega) (by omega))
              rw [show nlV (nlGo l q 0) = .tuple #[.int .i64 0, .bool false] by rw [nlGo_none l q 0 (by rw [nls_nlAt l 0, HQ.out]; omega)]; rfl] at HNa
              go_wp2_with (refine load_rowG (by rfl) 26 (.tmp 2) rfl g rfl 26 (chC l).toArray (0, 0) _ G8.out Try.underlying26 rfl (ch_info l lh) ?_)
              refine (HNa.out _).mono ?_
              rintro e w9 ⟨rfl, hb9⟩
              have K9 := Lib.hid (K8.out.trans (hb9.mono K8.out.size))
              clear hb9
              go_wp2_with fail
              go_roundw
              case rel => exact ⟨(q : Int) + 1, by omega, by omega, by go_num, K9.out⟩
              case measure => simp [intOf] <;> omega
            · go_wp2_with (refine load_rowG (by rfl) 26 (.tmp 2) rfl g rfl 26 (chC l).toArray (0, 0) _ G8.out Try.underlying26 rfl (ch_info l lh) ?_)
              refine (HRu.out _).mono ?_
              rintro e w9 ⟨v9, rfl, ho9, hb9⟩
              obtain ⟨A9, c9, rfl, _⟩ := own_shape ho9
              have R9 := Lib.hid ho9
              have K9 := Lib.hid (K8.out.trans (hb9.mono K8.out.size))
              have S9 := Lib.hid (S1.out.below K9.out (BW1.out w1 K1.out))
              clear ho9 hb9
              go_wp2_with fail
              refine (same_any A9 A j j c9 c w9.heap.size B l l w9 (Sees.of_own R9.out) S9.out (by omega) (by omega)).mono ?_
              rintro e w10 ⟨rfl, k10, rfl⟩
              rw [show (l == l) = true from beq_self_eq_true l]
              have K10 := Lib.hid (K1.out.trans ((below_drewN K9.out k10).mono K1.out.size))
              go_wp2_with fail
              go_ret
              exact ⟨rfl, K10.out⟩

end Go.Proofs.Ytcdpbkhlkgefdaa
