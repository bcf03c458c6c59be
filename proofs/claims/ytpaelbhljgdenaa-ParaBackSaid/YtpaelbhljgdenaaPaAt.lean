/-
  Sets of attributes in memory: whether two are alike, whether keys rise, what a key's value is; a copy (ref05.Same, Rising, Get, ref06.Rising, attrs.Copy).
-/
import Derived.Test.YtpaelbhljgdenaaPaPl
import Derived.Test.YtpaelbhljgdenaaRowM
import Derived.Test.YtpaelbhljgdenaaHeld
import Derived.Test.YtpaelbhljgdenaaRows
import Derived.BigQuiet
import Derived.Deep.QuietTactic
import Derived.ChangeKeysEq
namespace Go.Proofs.Ytpaelbhljgdenaa
open Go.RowKit

theorem attr_info : (Try.prog.info? 72).map (fun i => (i.zero, i.size, i.bytes)) = some (some (.agg #[.int .i64 0, .int .u8 0, .int .i64 0, .int .u64 0, .string ⟨#[]⟩]), 5, 48) := by kernel_rfl
theorem attr_infoL (x : At) : (Try.prog.info? 72).map (·.size) = some x.cells.length := by show _ = some 5; kernel_rfl
theorem attr_infoA (x : At) : (Try.prog.info? 72).map (·.size) = some x.cells.toArray.size := by show _ = some 5; kernel_rfl
theorem ch_infoL (x : Ch) : (Try.prog.info? 46).map (·.size) = some x.cells.length := by show _ = some 6; kernel_rfl
theorem ch_infoA (x : Ch) : (Try.prog.info? 46).map (·.size) = some x.cells.toArray.size := by show _ = some 6; kernel_rfl
theorem val_infoL (x : Vl) : (Try.prog.info? 44).map (·.size) = some x.cells.length := by show _ = some 4; kernel_rfl
theorem val_infoA (x : Vl) : (Try.prog.info? 44).map (·.size) = some x.cells.toArray.size := by show _ = some 4; kernel_rfl
theorem At.one (x : At) : ∀ v ∈ x.cells, v.oneCell' = true := by intro v hv; simp [At.cells, Vl.cells] at hv; rcases hv with rfl | rfl | rfl | rfl | rfl <;> rfl
theorem Ch.one (x : Ch) : ∀ v ∈ x.cells, v.oneCell' = true := by intro v hv; simp [Ch.cells, Vl.cells] at hv; rcases hv with rfl | rfl | rfl | rfl | rfl | rfl <;> rfl
theorem Vl.one (x : Vl) : ∀ v ∈ x.cells, v.oneCell' = true := by intro v hv; simp [Vl.cells] at hv; rcases hv with rfl | rfl | rfl | rfl <;> rfl
theorem rowA_len (l : List At) : (rowA l).length = l.length * 5 := flat_len At.cells 5 (fun _ => rfl) l
theorem rowA_append (a b : List At) : rowA (a ++ b) = rowA a ++ rowA b := List.flatMap_append
theorem rowA_one (x : At) : rowA [x] = x.cells := by simp [rowA]
theorem rowA_oneCell (l : List At) : ∀ v ∈ rowA l, v.oneCell' = true := fun v hv => by
  obtain ⟨x, _, h⟩ := List.mem_flatMap.1 hv
  exact x.one v h

/-- An element of a slice of structs. -/
theorem Sees.elem {α : Type} (enc : α → List Value) (C : Nat) (hC : ∀ x, (enc x).length = C) {w : World} {B n : Nat} {A : Option Addr} {l : List α} (h : Sees w B C A n (l.flatMap enc)) {k : Nat} {x : α} (hx : l[k]? = some x) (h0 : 0 < C := by decide) :
    n = l.length ∧ ∃ b o, A = some ⟨b, o, none⟩ ∧ b < B ∧ w.rangeAt b (o + k * C) (enc x) := by
  have hn : n = l.length := by have h1 := h.1; rw [flat_len enc C hC] at h1; exact (Nat.eq_of_mul_eq_mul_right h0 h1).symm
  have hk := (List.getElem?_eq_some_iff.1 hx).1
  obtain ⟨b, o, hA, hb, hc⟩ := h.2 (by omega)
  refine ⟨hn, b, o, hA, hb, fun j v hv => ?_⟩
  have hj : j < C := by have := (List.getElem?_eq_some_iff.1 hv).1; rw [hC] at this; exact this
  rw [Nat.add_assoc]
  refine hc _ v ?_
  rw [flat_get enc C hC l k j hj, hx]
  exact hv

theorem bloop (s : ByteArray) : ∀ (n i : Nat) (r : List UInt8), s.size - i = n → ByteArray.toList.loop s i r = r.reverse ++ s.data.toList.drop i := by
  intro n
  induction n with
  | zero =>
    intro i r h
    rw [ByteArray.toList.loop, if_neg (by omega), List.drop_of_length_le (by rw [Array.length_toList]; show s.size ≤ i; omega), List.append_nil]
  | succ n ih =>
    intro i r h
    have hi : i < s.data.size := by show i < s.size; omega
    rw [ByteArray.toList.loop, if_pos (show i < s.size from hi), ih (i + 1) _ (by omega), List.reverse_cons, List.append_assoc]
    congr 1
    have e := List.drop_eq_getElem_cons (l := s.data.toList) (i := i) (by rw [Array.length_toList]; exact hi)
    rw [e]
    have : s.get! i = s.data[i] := by
      show s.data[i]! = _
      exact getElem!_pos s.data i hi
    rw [this]
    simp
theorem btoList (s : ByteArray) : s.toList = s.data.toList := by
  unfold ByteArray.toList
  rw [bloop s _ 0 [] rfl]
  simp
theorem toList_inj {s s' : ByteArray} (h : s.toList = s'.toList) : s = s' := by
  rw [btoList, btoList] at h
  cases s; cases s'
  simpa using h
theorem run_ne_attr (a b c d a' b' c' d' : Int) (s s' : ByteArray) (w : World) : (binOp .neq 72 (.agg #[.int .i64 a, .int .u8 b, .int .i64 c, .int .u64 d, .string s]) (.agg #[.int .i64 a', .int .u8 b', .int .i64 c', .int .u64 d', .string s'])).run Try.prog w = .ok (.bool (!(a == a' && (b == b' && (c == c' && (d == d' && decide (s = s'))))))) w := by
  rw [run_neq_struct]
  have h : (Op.equalIn 10000 72 (.agg #[.int .i64 a, .int .u8 b, .int .i64 c, .int .u64 d, .string s]) (.agg #[.int .i64 a', .int .u8 b', .int .i64 c', .int .u64 d', .string s'])).run Try.prog w = .ok (a == a' && (b == b' && (c == c' && (d == d' && decide (s = s'))))) w := by
    by_cases h1 : a = a'
    · by_cases h2 : b = b'
      · by_cases h3 : c = c'
        · by_cases h4 : d = d'
          · by_cases h5 : s = s'
            · subst h1 h2 h3 h4 h5; simp [go_sem]
            · have h6 : ¬ s.toList = s'.toList := fun e => h5 (toList_inj e)
              simp [go_sem, h1, h2, h3, h4, h5, h6]
          · simp [go_sem, h1, h2, h3, h4]
        · simp [go_sem, h1, h2, h3]
      · simp [go_sem, h1, h2]
    · simp [go_sem, h1]
  rw [h]
  rfl
theorem exec_ne_attr {o : Oper} {ev : Operand → Value} {w : World} (p q : Operand) (ho : o.op = .binOp .neq 72 p q 72) (x y : At) (hx : ev p = .agg x.cells.toArray) (hy : ev q = .agg y.cells.toArray) (r : Bool) (hr : decide (x ≠ y) = r) :
    (execOp ev o).run Try.prog w = .ok (.value (.bool r)) w := by
  subst hr
  obtain ⟨a, b, c, d, s⟩ := x
  obtain ⟨a', b', c', d', s'⟩ := y
  have hx : ev p = .agg #[.int .i64 a, .int .u8 b, .int .i64 c, .int .u64 d, .string s] := hx
  have hy : ev q = .agg #[.int .i64 a', .int .u8 b', .int .i64 c', .int .u64 d', .string s'] := hy
  have e : (!(a == a' && (b == b' && (c == c' && (d == d' && decide (s = s')))))) = decide ((⟨a, b, c, d, s⟩ : At) ≠ ⟨a', b', c', d', s'⟩) := by
    rw [Bool.eq_iff_iff]
    simp [At.mk.injEq, Vl.mk.injEq]
  unfold execOp
  simp only [ho, hx, hy, Sem.run_bind, run_eqGuard_agg (P := Try.prog) w .neq 72 p q #[.int .i64 a, .int .u8 b, .int .i64 c, .int .u64 d, .string s] #[.int .i64 a', .int .u8 b', .int .i64 c', .int .u64 d', .string s'] (by kernel_rfl), Result.andThen_ok, run_ne_attr, Sem.run_pure, e]

theorem take_snoc' {α : Type} {l : List α} {k : Nat} {x : α} (h : l[k]? = some x) : l.take (k + 1) = l.take k ++ [x] := by rw [List.take_add_one, h]; rfl

set_option maxRecDepth 100000 in
set_option maxHeartbeats 2000000 in
theorem same05_any {w : World} {B B' c c' : Nat} {A A' : Option Addr} {l m : List At} (hl : Sees w B 5 A l.length (rowA l)) (hm : Sees w B' 5 A' m.length (rowA m)) (hn : l.length ≤ 1000000) (hn' : m.length ≤ 1000000) :
    Calls Try.prog 16 #[.slice A l.length c, .slice A' m.length c'] w fun e w' => e = .returned (.bool (decide (l = m))) ∧ Below w.heap.size w w' := by
  have HL := Lib.hid hl
  have HM := Lib.hid hm
  clear hl hm
  obtain ⟨nl, hnl⟩ : ∃ n, l.length = n := ⟨_, rfl⟩
  obtain ⟨nm, hnm⟩ : ∃ n, m.length = n := ⟨_, rfl⟩
  have HN := Lib.hid (And.intro hnl hnm)
  rw [hnl] at HL hn ⊢
  rw [hnm] at HM hn' ⊢
  have h0 : (nl : Int) ≤ 1000000 := by omega
  have h1 : (nm : Int) ≤ 1000000 := by omega
  clear hnl hnm
  by_cases hlen : nl = nm
  · obtain rfl : nm = nl := hlen.symm
    go_enter Try.func16, Try.ntmps16
    go_wp2_with fail
    go_loopw [5] (fun v5 wr => ∃ k q : Nat, k ≤ nm ∧ v5 = .int .i64 k ∧ l.take k = m.take k ∧ wr = w.drewN q) (fun v5 _ => nm - (intOf v5).toNat)
    case atStart => exact ⟨0, 0, Nat.zero_le _, rfl, rfl, rfl⟩
    case round =>
      obtain ⟨k, q, hk, rfl, ht, rfl⟩ := hrel
      by_cases hlt : k < nm
      · have hkI : (k : Int) < nm := by omega
        obtain ⟨x, hx⟩ : ∃ x, l[k]? = some x := ⟨_, List.getElem?_eq_getElem (by rw [HN.out.1]; exact hlt)⟩
        obtain ⟨y, hy⟩ : ∃ y, m[k]? = some y := ⟨_, List.getElem?_eq_getElem (by rw [HN.out.2]; exact hlt)⟩
        obtain ⟨-, b, o, rfl, -, hr⟩ := HL.out.elem At.cells 5 (fun _ => rfl) hx
        obtain ⟨-, b', o', rfl, -, hr'⟩ := HM.out.elem At.cells 5 (fun _ => rfl) hy
        have HR := Lib.hid (show (w.drewN q).drew.rangeAt b (o + k * 5) x.cells ∧ (w.drewN q).drew.rangeAt b' (o' + k * 5) y.cells from ⟨hr, hr'⟩)
        have HX := Lib.hid (And.intro hx (And.intro hy ht))
        clear hx hy hr hr' ht
        by_cases hxy : x = y
        · have HNE := Lib.hid (show decide (x ≠ y) = false by simp [hxy])
          have HT := Lib.hid (show l.take (k + 1) = m.take (k + 1) by rw [take_snoc' HX.out.1, take_snoc' HX.out.2.1, HX.out.2.2, hxy])
          clear hxy
          go_wp2_with fail
          refine wp_region_held_drew (S := fun w' => w'.rangeAt b (o + k * 5) x.cells ∧ w'.rangeAt b' (o' + k * 5) y.cells) (by kernel_rfl) ⟨HR.out.1, HR.out.2⟩ (fun hHeld => ?_)
          try dsimp only at hHeld
          refine take_at (i := 0) (v := ?_) (some 17) rfl rfl (by kernel_rfl) (by kernel_rfl) (by kernel_rfl) (fun _ _ _ h => h) hHeld (by rfl) (fun wS hSw => ?_) ?_
          rotate_left
          · try dsimp only at hSw
            go_simp
            try with_reducible rfl
          try simp only [Act.put, List.setIfInBounds_toArray, List.set_cons_zero, List.set_cons_succ]
          refine take_at (i := 1) (v := ?_) (some 18) rfl rfl (by kernel_rfl) (by kernel_rfl) (by kernel_rfl) (fun _ _ _ h => h) hHeld (by rfl) (fun wS hSw => ?_) ?_
          rotate_left
          · try dsimp only at hSw
            go_simp
            try with_reducible rfl
          try simp only [Act.put, List.setIfInBounds_toArray, List.set_cons_zero, List.set_cons_succ]
          refine take_at (i := 2) (v := ?_) (some 19) rfl rfl (by kernel_rfl) (by kernel_rfl) (by kernel_rfl) (fun _ _ _ h => h) hHeld (by rfl) (fun wS hSw => ?_) ?_
          rotate_left
          · try dsimp only at hSw
            go_simp
            try with_reducible rfl
          try simp only [Act.put, List.setIfInBounds_toArray, List.set_cons_zero, List.set_cons_succ]
          refine take_at (i := 3) (v := ?_) (some 20) rfl rfl (by kernel_rfl) (by kernel_rfl) (by kernel_rfl) (fun _ _ _ h => h) hHeld (by rfl) (fun wS hSw => ?_) ?_
          rotate_left
          · refine exec_load_mid 72 (.tmp 19) ?_ b (o + k * 5) ?_ x.cells _ hSw.1 Try.underlying72 rfl (attr_infoL x) <;> rfl
          try simp only [Act.put, List.setIfInBounds_toArray, List.set_cons_zero, List.set_cons_succ]
          refine take_at (i := 4) (v := ?_) (some 21) rfl rfl (by kernel_rfl) (by kernel_rfl) (by kernel_rfl) (fun _ _ _ h => h) hHeld (by rfl) (fun wS hSw => ?_) ?_
          rotate_left
          · try dsimp only at hSw
            go_simp
            try with_reducible rfl
          try simp only [Act.put, List.setIfInBounds_toArray, List.set_cons_zero, List.set_cons_succ]
          refine take_at (i := 5) (v := ?_) (some 22) rfl rfl (by kernel_rfl) (by kernel_rfl) (by kernel_rfl) (fun _ _ _ h => h) hHeld (by rfl) (fun wS hSw => ?_) ?_
          rotate_left
          · try dsimp only at hSw
            go_simp
            try with_reducible rfl
          try simp only [Act.put, List.setIfInBounds_toArray, List.set_cons_zero, List.set_cons_succ]
          refine take_at (i := 6) (v := ?_) (some 23) rfl rfl (by kernel_rfl) (by kernel_rfl) (by kernel_rfl) (fun _ _ _ h => h) hHeld (by rfl) (fun wS hSw => ?_) ?_
          rotate_left
          · try dsimp only at hSw
            go_simp
            try with_reducible rfl
          try simp only [Act.put, List.setIfInBounds_toArray, List.set_cons_zero, List.set_cons_succ]
          refine take_at (i := 7) (v := ?_) (some 24) rfl rfl (by kernel_rfl) (by kernel_rfl) (by kernel_rfl) (fun _ _ _ h => h) hHeld (by rfl) (fun wS hSw => ?_) ?_
          rotate_left
          · refine exec_load_mid 72 (.tmp 23) ?_ b' (o' + k * 5) ?_ y.cells _ hSw.2 Try.underlying72 rfl (attr_infoL y) <;> rfl
          try simp only [Act.put, List.setIfInBounds_toArray, List.set_cons_zero, List.set_cons_succ]
          refine take_at (i := 8) (v := ?_) (some 25) rfl rfl (by kernel_rfl) (by kernel_rfl) (by kernel_rfl) (fun _ _ _ h => h) hHeld (by rfl) (fun wS hSw => ?_) ?_
          rotate_left
          · refine exec_ne_attr (.tmp 20) (.tmp 24) ?_ x y ?_ ?_ false HNE.out <;> rfl
          try simp only [Act.put, List.setIfInBounds_toArray, List.set_cons_zero, List.set_cons_succ]
          refine wpAnyH_done (by kernel_rfl) ?_ _
          clear hHeld
          go_wp2_with fail
          go_roundw
          case rel => exact ⟨k + 1, q + 1, by omega, by go_num, HT.out, rfl⟩
          case measure => simp [intOf]; omega
        · have HNE := Lib.hid (show decide (x ≠ y) = true by simp [hxy])
          have HT := Lib.hid (show decide (l = m) = false by
            refine decide_eq_false fun e => hxy ?_
            have h1 := HX.out.1
            rw [e, HX.out.2.1] at h1
            exact (Option.some.inj h1).symm)
          clear hxy
          go_wp2_with fail
          refine wp_region_held_drew (S := fun w' => w'.rangeAt b (o + k * 5) x.cells ∧ w'.rangeAt b' (o' + k * 5) y.cells) (by kernel_rfl) ⟨HR.out.1, HR.out.2⟩ (fun hHeld => ?_)
          try dsimp only at hHeld
          refine take_at (i := 0) (v := ?_) (some 17) rfl rfl (by kernel_rfl) (by kernel_rfl) (by kernel_rfl) (fun _ _ _ h => h) hHeld (by rfl) (fun wS hSw => ?_) ?_
          rotate_left
          · try dsimp only at hSw
            go_simp
            try with_reducible rfl
          try simp only [Act.put, List.setIfInBounds_toArray, List.set_cons_zero, List.set_cons_succ]
          refine take_at (i := 1) (v := ?_) (some 18) rfl rfl (by kernel_rfl) (by kernel_rfl) (by kernel_rfl) (fun _ _ _ h => h) hHeld (by rfl) (fun wS hSw => ?_) ?_
          rotate_left
          · try dsimp only at hSw
            go_simp
            try with_reducible rfl
          try simp only [Act.put, List.setIfInBounds_toArray, List.set_cons_zero, List.set_cons_succ]
          refine take_at (i := 2) (v := ?_) (some 19) rfl rfl (by kernel_rfl) (by kernel_rfl) (by kernel_rfl) (fun _ _ _ h => h) hHeld (by rfl) (fun wS hSw => ?_) ?_
          rotate_left
          · try dsimp only at hSw
            go_simp
            try with_reducible rfl
          try simp only [Act.put, List.setIfInBounds_toArray, List.set_cons_zero, List.set_cons_succ]
          refine take_at (i := 3) (v := ?_) (some 20) rfl rfl (by kernel_rfl) (by kernel_rfl) (by kernel_rfl) (fun _ _ _ h => h) hHeld (by rfl) (fun wS hSw => ?_) ?_
          rotate_left
          · refine exec_load_mid 72 (.tmp 19) ?_ b (o + k * 5) ?_ x.cells _ hSw.1 Try.underlying72 rfl (attr_infoL x) <;> rfl
          try simp only [Act.put, List.setIfInBounds_toArray, List.set_cons_zero, List.set_cons_succ]
          refine take_at (i := 4) (v := ?_) (some 21) rfl rfl (by kernel_rfl) (by kernel_rfl) (by kernel_rfl) (fun _ _ _ h => h) hHeld (by rfl) (fun wS hSw => ?_) ?_
          rotate_left
          · try dsimp only at hSw
            go_simp
            try with_reducible rfl
          try simp only [Act.put, List.setIfInBounds_toArray, List.set_cons_zero, List.set_cons_succ]
          refine take_at (i := 5) (v := ?_) (some 22) rfl rfl (by kernel_rfl) (by kernel_rfl) (by kernel_rfl) (fun _ _ _ h => h) hHeld (by rfl) (fun wS hSw => ?_) ?_
          rotate_left
          · try dsimp only at hSw
            go_simp
            try with_reducible rfl
          try simp only [Act.put, List.setIfInBounds_toArray, List.set_cons_zero, List.set_cons_succ]
          refine take_at (i := 6) (v := ?_) (some 23) rfl rfl (by kernel_rfl) (by kernel_rfl) (by kernel_rfl) (fun _ _ _ h => h) hHeld (by rfl) (fun wS hSw => ?_) ?_
          rotate_left
          · try dsimp only at hSw
            go_simp
            try with_reducible rfl
          try simp only [Act.put, List.setIfInBounds_toArray, List.set_cons_zero, List.set_cons_succ]
          refine take_at (i := 7) (v := ?_) (some 24) rfl rfl (by kernel_rfl) (by kernel_rfl) (by kernel_rfl) (fun _ _ _ h => h) hHeld (by rfl) (fun wS hSw => ?_) ?_
          rotate_left
          · refine exec_load_mid 72 (.tmp 23) ?_ b' (o' + k * 5) ?_ y.cells _ hSw.2 Try.underlying72 rfl (attr_infoL y) <;> rfl
          try simp only [Act.put, List.setIfInBounds_toArray, List.set_cons_zero, List.set_cons_succ]
          refine take_at (i := 8) (v := ?_) (some 25) rfl rfl (by kernel_rfl) (by kernel_rfl) (by kernel_rfl) (fun _ _ _ h => h) hHeld (by rfl) (fun wS hSw => ?_) ?_
          rotate_left
          · refine exec_ne_attr (.tmp 20) (.tmp 24) ?_ x y ?_ ?_ true HNE.out <;> rfl
          try simp only [Act.put, List.setIfInBounds_toArray, List.set_cons_zero, List.set_cons_succ]
          refine wpAnyH_done (by kernel_rfl) ?_ _
          clear hHeld
          go_wp2_with fail
          go_ret
          exact ⟨by rw [HT.out]; rfl, below_drewN (Below.refl _ _) (q + 1)⟩
      · obtain rfl : k = nm := by omega
        have HT := Lib.hid (show decide (l = m) = true by
          refine decide_eq_true ?_
          rw [List.take_of_length_le (by rw [HN.out.1]; exact Nat.le_refl _), List.take_of_length_le (by rw [HN.out.2]; exact Nat.le_refl _)] at ht
          exact ht)
        clear ht
        go_wp2_with fail
        go_ret
        exact ⟨by rw [HT.out]; rfl, below_drewN (Below.refl _ _) q⟩
  · have e0 : ((nl : Int) == (nm : Int)) = false := by simp; omega
    have e1 : ((nl : Int) != (nm : Int)) = true := by simp; omega
    have HT := Lib.hid (show decide (l = m) = false from decide_eq_false fun e => hlen (by rw [← HN.out.1, ← HN.out.2, e]))
    go_enter Try.func16, Try.ntmps16
    go_wp2_with fail
    go_ret
    exact ⟨by rw [HT.out]; rfl, Below.refl _ _⟩

instance (l : List At) : Decidable (riseA l) := inferInstanceAs (Decidable (l.Pairwise _))
instance (l : List Ch) : Decidable (riseC l) := inferInstanceAs (Decidable (l.Pairwise _))

set_option maxRecDepth 100000 in
set_option maxHeartbeats 2000000 in
/-- Do the keys rise? -/
theorem rise05_any {w : World} {B c : Nat} {A : Option Addr} {l : List At} (hl : Sees w B 5 A l.length (rowA l)) (hn : l.length ≤ 1000000) :
    Calls Try.prog 21 #[.slice A l.length c] w fun e w' => e = .returned (.bool (decide (riseA l))) ∧ Below w.heap.size w w' := by
  have HL := Lib.hid hl
  clear hl
  obtain ⟨nl, hnl⟩ : ∃ n, l.length = n := ⟨_, rfl⟩
  have HN := Lib.hid hnl
  rw [hnl] at HL hn ⊢
  have h0 : (nl : Int) ≤ 1000000 := by omega
  clear hnl
  go_enter Try.func21, Try.ntmps21
  go_wp2_with fail
  go_loopw [3] (fun v3 wr => ∃ k q : Nat, (k + 1 ≤ nl ∨ nl = 0 ∧ k = 0) ∧ v3 = .int .i64 ((k + 1 : Nat) : Int) ∧ riseA (l.take (k + 1)) ∧ wr = w.drewN q) (fun v3 _ => nl + 1 - (intOf v3).toNat)
  case atStart =>
    refine ⟨0, 0, by omega, rfl, ?_, rfl⟩
    unfold riseA
    rcases l with _ | ⟨x, l⟩
    · exact List.Pairwise.nil
    · exact List.pairwise_singleton _ _
  case round =>
    obtain ⟨k, q, hk, rfl, ht, rfl⟩ := hrel
    by_cases hlt : k + 1 < nl
    · have hkI : (k : Int) + 1 < nl := by omega
      obtain ⟨x, hx⟩ : ∃ x, l[k]? = some x := ⟨_, List.getElem?_eq_getElem (by rw [HN.out]; omega)⟩
      obtain ⟨y, hy⟩ : ∃ y, l[k + 1]? = some y := ⟨_, List.getElem?_eq_getElem (by rw [HN.out]; exact hlt)⟩
      obtain ⟨-, b, o, rfl, -, hr⟩ := HL.out.elem At.cells 5 (fun _ => rfl) hx
      obtain ⟨-, b', o', hA, -, hr'⟩ := HL.out.elem At.cells 5 (fun _ => rfl) hy
      simp only [Option.some.injEq, Addr.mk.injEq, and_true] at hA
      obtain ⟨rfl, rfl⟩ := hA
      have c1 : w.cell? ⟨b, o + k * 5, none⟩ = some (.int .i64 x.key) := hr 0 _ rfl
      have c2 : w.cell? ⟨b, o + (k + 1) * 5, none⟩ = some (.int .i64 y.key) := hr' 0 _ rfl
      have HX := Lib.hid (And.intro hx (And.intro hy ht))
      clear hx hy hr hr' ht hk
      by_cases hxy : y.key ≤ x.key
      · have HT := Lib.hid (show decide (riseA l) = false by
          refine decide_eq_false fun e => ?_
          have h1 := List.pairwise_iff_getElem.1 (show l.Pairwise _ from e) k (k + 1) (by rw [HN.out]; omega) (by rw [HN.out]; omega) (by omega)
          have hx := (List.getElem?_eq_some_iff.1 HX.out.1).2
          have hy := (List.getElem?_eq_some_iff.1 HX.out.2.1).2
          rw [hx, hy] at h1
          omega)
        go_wp2_with fail
        go_quiet (fail)
        go_wp2_with fail
        go_ret
        exact ⟨by rw [HT.out]; rfl, below_drewN (below_drewN (Below.refl _ _) _) _⟩
      · have hxy : x.key < y.key := by omega
        have HT := Lib.hid (show riseA (l.take (k + 1 + 1)) by
          have h1 := HX.out.2.2
          rw [List.take_add_one, HX.out.2.1]
          unfold riseA at h1 ⊢
          refine List.pairwise_append.2 ⟨h1, List.pairwise_singleton _ _, fun a ha b hb => ?_⟩
          rw [List.mem_singleton.1 hb]
          rw [List.take_add_one, HX.out.1] at ha h1
          rcases List.mem_append.1 ha with h2 | h2
          · have := (List.pairwise_append.1 h1).2.2 a h2 x (by simp); omega
          · have : a = x := by simpa using h2
            rw [this]; exact hxy)
        go_wp2_with fail
        go_quiet (fail)
        go_wp2_with fail
        go_roundw
        case rel => exact ⟨k + 1, _, by omega, by go_num, HT.out, rfl⟩
        case measure => simp [intOf]; omega
    · have HT := Lib.hid (show decide (riseA l) = true by
        refine decide_eq_true ?_
        rw [List.take_of_length_le (by rw [HN.out]; omega)] at ht
        exact ht)
      have hkI : ¬ ((k : Int) + 1 < nl) := by omega
      clear ht
      go_wp2_with fail
      go_ret
      exact ⟨by rw [HT.out]; rfl, below_drewN (Below.refl _ _) _⟩


set_option maxRecDepth 100000 in
set_option maxHeartbeats 2000000 in
/-- Do the keys rise? -/
theorem rise06_any {w : World} {B c : Nat} {A : Option Addr} {l : List Ch} (hl : Sees w B 6 A l.length (rowC l)) (hn : l.length ≤ 1000000) :
    Calls Try.prog 20 #[.slice A l.length c] w fun e w' => e = .returned (.bool (decide (riseC l))) ∧ Below w.heap.size w w' := by
  have HL := Lib.hid hl
  clear hl
  obtain ⟨nl, hnl⟩ : ∃ n, l.length = n := ⟨_, rfl⟩
  have HN := Lib.hid hnl
  rw [hnl] at HL hn ⊢
  have h0 : (nl : Int) ≤ 1000000 := by omega
  clear hnl
  go_enter Try.func20, Try.ntmps20
  go_wp2_with fail
  go_loopw [3] (fun v3 wr => ∃ k q : Nat, (k + 1 ≤ nl ∨ nl = 0 ∧ k = 0) ∧ v3 = .int .i64 ((k + 1 : Nat) : Int) ∧ riseC (l.take (k + 1)) ∧ wr = w.drewN q) (fun v3 _ => nl + 1 - (intOf v3).toNat)
  case atStart =>
    refine ⟨0, 0, by omega, rfl, ?_, rfl⟩
    unfold riseC
    rcases l with _ | ⟨x, l⟩
    · exact List.Pairwise.nil
    · exact List.pairwise_singleton _ _
  case round =>
    obtain ⟨k, q, hk, rfl, ht, rfl⟩ := hrel
    by_cases hlt : k + 1 < nl
    · have hkI : (k : Int) + 1 < nl := by omega
      obtain ⟨x, hx⟩ : ∃ x, l[k]? = some x := ⟨_, List.getElem?_eq_getElem (by rw [HN.out]; omega)⟩
      obtain ⟨y, hy⟩ : ∃ y, l[k + 1]? = some y := ⟨_, List.getElem?_eq_getElem (by rw [HN.out]; exact hlt)⟩
      obtain ⟨-, b, o, rfl, -, hr⟩ := HL.out.elem Ch.cells 6 (fun _ => rfl) hx
      obtain ⟨-, b', o', hA, -, hr'⟩ := HL.out.elem Ch.cells 6 (fun _ => rfl) hy
      simp only [Option.some.injEq, Addr.mk.injEq, and_true] at hA
      obtain ⟨rfl, rfl⟩ := hA
      have c1 : w.cell? ⟨b, o + k * 6, none⟩ = some (.int .i64 x.key) := hr 0 _ rfl
      have c2 : w.cell? ⟨b, o + (k + 1) * 6, none⟩ = some (.int .i64 y.key) := hr' 0 _ rfl
      have HX := Lib.hid (And.intro hx (And.intro hy ht))
      clear hx hy hr hr' ht hk
      by_cases hxy : y.key ≤ x.key
      · have HT := Lib.hid (show decide (riseC l) = false by
          refine decide_eq_false fun e => ?_
          have h1 := List.pairwise_iff_getElem.1 (show l.Pairwise _ from e) k (k + 1) (by rw [HN.out]; omega) (by rw [HN.out]; omega) (by omega)
          have hx := (List.getElem?_eq_some_iff.1 HX.out.1).2
          have hy := (List.getElem?_eq_some_iff.1 HX.out.2.1).2
          rw [hx, hy] at h1
          omega)
        go_wp2_with fail
        go_quiet (fail)
        go_wp2_with fail
        go_ret
        exact ⟨by rw [HT.out]; rfl, below_drewN (below_drewN (Below.refl _ _) _) _⟩
      · have hxy : x.key < y.key := by omega
        have HT := Lib.hid (show riseC (l.take (k + 1 + 1)) by
          have h1 := HX.out.2.2
          rw [List.take_add_one, HX.out.2.1]
          unfold riseC at h1 ⊢
          refine List.pairwise_append.2 ⟨h1, List.pairwise_singleton _ _, fun a ha b hb => ?_⟩
          rw [List.mem_singleton.1 hb]
          rw [List.take_add_one, HX.out.1] at ha h1
          rcases List.mem_append.1 ha with h2 | h2
          · have := (List.pairwise_append.1 h1).2.2 a h2 x (by simp); omega
          · have : a = x := by simpa using h2
            rw [this]; exact hxy)
        go_wp2_with fail
        go_quiet (fail)
        go_wp2_with fail
        go_roundw
        case rel => exact ⟨k + 1, _, by omega, by go_num, HT.out, rfl⟩
        case measure => simp [intOf]; omega
    · have HT := Lib.hid (show decide (riseC l) = true by
        refine decide_eq_true ?_
        rw [List.take_of_length_le (by rw [HN.out]; omega)] at ht
        exact ht)
      have hkI : ¬ ((k : Int) + 1 < nl) := by omega
      clear ht
      go_wp2_with fail
      go_ret
      exact ⟨by rw [HT.out]; rfl, below_drewN (Below.refl _ _) _⟩

theorem own_none {size : Nat} (w : World) (e : TypeId) : (w.alloc (.cells #[] e)).ownsRow w.heap.size e size (.slice (some ⟨w.heap.size, 0, none⟩) 0 0) 0 [] :=
  ⟨by simp, .inr ⟨w.heap.size, 0, #[], rfl, Nat.le_refl _, heap_alloc_new w _, Nat.le_refl _, Nat.zero_le _, by simp, by simp⟩⟩

theorem below_zero {w w' : World} {e : TypeId} (hg : (w.alloc (.cells #[] e)).grownBy w' (Value.slice (some ⟨w.heap.size, 0, none⟩) 0 0).ownBlock) : Below w.heap.size w w' :=
  ((Below.refl _ w).alloc (Nat.le_refl _) _).grown hg (by simp) (fun k e => by have := Option.some.inj e; exact Nat.le_of_eq this)

/-- A set of one's own. -/
def OwnA (w : World) (base : Nat) (v : Value) (l : List At) : Prop := w.ownsRow base 72 5 v l.length (rowA l)

set_option maxRecDepth 100000 in
set_option maxHeartbeats 1000000 in
theorem cloneA_any {w : World} {B c : Nat} {A : Option Addr} {l : List At} (hs : Sees w B 5 A l.length (rowA l)) (hB : B ≤ w.heap.size) (hn : l.length ≤ 1000000) (hc : A = none → l.length = 0 ∧ c = 0) :
    Calls Try.prog 55 #[.slice A l.length c] w fun e w' => ∃ v, e = .returned v ∧ OwnA w' w.heap.size v l ∧ Below w.heap.size w w' := by
  obtain ⟨i0, ii0, iz0, iz1, iz2⟩ := info_parts attr_info
  obtain ⟨n, hn'⟩ : ∃ n, l.length = n := ⟨_, rfl⟩
  have HN := Lib.hid hn'
  rw [hn'] at hs hn hc ⊢
  clear hn'
  have hnI : (n : Int) ≤ 1000000 := by omega
  rcases A with _ | a
  · obtain ⟨rfl, rfl⟩ := hc rfl
    have HR := Lib.hid (show OwnA w w.heap.size (.slice none 0 0) l from by
      have : l = [] := List.eq_nil_of_length_eq_zero HN.out
      subst this
      exact ⟨rfl, .inl ⟨rfl, rfl⟩⟩)
    have he := Lib.run_eql_slice_nil (P := Try.prog) w 38 72 none 0 0 0 0 Try.underlying38
    go_enter Try.func55, Try.ntmps55
    go_wp2_with fail
    go_ret
    exact ⟨_, rfl, HR.out, Below.refl _ _⟩
  have he := Lib.run_eql_slice_nil (P := Try.prog) w 38 72 (some a) n c 0 0 Try.underlying38
  clear hc
  go_enter Try.func55, Try.ntmps55
  go_wp2_with (
    at_builtin
    refine wpList_append_sees _ rfl _ _ _ rfl w.heap.size 72 i0 _ 5 48 Try.underlying38 ii0 iz0 iz1 iz2 rfl (by omega) _ 0 [] rfl
      (own_none w 72) B _ n _ _ rfl (hs.alloc hB _) (rowA_oneCell l) (by simp only [maxLen]; omega) (by omega) (by simp) ?_
    intro v1 w1 hown1 hg1 hat1 hnil1
    rw [Nat.zero_add, List.nil_append] at hown1
    have hb1 := below_zero hg1
    clear hg1 hat1 hnil1)
  go_ret
  exact ⟨_, rfl, by unfold OwnA; rw [HN.out]; exact hown1, hb1⟩

set_option maxRecDepth 100000 in
set_option maxHeartbeats 1000000 in
theorem copyA_any {w : World} {B c : Nat} {A : Option Addr} {l : List At} (hs : Sees w B 5 A l.length (rowA l)) (hB : B ≤ w.heap.size) (hn : l.length ≤ 1000000) (hc : A = none → l.length = 0 ∧ c = 0) :
    Calls Try.prog 33 #[.slice A l.length c] w fun e w' => ∃ v, e = .returned v ∧ OwnA w' w.heap.size v l ∧ Below w.heap.size w w' := by
  have HC := Lib.hid (cloneA_any hs hB hn hc)
  clear hs hc
  go_enter Try.func33, Try.ntmps33
  go_wp2_with fail
  refine HC.out.mono ?_
  rintro e w1 ⟨v, rfl, ho, hb⟩
  have HR := Lib.hid (And.intro ho hb)
  obtain ⟨A1, c1, rfl, -, -⟩ := own_shape ho
  clear ho hb HC
  go_wp2_with fail
  go_ret
  exact ⟨_, rfl, HR.out.1, HR.out.2⟩

/-- What Get hands back. -/
def getV (o : Option Vl) : Value := match o with
  | some v => .tuple #[.agg v.cells.toArray, .bool true]
  | none => .tuple #[.agg #[.int .u8 0, .int .i64 0, .int .u64 0, .string ⟨#[]⟩], .bool false]
theorem getK_take {l : List At} {k : Nat} {x : At} (h : l[k]? = some x) (key : Int) (hx : x.key = key) (hp : ∀ a ∈ l.take k, a.key ≠ key) : getK l key = some x.v := by
  obtain ⟨hk, e⟩ := List.getElem?_eq_some_iff.1 h
  have hl : l = l.take k ++ (x :: l.drop (k + 1)) := by rw [← e, ← List.drop_eq_getElem_cons hk, List.take_append_drop]
  rw [hl, getK_app, getK_none hp]
  unfold getK
  rw [List.find?_cons_of_pos (by simpa using hx)]
  rfl

set_option maxRecDepth 100000 in
set_option maxHeartbeats 2000000 in
theorem get05_any {w : World} {B c : Nat} {A : Option Addr} {l : List At} (hl : Sees w B 5 A l.length (rowA l)) (hB : B ≤ w.heap.size) (hn : l.length ≤ 1000000) (key : Int) :
    Calls Try.prog 17 #[.slice A l.length c, .int .i64 key] w fun e w' => e = .returned (getV (getK l key)) ∧ Below w.heap.size w w' := by
  obtain ⟨bx, hbx⟩ : ∃ v, w.heap.size = v := ⟨_, rfl⟩
  obtain ⟨w1, hw1⟩ : ∃ v, w.alloc (.cells #[.int .u8 0, .int .i64 0, .int .u64 0, .string ⟨#[]⟩] 44) = v := ⟨_, rfl⟩
  have hq1 : w1.heap[bx]? = some (.cells #[.int .u8 0, .int .i64 0, .int .u64 0, .string ⟨#[]⟩] 44) := by rw [← hw1, ← hbx]; exact heap_alloc_new w _
  have K1 := Lib.hid (show Below w.heap.size w w1 by rw [← hw1]; exact (Below.refl _ _).alloc (Nat.le_refl _) _)
  have HQ := Lib.hid hq1
  have HL := Lib.hid (hl.below K1.out hB)
  have HE := Lib.hid (And.intro hw1 hbx)
  have HB := Lib.hid hB
  clear hl hB hq1
  obtain ⟨nl, hnl⟩ : ∃ n, l.length = n := ⟨_, rfl⟩
  have HN := Lib.hid hnl
  rw [hnl] at HL hn ⊢
  have h0 : (nl : Int) ≤ 1000000 := by omega
  clear hnl
  go_enter Try.func17, Try.ntmps17
  go_wp2_with fail
  clear hw1 hbx
  go_loopw [6] (fun v6 wr => ∃ k : Nat, k ≤ nl ∧ v6 = .int .i64 k ∧ (∀ a ∈ l.take k, a.key ≠ key) ∧ wr = w1) (fun v6 _ => nl - (intOf v6).toNat)
  case atStart => exact ⟨0, Nat.zero_le _, rfl, (fun a ha => by simp at ha), rfl⟩
  case round =>
    obtain ⟨k, hk, rfl, ht, rfl⟩ := hrel
    by_cases hlt : k < nl
    · have hkI : (k : Int) < nl := by omega
      obtain ⟨x, hx⟩ : ∃ x, l[k]? = some x := ⟨_, List.getElem?_eq_getElem (by rw [HN.out]; exact hlt)⟩
      obtain ⟨-, b, o, rfl, -, hr⟩ := HL.out.elem At.cells 5 (fun _ => rfl) hx
      have c1 : wr.cell? ⟨b, o + k * 5, none⟩ = some (.int .i64 x.key) := hr 0 _ rfl
      have HR := Lib.hid (show wr.rangeAt b (o + k * 5 + 1) x.v.cells from fun j v hv => by rw [Nat.add_assoc]; exact hr (1 + j) v (by rw [Nat.add_comm]; exact hv))
      have HX := Lib.hid hx
      by_cases hxy : x.key = key
      · have HT := Lib.hid (getK_take hx key hxy ht)
        have hd : (x.key == key) = true := by simp [hxy]
        clear hx hr ht hxy
        go_wp2_with (first
          | (refine wpList_load_mid rfl 44 (.tmp 23) rfl b (o + k * 5 + 1) rfl x.v.cells _ HR.out Try.underlying44 rfl (val_infoL x.v) ?_)
          | (refine wpList_store_row rfl 44 (.tmp 4) (.tmp 24) rfl bx x.v.cells.toArray rfl rfl 44 _ HQ.out (val_infoA x.v) (by rfl) (all_oneCell_toArray x.v.one) ?_))
        refine bodyPost_ret (v := getV (getK l key)) ?_ rfl ⟨rfl, ?_⟩
        · rw [HT.out]
          exact results_ct rfl _ _ bx _ x.v.cells.toArray (0, 0) _ _ rfl rfl (setRow_heap _ _ _ _ _ _ HQ.out) Try.underlying44 rfl (val_infoA x.v)
        · exact below_setRow K1.out K1.out.size (by rw [← HE.out.2]; exact Nat.le_refl _) _
      · have HT := Lib.hid (show ∀ a ∈ l.take (k + 1), a.key ≠ key from fun a ha => by
          rw [take_snoc' HX.out] at ha
          rcases List.mem_append.1 ha with h | h
          · exact ht a h
          · rw [List.mem_singleton.1 h]; exact hxy)
        have hd : (x.key == key) = false := by simp [hxy]
        clear hx hr ht hxy
        go_wp2_with fail
        go_roundw
        case rel => exact ⟨k + 1, by omega, by go_num, HT.out, by first | rfl | trivial⟩
        case measure => simp [intOf]; omega
    · obtain rfl : k = nl := by omega
      have HT := Lib.hid (show getK l key = none from getK_none (by rw [List.take_of_length_le (by rw [HN.out]; exact Nat.le_refl _)] at ht; exact ht))
      clear ht
      go_wp2_with (refine wpList_store_row rfl 44 (.tmp 4) (.tmp 25) rfl bx #[.int .u8 0, .int .i64 0, .int .u64 0, .string ⟨#[]⟩] rfl rfl 44 _ HQ.out (by kernel_rfl) (by rfl) (by kernel_rfl) ?_)
      refine bodyPost_ret (v := getV (getK l key)) ?_ rfl ⟨rfl, ?_⟩
      · rw [HT.out]
        exact results_ct rfl _ _ bx _ #[.int .u8 0, .int .i64 0, .int .u64 0, .string ⟨#[]⟩] (0, 0) _ _ rfl rfl (setRow_heap _ _ _ _ _ _ HQ.out) Try.underlying44 rfl (by kernel_rfl)
      · exact below_setRow K1.out K1.out.size (by rw [← HE.out.2]; exact Nat.le_refl _) _

end Go.Proofs.Ytpaelbhljgdenaa
