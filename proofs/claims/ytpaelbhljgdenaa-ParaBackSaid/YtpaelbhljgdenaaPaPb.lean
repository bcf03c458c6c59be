/-
  para: copied, At, Over, Insert, Delete, Patch.
-/
import Derived.Test.YtpaelbhljgdenaaPaPs
namespace Go.Proofs.Ytpaelbhljgdenaa
open Go.RowKit

/-- Each set of a row is put anew: k of them are done. -/
structure MapI (F : List At → List At) (w1 : World) (b0 base : Nat) (v : Value) (xs : List Th) (X : List (List At)) (k : Nat) (ys : List Th) (wr : World) : Prop where
  len : ys.length = xs.length
  own : OwnT wr b0 v ys
  sets : SetsAt wr (fun j => base ≤ j ∧ v.ownBlock ≠ some j) (ys.take k) ((X.take k).map F)
  rest : ys.drop k = xs.drop k
  step : Step (fun j => v.ownBlock = some j) w1 wr
  low : base ≤ w1.heap.size

section
variable {F : List At → List At} {w1 wr w2 : World} {b0 base n cv k : Nat} {v u : Value} {xs ys : List Th} {X : List (List At)} {D : Nat → Prop} {x : Th} {a : List At}
theorem MapI.start (h : OwnT w1 b0 v xs) (hb : base ≤ w1.heap.size) : MapI F w1 b0 base v xs X 0 xs w1 := ⟨rfl, h, SetsAt.nil_ _ _, rfl, Step.refl _ _, hb⟩
theorem MapI.elem {A : Option Addr} (h : MapI F w1 b0 base (.slice A n cv) xs X k ys wr) (hn : xs.length = n ∧ X.length = n) (hk : k < n) : ∃ x a bv, ys[k]? = some x ∧ X[k]? = some a ∧ xs[k]? = some x ∧ A = some ⟨bv, 0, none⟩ := by
  have hxk : ys[k]? = some (ys[k]'(by rw [h.len]; omega)) := List.getElem?_eq_getElem _
  obtain ⟨-, b, hA, -⟩ := h.own.thing hxk
  refine ⟨_, _, b, hxk, List.getElem?_eq_getElem (by omega), ?_, hA⟩
  have e := congrArg (fun l : List Th => l[0]?) h.rest
  simp only [List.getElem?_drop, Nat.add_zero] at e
  rw [← e, hxk]
theorem MapI.cell {bv : Nat} (h : MapI F w1 b0 base (.slice (some ⟨bv, 0, none⟩) n cv) xs X k ys wr) (hS : SetsAt w1 D xs X ∧ ∀ j, D j → bv ≠ j) (hx : ys[k]? = some x) (hxs : xs[k]? = some x) (ha : X[k]? = some a) : wr.cell? ⟨bv, k, none⟩ = some (.slice x.A x.n x.c) ∧ SetAt wr D x a := by
  obtain ⟨-, b, hA, -, -, hr, -⟩ := h.own.thing hx
  simp only [Option.some.injEq, Addr.mk.injEq, and_true] at hA
  subst hA
  rw [Nat.mul_one] at hr
  exact ⟨thing_cell hr, (hS.1.get k x a hxs ha).step h.step (fun j hj e => hS.2 j hj (Option.some.inj e))⟩
theorem MapI.frozen {bv : Nat} (h : MapI F w1 b0 base (.slice (some ⟨bv, 0, none⟩) n cv) xs X k ys wr) (hn : xs.length = n) (j : Nat) : wr.frozen? ⟨bv, j, none⟩ = false := by
  have h1 := h.own
  unfold OwnT at h1
  rw [h.len, hn] at h1
  exact h1.frozenAt j
theorem MapI.frozen2 {bv : Nat} (h : MapI F w1 b0 base (.slice (some ⟨bv, 0, none⟩) n cv) xs X k ys wr) (hn : xs.length = n) (hb : Below wr.heap.size wr w2) (j : Nat) : w2.frozen? ⟨bv, j, none⟩ = false := by
  have h1 := OwnT.later h.own hb
  unfold OwnT at h1
  rw [h.len, hn] at h1
  exact h1.frozenAt j
theorem MapI.next {bv n2 : Nat} (h : MapI F w1 b0 base (.slice (some ⟨bv, 0, none⟩) n cv) xs X k ys wr) (hn : xs.length = n ∧ X.length = n) (hk : k < n) (ha : X[k]? = some a) (hb : Below wr.heap.size wr w2) (ho : OwnA w2 wr.heap.size u (F a)) (hn2 : (F a).length = n2) :
    ∃ A2 c2 ys', u = .slice A2 n2 c2 ∧ MapI F w1 b0 base (.slice (some ⟨bv, 0, none⟩) n cv) xs X (k + 1) ys' (w2.setCell ⟨bv, k, none⟩ (.slice A2 n2 c2)) := by
  have hyl : ys.length = n := by rw [h.len, hn.1]
  have hbv : bv < wr.heap.size := own_lt h.own rfl
  obtain ⟨A2, c2, rfl, hs⟩ := SetAt.of_own (D := fun j => base ≤ j ∧ (Value.slice (some ⟨bv, 0, none⟩) n cv).ownBlock ≠ some j) ho hn2 (fun j hj => ⟨by have h1 := own_base ho hj; have h2 := h.step.size; have h3 := h.low; omega, fun e => by have h1 := own_base ho hj; have e : bv = j := Option.some.inj e; omega⟩)
  refine ⟨A2, c2, ys.set k ⟨A2, n2, c2⟩, rfl, ?_⟩
  have h2 := OwnT.later h.own hb
  rw [← hyl] at h2
  have h3 := OwnT.set h2 (k := k) (by omega) ⟨A2, n2, c2⟩
  rw [Nat.mul_one, hyl] at h3
  have hst : Step (fun j => (Value.slice (some ⟨bv, 0, none⟩) n cv).ownBlock = some j) w2 (w2.setCell ⟨bv, k, none⟩ (.slice A2 n2 c2)) := (Step.refl (fun j => (Value.slice (some ⟨bv, 0, none⟩) n cv).ownBlock = some j) w2).setCell (p := ⟨bv, k, none⟩) (.inl rfl) _
  have hnot : ∀ j, (base ≤ j ∧ (Value.slice (some ⟨bv, 0, none⟩) n cv).ownBlock ≠ some j) → ¬ ((Value.slice (some ⟨bv, 0, none⟩) n cv).ownBlock = some j) := fun j hj => hj.2
  refine ⟨by rw [List.length_set]; exact h.len, h3, ?_, ?_, (h.step.trans (Step.of_below hb _)).trans hst, h.low⟩
  · have e1 : (ys.set k ⟨A2, n2, c2⟩).take (k + 1) = ys.take k ++ [⟨A2, n2, c2⟩] := by
      rw [List.take_add_one, List.getElem?_set_self (by omega), List.take_set_of_le (Nat.le_refl _)]; rfl
    have e2 : (X.take (k + 1)).map F = (X.take k).map F ++ [F a] := by rw [List.take_add_one, ha, List.map_append]; rfl
    rw [e1, e2]
    refine SetsAt.append ((h.sets.below hb).step hst hnot) ⟨rfl, fun i t b h1 h2 => ?_⟩
    have hi : i = 0 := by have := (List.getElem?_eq_some_iff.1 h1).1; simpa using this
    subst hi
    simp at h1 h2
    subst h1 h2
    exact hs.step hst hnot
  · rw [List.drop_set_of_lt (by omega)]
    have e := congrArg (List.drop 1) h.rest
    rwa [List.drop_drop, List.drop_drop] at e
theorem MapI.done (h : MapI F w1 b0 base v xs X n ys wr) (hn : xs.length = n ∧ X.length = n) : OwnT wr b0 v ys ∧ SetsAt wr (fun j => base ≤ j ∧ v.ownBlock ≠ some j) ys (X.map F) ∧ ys.length = n ∧ Step (fun j => v.ownBlock = some j) w1 wr := by
  have h1 := h.sets
  rw [List.take_of_length_le (by rw [h.len, hn.1]; exact Nat.le_refl _), List.take_of_length_le (by rw [hn.2]; exact Nat.le_refl _)] at h1
  exact ⟨h.own, h1, by rw [h.len, hn.1], h.step⟩
end

set_option maxRecDepth 100000 in
set_option maxHeartbeats 1000000 in
theorem cloneS_any {w : World} {B c : Nat} {A : Option Addr} {xs : List Th} (hs : Sees w B 1 A xs.length (rowT xs)) (hB : B ≤ w.heap.size) (hn : xs.length ≤ 1000000) (hc : A = none → xs.length = 0 ∧ c = 0) :
    Calls Try.prog 49 #[.slice A xs.length c] w fun e w' => ∃ v, e = .returned v ∧ OwnT w' w.heap.size v xs ∧ Below w.heap.size w w' := by
  obtain ⟨i0, ii0, iz0, iz1, iz2⟩ := info_parts thing_info4
  obtain ⟨n, hn'⟩ : ∃ n, xs.length = n := ⟨_, rfl⟩
  have HN := Lib.hid hn'
  rw [hn'] at hs hn hc ⊢
  clear hn'
  have hnI : (n : Int) ≤ 1000000 := by omega
  rcases A with _ | a
  · obtain ⟨rfl, rfl⟩ := hc rfl
    have HR := Lib.hid (show OwnT w w.heap.size (.slice none 0 0) xs from by
      have : xs = [] := List.eq_nil_of_length_eq_zero HN.out
      subst this
      exact ⟨rfl, .inl ⟨rfl, rfl⟩⟩)
    have he := Lib.run_eql_slice_nil (P := Try.prog) w 23 38 none 0 0 0 0 Try.underlying23
    go_enter Try.func49, Try.ntmps49
    go_wp2_with fail
    go_ret
    exact ⟨_, rfl, HR.out, Below.refl _ _⟩
  have he := Lib.run_eql_slice_nil (P := Try.prog) w 23 38 (some a) n c 0 0 Try.underlying23
  clear hc
  go_enter Try.func49, Try.ntmps49
  go_wp2_with (
    at_builtin
    refine wpList_append_sees _ rfl _ _ _ rfl w.heap.size 38 i0 _ 1 24 Try.underlying23 ii0 iz0 iz1 iz2 rfl (by omega) _ 0 [] rfl
      (own_none w 38) B _ n _ _ rfl (hs.alloc hB _) (rowT_oneCell xs) (by simp only [maxLen]; omega) (by omega) (by simp) ?_
    intro v1 w1 hown1 hg1 hat1 hnil1
    rw [Nat.zero_add, List.nil_append] at hown1
    have hb1 := below_zero hg1
    clear hg1 hat1 hnil1)
  go_ret
  exact ⟨_, rfl, by unfold OwnT; rw [HN.out]; exact hown1, hb1⟩

/-- Sets in memory of their own. -/
def NewS (w : World) (X : List (List At)) (v : Value) (w' : World) : Prop := ∃ xs, OwnT w' w.heap.size v xs ∧ SetsAt w' (fun j => w.heap.size ≤ j ∧ v.ownBlock ≠ some j) xs X ∧ Below w.heap.size w w'

set_option maxRecDepth 100000 in
set_option maxHeartbeats 2000000 in
theorem copied_any {w : World} {B c : Nat} {A : Option Addr} {xs : List Th} {D : Nat → Prop} {X : List (List At)} (hs : Sees w B 1 A xs.length (rowT xs)) (hB : B ≤ w.heap.size) (hn : xs.length ≤ 1000000) (hc : A = none → xs.length = 0 ∧ c = 0) (hS : SetsAt w D xs X) (hm : ∀ a ∈ X, a.length ≤ 1000000) :
    Calls Try.prog 27 #[.slice A xs.length c] w fun e w' => ∃ v, e = .returned v ∧ NewS w X v w' := by
  have HCl := Lib.hid (cloneS_any hs hB hn hc)
  have HS0 := Lib.hid hS
  have HM := Lib.hid hm
  obtain ⟨n, hn'⟩ : ∃ n, xs.length = n := ⟨_, rfl⟩
  have HLX := Lib.hid (show xs.length = n ∧ X.length = n from ⟨hn', by rw [← hS.len, hn']⟩)
  rw [hn'] at HCl hn ⊢
  have hnI : (n : Int) ≤ 1000000 := by omega
  clear hs hc hS hm hn'
  go_enter Try.func27, Try.ntmps27
  go_wp2_with fail
  refine HCl.out.mono ?_
  clear HCl
  rintro e w1 ⟨v1, rfl, hown, hb1⟩
  obtain ⟨A1, c1, rfl, hc1, hm1⟩ := hown.shape
  obtain ⟨base, hbase⟩ : ∃ b, w.heap.size = b := ⟨_, rfl⟩
  have HBS := Lib.hid hbase
  have HSX := Lib.hid (show SetsAt w1 (fun j => j < base) xs X ∧ ∀ bv, (∃ n c, (Value.slice A1 xs.length c1) = .slice (some ⟨bv, 0, none⟩) n c) → ∀ j, j < base → bv ≠ j from ⟨(HS0.out.mono (D' := fun j => j < base) (fun k hk _ => by omega)).below hb1, fun bv ⟨_, _, e⟩ j hj => by have h1 := own_base hown (k := bv) (by rw [e]; rfl); omega⟩)
  have HB1 := Lib.hid hb1
  rw [hbase] at hown
  have HM0 := Lib.hid (MapI.start (F := id) (X := X) (base := base) hown (by rw [← hbase]; exact hb1.size))
  rw [HLX.out.1] at HM0 HSX ⊢
  clear hown hb1 hbase hc1 hm1
  go_wp2_with fail
  go_loopw [9] (fun vk wr => ∃ (k : Nat) (ys : List Th), k ≤ n ∧ vk = .int .i64 k ∧ MapI (id) w1 base base (.slice A1 n c1) xs X k ys wr) (fun vk _ => n - (intOf vk).toNat)
  case atStart => exact ⟨0, xs, Nat.zero_le _, rfl, HM0.out⟩
  case round =>
    obtain ⟨k, ys, hk, rfl, hM⟩ := hrel
    by_cases hlt : k < n
    · have hkI : (k : Int) < n := by omega
      obtain ⟨x, a, bv, hx, ha, hxs, rfl⟩ := hM.elem HLX.out hlt
      obtain ⟨cx, hSx⟩ := hM.cell ⟨HSX.out.1, HSX.out.2 bv ⟨n, c1, rfl⟩⟩ hx hxs ha
      have zx := hM.frozen HLX.out.1 k
      have HC := Lib.hid (copyA_any (c := x.c) hSx.sees (Nat.le_refl _) (HM.out a (List.mem_of_getElem? ha)) (fun e => ⟨by have h1 := hSx.nil e; have h2 := hSx.cap; rw [hSx.len]; omega, hSx.nil e⟩))
      rw [hSx.len] at HC
      have HMk := Lib.hid hM
      have HA := Lib.hid ha
      clear hM hx ha hxs hSx
      go_wp2_with fail
      refine HC.out.mono ?_
      clear HC
      rintro e w2 ⟨u, rfl, ho, hb⟩
      have cx2 : w2.cell? ⟨bv, k, none⟩ = some (.slice x.A x.n x.c) := cell_later cx hb
      have zx2 := HMk.out.frozen2 HLX.out.1 hb k
      have HMn := Lib.hid (fun (n2 : Nat) (hn2 : (id a).length = n2) => HMk.out.next HLX.out hlt HA.out hb ho hn2)
      obtain ⟨n2, hn2⟩ : ∃ n2, (id a).length = n2 := ⟨_, rfl⟩
      obtain ⟨A2, c2, ys', rfl, hM2⟩ := HMn.out n2 hn2
      have HM2 := Lib.hid hM2
      clear ho hb cx zx HMn hn2 hM2
      go_wp2_with fail
      go_roundw
      case rel => exact ⟨k + 1, ys', by omega, by go_num, HM2.out⟩
      case measure => simp [intOf]; omega
    · obtain rfl : k = n := by omega
      have HM2 := Lib.hid hM
      clear hM
      go_wp2_with fail
      go_ret
      obtain ⟨h1, h2, h3, h4⟩ := HM2.out.done HLX.out
      rw [List.map_id] at h2
      rw [← HBS.out] at h1 h2
      exact ⟨_, rfl, ys, h1, h2, HB1.out.trans (h4.below HB1.out.size (fun j hj => own_base h1 hj))⟩

end Go.Proofs.Ytpaelbhljgdenaa
