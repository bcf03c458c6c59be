/-
  The reference's arena (rubricref08.Arena): its three rows behind a pointer; Has, Len, Drop, Take.
-/
import Derived.Test.YteelmlhknfbjdaaRowSt
import Derived.Test.YteelmlhknfbjdaaArenaN
namespace Go.Proofs.Yteelmlhknfbjdaa
open Go.RowKit

def tB (o : Option Int) : Value := .bool o.isSome
def xI (o : Option Int) : Value := .int .i64 (o.getD 0)
def iV (i : Nat) : Value := .int .i64 (i : Int)

/-- Its three rows, as they lie. -/
def Ref3 (w : World) (F : Nat → Prop) (g : Nat) (vx : Value) (nx : Nat) (xs : List Value) (vt : Value) (nt : Nat) (ts : List Value) (vf : Value) (nf : Nat) (fs : List Value) : Prop :=
  StF w F g 51 [⟨2, 1, vx, nx, xs⟩, ⟨4, 1, vt, nt, ts⟩, ⟨3, 1, vf, nf, fs⟩]

section
variable {w : World} {F : Nat → Prop} {g : Nat} {vx vt vf : Value} {nx nt nf : Nat} {xs ts fs : List Value}
theorem Ref3.x (h : Ref3 w F g vx nx xs vt nt ts vf nf fs) : w.ownsRow 0 2 1 vx nx xs := StF.row h (j := 0) rfl
theorem Ref3.t (h : Ref3 w F g vx nx xs vt nt ts vf nf fs) : w.ownsRow 0 4 1 vt nt ts := StF.row h (j := 1) rfl
theorem Ref3.f (h : Ref3 w F g vx nx xs vt nt ts vf nf fs) : w.ownsRow 0 3 1 vf nf fs := StF.row h (j := 2) rfl
theorem Ref3.c0 (h : Ref3 w F g vx nx xs vt nt ts vf nf fs) : w.cell? ⟨g, 0, none⟩ = some vx := StF.cell h (j := 0) rfl
theorem Ref3.c1 (h : Ref3 w F g vx nx xs vt nt ts vf nf fs) : w.cell? ⟨g, 1, none⟩ = some vt := StF.cell h (j := 1) rfl
theorem Ref3.c2 (h : Ref3 w F g vx nx xs vt nt ts vf nf fs) : w.cell? ⟨g, 2, none⟩ = some vf := StF.cell h (j := 2) rfl
theorem Ref3.below {w' : World} (h : Ref3 w F g vx nx xs vt nt ts vf nf fs) (hs : Below w.heap.size w w') : Ref3 w' F g vx nx xs vt nt ts vf nf fs := StF.below h hs
theorem Ref3.drew (h : Ref3 w F g vx nx xs vt nt ts vf nf fs) : Ref3 w.drew F g vx nx xs vt nt ts vf nf fs := StF.drew h
theorem Ref3.storeX (h : Ref3 w F g vx nx xs vt nt ts vf nf fs) {b c : Nat} (hv : vx = .slice (some ⟨b, 0, none⟩) nx c) (k : Nat) (u : Value) : Ref3 (w.setCell ⟨b, k, none⟩ u) F g vx nx (xs.set k u) vt nt ts vf nf fs ∧ Grow F w (w.setCell ⟨b, k, none⟩ u) F := StF.store h (i := 0) rfl hv k u
theorem Ref3.storeT (h : Ref3 w F g vx nx xs vt nt ts vf nf fs) {b c : Nat} (hv : vt = .slice (some ⟨b, 0, none⟩) nt c) (k : Nat) (u : Value) : Ref3 (w.setCell ⟨b, k, none⟩ u) F g vx nx xs vt nt (ts.set k u) vf nf fs ∧ Grow F w (w.setCell ⟨b, k, none⟩ u) F := StF.store h (i := 1) rfl hv k u
theorem Ref3.renewX {w1 : World} (h : Ref3 w F g vx nx xs vt nt ts vf nf fs) {v' : Value} {n' : Nat} {ys : List Value} (hg : w.grownBy w1 vx.ownBlock) (hown : w1.ownsRow 0 2 1 v' n' ys) (hat : ∀ k, v'.ownBlock = some k → vx.ownBlock = some k ∨ w.heap.size ≤ k) :
    (w1.cell? ⟨g, 0, none⟩ = some vx ∧ w1.frozen? ⟨g, 0, none⟩ = false) ∧ Ref3 (w1.setCell ⟨g, 0, none⟩ v') (fun k => F k ∨ v'.ownBlock = some k) g v' n' ys vt nt ts vf nf fs ∧ Grow F w (w1.setCell ⟨g, 0, none⟩ v') (fun k => F k ∨ v'.ownBlock = some k) := StF.renew h (i := 0) rfl hg hown hat
theorem Ref3.renewT {w1 : World} (h : Ref3 w F g vx nx xs vt nt ts vf nf fs) {v' : Value} {n' : Nat} {ys : List Value} (hg : w.grownBy w1 vt.ownBlock) (hown : w1.ownsRow 0 4 1 v' n' ys) (hat : ∀ k, v'.ownBlock = some k → vt.ownBlock = some k ∨ w.heap.size ≤ k) :
    (w1.cell? ⟨g, 1, none⟩ = some vt ∧ w1.frozen? ⟨g, 1, none⟩ = false) ∧ Ref3 (w1.setCell ⟨g, 1, none⟩ v') (fun k => F k ∨ v'.ownBlock = some k) g vx nx xs v' n' ys vf nf fs ∧ Grow F w (w1.setCell ⟨g, 1, none⟩ v') (fun k => F k ∨ v'.ownBlock = some k) := StF.renew h (i := 1) rfl hg hown hat
theorem Ref3.renewF {w1 : World} (h : Ref3 w F g vx nx xs vt nt ts vf nf fs) {v' : Value} {n' : Nat} {ys : List Value} (hg : w.grownBy w1 vf.ownBlock) (hown : w1.ownsRow 0 3 1 v' n' ys) (hat : ∀ k, v'.ownBlock = some k → vf.ownBlock = some k ∨ w.heap.size ≤ k) :
    (w1.cell? ⟨g, 2, none⟩ = some vf ∧ w1.frozen? ⟨g, 2, none⟩ = false) ∧ Ref3 (w1.setCell ⟨g, 2, none⟩ v') (fun k => F k ∨ v'.ownBlock = some k) g vx nx xs vt nt ts v' n' ys ∧ Grow F w (w1.setCell ⟨g, 2, none⟩ v') (fun k => F k ∨ v'.ownBlock = some k) := StF.renew h (i := 2) rfl hg hown hat
end

abbrev RefR (w : World) (F : Nat → Prop) (g : Nat) (vx vt vf : Value) (s : List (Option Int)) (fr : List Nat) : Prop := Ref3 w F g vx s.length (s.map xI) vt s.length (s.map tB) vf fr.length (fr.map iV)

/-- The reference's arena behind ⟨g, 0⟩, of the blocks F. -/
def RefA (w : World) (F : Nat → Prop) (g : Nat) (s : List (Option Int)) (fr : List Nat) : Prop :=
  ∃ vx vt vf, RefR w F g vx vt vf s fr

section
variable {w w' : World} {F : Nat → Prop} {g : Nat} {s : List (Option Int)} {fr : List Nat}
theorem RefA.lt (h : RefA w F g s fr) : ∀ k, F k → k < w.heap.size := by obtain ⟨_, _, _, h⟩ := h; exact StF.lt h
theorem RefA.drewN (h : RefA w F g s fr) (n : Nat) : RefA (w.drewN n) F g s fr := by obtain ⟨_, _, _, h⟩ := h; exact ⟨_, _, _, StF.drewN h n⟩
theorem RefA.drew (h : RefA w F g s fr) : RefA w.drew F g s fr := h.drewN 1
theorem RefA.step {G : Nat → Prop} (h : RefA w F g s fr) (hs : Step G w w') (hG : ∀ k, F k → ¬ G k) : RefA w' F g s fr := by obtain ⟨_, _, _, h⟩ := h; exact ⟨_, _, _, StF.step h hs hG⟩
theorem RefA.below (h : RefA w F g s fr) (hs : Below w.heap.size w w') : RefA w' F g s fr := by obtain ⟨_, _, _, h⟩ := h; exact ⟨_, _, _, StF.below h hs⟩

/-- Where a row of one cell an element is not empty: its block, its cells. -/
theorem row_at {base : Nat} {e : TypeId} {v : Value} {n : Nat} {xs : List Value} (h : w.ownsRow base e 1 v n xs) {k : Nat} (hk : k < n) :
    ∃ b c, v = .slice (some ⟨b, 0, none⟩) n c ∧ n ≤ c ∧ base ≤ b ∧ (∀ j u, xs[j]? = some u → w.cell? ⟨b, j, none⟩ = some u) ∧ (∀ j, w.frozen? ⟨b, j, none⟩ = false) := by
  obtain ⟨A, c, rfl, hc, _, hn, hs⟩ := own_shape h
  cases A with
  | none => have := (hn rfl).1; omega
  | some ad =>
    obtain ⟨b, rfl, hb, _⟩ := hs ad rfl
    refine ⟨b, c, rfl, hc, hb, fun j u hu => ?_, fun j => h.frozenAt j⟩
    have hl := h.1
    have hj := (List.getElem?_eq_some_iff.1 hu).1
    rw [h.cellAt j (by omega)]
    exact hu
end

set_option maxHeartbeats 1000000 in
theorem has_any {w : World} {F : Nat → Prop} {g : Nat} {s : List (Option Int)} {fr : List Nat} (h : RefA w F g s fr) (hs : s.length ≤ 1000000) (i : Int) :
    Calls Try.prog 21 #[.pointer (some ⟨g, 0, none⟩), .int .i64 i] w fun e w' => e = .returned (.bool (look s i).isSome) ∧ w = w' := by
  obtain ⟨vx, vt, vf, h⟩ := h
  have h0 := Ref3.c0 h
  have h1 := Ref3.c1 h
  obtain ⟨A, c, rfl, _⟩ := own_shape h.x
  have hh : i < 0 ∨ (0 ≤ i ∧ (s.length : Int) ≤ i) ∨ ∃ k : Nat, i = k ∧ k < s.length := by
    by_cases h1 : i < 0
    · exact .inl h1
    · by_cases h2 : (s.length : Int) ≤ i
      · exact .inr (.inl ⟨by omega, h2⟩)
      · exact .inr (.inr ⟨i.toNat, by omega, by omega⟩)
  rcases hh with hi | ⟨hi, hi2⟩ | ⟨k, rfl, hk⟩
  · rw [show look s i = none by unfold look; rw [if_neg (by omega)]]
    go_enter Try.func21, Try.ntmps21
    go_wp2
    go_ret
    exact ⟨rfl, rfl⟩
  · rw [show look s i = none by unfold look; rw [if_pos (by omega), List.getElem?_eq_none (by omega)]; rfl]
    go_enter Try.func21, Try.ntmps21
    go_wp2
    go_ret
    exact ⟨rfl, rfl⟩
  · obtain ⟨b, ct, rfl, hct, _, hcell, _⟩ := row_at h.t hk
    have hc := hcell k (.bool (look s (k : Int)).isSome) (by rw [look_nat, List.getElem?_map]; rw [List.getElem?_eq_getElem hk]; rfl)
    obtain ⟨r, hr⟩ : ∃ r, (look s (k : Int)).isSome = r := ⟨_, rfl⟩
    rw [hr] at hc ⊢
    obtain ⟨ns, hns⟩ : ∃ n, s.length = n := ⟨_, rfl⟩
    rw [hns] at h0 h1 hct hk
    have hkI : (k : Int) < ns := by omega
    have hsI : (ns : Int) ≤ 1000000 := by omega
    clear hcell hns hs
    go_enter Try.func21, Try.ntmps21
    go_wp2
    go_ret
    exact ⟨rfl, rfl⟩

/-- How many are taken. -/
def cntS (s : List (Option Int)) : Nat := (s.filter (·.isSome)).length

theorem cntS_snoc (s : List (Option Int)) (k : Nat) (hk : k < s.length) : cntS (s.take (k + 1)) = cntS (s.take k) + if s[k].isSome then 1 else 0 := by
  unfold cntS
  rw [List.take_succ_eq_append_getElem hk, List.filter_append, List.length_append]
  cases h : s[k].isSome <;> simp [List.filter, h]

theorem cntS_le (s : List (Option Int)) : cntS s ≤ s.length := List.length_filter_le _ _

/-- A thing is taken or free. -/
theorem cntS_ok {s : List (Option Int)} {fr : List Nat} (h : ArOk s fr) : (cntS s : Int) = (s.length : Int) - fr.length := by
  have key : ∀ (s : List (Option Int)), cntS s + (s.filter (·.isNone)).length = s.length := by
    intro s
    induction s with
    | nil => rfl
    | cons o s ih => cases o <;> simp [cntS] at ih ⊢ <;> omega
  have h2 : ∀ (s : List (Option Int)) (a : Nat), (s.filter (·.isNone)).length = ((List.range' a s.length).filter fun i => (s[i - a]?).join.isNone).length := by
    intro s
    induction s with
    | nil => intro a; rfl
    | cons o s ih =>
      intro a
      rw [List.length_cons, List.range'_succ, List.filter_cons, List.filter_cons]
      have e : ((List.range' (a + 1) s.length).filter fun i => ((o :: s)[i - a]?).join.isNone) = ((List.range' (a + 1) s.length).filter fun i => (s[i - (a + 1)]?).join.isNone) := by
        apply List.filter_congr
        intro i hi
        have := List.mem_range'_1.1 hi
        rw [show i - a = (i - (a + 1)) + 1 by omega, List.getElem?_cons_succ]
      rw [Nat.sub_self, e]
      cases o <;> simp [ih (a + 1)]
  have h3 : (s.filter (·.isNone)).length = fr.length := by
    rw [h2 s 0]
    have hn : ((List.range' 0 s.length).filter fun i => (s[i - 0]?).join.isNone).Nodup := (List.nodup_range' (step := 1)).filter _
    have hm : ∀ i, i ∈ ((List.range' 0 s.length).filter fun i => (s[i - 0]?).join.isNone) ↔ i ∈ fr := by
      intro i
      rw [List.mem_filter, List.mem_range'_1, h.iff i, Nat.sub_zero]
      constructor
      · rintro ⟨⟨_, h1⟩, h2⟩
        rw [List.getElem?_eq_getElem (by omega)] at h2 ⊢
        cases hq : s[i] with
        | none => rfl
        | some y => rw [hq] at h2; simp at h2
      · intro e
        have := (List.getElem?_eq_some_iff.1 e).1
        exact ⟨⟨Nat.zero_le _, by omega⟩, by rw [e]; rfl⟩
    exact Nat.le_antisymm (hn.length_le_of_subset fun i hi => (hm i).1 hi) (h.nodup.length_le_of_subset fun i hi => (hm i).2 hi)
  have := key s
  omega

set_option maxHeartbeats 1000000 in
theorem refLen_any {w : World} {F : Nat → Prop} {g : Nat} {s : List (Option Int)} {fr : List Nat} (h : RefA w F g s fr) (hs : s.length ≤ 1000000) :
    Calls Try.prog 26 #[.pointer (some ⟨g, 0, none⟩)] w fun e w' => e = .returned (.int .i64 (cntS s : Int)) ∧ w = w' := by
  obtain ⟨vx, vt, vf, h⟩ := h
  have h0 := Ref3.c0 h
  have h1 := Ref3.c1 h
  obtain ⟨A, c, rfl, _⟩ := own_shape h.x
  obtain ⟨A1, c1, rfl, _⟩ := own_shape h.t
  have HR := Lib.hid h.t
  clear h
  obtain ⟨ns, hns⟩ : ∃ n, s.length = n := ⟨_, rfl⟩
  rw [hns] at h0 h1 HR hs
  have hsI : (ns : Int) ≤ 1000000 := by omega
  have HN := Lib.hid hns
  clear hns
  go_enter Try.func26, Try.ntmps26
  go_wp2
  go_loop [3, 4] (fun v3 v4 => ∃ k : Nat, k ≤ ns ∧ v4 = .int .i64 k ∧ v3 = .int .i64 (cntS (s.take k) : Int)) (fun _ v4 => ns - (intOf v4).toNat)
  case atStart => exact ⟨0, Nat.zero_le _, rfl, rfl⟩
  case round =>
    obtain ⟨k, hk, rfl, rfl⟩ := hrel
    by_cases hlt : k < ns
    · obtain ⟨b, ct, hv, hct, _, hcell, _⟩ := row_at HR.out hlt
      obtain ⟨rfl, _⟩ : A1 = some ⟨b, 0, none⟩ ∧ c1 = ct := by injection hv with h1 h2 h3; exact ⟨h1, h3⟩
      have hkl : k < s.length := by have := HN.out; omega
      have hc := hcell k (.bool s[k].isSome) (by rw [List.getElem?_map, List.getElem?_eq_getElem hkl]; rfl)
      have hsn := cntS_snoc s k hkl
      have hle := cntS_le (s.take k)
      have hle2 : (s.take k).length ≤ k := by simp; omega
      obtain ⟨r, hr⟩ : ∃ r, s[k].isSome = r := ⟨_, rfl⟩
      rw [hr] at hc hsn
      have hkI : (k : Int) < ns := by omega
      obtain ⟨q, hq⟩ : ∃ q, cntS (s.take k) = q := ⟨_, rfl⟩
      rw [hq] at hsn hle
      have hqI : (q : Int) ≤ 1000000 := by omega
      rw [hq]
      have HS := Lib.hid hsn
      clear hcell hr hv hsn hq
      cases r
      · go_wp2
        go_round
        case rel => exact ⟨k + 1, by omega, by go_num, by rw [HS.out]; rfl⟩
        case measure => simp [intOf]; omega
      · go_wp2
        go_round
        case rel => exact ⟨k + 1, by omega, by go_num, by rw [HS.out]; go_num⟩
        case measure => simp [intOf]; omega
    · obtain rfl : k = ns := by omega
      have hfull : s.take k = s := List.take_of_length_le (by have := HN.out; omega)
      rw [hfull]
      go_wp2
      go_ret
      exact ⟨rfl, rfl⟩

end Go.Proofs.Yteelmlhknfbjdaa
