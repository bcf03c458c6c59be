/-
  The walk of rubriclaw11.SpansBack.
-/
import Derived.Test.YtbioomilnjikpaaSpMq
import Derived.Test.YtbioomilnjikpaaSpWa
namespace Go.Proofs.Ytbioomilnjikpaa
open Go.RowKit
attribute [local go_sem] Oper.semAt_some

theorem map_range145 (f : Nat → Value) : (List.range 145).map f = [f 0, f 1, f 2, f 3, f 4, f 5, f 6, f 7, f 8, f 9, f 10, f 11, f 12, f 13, f 14, f 15, f 16, f 17, f 18, f 19, f 20, f 21, f 22, f 23, f 24, f 25, f 26, f 27, f 28, f 29, f 30, f 31, f 32, f 33, f 34, f 35, f 36, f 37, f 38, f 39, f 40, f 41, f 42, f 43, f 44, f 45, f 46, f 47, f 48, f 49, f 50, f 51, f 52, f 53, f 54, f 55, f 56, f 57, f 58, f 59, f 60, f 61, f 62, f 63, f 64, f 65, f 66, f 67, f 68, f 69, f 70, f 71, f 72, f 73, f 74, f 75, f 76, f 77, f 78, f 79, f 80, f 81, f 82, f 83, f 84, f 85, f 86, f 87, f 88, f 89, f 90, f 91, f 92, f 93, f 94, f 95, f 96, f 97, f 98, f 99, f 100, f 101, f 102, f 103, f 104, f 105, f 106, f 107, f 108, f 109, f 110, f 111, f 112, f 113, f 114, f 115, f 116, f 117, f 118, f 119, f 120, f 121, f 122, f 123, f 124, f 125, f 126, f 127, f 128, f 129, f 130, f 131, f 132, f 133, f 134, f 135, f 136, f 137, f 138, f 139, f 140, f 141, f 142, f 143, f 144] := by
  simp [List.range, List.range.loop]

theorem lit145 (t : Array Value) (h : t.size = 145) : ∃ u : Nat → Value, t = #[u 0, u 1, u 2, u 3, u 4, u 5, u 6, u 7, u 8, u 9, u 10, u 11, u 12, u 13, u 14, u 15, u 16, u 17, u 18, u 19, u 20, u 21, u 22, u 23, u 24, u 25, u 26, u 27, u 28, u 29, u 30, u 31, u 32, u 33, u 34, u 35, u 36, u 37, u 38, u 39, u 40, u 41, u 42, u 43, u 44, u 45, u 46, u 47, u 48, u 49, u 50, u 51, u 52, u 53, u 54, u 55, u 56, u 57, u 58, u 59, u 60, u 61, u 62, u 63, u 64, u 65, u 66, u 67, u 68, u 69, u 70, u 71, u 72, u 73, u 74, u 75, u 76, u 77, u 78, u 79, u 80, u 81, u 82, u 83, u 84, u 85, u 86, u 87, u 88, u 89, u 90, u 91, u 92, u 93, u 94, u 95, u 96, u 97, u 98, u 99, u 100, u 101, u 102, u 103, u 104, u 105, u 106, u 107, u 108, u 109, u 110, u 111, u 112, u 113, u 114, u 115, u 116, u 117, u 118, u 119, u 120, u 121, u 122, u 123, u 124, u 125, u 126, u 127, u 128, u 129, u 130, u 131, u 132, u 133, u 134, u 135, u 136, u 137, u 138, u 139, u 140, u 141, u 142, u 143, u 144] ∧ ∀ i, u i = t.getD i undef := by
  refine ⟨fun i => t.getD i undef, ?_, fun _ => rfl⟩
  have e : t = ((List.range 145).map fun i => t.getD i undef).toArray := by
    apply Array.ext
    · simp [h]
    · intro i h1 h2
      simp [Array.getD, h1]
  exact e.trans (by rw [map_range145])

/-- A struct of a call in a block: its fields. -/
theorem op_box {w : World} {b : Nat} {o : OpS} (h : w.heap[b]? = some (.cells #[.int .i64 o.kind, .int .i64 o.i, .int .i64 o.j, .slice o.A o.len o.cap, .int .i64 o.by_, .int .i64 o.plus] 28)) :
    w.cell? ⟨b, 1, none⟩ = some (.int .i64 o.i) ∧ w.cell? ⟨b, 2, none⟩ = some (.int .i64 o.j) ∧ w.cell? ⟨b, 3, none⟩ = some (.slice o.A o.len o.cap) :=
  ⟨by rw [cell_of_row w b 1 _ _ _ h]; rfl, by rw [cell_of_row w b 2 _ _ _ h]; rfl, by rw [cell_of_row w b 3 _ _ _ h]; rfl⟩

/-- What was put in place of some is put away by putting those back. -/
theorem back_plain {X l : List Th} {i j : Int} (hX : Can X) (hoX : ∀ x ∈ X, okT x) (hle : sumT X ≤ 536870912) (hE : spE X i j l = 0) (ho' : ∀ x ∈ spX X i j l, okT x) :
    spE (spX X i j l) i (j + (sumT (spX X i j l) - sumT X)) (overT X i j) = 0 ∧ spX (spX X i j l) i (j + (sumT (spX X i j l) - sumT X)) (overT X i j) = X := by
  have hr : spX X i j l = replT X i j l := by unfold spX; rw [if_pos hE]
  rw [hr] at ho' ⊢
  unfold spE at hE
  by_cases hb : badL l = true
  · rw [if_pos hb] at hE; cases hE
  rw [if_neg hb] at hE
  by_cases he : betE X i j = 0
  rotate_left
  · rw [if_neg he] at hE; cases hE
  rw [if_pos he] at hE
  obtain ⟨i0, i1, i2⟩ := betE_zero he
  have hs : sumT l ≤ 536870912 - sumT X + j - i := by
    by_cases h : sumT l ≤ 536870912 - sumT X + j - i
    · exact h
    · rw [if_neg h] at hE; cases hE
  have hp := not_bad (l := l) (by simpa using hb)
  have hz := sumT_nonneg hoX
  have hol : ∀ x ∈ l, okT x := fun x hx => by
    have h1 := hp x hx
    have h2 := sumT_mem (fun y hy => (hp y hy).1) hx
    exact ⟨h1.1, by omega⟩
  obtain ⟨hc', hn'⟩ := repl_can hX hoX hp i0 i1
  have hlX := nums_len X hoX
  have hll := nums_len l hol
  have hzl := sumT_nonneg hol
  have hl' := nums_len (replT X i j l) ho'
  have oP := overT_ok X i j hoX
  have hcP := (can_over X i j hX hoX).1
  have hP : ∀ x ∈ overT X i j, 0 ≤ x.n ∧ 0 ≤ x.id := fun x hx => by have h := hcP.pos x hx; omega
  have hsP := overT_sum X i j hoX (by omega)
  have hlen : sumT (replT X i j l) = i + sumT l + (sumT X - j) := by
    rw [← hl', hn', List.length_append, List.length_append, List.length_take, List.length_drop]
    omega
  rw [hlen]
  have hnb : badL (overT X i j) ≠ true := fun h => by
    obtain ⟨x, hx, hb⟩ := List.any_eq_true.1 h
    have := hP x hx
    simp [badX] at hb
    omega
  have hE2 : spE (replT X i j l) i (j + (i + sumT l + (sumT X - j) - sumT X)) (overT X i j) = 0 := by
    unfold spE
    rw [if_neg hnb, if_pos (by unfold betE; rw [if_pos ⟨i0, by omega, by rw [hlen]; omega⟩]), if_pos (by rw [hlen, hsP]; omega)]
  refine ⟨hE2, ?_⟩
  unfold spX
  rw [if_pos hE2]
  obtain ⟨hc2, hn2⟩ := repl_can hc' ho' hP i0 (show i ≤ j + (i + sumT l + (sumT X - j) - sumT X) by omega)
  refine Can.unique hc2 hX ?_
  have t1 : ((nums X).take i.toNat).length = i.toNat := by rw [List.length_take]; omega
  rw [hn2, hn', nums_over X i j hoX]
  rw [show (j + (i + sumT l + (sumT X - j) - sumT X)).toNat = ((nums X).take i.toNat ++ nums l).length by rw [List.length_append, t1]; omega, List.drop_left, List.append_assoc (List.take i.toNat (nums X)) (nums l) (List.drop j.toNat (nums X)), List.take_left' t1]
  have h3 : (nums X).take i.toNat ++ ((nums X).take j.toNat).drop i.toNat = (nums X).take j.toNat := by
    have h4 := List.take_append_drop i.toNat ((nums X).take j.toNat)
    rw [List.take_take, show min i.toNat j.toNat = i.toNat by omega] at h4
    exact h4
  rw [h3, List.take_append_drop]

/-- A call of the script, beside other things. -/
theorem spliceO_star {w0 w : World} {H : Nat → Prop} {g m : Nat} {X : List Th} {A B : List Item} (h : Star w0 (A ++ spI H g X m :: B) w) (hX : X.length ≤ m) {o : OpS} (ho : o.Ok w0) (hle : o.len ≤ 100) (hm : m ≤ 70000) :
    Calls Try.prog 10 #[.pointer (some ⟨g, 0, none⟩), .int .i64 o.i, .int .i64 o.j, .slice o.A o.len o.cap] w fun e w' => ∃ H', e = .returned (.int .i64 (spE X o.i o.j o.l)) ∧ Star w0 (A ++ spI H' g (spX X o.i o.j o.l) (m + 102) :: B) w' ∧ (spX X o.i o.j o.l).length ≤ m + 102 := by
  have h1 := ho.sees.below h.below (Nat.le_refl _)
  rw [← ho.len] at h1
  have hS : SpS w H g X m := h.get
  have hlen := spX_len (l := o.l) (i := o.i) (j := o.j) hS.can hS.ob.okX.1
  have hll := ho.len
  have h2 := splice_star h h1 h.below.size (fun h0 b f e hb => by
    obtain ⟨b2, o2, hA, hb2, _⟩ := h1.2 h0
    rw [hA] at e
    simp only [Option.some.injEq, Addr.mk.injEq] at e
    have := h.low _ (show spI H g X m ∈ A ++ spI H g X m :: B by simp) b hb
    omega) (c := o.cap) (by rw [ho.len]; exact ho.le) o.i o.j (by omega) (by omega) (by omega)
  rw [ho.len] at h2
  refine h2.mono ?_
  rintro e w' ⟨H', he, hS'⟩
  exact ⟨H', he, hS'.update (I' := spI H' g _ (m + 102)) ((show SpS w' H' g _ _ from hS'.get).more (by omega)) (Grow.refl _ _), by omega⟩

set_option maxRecDepth 100000 in
set_option maxHeartbeats 16000000 in
theorem back_law (A : Option Addr) (n c : Nat) (ops : List OpS) (o : OpS) (w : World) (hs : Sees w w.heap.size 6 A n (ops.flatMap OpS.cells)) (hl : ops.length = n) (hm : n ≤ maxLen) (hok : ∀ o ∈ ops, o.Ok w) (hoo : o.Ok w) :
    Calls Try.prog 4 #[.slice A n c, .agg o.cells.toArray] w fun e w' => e = .returned (.bool true) ∧ Below w.heap.size w w' := by
  obtain ⟨i0, ii0, iz0, iz1, iz2⟩ := info_parts thing_info4
  unfold maxLen at hm
  have HS := Lib.hid hs
  have HO := Lib.hid (And.intro hl (And.intro hok hoo))
  clear hs hok hl hoo
  show Calls _ _ #[.slice A n c, .agg #[.int .i64 o.kind, .int .i64 o.i, .int .i64 o.j, .slice o.A o.len o.cap, .int .i64 o.by_, .int .i64 o.plus]] w _
  obtain ⟨bo, hbo⟩ : ∃ v, w.heap.size = v := ⟨_, rfl⟩
  obtain ⟨wb, hwb⟩ : ∃ v, w.alloc (.cells #[.int .i64 o.kind, .int .i64 o.i, .int .i64 o.j, .slice o.A o.len o.cap, .int .i64 o.by_, .int .i64 o.plus] 28) = v := ⟨_, rfl⟩
  have HB0 := Lib.hid (show Star w [boxI bo (.cells #[.int .i64 o.kind, .int .i64 o.i, .int .i64 o.j, .slice o.A o.len o.cap, .int .i64 o.by_, .int .i64 o.plus] 28)] wb from Star.add (Star.nil_ w) (by rw [← hwb]; exact (Below.refl _ _).alloc (Nat.le_refl _) _) (by show wb.heap[bo]? = _; rw [← hwb, ← hbo]; exact heap_alloc_new w _) (fun k hk => by have hk : k = bo := hk; omega))
  have HBO := Lib.hid hbo
  refine (callsIn_wide (n := 9)).1 ?_
  refine callsIn_of_wp_marks Try.func4 rfl trivial ?_ rfl
  refine (wpIn_wide (n := 9)).2 ?_
  refine wp_mono ?_ outM_le
  simp only [Try.ntmps4, List.size_toArray, List.length_cons, List.length_nil, Nat.reduceAdd, Nat.reduceSub, Array.replicate_succ, Array.replicate_zero, List.push_toArray, List.append_toArray, List.nil_append, List.cons_append]
  go_wp2_with fail
  try rw [hwb]
  try rw [hbo]
  clear hwb hbo
  refine (newS_star HB0.out).mono ?_
  rintro e w1 ⟨g, rfl, hS1⟩
  have HS1 := Lib.hid hS1
  obtain ⟨e1, e2, e3⟩ := op_box (show w1.heap[bo]? = some (.cells #[.int .i64 o.kind, .int .i64 o.i, .int .i64 o.j, .slice o.A o.len o.cap, .int .i64 o.by_, .int .i64 o.plus] 28) from hS1.all (boxI bo (.cells #[.int .i64 o.kind, .int .i64 o.i, .int .i64 o.j, .slice o.A o.len o.cap, .int .i64 o.by_, .int .i64 o.plus] 28)) (by simp))
  clear hS1
  by_cases hn : 40 < n
  · have hnI : (40 : Int) < n := by omega
    go_wp2_with fail
    refine (known_any _).mono ?_
    rintro e w2 ⟨rfl, hb2⟩
    have HB := Lib.hid ((HS1.out.later hb2).below)
    clear hb2 e1 e2 e3
    go_wp2_with fail
    refine leaves_marks (B := w.heap.size) _ _ (Marks.nil_ _ _) (fun w' hs => ?_)
    refine ⟨.bool true, ?_, rfl, (HB.out).trans hs.below⟩
    simp [results, Try.f4, go_sem]
  · have hnI : (n : Int) ≤ 40 := by omega
    by_cases hol : 100 < o.len
    · have holI : (100 : Int) < o.len := by omega
      go_wp2_with fail
      refine (known_any _).mono ?_
      rintro e w2 ⟨rfl, hb2⟩
      have HB := Lib.hid ((HS1.out.later hb2).below)
      clear hb2 e1 e2 e3
      go_wp2_with fail
      refine leaves_marks (B := w.heap.size) _ _ (Marks.nil_ _ _) (fun w' hs => ?_)
      refine ⟨.bool true, ?_, rfl, (HB.out).trans hs.below⟩
      simp [results, Try.f4, go_sem]
    · have holI : (o.len : Int) ≤ 100 := by omega
      go_wp2_with fail
      clear e1 e2 e3
      go_loopw [37] (fun v37 wr => ∃ (k : Nat) (X : List Th) (H : Nat → Prop), k ≤ n ∧ v37 = .int .i64 k ∧ Star w [spI H g X (102 * k), boxI bo (.cells #[.int .i64 o.kind, .int .i64 o.i, .int .i64 o.j, .slice o.A o.len o.cap, .int .i64 o.by_, .int .i64 o.plus] 28)] wr ∧ X.length ≤ 102 * k) (fun v37 _ => n - (intOf v37).toNat)
      case atStart => exact ⟨0, [], _, Nat.zero_le _, rfl, HS1.out, Nat.zero_le _⟩
      case round =>
        obtain ⟨k, X, H, hk, rfl, hX, hXl⟩ := hrel
        by_cases hlt : k < n
        · have hkI : (k : Int) < n := by omega
          obtain ⟨p, hp⟩ : ∃ p, ops[k]? = some p := ⟨_, List.getElem?_eq_getElem (by rw [HO.out.1]; exact hlt)⟩
          have HOk := Lib.hid (HO.out.2.1 p (List.mem_of_getElem? hp))
          obtain ⟨b, f, rfl, hbl, c1, c2, c3, -, -, -⟩ := op_at HS.out hp
          have d1 := (hX.below.cell (p := ⟨b, f + k * 6 + 1, none⟩) hbl).trans c1
          have d2 := (hX.below.cell (p := ⟨b, f + k * 6 + 2, none⟩) hbl).trans c2
          have d3 := (hX.below.cell (p := ⟨b, f + k * 6 + 3, none⟩) hbl).trans c3
          have HXk := Lib.hid hX
          obtain ⟨pk, pi, pj, pA, plen, pcap, pb, pp, pl⟩ := p
          dsimp only at d1 d2 d3
          clear c1 c2 c3 hp hX
          by_cases hle : plen ≤ 100
          · have hleI : (plen : Int) ≤ 100 := by omega
            have HSp := Lib.hid (spliceO_star (A := []) (HXk.out.later ((Below.refl _ _).drew)) hXl HOk.out hle (by omega))
            dsimp only at HSp
            go_wp2_with fail
            go_still_tail 16, (by kernel_rfl)
            change wpList _ _ _ _ _ wr.drew
            go_wp2_with fail
            refine HSp.out.mono ?_
            rintro e w2 ⟨H2, rfl, hX2, hl2⟩
            have HX2 := Lib.hid (And.intro hX2 hl2)
            clear hX2 hl2 d1 d2 d3 HSp
            go_wp2_with fail
            go_roundw
            case rel => exact ⟨k + 1, _, H2, by omega, by go_num, by rw [Nat.mul_succ]; exact HX2.out.1, by have := HX2.out.2; omega⟩
            case measure => simp [intOf]; omega
          · have hleI : (100 : Int) < plen := by omega
            go_wp2_with fail
            go_roundw
            case rel => exact ⟨k + 1, X, H, by omega, by go_num, HXk.out.update (A := []) (I' := spI H g X (102 * (k + 1))) ((show SpS wr H g X (102 * k) from HXk.out.get (A := [])).more (by omega)) (Grow.refl _ _), by omega⟩
            case measure => simp [intOf]; omega
        · obtain rfl : k = n := by omega
          have HXn := Lib.hid hX
          clear hX
          go_wp2_with fail
          obtain ⟨b7, hb7⟩ : ∃ v, wr.heap.size = v := ⟨_, rfl⟩
          obtain ⟨wa, hwa⟩ : ∃ v, wr.alloc (.cells #[.slice none 0 0] 26) = v := ⟨_, rfl⟩
          obtain ⟨w10, hw10⟩ : ∃ v, wa.alloc (.cells #[.slice none 0 0] 26) = v := ⟨_, rfl⟩
          have hwas : wa.heap.size = b7 + 1 := by rw [← hwa, World.size_alloc, hb7]
          have S10 := Lib.hid (show Star w [boxI (b7 + 1) (.cells #[.slice none 0 0] 26), boxI b7 (.cells #[.slice none 0 0] 26), spI H g X (102 * k), boxI bo (.cells #[.int .i64 o.kind, .int .i64 o.i, .int .i64 o.j, .slice o.A o.len o.cap, .int .i64 o.by_, .int .i64 o.plus] 28)] w10 from
            Star.add (Star.add HXn.out (by rw [← hwa]; exact (Below.refl _ _).alloc (Nat.le_refl _) _) (show wa.heap[b7]? = _ by rw [← hwa, ← hb7]; exact heap_alloc_new wr _) (fun q hq => by have hq : q = b7 := hq; omega)) (by rw [← hw10]; exact (Below.refl _ _).alloc (Nat.le_refl _) _) (show w10.heap[b7 + 1]? = _ by rw [← hw10, ← hwas]; exact heap_alloc_new wa _) (fun q hq => by have hq : q = b7 + 1 := hq; omega))
          rw [hwa, hw10, hb7]
          clear hwa hw10 hb7 hwas
          refine (all_star (A := [boxI (b7 + 1) (.cells #[.slice none 0 0] 26), boxI b7 (.cells #[.slice none 0 0] 26)]) S10.out).mono ?_
          rintro e w11 ⟨H11, ba, v11, base11, rfl, hS11⟩
          have S11 := Lib.hid hS11
          have hov : OwnT w11 base11 v11 X := hS11.all (thI v11 base11 X) (by simp)
          have hlX : X.length ≤ 100000 := by omega
          have BQ1 := Lib.hid (show w11.heap[b7]? = some (.cells #[.slice none 0 0] 26) from hS11.all (boxI b7 (.cells #[.slice none 0 0] 26)) (by simp))
          have BL1 := Lib.hid (show b7 < w11.heap.size from (Array.getElem?_eq_some_iff.1 BQ1.out).1)
          have SQ1 := Lib.hid (all_stops (n := 8) hov (hS11.all (boxI ba (.cells #[v11] 26)) (by simp)) hlX (fun k o => k = b7 ∨ (w11.heap.size ≤ k ∧ ∃ cs fr, o = .cells cs 34 fr)) (fun q hq o e => by
            rcases e with e | e
            · exact hS11.apart.2.1 (boxI b7 (.cells #[.slice none 0 0] 26)) (by simp) q hq e
            · have := own_lt hov hq; omega))
          clear hS11 hov
          go_wp2_with fail
          obtain ⟨fF1, hfF1⟩ : ∃ x : Value, .func (.func 30) #[] #[.pointer (some ⟨ba, 0, none⟩)] = x := ⟨_, rfl⟩
          unfold allF
          rw [hfF1]
          refine (wpIn_wide (n := 9)).1 ?_
          refine wpIn_rangeFunc_ownH rfl (by omega) (gf := 30) (lb := #[.pointer (some ⟨ba, 0, none⟩)]) hfF1.symm trivial (enters_of Try.func30 (by kernel_rfl) rfl)
            SQ1.out KeepsO.trans KeepsO.put (Below.refl _ _) (fun _ => rfl) (WasI w11 b7) (fun _ _ _ => False) (WasI.own BL1.out) (fun _ _ _ _ _ h _ _ => h.elim) (WasI.start BQ1.out)
            (fun x a' W => a'.defers = [] ∧ a'.tmps.size = 145 ∧ a'.tmps.getD 7 undef = .pointer (some ⟨b7, 0, none⟩) ∧ ∃ bx, a'.tmps.getD 9 undef = .pointer (some ⟨bx, 0, none⟩) ∧ W.heap[bx]? = some (.cells (encT x).toArray 34))
            ?ax1 ?assign1 ?body1 ?done1 ?stop1
          case ax1 =>
            rintro x a' _ W W' row ⟨h1, h2, h3, bx, h4, h5⟩ hg hr
            refine ⟨h1, h2, h3, bx, h4, (hg.block bx (Array.getElem?_eq_some_iff.1 h5).1 (fun e => ?_)).trans h5⟩
            obtain ⟨_, o, ho, hn⟩ := hr bx e.symm
            rw [h5] at ho
            cases ho
            cases hn
          case assign1 =>
            intro l pre x W K hI hK
            rw [thV_cells]
            obtain ⟨v, hq, ho, hst⟩ := hI
            obtain ⟨bx, hbx⟩ : ∃ v, W.heap.size = v := ⟨_, rfl⟩
            obtain ⟨w2, hw2⟩ : ∃ v, W.alloc (.cells (encT x).toArray 34) = v := ⟨_, rfl⟩
            have B2 : Below W.heap.size W w2 := by rw [← hw2]; exact (Below.refl _ _).alloc (Nat.le_refl _) _
            have HR := Lib.hid (show KeepsFrom w11.heap.size W w2 ∧ KeepsO (fun k o => k = b7 ∨ (w11.heap.size ≤ k ∧ ∃ cs fr, o = .cells cs 34 fr)) W w2 ∧ WasI w11 b7 pre w2 ∧ w2.heap[bx]? = some (.cells (encT x).toArray 34) from
              ⟨KeepsFrom.of_step (Step.of_below B2 (fun _ => False)) (fun _ _ _ h => h.elim), KeepsO.of_below B2, ⟨v, heap_later hq B2, OwnT.later ho B2, hst.trans (Step.of_below B2 _)⟩, by rw [← hw2, ← hbx]; exact heap_alloc_new W _⟩)
            have HE := Lib.hid (And.intro hw2 hbx)
            clear hq ho hst hbx hw2 B2
            gi_wp2_with (refine wpListIn_skipped rfl rfl (by intro c e; cases e) (exec_store_row 34 (.tmp 9) (.tmp 67) rfl W.heap.size (encT x).toArray rfl rfl 34 _ (heap_alloc_new W _) (by rw [List.size_toArray]; exact thing_info _) (by rfl) (all_oneCell_toArray (encT_one _))) ?_; rw [alloc_setRow, HE.out.1, HE.out.2])
            exact hK _ _ HR.out.1 HR.out.2.1 HR.out.2.2.1 ⟨rfl, rfl, rfl, bx, rfl, HR.out.2.2.2⟩
          case stop1 => exact fun _ _ _ _ _ _ h => h.elim
          case body1 =>
            rintro l pre x ⟨ts, ds⟩ W hl - ⟨v, hq, ho, hst⟩ ⟨h1, h2, h3, bx, h4, h5⟩ hlt
            dsimp only at h1 h2 h3 h4
            subst h1
            obtain ⟨u, rfl, hu⟩ := lit145 ts h2
            rw [← hu] at h3 h4
            rw [h3, h4]
            have hpl : pre.length ≤ 100000 := by omega
            have hcb : W.cell? ⟨b7, 0, none⟩ = some v := by rw [cell_of_row W b7 0 _ _ _ hq]; rfl
            obtain ⟨bz, hbz⟩ : ∃ v, W.heap.size = v := ⟨_, rfl⟩
            obtain ⟨wa, hwa⟩ : ∃ v, W.alloc (.cells (encT x).toArray 34) = v := ⟨_, rfl⟩
            have Ba := Lib.hid (show Below W.heap.size W wa by rw [← hwa]; exact (Below.refl _ _).alloc (Nat.le_refl _) _)
            have Sa := Lib.hid (show Sees wa (bz + 1) 2 (some ⟨bz, 0, none⟩) 1 (rowT [x]) from Sees.things (by rw [rowT_one, ← hwa, ← hbz]; exact heap_alloc_new _ _))
            have HR := Lib.hid (run_things x W)
            rw [hwa, hbz] at HR
            obtain ⟨np, hnp⟩ : ∃ n, pre.length = n := ⟨_, rfl⟩
            have Oa := Lib.hid (show wa.ownsRow w11.heap.size 34 2 v np (rowT pre) from by have h := own_later ho Ba.out; rw [hnp] at h; exact h)
            have HF := Lib.hid h5
            have HQ := Lib.hid (And.intro hq (And.intro ho (And.intro hst hnp)))
            have hbsz : w11.heap.size ≤ wa.heap.size := Nat.le_trans hst.size Ba.out.size
            rw [hnp] at hpl
            have hca : wa.cell? ⟨b7, 0, none⟩ = some v := cell_later hcb Ba.out
            clear hu hq ho hst hbz hwa hnp h5 hlt h2 h3 h4
            gi_wp2_with (first
              | (refine wpListIn_known rfl rfl (by intro c e; cases e) (exec_load_row 34 (.tmp 9) rfl bx rfl 34 (encT x).toArray (0, 0) _ HF.out Try.underlying34 rfl (by rw [List.size_toArray]; exact thing_info _)) ?_)
              | (refine wpListIn_known rfl rfl (by intro c e; cases e) (exec_slice1 26 (.tmp 69) rfl (.agg (encT x).toArray) rfl HR.out) ?_)
              | (gi_at_builtin
                 refine wpListIn_append_sees _ rfl _ _ _ rfl w11.heap.size 34 i0 _ 2 16 Try.underlying26 ii0 iz0 iz1 iz2 rfl (by omega) _ np (rowT pre) rfl Oa.out (bz + 1) _ 1 1 (rowT [x]) rfl Sa.out (rowT_oneCell _) (by simp only [maxLen]; omega) (by omega) hbsz ?_
                 intro v5 w5 hown5 hg5 hat5 hnil5
                 have P5 := Lib.hid (WasI.round HQ.out.1 HQ.out.2.1 HQ.out.2.2.1 BL1.out HQ.out.2.2.2 Ba.out hown5 hg5)
                 have hc5 := P5.out.2.2.2.1
                 have hf5 := P5.out.2.2.2.2
                 obtain ⟨A5, c5, rfl, hx5⟩ := own_shape hown5
                 clear hown5 hg5 hat5 hnil5 hca hx5))
            exact ⟨P5.out.1, P5.out.2.1, P5.out.2.2.1⟩
          case done1 =>
            rintro D ys W hD hys hI hK
            have hys : X = ys := hys.symm
            subst hys
            obtain ⟨v12, hS12⟩ := WasI.marked (A := [boxI ba (.cells #[v11] 26), thI v11 base11 X, boxI (b7 + 1) (.cells #[.slice none 0 0] 26)]) (bw := b7) S11.out hI hD hK
            obtain ⟨m12, hm12⟩ : ∃ v, w11.heap.size = v := ⟨_, rfl⟩
            rw [hm12] at hS12
            have S12 := Lib.hid (show Star w ([boxI D (.deferred (some [])), thI v12 m12 X, boxI (b7 + 1) (.cells #[.slice none 0 0] 26), boxI b7 (.cells #[v12] 26)] ++ spI H11 g X (102 * k) :: [boxI bo (.cells #[.int .i64 o.kind, .int .i64 o.i, .int .i64 o.j, .slice o.A o.len o.cap, .int .i64 o.by_, .int .i64 o.plus] 28)]) W from (hS12.drop (A := [boxI D (.deferred (some [])), thI v12 m12 X])).drop (A := [boxI D (.deferred (some [])), thI v12 m12 X]))
            have hS : SpS W H11 g X (102 * k) := S12.out.get
            have hokX := hS.ob.okX.1
            have hcan := hS.can
            have hle := hS.le
            have HL := Lib.hid (star_same S12.out (len_any hS))
            have hz0 := sumT_nonneg hokX
            obtain ⟨z, hz⟩ : ∃ v, sumT X = v := ⟨_, rfl⟩
            have HX := Lib.hid (And.intro hokX (And.intro hcan (And.intro hz hXl)))
            rw [hz] at HL hle hz0
            clear hS12 hI hK SQ1 BL1 BQ1 hm12 hS hokX hcan hz hfF1
            go_wp2_with fail
            refine HL.out.mono ?_
            clear HL
            rintro e w13 ⟨H13, rfl, hS13⟩
            obtain ⟨e1, e2, e3⟩ := op_box (show w13.heap[bo]? = some (.cells #[.int .i64 o.kind, .int .i64 o.i, .int .i64 o.j, .slice o.A o.len o.cap, .int .i64 o.by_, .int .i64 o.plus] 28) from hS13.all (boxI bo (.cells #[.int .i64 o.kind, .int .i64 o.i, .int .i64 o.j, .slice o.A o.len o.cap, .int .i64 o.by_, .int .i64 o.plus] 28)) (by simp))
            have HOv := Lib.hid (over_star hS13 o.i o.j)
            clear hS13
            rcases betE_or X o.i o.j with hbt | hbt
            rotate_left
            · rw [hbt] at HOv
              go_wp2_with fail
              refine HOv.out.mono ?_
              clear HOv
              rintro e w14 ⟨H14, v14, xs, rfl, hO, -, -⟩
              have S14 := Lib.hid hO
              clear hO e1 e2 e3
              go_wp2_with fail
              refine (known_any _).mono ?_
              rintro e wz ⟨rfl, hbz⟩
              have SZ := Lib.hid (S14.out.later hbz)
              clear hbz 
              go_wp2_with fail
              refine leaves_marks (B := w.heap.size) _ _ (marks_one (SZ.out.all (boxI D (.deferred (some []))) (by simp)) (SZ.out.low (boxI D (.deferred (some []))) (by simp) D rfl)) (fun w' hs => ?_)
              refine ⟨.bool true, ?_, rfl, SZ.out.below.trans hs.below⟩
              simp [results, Try.f4, go_sem]
            · have HBT := Lib.hid hbt
              rw [hbt] at HOv
              go_wp2_with fail
              refine HOv.out.mono ?_
              clear HOv hbt
              rintro e w14 ⟨H14, v14, xs, rfl, hO, hP, -⟩
              obtain rfl := hP trivial
              clear hP
              obtain ⟨m14, hm14⟩ : ∃ v, w13.heap.size = v := ⟨_, rfl⟩
              rw [hm14] at hO
              have hov : OwnT w14 m14 v14 (overT X o.i o.j) := hO.all (thI v14 m14 (overT X o.i o.j)) (List.mem_cons_self)
              obtain ⟨P, hP⟩ : ∃ v, overT X o.i o.j = v := ⟨_, rfl⟩
              have hPl : P.length ≤ X.length := by rw [← hP]; exact (overT_ok X o.i o.j HX.out.1).2
              rw [hP] at hO hov
              obtain ⟨A14, c14, hv14, hc14, -⟩ := hov.shape
              obtain ⟨e1, e2, e3⟩ := op_box (show w14.heap[bo]? = some (.cells #[.int .i64 o.kind, .int .i64 o.i, .int .i64 o.j, .slice o.A o.len o.cap, .int .i64 o.by_, .int .i64 o.plus] 28) from hO.all (boxI bo (.cells #[.int .i64 o.kind, .int .i64 o.i, .int .i64 o.j, .slice o.A o.len o.cap, .int .i64 o.by_, .int .i64 o.plus] 28)) (by simp))
              have HSp := Lib.hid (spliceO_star (A := thI v14 m14 P :: [boxI D (.deferred (some [])), thI v12 m12 X, boxI (b7 + 1) (.cells #[.slice none 0 0] 26), boxI b7 (.cells #[v12] 26)]) hO HX.out.2.2.2 HO.out.2.2 (by omega) (by omega))
              have HP := Lib.hid (And.intro hP (And.intro hv14 hc14))
              obtain ⟨r, hr⟩ : ∃ v, spE X o.i o.j o.l = v := ⟨_, rfl⟩
              obtain ⟨X', hX'⟩ : ∃ v, spX X o.i o.j o.l = v := ⟨_, rfl⟩
              have HR := Lib.hid (And.intro hr hX')
              rw [hr, hX'] at HSp
              clear hO hov hP hv14 hc14 hm14 hr hX'
              by_cases h0 : r = 0
              rotate_left
              · have hb0 : (r != 0) = true := by simp [h0]
                have hb1 : (r == 0) = false := by simp [h0]
                clear h0
                go_wp2_with fail
                refine HSp.out.mono ?_
                clear HSp
                rintro e w15 ⟨H15, rfl, hO, -⟩
                have S15 := Lib.hid hO
                clear hO e1 e2 e3
                go_wp2_with fail
                refine (known_any _).mono ?_
                rintro e wz ⟨rfl, hbz⟩
                have SZ := Lib.hid (S15.out.later hbz)
                clear hbz 
                go_wp2_with fail
                refine leaves_marks (B := w.heap.size) _ _ (marks_one (SZ.out.all (boxI D (.deferred (some []))) (by simp)) (SZ.out.low (boxI D (.deferred (some []))) (by simp) D rfl)) (fun w' hs => ?_)
                refine ⟨.bool true, ?_, rfl, SZ.out.below.trans hs.below⟩
                simp [results, Try.f4, go_sem]
              · subst h0
                go_wp2_with fail
                refine HSp.out.mono ?_
                clear HSp
                rintro e w15 ⟨H15, rfl, hO, hlX'⟩
                have S15 := Lib.hid (And.intro hO hlX')
                have hS15 : SpS w15 H15 g X' (102 * k + 102) := hO.get (A := thI v14 m14 P :: [boxI D (.deferred (some [])), thI v12 m12 X, boxI (b7 + 1) (.cells #[.slice none 0 0] 26), boxI b7 (.cells #[v12] 26)])
                have HL := Lib.hid (star_same (A := thI v14 m14 P :: [boxI D (.deferred (some [])), thI v12 m12 X, boxI (b7 + 1) (.cells #[.slice none 0 0] 26), boxI b7 (.cells #[v12] 26)]) hO (len_any hS15))
                have hle' := hS15.le
                have hz0' := sumT_nonneg hS15.ob.okX.1
                have HBK := Lib.hid (back_plain HX.out.2.1 HX.out.1 (by rw [HX.out.2.2.1]; exact hle) HR.out.1 (by rw [HR.out.2]; exact hS15.ob.okX.1))
                obtain ⟨z', hz'⟩ : ∃ v, sumT X' = v := ⟨_, rfl⟩
                obtain ⟨i1, i2, i3⟩ := betE_zero HBT.out
                rw [HX.out.2.2.1] at i3
                rw [HR.out.2, HP.out.1, hz', HX.out.2.2.1] at HBK
                rw [hz'] at HL hle' hz0'
                have g1 : IntKind.i64.wrap (z' - z) = z' - z := IntWalk.i64_in _ (by omega)
                have g2 : IntKind.i64.wrap (o.j + (z' - z)) = o.j + (z' - z) := IntWalk.i64_in _ (by omega)
                clear hO hlX' hS15 hz' e1 e2 e3
                go_wp2_with fail
                refine HL.out.mono ?_
                clear HL
                rintro e w16 ⟨H16, rfl, hO⟩
                have hO : Star w ((thI v14 m14 P :: [boxI D (.deferred (some [])), thI v12 m12 X, boxI (b7 + 1) (.cells #[.slice none 0 0] 26), boxI b7 (.cells #[v12] 26)]) ++ spI H16 g X' (102 * k + 102) :: [boxI bo (.cells #[.int .i64 o.kind, .int .i64 o.i, .int .i64 o.j, .slice o.A o.len o.cap, .int .i64 o.by_, .int .i64 o.plus] 28)]) w16 := hO
                have hov : OwnT w16 m14 v14 P := hO.all (thI v14 m14 P) (List.mem_cons_self)
                obtain ⟨e1, e2, e3⟩ := op_box (show w16.heap[bo]? = some (.cells #[.int .i64 o.kind, .int .i64 o.i, .int .i64 o.j, .slice o.A o.len o.cap, .int .i64 o.by_, .int .i64 o.plus] 28) from hO.all (boxI bo (.cells #[.int .i64 o.kind, .int .i64 o.i, .int .i64 o.j, .slice o.A o.len o.cap, .int .i64 o.by_, .int .i64 o.plus] 28)) (by simp))
                obtain ⟨nP, hnP⟩ : ∃ v, P.length = v := ⟨_, rfl⟩
                obtain ⟨hPP, hv14, hc14⟩ := HP.out
                rw [hnP] at hv14 hc14 hPl
                subst hv14
                have hXl := HX.out.2.2.2
                have hlX' := S15.out.2
                have HSp := Lib.hid (splice_star (A := thI (.slice A14 nP c14) m14 P :: [boxI D (.deferred (some [])), thI v12 m12 X, boxI (b7 + 1) (.cells #[.slice none 0 0] 26), boxI b7 (.cells #[v12] 26)]) hO (Aa := A14) (c := c14) (l := P) (by rw [hnP]; exact Sees.of_own (show w16.ownsRow m14 34 2 (.slice A14 nP c14) nP (rowT P) by have h := hov; unfold OwnT at h; rw [hnP] at h; exact h)) (Nat.le_refl _) (fun _ b q e hb => hO.apart.1 (spI H16 g X' (102 * k + 102)) (by simp) b (by rw [e]; rfl) hb) (by rw [hnP]; exact hc14) o.i (o.j + (z' - z)) (by rw [hnP]; omega) (by omega) (by rw [hnP]; omega))
                rw [hnP, HBK.out.1, HBK.out.2] at HSp
                clear hO hov hnP hPP hc14
                go_wp2_with fail
                refine HSp.out.mono ?_
                clear HSp
                rintro e w17 ⟨H17, rfl, hO⟩
                obtain ⟨N20, hN20⟩ : ∃ v, max (102 * k + 102 + 2) X.length = v := ⟨_, rfl⟩
                rw [hN20] at hO
                have hO : Star w ((thI (.slice A14 nP c14) m14 P :: [boxI D (.deferred (some [])), thI v12 m12 X, boxI (b7 + 1) (.cells #[.slice none 0 0] 26), boxI b7 (.cells #[v12] 26)]) ++ spI H17 g X N20 :: [boxI bo (.cells #[.int .i64 o.kind, .int .i64 o.i, .int .i64 o.j, .slice o.A o.len o.cap, .int .i64 o.by_, .int .i64 o.plus] 28)]) w17 := hO
                have hS17 : SpS w17 H17 g X N20 := hO.get
                have HL := Lib.hid (star_same hO (len_any hS17))
                rw [HX.out.2.2.1] at HL
                clear hO hN20 hS17 e1 e2 e3
                go_wp2_with fail
                refine HL.out.mono ?_
                clear HL
                rintro e w18 ⟨H18, rfl, hO⟩
                have HA := Lib.hid (all_star hO)
                clear hO
                go_wp2_with fail
                refine HA.out.mono ?_
                clear HA
                obtain ⟨v14, hv14⟩ : ∃ v : Value, .slice A14 nP c14 = v := ⟨_, rfl⟩
                rw [hv14]
                rintro e w20 ⟨H20, ba2, v20, base20, rfl, hS20⟩
                have S20 := Lib.hid hS20
                have hov : OwnT w20 base20 v20 X := hS20.all (thI v20 base20 X) (by simp)
                have BQ2 := Lib.hid (show w20.heap[b7 + 1]? = some (.cells #[.slice none 0 0] 26) from hS20.all (boxI (b7 + 1) (.cells #[.slice none 0 0] 26)) (by simp))
                have BL2 := Lib.hid (show b7 + 1 < w20.heap.size from (Array.getElem?_eq_some_iff.1 BQ2.out).1)
                have SQ2 := Lib.hid (all_stops (n := 8) hov (hS20.all (boxI ba2 (.cells #[v20] 26)) (by simp)) hlX (fun k o => k = b7 + 1 ∨ (w20.heap.size ≤ k ∧ ∃ cs fr, o = .cells cs 34 fr)) (fun q hq o e => by
                  rcases e with e | e
                  · exact hS20.apart.2.1 (boxI (b7 + 1) (.cells #[.slice none 0 0] 26)) (by simp) q hq e
                  · have := own_lt hov hq; omega))
                clear hS20 hov
                go_wp2_with fail
                obtain ⟨fF2, hfF2⟩ : ∃ x : Value, .func (.func 30) #[] #[.pointer (some ⟨ba2, 0, none⟩)] = x := ⟨_, rfl⟩
                unfold allF
                rw [hfF2]
                refine (wpIn_wide (n := 9)).1 ?_
                refine wpIn_rangeFunc_ownH rfl (by omega) (gf := 30) (lb := #[.pointer (some ⟨ba2, 0, none⟩)]) hfF2.symm trivial (enters_of Try.func30 (by kernel_rfl) rfl)
                  SQ2.out KeepsO.trans KeepsO.put (Below.refl _ _) (fun _ => rfl) (WasI w20 (b7 + 1)) (fun _ _ _ => False) (WasI.own BL2.out) (fun _ _ _ _ _ h _ _ => h.elim) (WasI.start BQ2.out)
                  (fun x a' W => a'.defers = [] ∧ a'.tmps.size = 145 ∧ a'.tmps.getD 8 undef = .pointer (some ⟨(b7 + 1), 0, none⟩) ∧ ∃ bx, a'.tmps.getD 14 undef = .pointer (some ⟨bx, 0, none⟩) ∧ W.heap[bx]? = some (.cells (encT x).toArray 34))
                  ?ax2 ?assign2 ?body2 ?done2 ?stop2
                case ax2 =>
                  rintro x a' _ W W' row ⟨h1, h2, h3, bx, h4, h5⟩ hg hr
                  refine ⟨h1, h2, h3, bx, h4, (hg.block bx (Array.getElem?_eq_some_iff.1 h5).1 (fun e => ?_)).trans h5⟩
                  obtain ⟨_, o, ho, hn⟩ := hr bx e.symm
                  rw [h5] at ho
                  cases ho
                  cases hn
                case assign2 =>
                  intro l pre x W K hI hK
                  rw [thV_cells]
                  obtain ⟨v, hq, ho, hst⟩ := hI
                  obtain ⟨bx, hbx⟩ : ∃ v, W.heap.size = v := ⟨_, rfl⟩
                  obtain ⟨w2, hw2⟩ : ∃ v, W.alloc (.cells (encT x).toArray 34) = v := ⟨_, rfl⟩
                  have B2 : Below W.heap.size W w2 := by rw [← hw2]; exact (Below.refl _ _).alloc (Nat.le_refl _) _
                  have HR := Lib.hid (show KeepsFrom w20.heap.size W w2 ∧ KeepsO (fun k o => k = (b7 + 1) ∨ (w20.heap.size ≤ k ∧ ∃ cs fr, o = .cells cs 34 fr)) W w2 ∧ WasI w20 (b7 + 1) pre w2 ∧ w2.heap[bx]? = some (.cells (encT x).toArray 34) from
                    ⟨KeepsFrom.of_step (Step.of_below B2 (fun _ => False)) (fun _ _ _ h => h.elim), KeepsO.of_below B2, ⟨v, heap_later hq B2, OwnT.later ho B2, hst.trans (Step.of_below B2 _)⟩, by rw [← hw2, ← hbx]; exact heap_alloc_new W _⟩)
                  have HE := Lib.hid (And.intro hw2 hbx)
                  clear hq ho hst hbx hw2 B2
                  gi_wp2_with (refine wpListIn_skipped rfl rfl (by intro c e; cases e) (exec_store_row 34 (.tmp 14) (.tmp 119) rfl W.heap.size (encT x).toArray rfl rfl 34 _ (heap_alloc_new W _) (by rw [List.size_toArray]; exact thing_info _) (by rfl) (all_oneCell_toArray (encT_one _))) ?_; rw [alloc_setRow, HE.out.1, HE.out.2])
                  exact hK _ _ HR.out.1 HR.out.2.1 HR.out.2.2.1 ⟨rfl, rfl, rfl, bx, rfl, HR.out.2.2.2⟩
                case stop2 => exact fun _ _ _ _ _ _ h => h.elim
                case body2 =>
                  rintro l pre x ⟨ts, ds⟩ W hl - ⟨v, hq, ho, hst⟩ ⟨h1, h2, h3, bx, h4, h5⟩ hlt
                  dsimp only at h1 h2 h3 h4
                  subst h1
                  obtain ⟨u, rfl, hu⟩ := lit145 ts h2
                  rw [← hu] at h3 h4
                  rw [h3, h4]
                  have hpl : pre.length ≤ 100000 := by omega
                  have hcb : W.cell? ⟨(b7 + 1), 0, none⟩ = some v := by rw [cell_of_row W (b7 + 1) 0 _ _ _ hq]; rfl
                  obtain ⟨bz, hbz⟩ : ∃ v, W.heap.size = v := ⟨_, rfl⟩
                  obtain ⟨wa, hwa⟩ : ∃ v, W.alloc (.cells (encT x).toArray 34) = v := ⟨_, rfl⟩
                  have Ba := Lib.hid (show Below W.heap.size W wa by rw [← hwa]; exact (Below.refl _ _).alloc (Nat.le_refl _) _)
                  have Sa := Lib.hid (show Sees wa (bz + 1) 2 (some ⟨bz, 0, none⟩) 1 (rowT [x]) from Sees.things (by rw [rowT_one, ← hwa, ← hbz]; exact heap_alloc_new _ _))
                  have HR := Lib.hid (run_things x W)
                  rw [hwa, hbz] at HR
                  obtain ⟨np, hnp⟩ : ∃ n, pre.length = n := ⟨_, rfl⟩
                  have Oa := Lib.hid (show wa.ownsRow w20.heap.size 34 2 v np (rowT pre) from by have h := own_later ho Ba.out; rw [hnp] at h; exact h)
                  have HF := Lib.hid h5
                  have HQ := Lib.hid (And.intro hq (And.intro ho (And.intro hst hnp)))
                  have hbsz : w20.heap.size ≤ wa.heap.size := Nat.le_trans hst.size Ba.out.size
                  rw [hnp] at hpl
                  have hca : wa.cell? ⟨(b7 + 1), 0, none⟩ = some v := cell_later hcb Ba.out
                  clear hu hq ho hst hbz hwa hnp h5 hlt h2 h3 h4
                  gi_wp2_with (first
                    | (refine wpListIn_known rfl rfl (by intro c e; cases e) (exec_load_row 34 (.tmp 14) rfl bx rfl 34 (encT x).toArray (0, 0) _ HF.out Try.underlying34 rfl (by rw [List.size_toArray]; exact thing_info _)) ?_)
                    | (refine wpListIn_known rfl rfl (by intro c e; cases e) (exec_slice1 26 (.tmp 121) rfl (.agg (encT x).toArray) rfl HR.out) ?_)
                    | (gi_at_builtin
                       refine wpListIn_append_sees _ rfl _ _ _ rfl w20.heap.size 34 i0 _ 2 16 Try.underlying26 ii0 iz0 iz1 iz2 rfl (by omega) _ np (rowT pre) rfl Oa.out (bz + 1) _ 1 1 (rowT [x]) rfl Sa.out (rowT_oneCell _) (by simp only [maxLen]; omega) (by omega) hbsz ?_
                       intro v5 w5 hown5 hg5 hat5 hnil5
                       have P5 := Lib.hid (WasI.round HQ.out.1 HQ.out.2.1 HQ.out.2.2.1 BL2.out HQ.out.2.2.2 Ba.out hown5 hg5)
                       have hc5 := P5.out.2.2.2.1
                       have hf5 := P5.out.2.2.2.2
                       obtain ⟨A5, c5, rfl, hx5⟩ := own_shape hown5
                       clear hown5 hg5 hat5 hnil5 hca hx5))
                  exact ⟨P5.out.1, P5.out.2.1, P5.out.2.2.1⟩
                case done2 =>
                  rintro E ys W2 hE hys hI hK
                  have hys : X = ys := hys.symm
                  subst hys
                  obtain ⟨v24, hS24⟩ := WasI.marked (A := [boxI ba2 (.cells #[v20] 26), thI v20 base20 X, thI v14 m14 P, boxI D (.deferred (some [])), thI v12 m12 X]) (bw := b7 + 1) S20.out hI hE hK
                  have HNE := Lib.hid (show E ≠ D from fun e => by
                    have h1 := (boxI D (.deferred (some []))).lt _ (S20.out.all (boxI D (.deferred (some []))) (by simp)) D rfl
                    omega)
                  have S24 := Lib.hid (show Star w (boxI E (.deferred (some [])) :: thI v24 w20.heap.size X :: boxI ba2 (.cells #[v20] 26) :: thI v20 base20 X :: thI v14 m14 P :: boxI D (.deferred (some [])) :: thI v12 m12 X :: boxI (b7 + 1) (.cells #[v24] 26) :: boxI b7 (.cells #[v12] 26) :: spI H20 g X N20 :: [boxI bo (.cells #[.int .i64 o.kind, .int .i64 o.i, .int .i64 o.j, .slice o.A o.len o.cap, .int .i64 o.by_, .int .i64 o.plus] 28)]) W2 from hS24)
                  clear hS24 hI hK SQ2 BL2 BQ2
                  obtain ⟨A12, c12, hv12, -, -⟩ := OwnT.shape (show OwnT W2 m12 v12 X from S24.out.all (thI v12 m12 X) (by simp))
                  obtain ⟨A24, c24, hv24, -, -⟩ := OwnT.shape (show OwnT W2 w20.heap.size v24 X from S24.out.all (thI v24 w20.heap.size X) (by simp))
                  obtain ⟨nX, hnX⟩ : ∃ v, X.length = v := ⟨_, rfl⟩
                  have HNX := Lib.hid hnX
                  rw [hnX] at hv12 hv24 hlX
                  subst hv12 hv24
                  have hnXI : (nX : Int) ≤ 100000 := by omega
                  have c7 : W2.cell? ⟨b7, 0, none⟩ = some (.slice A12 nX c12) := by rw [cell_of_row W2 b7 0 _ _ _ (show W2.heap[b7]? = some (.cells #[.slice A12 nX c12] 26) from S24.out.all (boxI b7 _) (by simp))]; rfl
                  have c8 : W2.cell? ⟨b7 + 1, 0, none⟩ = some (.slice A24 nX c24) := by rw [cell_of_row W2 (b7 + 1) 0 _ _ _ (show W2.heap[b7 + 1]? = some (.cells #[.slice A24 nX c24] 26) from S24.out.all (boxI (b7 + 1) _) (by simp))]; rfl
                  have HC := Lib.hid (And.intro c7 c8)
                  clear hnX
                  go_wp2_with fail
                  go_loopw [131] (fun v131 wr => ∃ i q : Nat, i ≤ nX ∧ v131 = .int .i64 i ∧ wr = W2.drewN q) (fun v131 _ => nX - (intOf v131).toNat)
                  case atStart => exact ⟨0, 0, Nat.zero_le _, rfl, rfl⟩
                  case round =>
                    obtain ⟨i, q, hi, rfl, rfl⟩ := hrel
                    by_cases hlt : i < nX
                    · have hiI : (i : Int) < nX := by omega
                      obtain ⟨x, hx⟩ : ∃ x, X[i]? = some x := ⟨_, List.getElem?_eq_getElem (by rw [HNX.out]; exact hlt)⟩
                      obtain ⟨-, p, rfl, -, -, hr, -⟩ := OwnT.thing (show OwnT W2 m12 (.slice A12 nX c12) X from S24.out.all (thI (.slice A12 nX c12) m12 X) (by simp)) hx
                      obtain ⟨-, p', rfl, -, -, hr', -⟩ := OwnT.thing (show OwnT W2 w20.heap.size (.slice A24 nX c24) X from S24.out.all (thI (.slice A24 nX c24) w20.heap.size X) (by simp)) hx
                      have HR := Lib.hid (show (W2.drewN q).drew.cell? ⟨b7, 0, none⟩ = some (.slice (some ⟨p, 0, none⟩) nX c12) ∧ (W2.drewN q).drew.cell? ⟨b7 + 1, 0, none⟩ = some (.slice (some ⟨p', 0, none⟩) nX c24) ∧ (W2.drewN q).drew.rangeAt p (i * 2) (encT x) ∧ (W2.drewN q).drew.rangeAt p' (i * 2) (encT x) from ⟨HC.out.1, HC.out.2, hr, hr'⟩)
                      have HEQ := Lib.hid (show decide (x ≠ x) = false by simp)
                      clear hx hr hr' c7 c8
                      go_wp2_with fail
                      refine wp_region_held_drew (S := fun w' => w'.cell? ⟨b7, 0, none⟩ = some (.slice (some ⟨p, 0, none⟩) nX c12) ∧ w'.cell? ⟨b7 + 1, 0, none⟩ = some (.slice (some ⟨p', 0, none⟩) nX c24) ∧ w'.rangeAt p (i * 2) (encT x) ∧ w'.rangeAt p' (i * 2) (encT x)) (by kernel_rfl) ⟨HR.out.1, HR.out.2.1, HR.out.2.2.1, HR.out.2.2.2⟩ (fun hHeld => ?_)
                      try dsimp only at hHeld
                      refine take_at (i := 0) (v := ?_) (some 134) rfl rfl (by kernel_rfl) (by kernel_rfl) (by kernel_rfl) (fun _ _ _ h => h) hHeld (by rfl) (fun wS hSw => ?_) ?_
                      rotate_left
                      · obtain ⟨hq1, hq2, -, -⟩ := hSw
                        go_simp
                        try with_reducible rfl
                      try simp only [Act.put, List.setIfInBounds_toArray, List.set_cons_zero, List.set_cons_succ]
                      refine take_at (i := 1) (v := ?_) (some 135) rfl rfl (by kernel_rfl) (by kernel_rfl) (by kernel_rfl) (fun _ _ _ h => h) hHeld (by rfl) (fun wS hSw => ?_) ?_
                      rotate_left
                      · try dsimp only at hSw
                        go_simp
                        try with_reducible rfl
                      try simp only [Act.put, List.setIfInBounds_toArray, List.set_cons_zero, List.set_cons_succ]
                      refine take_at (i := 2) (v := ?_) (some 136) rfl rfl (by kernel_rfl) (by kernel_rfl) (by kernel_rfl) (fun _ _ _ h => h) hHeld (by rfl) (fun wS hSw => ?_) ?_
                      rotate_left
                      · try dsimp only at hSw
                        go_simp
                        try with_reducible rfl
                      try simp only [Act.put, List.setIfInBounds_toArray, List.set_cons_zero, List.set_cons_succ]
                      refine take_at (i := 3) (v := ?_) (some 137) rfl rfl (by kernel_rfl) (by kernel_rfl) (by kernel_rfl) (fun _ _ _ h => h) hHeld (by rfl) (fun wS hSw => ?_) ?_
                      rotate_left
                      · refine exec_load_mid 34 (.tmp 136) ?_ p (i * 2) ?_ (encT x) _ hSw.2.2.1 Try.underlying34 rfl (thing_info x) <;> rfl
                      try simp only [Act.put, List.setIfInBounds_toArray, List.set_cons_zero, List.set_cons_succ]
                      refine take_at (i := 4) (v := ?_) (some 138) rfl rfl (by kernel_rfl) (by kernel_rfl) (by kernel_rfl) (fun _ _ _ h => h) hHeld (by rfl) (fun wS hSw => ?_) ?_
                      rotate_left
                      · obtain ⟨hq1, hq2, -, -⟩ := hSw
                        go_simp
                        try with_reducible rfl
                      try simp only [Act.put, List.setIfInBounds_toArray, List.set_cons_zero, List.set_cons_succ]
                      refine take_at (i := 5) (v := ?_) (some 139) rfl rfl (by kernel_rfl) (by kernel_rfl) (by kernel_rfl) (fun _ _ _ h => h) hHeld (by rfl) (fun wS hSw => ?_) ?_
                      rotate_left
                      · try dsimp only at hSw
                        go_simp
                        try with_reducible rfl
                      try simp only [Act.put, List.setIfInBounds_toArray, List.set_cons_zero, List.set_cons_succ]
                      refine take_at (i := 6) (v := ?_) (some 140) rfl rfl (by kernel_rfl) (by kernel_rfl) (by kernel_rfl) (fun _ _ _ h => h) hHeld (by rfl) (fun wS hSw => ?_) ?_
                      rotate_left
                      · try dsimp only at hSw
                        go_simp
                        try with_reducible rfl
                      try simp only [Act.put, List.setIfInBounds_toArray, List.set_cons_zero, List.set_cons_succ]
                      refine take_at (i := 7) (v := ?_) (some 141) rfl rfl (by kernel_rfl) (by kernel_rfl) (by kernel_rfl) (fun _ _ _ h => h) hHeld (by rfl) (fun wS hSw => ?_) ?_
                      rotate_left
                      · refine exec_load_mid 34 (.tmp 140) ?_ p' (i * 2) ?_ (encT x) _ hSw.2.2.2 Try.underlying34 rfl (thing_info x) <;> rfl
                      try simp only [Act.put, List.setIfInBounds_toArray, List.set_cons_zero, List.set_cons_succ]
                      refine take_at (i := 8) (v := ?_) (some 142) rfl rfl (by kernel_rfl) (by kernel_rfl) (by kernel_rfl) (fun _ _ _ h => h) hHeld (by rfl) (fun wS hSw => ?_) ?_
                      rotate_left
                      · refine exec_ne_span (.tmp 137) (.tmp 141) ?_ x x ?_ ?_ false HEQ.out <;> rfl
                      try simp only [Act.put, List.setIfInBounds_toArray, List.set_cons_zero, List.set_cons_succ]
                      refine wpAnyH_done (by kernel_rfl) ?_ _

                      go_wp2_with fail
                      go_roundw
                      case rel => exact ⟨i + 1, q + 1, by omega, by go_num, rfl⟩
                      case measure => simp [intOf]; omega
                    · obtain rfl : i = nX := by omega
                      go_wp2_with fail
                      refine (known_any _).mono ?_
                      rintro e wz ⟨rfl, hbz⟩
                      have SZ := Lib.hid ((S24.out.later (below_drewN (Below.refl _ _) q)).later hbz)
                      clear hbz 
                      go_wp2_with fail
                      refine leaves_marks (B := w.heap.size) _ _ (marks_two (SZ.out.all (boxI E (.deferred (some []))) (by simp)) (SZ.out.all (boxI D (.deferred (some []))) (by simp)) (SZ.out.low (boxI E (.deferred (some []))) (by simp) E rfl) (SZ.out.low (boxI D (.deferred (some []))) (by simp) D rfl) HNE.out) (fun w' hs => ?_)
                      refine ⟨.bool true, ?_, rfl, SZ.out.below.trans hs.below⟩
                      simp [results, Try.f4, go_sem]

end Go.Proofs.Ytbioomilnjikpaa
