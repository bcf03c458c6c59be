/-
  The walk of rubriclaw08.ArenaAgain.
-/
import Derived.Test.YteelmlhknfbjdaaArenaK
import Derived.Test.YteelmlhknfbjdaaHeld
import Derived.Deep.DeepCutAuto
import Derived.Deep.CutRange
namespace Go.Proofs.Yteelmlhknfbjdaa
open Go.RowKit

theorem look_set_none (s : List (Option Int)) (j : Nat) : look (s.set j none) (j : Int) = none := by
  rw [look_nat, List.getElem?_set]
  by_cases h : j < s.length <;> simp [h]

/-- Behind k rounds of the first loop. -/
structure Again1 (B : Nat) (w0 : World) (g k : Nat) (v : Value) (w : World) (F : Nat → Prop) (s : List (Option Int)) : Prop where
  ar : ArI w F g s []
  ok : ArOk s []
  len : s.length = k
  row : w.ownsRow B 3 1 v k (ints (List.range k))
  off : Off v F
  keeps : Keeps B w0 w F

/-- An arena and two rows of numbers, in blocks apart. -/
structure Rows2 (B : Nat) (w0 : World) (g n : Nat) (fr L D : List Nat) (v u : Value) (w : World) (F : Nat → Prop) (s : List (Option Int)) : Prop where
  ar : ArI w F g s fr
  ok : ArOk s fr
  len : s.length = n
  row : w.ownsRow B 3 1 v L.length (ints L)
  rowD : w.ownsRow B 3 1 u D.length (ints D)
  apart : Apart v u
  off : Off v F
  offD : Off u F
  keeps : Keeps B w0 w F

/-- Behind rounds of the second loop: L is left, D is freed. -/
structure Again2 (n : Nat) (L D : List Nat) (s : List (Option Int)) : Prop where
  all : L.length + D.length = n
  nodup : L.Nodup
  taken : ∀ j ∈ L, ∃ y, s[j]? = some (some y)

theorem Again2.next {n : Nat} {L D : List Nat} {s : List (Option Int)} (h : Again2 n L D s) {q j : Nat} (hj : L[q]? = some j) : Again2 n (L.take q ++ L.drop (q + 1)) (D ++ [j]) (s.set j none) := by
  obtain ⟨hq, hj'⟩ := List.getElem?_eq_some_iff.1 hj
  have he : L.take q ++ L.drop (q + 1) = L.eraseIdx q := by rw [List.eraseIdx_eq_take_drop_succ]
  have hsub : (L.eraseIdx q).Sublist L := List.eraseIdx_sublist ..
  have := h.all
  refine ⟨by simp; omega, by rw [he]; exact h.nodup.sublist hsub, fun a ha => ?_⟩
  rw [he] at ha
  obtain ⟨y, hy⟩ := h.taken a (hsub.subset ha)
  refine ⟨y, ?_⟩
  rw [List.getElem?_set, if_neg, hy]
  intro e
  subst e
  obtain ⟨k, hk, hne, hka⟩ := List.mem_eraseIdx_iff_getElem.1 ha
  exact hne ((List.getElem_inj h.nodup).1 (hka.trans hj'.symm))

theorem Rows2.free {B : Nat} {w0 : World} {g n : Nat} {fr L D : List Nat} {v u : Value} {w w' : World} {F F' : Nat → Prop} {s s' : List (Option Int)} {fr' : List Nat} (h : Rows2 B w0 g n fr L D v u w F s)
    (ha : ArI w' F' g s' fr') (hok : ArOk s' fr') (hl : s'.length = s.length) (hg : Grow F w w' F') : Rows2 B w0 g n fr' L D v u w' F' s' :=
  ⟨ha, hok, hl.trans h.len, own_step h.row hg.step h.off, own_step h.rowD hg.step h.offD, h.apart, h.off.grow hg (fun _ hk => own_lt h.row hk), h.offD.grow hg (fun _ hk => own_lt h.rowD hk), h.keeps.next hg⟩

theorem grown_alloc {w w' : World} {o : Obj} {row : Option Nat} (hg : (w.alloc o).grownBy w' row) : w.grownBy w' row :=
  ⟨hg.os, hg.tape, hg.output, Nat.le_trans (by simp) hg.size, fun j hj hne => (hg.block j (by simp; omega) hne).trans (Below.heap_alloc _ _ _ hj)⟩

theorem Rows2.pushD {B : Nat} {w0 : World} {g n : Nat} {fr L D : List Nat} {v u u' : Value} {w w' : World} {F : Nat → Prop} {s : List (Option Int)} (h : Rows2 B w0 g n fr L D v u w F s) {o : Obj} {x : Nat}
    (hown : w'.ownsRow B 3 1 u' (D ++ [x]).length (ints (D ++ [x]))) (hg : (w.alloc o).grownBy w' u.ownBlock) (hat : u'.ownBlock = u.ownBlock ∨ u'.ownBlock = some (w.alloc o).heap.size) :
    Rows2 B w0 g n fr L (D ++ [x]) v u' w' F s := by
  have hgw := grown_alloc hg
  refine ⟨h.ar.step (grown_step hgw) (fun b hF hv => h.offD b hv hF), h.ok, h.len, h.apart.kept h.row hgw, ?_, (h.apart.symm.at (fun k hk => by have := own_lt h.row hk; simp; omega) hat).symm,
    h.off, h.offD.at (fun b hF => by have := h.ar.lt b hF; simp; omega) hat, h.keeps.row hgw (fun b hb => own_base h.rowD hb)⟩
  exact hown

theorem own_zero (w : World) (e : TypeId) : (w.drew.alloc (.cells #[] e)).ownsRow w.heap.size e 1 (.slice (some ⟨w.heap.size, 0, none⟩) 0 0) 0 [] :=
  ⟨rfl, .inr ⟨w.heap.size, 0, #[], rfl, Nat.le_refl _, heap_alloc_new w.drew _, Nat.le_refl _, Nat.zero_le _, rfl, rfl⟩⟩

theorem below_first (w : World) (o : Obj) : Below w.heap.size w (w.drew.alloc o) := (Below.refl _ _).drew.alloc (Nat.le_refl _) o

theorem below_app {w0 w w' : World} {e : TypeId} {v : Value} {n : Nat} {xs : List Value} (h : Below w0.heap.size w0 w) (ho : w.ownsRow w0.heap.size e 1 v n xs) (hg : w.grownBy w' v.ownBlock) : Below w0.heap.size w0 w' :=
  h.grown hg h.size (fun _ hk => own_base ho hk)

theorem Rows2.setL {B : Nat} {w0 : World} {g n : Nat} {fr L L' D : List Nat} {v v' u : Value} {w w' : World} {F : Nat → Prop} {s : List (Option Int)} (h : Rows2 B w0 g n fr L D v u w F s)
    (hown : w'.ownsRow w.heap.size 3 1 v' L'.length (ints L')) (hb : Below w.heap.size w w') : Rows2 B w0 g n fr L' D v' u w' F s := by
  have hlow := Nat.le_trans h.keeps.low h.keeps.below.size
  refine ⟨h.ar.below hb, h.ok, h.len, own_lower hown hlow, own_step h.rowD (Step.of_below hb fun _ => False) (fun _ _ h => h), fun k hk hu => ?_, fun k hk hF => ?_, h.offD, h.keeps.of_below hb⟩
  · have h1 := own_base hown hk
    have h2 := own_lt h.rowD hu
    omega
  · have h1 := own_base hown hk
    have h2 := h.ar.lt k hF
    omega

/-- Behind i rounds of the third loop. -/
structure Again3 (B : Nat) (w0 : World) (g n i : Nat) (D : List Nat) (u : Value) (w : World) (F : Nat → Prop) (s : List (Option Int)) : Prop where
  ar : ArI w F g s (D.take (n - i))
  ok : ArOk s (D.take (n - i))
  len : s.length = n
  rowD : w.ownsRow B 3 1 u n (ints D)
  offD : Off u F
  keeps : Keeps B w0 w F

theorem Again1.take {B : Nat} {w0 : World} {g k : Nat} {v : Value} {w w' : World} {F F' : Nat → Prop} {s : List (Option Int)} (h : Again1 B w0 g k v w F s) (x : Int) (ha : ArI w' F' g (takeS s [] x) [].dropLast) (hg : Grow F w w' F') :
    ArI w' F' g (s ++ [some x]) [] ∧ ArOk (s ++ [some x]) [] ∧ w'.ownsRow B 3 1 v k (ints (List.range k)) ∧ Off v F' ∧ Keeps B w0 w' F' :=
  ⟨by simpa [takeS] using ha, by simpa [takeS] using h.ok.take x, own_step h.row hg.step h.off, h.off.grow hg (fun _ hk => own_lt h.row hk), h.keeps.next hg⟩

theorem Again1.push {B : Nat} {w0 : World} {g k : Nat} {v v' : Value} {w w' : World} {F : Nat → Prop} {s : List (Option Int)} (o : Obj) (hl : s.length = k + 1)
    (h : ArI w F g s [] ∧ ArOk s [] ∧ w.ownsRow B 3 1 v k (ints (List.range k)) ∧ Off v F ∧ Keeps B w0 w F)
    (hown : w'.ownsRow B 3 1 v' (k + 1) (ints (List.range k) ++ [.int .i64 (k : Int)])) (hg : (w.alloc o).grownBy w' v.ownBlock) (hat : v'.ownBlock = v.ownBlock ∨ v'.ownBlock = some (w.alloc o).heap.size) :
    Again1 B w0 g (k + 1) v' w' F s := by
  obtain ⟨ha, hok, hr, hoff, hk⟩ := h
  have hgw : w.grownBy w' v.ownBlock := ⟨hg.os, hg.tape, hg.output, Nat.le_trans (by simp) hg.size, fun j hj hne => (hg.block j (by simp; omega) hne).trans (Below.heap_alloc _ _ _ hj)⟩
  refine ⟨ha.step (grown_step hgw) (fun b hF hv => hoff b hv hF), hok, hl, ?_, hoff.at (fun b hF => by have := ha.lt b hF; simp; omega) hat, ?_⟩
  · rw [List.range_succ, ints_append]; exact hown
  · exact hk.row hgw (fun b hb => own_base hr hb)

set_option maxRecDepth 100000 in
set_option maxHeartbeats 2000000 in
theorem again_any (n : Nat) (A : Option Addr) (m c : Nat) (xs : List Int) (w : World) (hn : n ≤ 60) (hs : Sees w w.heap.size 1 A m (xs.map (Value.int .i64))) (hmI : (m : Int) ≤ 9223372036854775807) :
    Calls Try.prog 3 #[.int .i64 n, .slice A m c] w fun e w' => e = .returned (.bool true) ∧ Below w.heap.size w w' := by
  obtain ⟨i0, ii0, iz0, iz1, iz2⟩ := info_parts int_info
  have hnI : (n : Int) ≤ 60 := by omega
  go_enter Try.func3, Try.ntmps3
  go_wp2_with fail
  refine (newI_F _).mono ?_
  rintro e w1 ⟨F1, g, rfl, h1, hb1, hl1⟩
  have R1 : Again1 w.heap.size w g 0 (.slice none 0 0) w1 F1 [] := ⟨h1, ArOk.nil_, rfl, World.ownsRow_nil _ _ _ _, Off.nil_ _, ⟨Nat.le_refl _, hb1, hl1⟩⟩
  clear h1 hb1 hl1
  go_wp2_with fail
  go_loopw [6, 23] (fun v6 i wr => ∃ (v : Value) (k : Nat) (F : Nat → Prop) (s : List (Option Int)), k ≤ n ∧ v = v6 ∧ i = .int .i64 k ∧ Again1 w.heap.size w g k v wr F s) (fun _ i _ => n - (intOf i).toNat)
  case atStart => exact ⟨_, 0, F1, [], Nat.zero_le _, rfl, rfl, R1⟩
  case round =>
    obtain ⟨v, k, F, s, hk, rfl, rfl, R⟩ := hrel
    clear R1
    by_cases hlt : k < n
    · have HT := Lib.hid (takeI_F R.ar R.ok (by have := R.len; omega) k)
      have HL := Lib.hid R.len
      go_wp2_with fail
      refine HT.out.mono ?_
      rintro e w2 ⟨F2, rfl, h2, hg2⟩
      rw [show (nextOf s [] : Int) = k by simp [nextOf, HL.out]]
      have P2 := Lib.hid (R.take _ h2 hg2)
      clear h2 hg2
      go_wp2_with (
        at_builtin
        refine wpList_append_sees _ rfl _ _ _ rfl w.heap.size 3 i0 _ 1 8 Try.underlying22 ii0 iz0 iz1 iz2 rfl (by omega) _ k _ rfl
          (P2.out.2.2.1.alloc _) _ _ 1 1 _ rfl (Sees.one_at _ w2.heap.size _ _ rfl) (by intro u hu; simp at hu; subst hu; rfl) (by simp only [maxLen]; omega) (by omega) ?_ ?_
        · have := P2.out.2.2.2.2
          have h1 := this.below.size
          simp
          omega
        intro v3 w3 hown3 hg3 hat3 hnil3
        have R3 := Again1.push _ (by simp; exact HL.out) P2.out hown3 hg3 hat3
        clear hown3 hg3 hat3 hnil3)
      go_roundw
      case rel => exact ⟨_, k + 1, F2, s ++ [some (k : Int)], by omega, rfl, by go_num, R3⟩
      case measure => simp [intOf]; omega
    · obtain rfl : k = n := by omega
      have R2 : Rows2 w.heap.size w g k [] (List.range k) [] v (.slice none 0 0) wr F s := ⟨R.ar, R.ok, R.len, by simpa using R.row, World.ownsRow_nil _ _ _ _, (fun _ _ h => by cases h), R.off, Off.nil_ _, R.keeps⟩
      have T2 : Again2 k (List.range k) [] s := by
        refine ⟨by simp, List.nodup_range, fun j hj => ?_⟩
        have hj := List.mem_range.1 hj
        have := R.len
        cases hq : s[j]? with
        | none => have := List.getElem?_eq_none_iff.1 hq; omega
        | some o =>
          cases o with
          | none => have := (R.ok.iff j).2 hq; simp at this
          | some y => exact ⟨y, rfl⟩
      clear R
      obtain ⟨A6, c6, rfl, _⟩ := own_shape R2.row
      rw [List.length_range] at R2
      go_wp2_with fail
      go_loopw [6, 7, 9] (fun v6 v7 i wr => ∃ (L D : List Nat) (A6 : Option Addr) (c6 : Nat) (A7 : Option Addr) (c7 : Nat) (F : Nat → Prop) (s : List (Option Int)), v6 = .slice A6 L.length c6 ∧ v7 = .slice A7 D.length c7 ∧ i = .int .i64 D.length ∧ Rows2 w.heap.size w g k D L D (.slice A6 L.length c6) (.slice A7 D.length c7) wr F s ∧ Again2 k L D s) (fun _ _ i _ => k - (intOf i).toNat)
      case atStart => exact ⟨List.range k, [], A6, c6, none, 0, F, s, by rw [List.length_range], rfl, rfl, by rw [List.length_range]; exact R2, T2⟩
      case round =>
        clear R2 T2
        obtain ⟨L, D, A6, c6, A7, c7, F, s, rfl, rfl, rfl, R, T⟩ := hrel
        obtain ⟨i, hi⟩ : ∃ i, D.length = i := ⟨_, rfl⟩
        obtain ⟨p, hp⟩ : ∃ p, L.length = p := ⟨_, rfl⟩
        have hall := T.all
        have hpI : (p : Int) ≤ 60 := by omega
        have hiI : (i : Int) + p = k := by omega
        rw [hi, hp] at R
        rw [hi, hp]
        by_cases hp0 : 0 < p
        · have hsr : Sees wr w.heap.size 1 A m (xs.map (Value.int .i64)) := hs.below R.keeps.below (Nat.le_refl _)
          go_upto_if 44 with (fail)
          go_cut [10] from 36 to 87 (fun v10 wx => ∃ q : Nat, q < p ∧ v10 = .int .i64 q ∧ wx = wr)
          case first =>
            by_cases him : i < m
            · obtain ⟨b, o, rfl, hb, hc⟩ := hsr.2 (by omega)
              have hl : i < (xs.map (Value.int .i64)).length := by have := hsr.1; omega
              have hci := hc i (.int .i64 (xs[i]'(by simpa using hl))) (by simp at hl; simp [hl])
              obtain ⟨x, hx⟩ : ∃ x, xs[i]'(by simpa using hl) = x := ⟨_, rfl⟩
              rw [hx] at hci
              have himI : (i : Int) < m := by omega
              have hu0 : 0 ≤ IntKind.u64.wrap x := by simp [IntKind.wrap, IntKind.bits, IntKind.signed]; omega
              clear hc hl hx hsr hi hp R hs hall
              go_wp2_with fail
              go_meet
              case rel =>
                have h1 := Int.emod_nonneg (IntKind.u64.wrap x) (b := (p : Int)) (by omega)
                have h2 := Int.emod_lt_of_pos (IntKind.u64.wrap x) (b := (p : Int)) (by omega)
                exact ⟨(IntKind.u64.wrap x % (p : Int)).toNat, by omega, by rw [IntWalk.wrap64_in _ ⟨by omega, by omega⟩, Int.toNat_of_nonneg h1], rfl⟩
            · have him2 : (m : Int) ≤ i := by omega
              go_wp2_with fail
              go_meet
              case rel => exact ⟨0, hp0, rfl, rfl⟩
          case rest =>
            obtain ⟨q, hq, rfl, rfl⟩ := hcut
            clear hsr
            have hrow := R.row
            rw [hp] at hrow
            obtain ⟨_, hpc, _, hA6⟩ := own_slice hrow
            obtain ⟨b6, rfl, _, hl6⟩ := hA6 (by omega)
            obtain ⟨j, hj⟩ : ∃ j, L[q]'(by omega) = j := ⟨_, rfl⟩
            have hjm : j ∈ L := by rw [← hj]; exact List.getElem_mem _
            obtain ⟨y, hy⟩ := T.taken j hjm
            have hcell := hrow.cellAt q (by omega)
            rw [ints_get (by omega), hj] at hcell
            have hqI : (q : Int) < p := by omega
            have HF := Lib.hid (freeI_F R.ar R.ok (by have := R.len; omega) hy)
            have HJ := Lib.hid (show L[q]? = some j by rw [List.getElem?_eq_getElem (by omega), hj])
            have HI := Lib.hid hi
            have HP := Lib.hid hp
            clear hj hi hp hall hA6 hrow
            go_wp2_with fail
            refine HF.out.mono ?_
            rintro e w2 ⟨F2, rfl, h2, hg2⟩
            have R2 := R.free h2 (R.ok.free hy) (by simp) hg2
            have hc2 : w2.cell? ⟨b6, q, none⟩ = some (.int .i64 (j : Int)) := (World.cell?_of_block (w := wc) (a := ⟨b6, q, none⟩) (hg2.step.block b6 hl6 (R.off b6 rfl))).trans hcell
            have HF2 := Lib.hid (freeI_Fno (i := (j : Int)) R2.ar (by have := R2.len; omega) (look_set_none s j))
            have HR2 := Lib.hid R2
            have hlow2 : w.heap.size ≤ (w2.alloc (.cells #[.int .i64 (j : Int)] 3)).heap.size := by
              have h1 := R2.keeps.below.size
              simp
              omega
            have hrD := R2.rowD
            rw [HI.out] at hrD
            clear R2 hg2 h2
            go_wp2_with fail
            refine HF2.out.mono ?_
            rintro e w' ⟨rfl, rfl⟩
            go_wp2_with (
              at_builtin
              refine wpList_append_sees _ rfl _ _ _ rfl w.heap.size 3 i0 _ 1 8 Try.underlying22 ii0 iz0 iz1 iz2 rfl (by omega) _ i _ rfl
                (hrD.alloc _) _ _ 1 1 _ rfl (Sees.one_at _ w2.heap.size _ _ rfl) (by intro u hu; simp at hu; subst hu; rfl) (by simp only [maxLen]; omega) (by omega) hlow2 ?_
              intro u3 w3 hown3 hg3 hat3 hnil3
              obtain ⟨A7', c7', rfl, _⟩ := own_shape hown3
              have hown3 := hown3
              rw [show (ints D ++ [Value.int .i64 (j : Int)] : List Value) = ints (D ++ [j]) by simp [ints]] at hown3
              have R3 := Lib.hid (HR2.out.pushD (x := j) (by rw [List.length_append, List.length_singleton, HI.out]; exact hown3) hg3 hat3)
              clear hown3 hg3 hat3 hnil3)
            have hs3 : Sees w3 w3.heap.size 1 (some ⟨b6, 0, none⟩) p (ints L) := by
              have := R3.out.row
              rw [HP.out] at this
              exact Sees.of_own this
            have hsA := hs3.prefix_ (k := q) (by omega)
            have hsB := hs3.cut (k := q + 1) (cap := c6) (by omega) hpc
            clear hs3
            rw [show (ints L).take q = ints (L.take q) by simp [ints, List.map_take]] at hsA
            rw [show (ints L).drop (q + 1) = ints (L.drop (q + 1)) by simp [ints, List.map_drop]] at hsB
            obtain ⟨AB, hAB⟩ : ∃ AB, (if c6 = q + 1 then some (⟨b6, 0, none⟩ : Addr) else some ⟨b6, q + 1, none⟩) = AB := ⟨_, rfl⟩
            rw [show (if c6 = q + 1 then some (⟨b6, 0, none⟩ : Addr) else (some (⟨b6, 0, none⟩ : Addr)).map (·.add (q + 1))) = AB by rw [← hAB, Option.map_some, Addr.add_lit, Nat.zero_add]] at hsB
            have hqc : q ≤ c6 := by omega
            have g1 : IntKind.i64.wrap (↑q + 1) = ↑q + 1 := IntWalk.i64_in _ (by omega)
            have g2 : (0 : Int) ≤ ↑q + 1 := by omega
            have g3 : (↑q + 1 : Int).toNat = q + 1 := by omega
            have g4 : (↑q + 1 : Int) ≤ ↑p := by omega
            refine wp_region_held_drew (S := fun _ => True) (by kernel_rfl) trivial (fun hHeld => ?_)
            try dsimp only at hHeld
            refine take_at (i := 1) (v := ?_) (some 79) rfl rfl (by kernel_rfl) (by kernel_rfl) (by kernel_rfl) (fun _ _ _ h => h) hHeld (by rfl) (fun wS hSw => ?_) ?_
            rotate_left
            · try dsimp only at hSw
              go_simp
              try with_reducible rfl
            try simp only [Act.put, List.setIfInBounds_toArray, List.set_cons_zero, List.set_cons_succ]
            refine take_at (i := 2) (v := ?_) (some 80) rfl rfl (by kernel_rfl) (by kernel_rfl) (by kernel_rfl) (fun _ _ _ h => h) hHeld (by rfl) (fun wS hSw => ?_) ?_
            rotate_left
            · try dsimp only at hSw
              go_simp
              try with_reducible rfl
            try simp only [Act.put, List.setIfInBounds_toArray, List.set_cons_zero, List.set_cons_succ]
            refine take_at (i := 3) (v := ?_) (some 81) rfl rfl (by kernel_rfl) (by kernel_rfl) (by kernel_rfl) (fun _ _ _ h => h) hHeld (by rfl) (fun wS hSw => ?_) ?_
            rotate_left
            · try dsimp only at hSw
              go_simp
              try with_reducible rfl
            try simp only [Act.put, List.setIfInBounds_toArray, List.set_cons_zero, List.set_cons_succ]
            refine take_at (i := 5) (v := ?_) (some 83) rfl rfl (by kernel_rfl) (by kernel_rfl) (by kernel_rfl) (fun _ _ _ h => h) hHeld (by rfl) (fun wS hSw => ?_) ?_
            rotate_left
            · try dsimp only at hSw
              go_simp
              try with_reducible rfl
            try simp only [Act.put, List.setIfInBounds_toArray, List.set_cons_zero, List.set_cons_succ]
            refine take_at (i := 6) (v := ?_) (some 84) rfl rfl (by kernel_rfl) (by kernel_rfl) (by kernel_rfl) (fun _ _ _ h => h) hHeld (by rfl) (fun wS hSw => ?_) ?_
            rotate_left
            · try dsimp only at hSw
              go_simp
              try with_reducible rfl
            try simp only [Act.put, List.setIfInBounds_toArray, List.set_cons_zero, List.set_cons_succ]
            refine take_at (i := 7) (v := ?_) (some 85) rfl rfl (by kernel_rfl) (by kernel_rfl) (by kernel_rfl) (fun _ _ _ h => h) hHeld (by rfl) (fun wS hSw => ?_) ?_
            rotate_left
            · try dsimp only at hSw
              go_simp
              try with_reducible rfl
            try simp only [Act.put, List.setIfInBounds_toArray, List.set_cons_zero, List.set_cons_succ]
            refine take_at (i := 8) (v := ?_) (some 86) rfl rfl (by kernel_rfl) (by kernel_rfl) (by kernel_rfl) (fun _ _ _ h => h) hHeld (by rfl) (fun wS hSw => ?_) ?_
            rotate_left
            · try dsimp only at hSw
              go_simp
              try with_reducible rfl
            try simp only [Act.put, List.setIfInBounds_toArray, List.set_cons_zero, List.set_cons_succ]
            refine wpAnyH_ready (rs := [0]) (by kernel_rfl) (by simp) ?_
            refine AllReadyH.cons rfl (fun K hK => ?_) AllReadyH.nil
            simp only [List.getElem_toArray, List.getElem_cons_zero]
            go_simp
            try dsimp only
            have hOld := hHeld
            refine hK.out _ _ trivial (fun _ => ?_)
            clear hK K
            refine wpAnyH_mono (S2 := fun _ => True) (fun _ h => h) _ _ _ _ ?_
            clear hHeld
            have hHeld := trivial
            clear hOld
            try simp only [Act.put, List.setIfInBounds_toArray, List.set_cons_zero, List.set_cons_succ]
            refine wpAnyH_ready (rs := [4]) (by kernel_rfl) (by simp) ?_
            refine AllReadyH.cons rfl (fun K hK => ?_) AllReadyH.nil
            simp only [List.getElem_toArray, List.getElem_cons_succ, List.getElem_cons_zero]
            refine of_if (by rfl) ?_
            refine step_append_sees (.tmp 78) (.tmp 81) 22 rfl w3.heap.size 3 i0 _ 1 8 Try.underlying22 ii0 iz0 iz1 iz2 rfl (by omega) _ 0 [] rfl (own_zero w3 3) w3.heap.size _ q _ _ rfl (hsA.below (below_first w3 _) (Nat.le_refl _)) (ints_one _) (by simp only [maxLen]; omega) (by omega) (below_first w3 _).size ?_
            intro v4 w4 hown4 hg4 hat4
            have hb4 : Below w3.heap.size w3 w4 := below_app (below_first w3 _) (own_zero w3 3) hg4
            rw [Nat.zero_add, List.nil_append] at hown4
            have hz4 := hb4.size
            obtain ⟨A4, c4, rfl, _⟩ := own_shape hown4
            clear hg4 hat4
            have hOld := hHeld
            refine hK.out _ _ trivial (fun _ => ?_)
            clear hK K
            refine wpAnyH_mono (S2 := fun _ => True) (fun _ h => h) _ _ _ _ ?_
            clear hHeld
            have hHeld := trivial
            clear hOld
            try simp only [Act.put, List.setIfInBounds_toArray, List.set_cons_zero, List.set_cons_succ]
            refine wpAnyH_ready (rs := [9]) (by kernel_rfl) (by simp) ?_
            refine AllReadyH.cons rfl (fun K hK => ?_) AllReadyH.nil
            simp only [List.getElem_toArray, List.getElem_cons_succ, List.getElem_cons_zero]
            refine of_if (by rfl) ?_
            refine step_append_sees (.tmp 82) (.tmp 86) 22 rfl w3.heap.size 3 i0 _ 1 8 Try.underlying22 ii0 iz0 iz1 iz2 rfl (by omega) _ q (ints (L.take q)) rfl (hown4) w3.heap.size _ (p - (q + 1)) _ _ rfl (hsB.below hb4 (Nat.le_refl _)) (ints_one _) (by simp only [maxLen]; omega) (by omega) hz4 ?_
            intro v9 w9 hown9 hg9 hat9
            have hb9 := below_app hb4 hown4 hg9
            clear hg9 hat9 hown4 hb4
            have hOld := hHeld
            refine hK.out _ _ trivial (fun _ => ?_)
            clear hK K
            refine wpAnyH_mono (S2 := fun _ => True) (fun _ h => h) _ _ _ _ ?_
            clear hHeld
            have hHeld := trivial
            clear hOld
            try simp only [Act.put, List.setIfInBounds_toArray, List.set_cons_zero, List.set_cons_succ]
            refine take_at (i := 10) (v := ?_) (some 6) rfl rfl (by kernel_rfl) (by kernel_rfl) (by kernel_rfl) (fun _ _ _ h => h) hHeld (by rfl) (fun wS hSw => ?_) ?_
            rotate_left
            · try dsimp only at hSw
              go_simp
              try with_reducible rfl
            try simp only [Act.put, List.setIfInBounds_toArray, List.set_cons_zero, List.set_cons_succ]
            refine wpAnyH_done (by kernel_rfl) ?_ _
            have T9 := Lib.hid (T.next HJ.out)
            have hlen : (L.take q ++ L.drop (q + 1)).length = q + (p - (q + 1)) := by
              have := HP.out
              simp
              omega
            have hlenD : (D ++ [j]).length = i + 1 := by
              have := HI.out
              simp
              omega
            have R9 := R3.out.setL (L' := L.take q ++ L.drop (q + 1)) (by rw [hlen, ints_append]; exact hown9) hb9
            obtain ⟨A9, c9, rfl, _⟩ := own_shape hown9
            have R9 := Lib.hid R9
            have H9 := Lib.hid (And.intro hlen hlenD)
            clear g1 g2 g3 g4 hlen hlenD hown9 hb9 hHeld hAB
            go_wp2_with fail
            go_roundw
            case rel =>
              obtain ⟨hlen, hlenD⟩ := H9.out
              exact ⟨_, _, A9, c9, A7', c7', F2, _, by rw [hlen], by rw [hlenD], by rw [hlenD]; go_num, by rw [hlen, hlenD]; exact R9.out, T9.out⟩
            case measure => simp [intOf]; omega
        · obtain rfl : p = 0 := by omega
          obtain rfl : k = i := by omega
          have hL : L = [] := List.eq_nil_of_length_eq_zero hp
          subst hL
          have R0 : Again3 w.heap.size w g k 0 D (.slice A7 k c7) wr F s := by
            refine ⟨?_, ?_, R.len, ?_, R.offD, R.keeps⟩
            · rw [List.take_of_length_le (by omega)]; exact R.ar
            · rw [List.take_of_length_le (by omega)]; exact R.ok
            · have := R.rowD
              rw [hi] at this
              exact this
          have HD := Lib.hid hi
          clear R T hall hi
          go_wp2_with fail
          go_loopw [89] (fun v89 wr => ∃ (i : Nat) (F : Nat → Prop) (s : List (Option Int)), i ≤ k ∧ v89 = .int .i64 i ∧ Again3 w.heap.size w g k i D (.slice A7 k c7) wr F s) (fun v _ => k - (intOf v).toNat)
          case atStart => exact ⟨0, F, s, Nat.zero_le _, rfl, R0⟩
          case round =>
            clear R0
            obtain ⟨i, F, s, hik, rfl, R⟩ := hrel
            by_cases hlt : i < k
            · obtain ⟨_, _, _, hA7⟩ := own_slice R.rowD
              obtain ⟨b7, rfl, _, hl7⟩ := hA7 (by omega)
              obtain ⟨d, hd⟩ : ∃ d, D[k - 1 - i]? = some d := ⟨_, List.getElem?_eq_getElem (by have := HD.out; omega)⟩
              have hcd := R.rowD.cellAt (k - 1 - i) (by omega)
              rw [show (ints D)[k - 1 - i]? = some (.int .i64 (d : Int)) by simp [ints, hd]] at hcd
              have hcd : wr.drew.cell? ⟨b7, k - 1 - i, none⟩ = some (.int .i64 (d : Int)) := hcd
              have HNX := Lib.hid (show (nextOf s (D.take (k - i)) : Int) = d by
                unfold nextOf
                rw [List.getLast?_take, if_neg (by omega), show k - i - 1 = k - 1 - i by omega, hd]
                rfl)
              have hiI : (i : Int) < k := by omega
              have g1 : IntKind.i64.wrap (↑k - 1) = ↑k - 1 := IntWalk.i64_in _ (by omega)
              have g2 : IntKind.i64.wrap (↑k - 1 - ↑i) = ↑k - 1 - ↑i := IntWalk.i64_in _ (by omega)
              have g3 : (0 : Int) ≤ ↑k - 1 - ↑i := by omega
              have g4 : (↑k - 1 - ↑i : Int).toNat = k - 1 - i := by omega
              have g5 : (↑k - 1 - ↑i : Int) < ↑k := by omega
              have g6 : (↑i : Int) ≤ ↑k - 1 := by omega
              go_wp2_with fail
              refine wp_region_held_drew (S := fun w' => w'.cell? ⟨b7, k - 1 - i, none⟩ = some (.int .i64 (d : Int))) (by kernel_rfl) hcd (fun hHeld => ?_)
              try dsimp only at hHeld
              refine take_at (i := 0) (v := ?_) (some 92) rfl rfl (by kernel_rfl) (by kernel_rfl) (by kernel_rfl) (fun _ _ _ h => h) hHeld (by rfl) (fun wS hSw => ?_) ?_
              rotate_left
              · try dsimp only at hSw
                go_simp
                try with_reducible rfl
              try simp only [Act.put, List.setIfInBounds_toArray, List.set_cons_zero, List.set_cons_succ]
              refine take_at (i := 2) (v := ?_) (some 94) rfl rfl (by kernel_rfl) (by kernel_rfl) (by kernel_rfl) (fun _ _ _ h => h) hHeld (by rfl) (fun wS hSw => ?_) ?_
              rotate_left
              · try dsimp only at hSw
                go_simp
                try with_reducible rfl
              try simp only [Act.put, List.setIfInBounds_toArray, List.set_cons_zero, List.set_cons_succ]
              refine take_at (i := 3) (v := ?_) (some 95) rfl rfl (by kernel_rfl) (by kernel_rfl) (by kernel_rfl) (fun _ _ _ h => h) hHeld (by rfl) (fun wS hSw => ?_) ?_
              rotate_left
              · try dsimp only at hSw
                go_simp
                try with_reducible rfl
              try simp only [Act.put, List.setIfInBounds_toArray, List.set_cons_zero, List.set_cons_succ]
              refine take_at (i := 4) (v := ?_) (some 96) rfl rfl (by kernel_rfl) (by kernel_rfl) (by kernel_rfl) (fun _ _ _ h => h) hHeld (by rfl) (fun wS hSw => ?_) ?_
              rotate_left
              · try dsimp only at hSw
                go_simp
                try with_reducible rfl
              try simp only [Act.put, List.setIfInBounds_toArray, List.set_cons_zero, List.set_cons_succ]
              refine take_at (i := 5) (v := ?_) (some 97) rfl rfl (by kernel_rfl) (by kernel_rfl) (by kernel_rfl) (fun _ _ _ h => h) hHeld (by rfl) (fun wS hSw => ?_) ?_
              rotate_left
              · try dsimp only at hSw
                go_simp
                try with_reducible rfl
              try simp only [Act.put, List.setIfInBounds_toArray, List.set_cons_zero, List.set_cons_succ]
              refine take_at (i := 6) (v := ?_) (some 98) rfl rfl (by kernel_rfl) (by kernel_rfl) (by kernel_rfl) (fun _ _ _ h => h) hHeld (by rfl) (fun wS hSw => ?_) ?_
              rotate_left
              · try dsimp only at hSw
                go_simp
                try with_reducible rfl
              try simp only [Act.put, List.setIfInBounds_toArray, List.set_cons_zero, List.set_cons_succ]
              refine take_at (i := 7) (v := ?_) (some 99) rfl rfl (by kernel_rfl) (by kernel_rfl) (by kernel_rfl) (fun _ _ _ h => h) hHeld (by rfl) (fun wS hSw => ?_) ?_
              rotate_left
              · try dsimp only at hSw
                go_simp
                try with_reducible rfl
              try simp only [Act.put, List.setIfInBounds_toArray, List.set_cons_zero, List.set_cons_succ]
              refine take_at (i := 8) (v := ?_) (some 100) rfl rfl (by kernel_rfl) (by kernel_rfl) (by kernel_rfl) (fun _ _ _ h => h) hHeld (by rfl) (fun wS hSw => ?_) ?_
              rotate_left
              · try dsimp only at hSw
                go_simp
                try with_reducible rfl
              try simp only [Act.put, List.setIfInBounds_toArray, List.set_cons_zero, List.set_cons_succ]
              refine wpAnyH_ready (rs := [1]) (by kernel_rfl) (by simp) ?_
              refine AllReadyH.cons rfl (fun K hK => ?_) AllReadyH.nil
              simp only [List.getElem_toArray, List.getElem_cons_succ, List.getElem_cons_zero]
              go_simp
              refine (takeI_F R.ar.drew R.ok (by have := R.len; omega) 1).mono ?_
              rintro e w2 ⟨F2, rfl, h2, hg2⟩
              have hcd2 : w2.cell? ⟨b7, k - 1 - i, none⟩ = some (.int .i64 (d : Int)) := (World.cell?_of_block (w := wr.drew) (a := ⟨b7, k - 1 - i, none⟩) (hg2.step.block b7 hl7 (R.offD b7 rfl))).trans hcd
              rw [HNX.out]
              have P2 := Lib.hid (And.intro h2 hg2)
              clear h2 hg2
              dsimp only
              have hOld := hHeld
              refine hK.out _ _ hcd2 (fun _ => ?_)
              clear hK K
              refine wpAnyH_mono (S2 := fun w' => w'.cell? ⟨b7, k - 1 - i, none⟩ = some (.int .i64 (d : Int))) (fun _ h => h) _ _ _ _ ?_
              clear hHeld
              have hHeld := hcd2
              clear hOld
              try simp only [Act.put, List.setIfInBounds_toArray, List.set_cons_zero, List.set_cons_succ]
              refine take_at (i := 9) (v := ?_) (some 101) rfl rfl (by kernel_rfl) (by kernel_rfl) (by kernel_rfl) (fun _ _ _ h => h) hHeld (by rfl) (fun wS hSw => ?_) ?_
              rotate_left
              · try dsimp only at hSw
                go_simp
                try with_reducible rfl
              try simp only [Act.put, List.setIfInBounds_toArray, List.set_cons_zero, List.set_cons_succ]
              refine wpAnyH_done (by kernel_rfl) ?_ _
              have R9 : Again3 w.heap.size w g k (i + 1) D (.slice (some ⟨b7, 0, none⟩) k c7) w2 F2 (takeS s (D.take (k - i)) 1) := by
                have hdl : (D.take (k - i)).dropLast = D.take (k - (i + 1)) := by
                  rw [List.dropLast_eq_take, List.take_take, List.length_take]
                  have := HD.out
                  congr 1
                  omega
                have hok := R.ok.take 1
                have h2 := P2.out.1
                rw [hdl] at hok h2
                refine ⟨h2, hok, ?_, own_step (w := wr.drew) R.rowD P2.out.2.step R.offD, R.offD.grow P2.out.2 (fun _ hk => own_lt (w := wr.drew) R.rowD hk), (R.keeps.drewN 1).next P2.out.2⟩
                unfold takeS
                have := R.len
                split
                · rename_i h0
                  have h1 := congrArg List.length h0
                  have h2 := HD.out
                  rw [List.length_take] at h1
                  simp only [List.length_nil] at h1
                  omega
                · rw [List.length_set]; exact this
              have R9 := Lib.hid R9
              clear g1 g2 g3 g4 g5 g6 hHeld hcd hcd2
              go_wp2_with fail
              go_roundw
              case rel => exact ⟨i + 1, F2, _, by omega, by go_num, R9.out⟩
              case measure => simp [intOf]; omega
            · obtain rfl : k = i := by omega
              have hok := R.ok
              have har := R.ar
              rw [Nat.sub_self, List.take_zero] at hok har
              have HL := lenI_F har hok (by have := R.len; omega)
              rw [R.len] at HL
              have HL := Lib.hid HL
              have HC := Lib.hid (fun n => capI_F (har.drewN n))
              have HR := Lib.hid R
              clear R hok har
              go_wp2_with fail
              refine HL.out.mono ?_
              rintro e w2 ⟨rfl, n2, rfl⟩
              rw [show ((k : Int) - ([] : List Nat).length) = k by simp]
              go_wp2_with fail
              refine (HC.out n2).mono ?_
              rintro e w' ⟨rfl, rfl⟩
              rw [show ((s.length : Nat) : Int) = k by rw [HR.out.len]]
              go_wp2_with fail
              refine (known_any _).mono ?_
              rintro e w3 ⟨rfl, hb3⟩
              go_wp2_with fail
              go_ret
              exact ⟨rfl, ((HR.out.keeps.drewN n2).of_below hb3).below⟩

set_option maxHeartbeats 1000000 in
theorem again_out (n : Int) (v : Value) (w : World) (hn : n < 0 ∨ 60 < n) :
    Calls Try.prog 3 #[.int .i64 n, v] w fun e w' => e = .returned (.bool true) ∧ Below w.heap.size w w' := by
  have hh : n < 0 ∨ (¬ n < 0 ∧ 60 < n) := by omega
  clear hn
  rcases hh with hn | ⟨hn, hn2⟩
  all_goals
    go_enter Try.func3, Try.ntmps3
    go_wp2_with fail
    refine (known_any _).mono ?_
    rintro e w3 ⟨rfl, hb3⟩
    go_wp2_with fail
    go_ret
    exact ⟨rfl, hb3⟩

theorem again_law (n : Int) (A : Option Addr) (m c : Nat) (xs : List Int) (w : World) (hs : Sees w w.heap.size 1 A m (xs.map (Value.int .i64))) (hmI : (m : Int) ≤ 9223372036854775807) :
    Calls Try.prog 3 #[.int .i64 n, .slice A m c] w fun e w' => e = .returned (.bool true) ∧ Below w.heap.size w w' := by
  by_cases h : n < 0 ∨ 60 < n
  · exact again_out n _ w h
  · have := again_any n.toNat A m c xs w (by omega) hs hmI
    rw [Int.toNat_of_nonneg (by omega)] at this
    exact this

end Go.Proofs.Yteelmlhknfbjdaa
