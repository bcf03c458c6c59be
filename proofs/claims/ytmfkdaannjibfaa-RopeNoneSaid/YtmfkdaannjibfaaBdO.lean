/-
  Several texts in one: RoCh, RoIn, RoSt, RoKn, RkH.
-/
import Derived.StillTailTactics
import Derived.Test.YtmfkdaannjibfaaBdN

namespace Go.Proofs.Ytmfkdaannjibfaa
open Go.RowKit
attribute [local go_sem] Oper.semAt_some

/-- An iterator over the pieces of a slice of runes. -/
def ChkAt (w : World) (A : Option Addr) (n c : Nat) (b : Nat) : Prop :=
  w.heap[b]? = some (.cells #[.slice A n c] 26) ∧ w.heap[b + 1]? = some (.cells #[.int .i64 32] 3)
def chkF (b : Nat) : Value := .func (.func 63) #[] #[.pointer (some ⟨b, 0, none⟩), .pointer (some ⟨b + 1, 0, none⟩)]
/-- How many pieces; how long a piece is; its value. -/
def chkN (n : Nat) : Nat := (n + 31) / 32
def chkL (n k : Nat) : Nat := min 32 (n - 32 * k)
def chkV (A : Option Addr) (n k : Nat) : Value := .slice (A.map (·.add (32 * k))) (chkL n k) (chkL n k)

theorem ChkAt.below {w w' : World} {A : Option Addr} {n c b : Nat} (h : ChkAt w A n c b) (hb : Below w.heap.size w w') : ChkAt w' A n c b := ⟨heap_later h.1 hb, heap_later h.2 hb⟩

set_option maxHeartbeats 1000000 in
theorem chkF_any (A : Option Addr) (n c : Nat) (w : World) :
    Calls Try.prog 29 #[.slice A n c, .int .i64 32] w fun e w' => ∃ b, e = .returned (chkF b) ∧ ChkAt w' A n c b ∧ Below w.heap.size w w' ∧ w.heap.size ≤ b := by
  go_enter Try.func29, Try.ntmps29
  go_wp2_with fail
  obtain ⟨b, hb⟩ : ∃ b, w.heap.size = b := ⟨_, rfl⟩
  obtain ⟨w1, hw1⟩ : ∃ v, (w.alloc (.cells #[.slice A n c] 26)).alloc (.cells #[.int .i64 32] 3) = v := ⟨_, rfl⟩
  have q0 : w1.heap[b]? = some (.cells #[.slice A n c] 26) := by
    rw [← hw1]; simp only [heap_alloc_get, World.size_alloc, hb]; repeat (first | rw [if_pos trivial] | rw [if_pos rfl] | rw [if_neg (by omega)])
  have q1 : w1.heap[b + 1]? = some (.cells #[.int .i64 32] 3) := by
    rw [← hw1]; simp only [heap_alloc_get, World.size_alloc, hb]; repeat (first | rw [if_pos trivial] | rw [if_pos rfl] | rw [if_neg (by omega)])
  have hB : Below w.heap.size w w1 := by rw [← hw1]; exact ((Below.refl _ w).alloc (Nat.le_refl _) _).alloc (by simp) _
  have HQ := Lib.hid (show ChkAt w1 A n c b ∧ Below w.heap.size w w1 from ⟨⟨q0, q1⟩, hB⟩)
  have HB := Lib.hid hb
  rw [hb, hw1]
  clear hw1 q0 q1 hB hb
  go_ret
  exact ⟨b, rfl, HQ.out.1, by have h1 := HQ.out.2; rw [HB.out] at h1; exact h1, Nat.le_refl _⟩

theorem chk_lt {n k : Nat} (h : 32 * k < n) : k < chkN n := by unfold chkN; omega
theorem chk_pre {n k : Nat} (h : k ≤ chkN n) : List.range k <+: List.range (chkN n) := by
  obtain ⟨d, e⟩ : ∃ d, chkN n = k + d := ⟨chkN n - k, by omega⟩
  rw [e, List.range_add]
  exact List.prefix_append _ _

set_option maxRecDepth 100000 in
set_option maxHeartbeats 2000000 in
theorem chk_stops {w : World} (m : Nat) {A : Option Addr} {n c b : Nat} (hb : ChkAt w A n c b) (hn : (n : Int) ≤ 1000000000000) (hc : n ≤ c) (hA : 0 < n → ∃ bk o, A = some ⟨bk, o, none⟩) (Bad : Nat → Obj → Prop) (hBad : ∀ k, k = b ∨ k = b + 1 → ∀ o, ¬ Bad k o) :
    SeqStopsK Fence.wide (m + 1) Try.prog 63 #[.pointer (some ⟨b, 0, none⟩), .pointer (some ⟨b + 1, 0, none⟩)] (fun k => #[chkV A n k]) (KeepsO Bad) (fun xs => xs = List.range (chkN n)) (fun pre => pre <+: List.range (chkN n)) (chkN n) w := fun l J Jx W hW hJ hJx hY h00 => by
  have hOO := hb.below hW
  have HJ := Lib.hid hJ
  have HY := Lib.hid hY
  have HBad := Lib.hid hBad
  have HA := Lib.hid (And.intro hA hc)
  clear hJ hJx hY hb hBad hA hc
  refine callsIn_wide.2 ?_
  show Calls _ _ #[.func (.yield l) #[] #[], .pointer (some ⟨b, 0, none⟩), .pointer (some ⟨b + 1, 0, none⟩)] W _
  go_enter Try.func63, Try.ntmps63
  go_wp2_with fail
  go_loopw [4] (fun i wr => ∃ k : Nat, i = .int .i64 ((32 * k : Nat) : Int) ∧ k ≤ chkN n ∧ J (List.range k) wr ∧ ChkAt wr A n c b) (fun i _ => n - (intOf i).toNat)
  case atStart => exact ⟨0, rfl, Nat.zero_le _, h00, hOO⟩
  case round =>
    obtain ⟨k, rfl, hk, hJk, hO⟩ := hrel
    have hcA : wr.cell? ⟨b, 0, none⟩ = some (.slice A n c) := by rw [cell_of_row wr b 0 _ _ _ hO.1]; rfl
    have hcN : wr.cell? ⟨b + 1, 0, none⟩ = some (.int .i64 32) := by rw [cell_of_row wr (b + 1) 0 _ _ _ hO.2]; rfl
    have HR := Lib.hid (And.intro hJk hO)
    have hkI : ((32 * k : Nat) : Int) ≤ 1000000000000 := by unfold chkN at hk; omega
    obtain ⟨q, hq⟩ : ∃ q, 32 * k = q := ⟨_, rfl⟩
    rw [hq] at hkI ⊢
    have HK := Lib.hid (And.intro hk hq)
    have hnc := HA.out.2
    clear hJk hO hk hq h00 hW hOO
    by_cases hlt : q < n
    · obtain ⟨bk, o, rfl⟩ := HA.out.1 (by omega)
      have hltI : (q : Int) < n := by omega
      go_wp2_with fail
      go_quiet (fail)
      rename Nat => nq
      obtain ⟨L, hL⟩ : ∃ L, chkL n k = L := ⟨_, rfl⟩
      have hL2 : L = min 32 (n - q) := by rw [← hL, ← HK.out.2]; rfl
      have hE : (if ((n - q : Nat) : Int) < 32 then ((n - q : Nat) : Int) else 32) = (L : Int) := by rw [hL2]; split <;> omega
      rw [hE]
      obtain ⟨e, he⟩ : ∃ e, q + L = e := ⟨_, rfl⟩
      have hL3 : L = e - q := by omega
      have hLp1 : e ≤ n := by rw [← he, hL2]; omega
      have hLp2 : q < e := by rw [← he, hL2]; omega
      have hLI1 : (e : Int) ≤ n := by omega
      have hLI2 : (q : Int) < e := by omega
      have hLI3 : (e : Int) ≤ c := by omega
      have hLI4 : ¬ (c : Int) < e := by omega
      have hLI5 : ¬ (e : Int) < q := by omega
      have g1 : IntKind.i64.wrap ((q : Int) + L) = (e : Int) := by rw [show (q : Int) + L = e by omega]; exact IntWalk.i64_in _ (by omega)
      have J2 := HJ.out _ wr (wr.drewN nq) none HR.out.1 (grown_none (below_drewN (Below.refl _ _) nq)) (fun r e => by cases e)
      obtain ⟨fn, tmps, assign, body, hy, hR⟩ := HY.out _ k _ J2 (by rw [List.length_range]; exact chk_lt (by have := HK.out.2; omega))
      have HRR := Lib.hid hR
      have HH := Lib.hid (And.intro hL2 (And.intro he (And.intro hL hL3)))
      clear hE hR J2 hL2 he hL hL3
      unfold chkV at hy
      rw [HH.out.2.2.1, HK.out.2, HH.out.2.2.2] at hy
      simp only [Option.map_some, Addr.add_lit] at hy
      go_upto_region 4 with (fail)
      refine (wpIn_wide (n := m + 1)).1 ?_
      clear HY HA hltI hLp1 hLp2
      gi_wp2
      refine HRR.out.mono ?_
      rintro e2 W3 (⟨rfl, hJ3, hk3⟩ | ⟨rfl, hJx3⟩)
      · have R3 := Lib.hid (show J (List.range (k + 1)) W3 ∧ ChkAt W3 (some ⟨bk, o, none⟩) n c b from ⟨by rw [List.range_succ]; exact hJ3, hk3.row HR.out.2.1 (HBad.out b (.inl rfl)), hk3.row HR.out.2.2 (HBad.out (b + 1) (.inr rfl))⟩)
        have hcN3 : W3.cell? ⟨b + 1, 0, none⟩ = some (.int .i64 32) := by rw [cell_of_row W3 (b + 1) 0 _ _ _ R3.out.2.2]; rfl
        have g2 : IntKind.i64.wrap ((q : Int) + 32) = ((32 * (k + 1) : Nat) : Int) := by
          rw [show (q : Int) + 32 = ((32 * (k + 1) : Nat) : Int) by have := HK.out.2; omega]
          exact IntWalk.i64_in _ (by have := HK.out.2; omega)
        clear hJ3 hk3 hy hcN hcA
        gi_wp2
        go_wp2_with fail
        go_roundw
        case rel => exact ⟨k + 1, by first | rfl | rw [g2], chk_lt (by have := HK.out.2; omega), R3.out.1, R3.out.2⟩
        case measure => simp only [intOf]; have := HK.out.2; omega
      · have R3 := Lib.hid (show (∃ pre, pre <+: List.range (chkN n) ∧ Jx pre W3) from ⟨List.range (k + 1), chk_pre (chk_lt (by have := HK.out.2; omega)), by rw [List.range_succ]; exact hJx3⟩)
        clear hJx3 hy
        gi_wp2
        go_wp2_with fail
        refine bodyPost_ret (results_none rfl _ _ _) rfl ?_
        exact ⟨⟨_, rfl⟩, .inr R3.out⟩
    · have hge : ¬ (q : Int) < n := by omega
      go_wp2_with fail
      have hkk : chkN n = k := by have := HK.out; unfold chkN at *; omega
      go_end0
      exact ⟨⟨_, rfl⟩, .inl (by rw [hkk]; exact HR.out.1)⟩

end Go.Proofs.Ytmfkdaannjibfaa

namespace Go.Proofs.Ytmfkdaannjibfaa
open Go.RowKit
attribute [local go_sem] Oper.semAt_some

/-- What Insert tells, and what the rope is then. -/
def insE (R : List Int) (i : Int) (l : List Int) : Int := if l.all codeB = true then betR R i i else 3
def insR (R : List Int) (i : Int) (l : List Int) : List Int := if insE R i l = 0 then R.take i.toNat ++ l ++ R.drop i.toNat else R

/-- A piece. -/
def pcT (l : List Int) (k : Nat) : Th := ⟨(l.drop (32 * k)).take 32, by rw [List.length_take]; omega⟩
theorem pc_len (l : List Int) (k : Nat) : (pcT l k).l.length = chkL l.length k := by unfold pcT chkL; rw [List.length_take, List.length_drop]
theorem pcs_flat (l : List Int) (k : Nat) : flat ((List.range k).map (pcT l)) = l.take (32 * k) := by
  induction k with
  | zero => simp [flat]
  | succ k ih =>
    rw [List.range_succ, List.map_append, flat_append, ih, List.map_singleton, flat_one]
    show _ ++ (l.drop (32 * k)).take 32 = _
    rw [show 32 * (k + 1) = 32 * k + 32 by omega, List.take_add]
theorem pcs_all (l : List Int) : flat ((List.range (chkN l.length)).map (pcT l)) = l := by
  rw [pcs_flat, List.take_of_length_le (by unfold chkN; omega)]
theorem pcs_good (l : List Int) (h : ∀ k ∈ List.range (chkN l.length), (pcT l k).l.all codeB = true) : l.all codeB = true := by
  have e := pcs_all l
  rw [← e]
  unfold flat
  rw [List.all_flatMap]
  simp only [List.all_map, List.all_eq_true]
  intro x hx
  exact h x hx
theorem pc_bad (l : List Int) (k : Nat) (h : (pcT l k).l.all codeB = false) : l.all codeB = false := by
  cases hl : l.all codeB with
  | false => rfl
  | true =>
    rw [List.all_eq_true] at hl
    have : (pcT l k).l.all codeB = true := List.all_eq_true.2 (fun x hx => hl x (List.mem_of_mem_drop (List.mem_of_mem_take hx)))
    rw [this] at h; cases h
theorem bad_all (l : List Int) : (badAt l 0 < 0 ∧ l.all codeB = true) ∨ (0 ≤ badAt l 0 ∧ l.all codeB = false) := by
  have h := badAt_neg l 0
  by_cases hb : badAt l 0 < 0
  · exact .inl ⟨hb, List.all_eq_true.2 (h.1 hb)⟩
  · refine .inr ⟨by omega, ?_⟩
    cases hl : l.all codeB with
    | false => rfl
    | true => exact absurd (h.2 (List.all_eq_true.1 hl)) hb

theorem Sees.piece {w : World} {B n c : Nat} {A : Option Addr} {l : List Int} (hs : Sees w B 1 A n (l.map r32)) (hc : n ≤ c) (k : Nat) : Sees w B 1 (A.map (·.add (32 * k))) (chkL n k) ((pcT l k).l.map r32) := by
  have hl : l.length = n := by have := hs.1; simp at this; omega
  by_cases h : 32 * k < n
  · have h1 := hs.mid (k := 32 * k) (m := chkL n k) (cap := c) (by unfold chkL; omega) hc
    rw [if_neg (by omega)] at h1
    have e : ((l.map r32).drop (32 * k)).take (chkL n k) = (pcT l k).l.map r32 := ?_
    · rw [← e]; exact h1
    show ((l.map r32).drop (32 * k)).take (chkL n k) = ((l.drop (32 * k)).take 32).map r32
    rw [List.map_take, List.map_drop]
    unfold chkL
    rw [List.take_eq_take_iff, List.length_drop, List.length_map]
    omega
  · have h1 : (pcT l k).l = [] := List.eq_nil_of_length_eq_zero (by rw [pc_len]; unfold chkL; omega)
    rw [h1, show chkL n k = 0 by unfold chkL; omega]
    exact Sees.nil_ _ _ _ _

theorem map_range47 (f : Nat → Value) : (List.range 47).map f = [f 0, f 1, f 2, f 3, f 4, f 5, f 6, f 7, f 8, f 9, f 10, f 11, f 12, f 13, f 14, f 15, f 16, f 17, f 18, f 19, f 20, f 21, f 22, f 23, f 24, f 25, f 26, f 27, f 28, f 29, f 30, f 31, f 32, f 33, f 34, f 35, f 36, f 37, f 38, f 39, f 40, f 41, f 42, f 43, f 44, f 45, f 46] := by
  simp [List.range, List.range.loop]

theorem lit47 (t : Array Value) (h : t.size = 47) : ∃ u : Nat → Value, t = #[u 0, u 1, u 2, u 3, u 4, u 5, u 6, u 7, u 8, u 9, u 10, u 11, u 12, u 13, u 14, u 15, u 16, u 17, u 18, u 19, u 20, u 21, u 22, u 23, u 24, u 25, u 26, u 27, u 28, u 29, u 30, u 31, u 32, u 33, u 34, u 35, u 36, u 37, u 38, u 39, u 40, u 41, u 42, u 43, u 44, u 45, u 46] ∧ ∀ i, u i = t.getD i undef := by
  refine ⟨fun i => t.getD i undef, ?_, fun _ => rfl⟩
  have e : t = ((List.range 47).map fun i => t.getD i undef).toArray := by
    apply Array.ext
    · simp [h]
    · intro i h1 h2
      simp [Array.getD, h1]
  exact e.trans (by rw [map_range47])

/-- A body that does not panic: 'bodyPostM', its panics struck. -/
def outM (F : Fence) (n : Nat) (P : Program) (fn : Func) (R : Ending → World → Prop) : Exit → Act → World → Prop
  | .normal, a, w | .ret, a, w => LeavesInM F n P fn a.tmps R a.defers .returning w
  | _, _, _ => False
theorem outM_le {F : Fence} {n : Nat} {P : Program} {fn : Func} {R : Ending → World → Prop} : ∀ e a w, outM F n P fn R e a w → bodyPostM F n P fn R e a w := by
  intro e a w h
  cases e <;> first | exact h | exact h.elim

/-- The marks of loops that are over are taken: their blocks alone change. -/
theorem leaves_steps {F : Fence} {n : Nat} {P : Program} {fn : Func} {tmps : Array Value} {Q : Ending → World → Prop} {G : Nat → Prop} : ∀ (ds : List Deferred) (w : World), Marks 0 w ds → (∀ d ∈ ds, ∀ k, d.target = .collected k → G k) →
    (∀ w', Step G w w' → LeavesIn F n P fn tmps Q [] .returning w') → LeavesInM F n P fn tmps Q ds .returning w := by
  intro ds
  induction ds with
  | nil => intro w _ _ h; exact h w (Step.refl _ _)
  | cons d ds ih =>
    intro w hm hG h
    obtain ⟨r, hr, hB, hh⟩ := hm.2 d (by simp)
    have hnd := hm.1
    rw [List.map_cons, List.nodup_cons] at hnd
    have hs : Step G w (w.putObj r (.deferred none)) := (grown_step (grownBy_putObj' w r _)).mono (fun k _ e => by
      have e : some r = some k := e
      injection e with e
      subst e
      exact hG d (by simp) r hr)
    refine ⟨by simp, .inl ⟨r, _, hr, run_takeDeferred hh, ih _ ⟨hnd.2, fun d' hd' => ?_⟩ (fun d' hd' => hG d' (by simp [hd'])) fun w' hw' => h w' (hs.trans hw')⟩⟩
    obtain ⟨r', hr', hB', hh'⟩ := hm.2 d' (by simp [hd'])
    refine ⟨r', hr', hB', ?_⟩
    rw [World.putObj_heap_other (fun e => hnd.1 (by rw [hr, ← e, ← hr']; exact List.mem_map.2 ⟨d', hd', rfl⟩))]
    exact hh'

theorem Grow.past {F F' G : Nat → Prop} {w w1 w2 : World} (h : Grow F w w1 F') (hs : Step G w1 w2) (hG : ∀ k, G k → w.heap.size ≤ k) : Grow F w w2 F' :=
  ⟨⟨hs.os.trans h.step.os, hs.tape.trans h.step.tape, hs.output.trans h.step.output, Nat.le_trans h.step.size hs.size, fun k hk hF => (hs.block k (Nat.lt_of_lt_of_le hk h.step.size) (fun g => by have := hG k g; omega)).trans (h.step.block k hk hF)⟩, h.new⟩

/-- Two boxes, a mark, a row of one's own, beside a rope that is at work. -/
structure InsK (W : World) (H : Nat → Prop) (b6 b7 D base : Nat) (v : Value) (n : Nat) (cs : List Value) (X : World) (H' : Nat → Prop) : Prop where
  grow : Grow H W X H'
  q6 : X.heap[b6]? = some (.cells #[.int .i64 0] 30)
  q7 : X.heap[b7]? = some (.cells #[v] 60)
  qD : X.heap[D]? = some (.deferred (some []))
  own : X.ownsRow base 58 33 v n cs
  n6 : ¬ H' b6
  n7 : ¬ H' b7
  nD : ¬ H' D
  nv : ∀ k, v.ownBlock = some k → ¬ H' k
theorem InsK.next {W X Y : World} {H H1 H2 : Nat → Prop} {b6 b7 D base n : Nat} {v : Value} {cs : List Value} (h : InsK W H b6 b7 D base v n cs X H1) (hg : Grow H1 X Y H2) : InsK W H b6 b7 D base v n cs Y H2 := by
  have hn : ∀ k, k < X.heap.size → ¬ H1 k → ¬ H2 k := fun k hk h1 h2 => by
    rcases hg.new k h2 with e | e
    · exact h1 e
    · omega
  have l6 := (Array.getElem?_eq_some_iff.1 h.q6).1
  have l7 := (Array.getElem?_eq_some_iff.1 h.q7).1
  have lD := (Array.getElem?_eq_some_iff.1 h.qD).1
  exact ⟨h.grow.trans hg, (hg.step.block b6 l6 h.n6).trans h.q6, (hg.step.block b7 l7 h.n7).trans h.q7, (hg.step.block D lD h.nD).trans h.qD, own_step h.own hg.step h.nv, hn _ l6 h.n6, hn _ l7 h.n7, hn _ lD h.nD, fun k hk => hn k (own_lt h.own hk) (h.nv k hk)⟩

set_option maxRecDepth 100000 in
set_option maxHeartbeats 4000000 in
theorem insertR_any {w : World} {H : Nat → Prop} {g N n c : Nat} {R : List Int} {A : Option Addr} {l : List Int} (h : RoS w H g R N) (hs : Sees w w.heap.size 1 A n (l.map r32)) (hc : n ≤ c) (hn : n ≤ 10000) (hN : N + chkN n ≤ 79000) (i : Int) :
    Calls Try.prog 13 #[.pointer (some ⟨g, 0, none⟩), .int .i64 i, .slice A n c] w fun e w' => RoR w H g (insR R i l) (N + chkN n + 2) (.int .i64 (insE R i l)) e w' := by
  obtain ⟨i0, ii0, iz0, iz1, iz2⟩ := info_parts thing_info4
  have hl : l.length = n := by have := hs.1; simp at this; omega
  obtain ⟨b6, hb6⟩ : ∃ v, w.heap.size = v := ⟨_, rfl⟩
  obtain ⟨wa, hwa⟩ : ∃ v, w.alloc (.cells #[.int .i64 0] 30) = v := ⟨_, rfl⟩
  obtain ⟨b7, hb7⟩ : ∃ v, b6 + 1 = v := ⟨_, rfl⟩
  have hb77 : wa.heap.size = b7 := by rw [← hwa, World.size_alloc, hb6, hb7]
  obtain ⟨w0, hw0⟩ : ∃ v, wa.alloc (.cells #[.slice none 0 0] 60) = v := ⟨_, rfl⟩
  have hBa : Below w.heap.size w wa := by rw [← hwa]; exact (Below.refl _ _).alloc (Nat.le_refl _) _
  have hB0 : Below w.heap.size w w0 := by rw [← hw0]; exact hBa.alloc hBa.size _
  have hq6 : w0.heap[b6]? = some (.cells #[.int .i64 0] 30) := by
    rw [← hw0]; exact heap_later (by rw [← hwa, ← hb6]; exact heap_alloc_new w _) ((Below.refl _ _).alloc (Nat.le_refl _) _)
  have hq7 : w0.heap[b7]? = some (.cells #[.slice none 0 0] 60) := by rw [← hw0, ← hb77]; exact heap_alloc_new wa _
  have h67 : w.heap.size ≤ b6 ∧ b6 < b7 := by omega
  have hH0 : ∀ k, H k → k < b6 := by rw [← hb6]; exact h.lt
  have HRl := Lib.hid h.len.1
  have H0 := Lib.hid (And.intro hB0 (And.intro hq6 (And.intro hq7 (And.intro h67 hH0))))
  have HS := Lib.hid (And.intro h (And.intro hs (And.intro hc (And.intro hn (And.intro hN hl)))))
  have HE := Lib.hid (And.intro hb6 (And.intro hwa (And.intro hb7 hw0)))
  clear h hs hc hn hN hl hB0 hBa hq6 hq7 h67 hH0 hb6 hwa hb7 hw0 hb77
  refine (callsIn_wide (n := 9)).1 ?_
  refine callsIn_of_wp_marks Try.func13 rfl trivial ?_ rfl
  refine (wpIn_wide (n := 9)).2 ?_
  refine wp_mono ?_ outM_le
  simp only [Try.ntmps13, List.size_toArray, List.length_cons, List.length_nil, Nat.reduceAdd, Nat.reduceSub, Array.replicate_succ, Array.replicate_zero, List.push_toArray, List.append_toArray, List.nil_append, List.cons_append]
  go_wp2_with fail
  rw [HE.out.2.1, HE.out.1, HE.out.2.2.1, HE.out.2.2.2]
  refine (chkF_any A n c w0).mono ?_
  rintro e w1 ⟨b, rfl, hk, hb1, hbb⟩
  have hq61 := heap_later H0.out.2.1 hb1
  have hq71 := heap_later H0.out.2.2.1 hb1
  have hS1 := HS.out.2.1.below (H0.out.1.trans (hb1.mono H0.out.1.size)) (Nat.le_refl _)
  have HQ1 := Lib.hid (And.intro hq61 (And.intro hS1 (And.intro (H0.out.1.trans (hb1.mono H0.out.1.size)) (And.intro hbb (Array.getElem?_eq_some_iff.1 H0.out.2.2.1).1))))
  have BL := Lib.hid (Array.getElem?_eq_some_iff.1 hq71).1
  have HI := Lib.hid (GrowI.start (e := 58) (size := 33) hq71)
  have SQ := Lib.hid (chk_stops 7 hk (by have := HS.out.2.2.2.1; omega) HS.out.2.2.1 (fun hn0 => by obtain ⟨bk, o, e, _⟩ := HS.out.2.1.2 hn0; exact ⟨bk, o, e⟩) (GrowBad 58 w1 b7)
    (fun k hkb o e => by
      have h1 := (Array.getElem?_eq_some_iff.1 hk.1).1
      have h2 := (Array.getElem?_eq_some_iff.1 hk.2).1
      have h3 := HQ1.out.2.2.2
      rcases e with e | ⟨e, _⟩
      · omega
      · omega))
  clear hk hb1 hbb hq61 hq71 hS1
  go_wp2_with fail
  obtain ⟨fF, hfF⟩ : ∃ x : Value, .func (.func 63) #[] #[.pointer (some ⟨b, 0, none⟩), .pointer (some ⟨b + 1, 0, none⟩)] = x := ⟨_, rfl⟩
  unfold chkF
  rw [hfF]
  refine (wpIn_wide (n := 9)).1 ?_
  refine wpIn_rangeFunc_ownH rfl (by omega) (gf := 63) (lb := #[.pointer (some ⟨b, 0, none⟩), .pointer (some ⟨b + 1, 0, none⟩)]) hfF.symm trivial (enters_of Try.func63 (by kernel_rfl) rfl)
    SQ.out KeepsO.trans KeepsO.put (Below.refl _ _) (fun _ => rfl)
    (fun pre W => GrowI 60 58 33 w1 b7 pre.length (rowT (pre.map (pcT l))) W ∧ ∀ k ∈ pre, (pcT l k).l.all codeB = true)
    (fun c pre W => c = .ret ∧ W.heap[b6]? = some (.cells #[.int .i64 3] 30) ∧ Step (fun k => k = b6 ∨ k = b7) w1 W ∧ ∃ k ∈ pre, (pcT l k).l.all codeB = false)
    ?ownI ?ownX ⟨HI.out, fun _ h => nomatch h⟩
    (fun k a' W => a'.defers = [] ∧ a'.tmps.size = 47 ∧ a'.tmps.getD 6 undef = .pointer (some ⟨b6, 0, none⟩) ∧ a'.tmps.getD 7 undef = .pointer (some ⟨b7, 0, none⟩) ∧ a'.tmps.getD 8 undef = chkV A n k)
    ?ax ?assign ?body ?done ?stop
  case ownI =>
    rintro xs W W' row ⟨h1, h2⟩ hg hr
    exact ⟨GrowI.own_ (fun pre : List Nat => pre.length) (fun pre : List Nat => rowT (pre.map (pcT l))) BL.out xs W W' row h1 hg hr, h2⟩
  case ownX =>
    rintro c xs W W' row ⟨h1, h2, h3, h4⟩ hg hr
    exact ⟨h1, (hg.block b6 (Array.getElem?_eq_some_iff.1 h2).1 (fun e => by have := (hr b6 e.symm).1; have := (Array.getElem?_eq_some_iff.1 HQ1.out.1).1; omega)).trans h2, h3.grown hg (fun k e => .inr (hr k e).1), h4⟩
  case ax =>
    rintro x a' _ W W' row h hg hr
    exact h
  case assign =>
    intro l2 pre x W K hI hK
    gi_wp2
    exact hK _ _ (KeepsFrom.refl _ _) (KeepsO.refl _ _) hI ⟨rfl, rfl, rfl, rfl, rfl⟩
  case stop =>
    rintro D c2 pre W hD - ⟨rfl, hq6, hst, k, -, hbad⟩ hK
    have hE : insE R i l = 3 := by unfold insE; rw [pc_bad l k hbad]; rfl
    have hX : insR R i l = R := by unfold insR; rw [if_neg (by rw [hE]; decide)]
    have HEX := Lib.hid (And.intro hE hX)
    have HM : Marks w1.heap.size W [{ target := .collected D, args := #[] }] := ⟨by simp, fun d hd => by simp at hd; subst hd; exact ⟨D, rfl, hD, hK⟩⟩
    have HR := Lib.hid (And.intro HM (And.intro hq6 hst))
    clear hE hX hD hq6 hst hbad hK HM
    refine (wpIn_wide (n := 9)).2 ?_
    go_wp2_with fail
    rw [HEX.out.1, HEX.out.2]
    refine leaves_marks (B := w1.heap.size) _ _ HR.out.1 (fun w' hs => ?_)
    have hS : Step (fun k => k = b6 ∨ k = b7) w1 w' := HR.out.2.2.upto hs.below (Nat.le_refl _)
    have hq6 : w'.heap[b6]? = some (.cells #[.int .i64 3] 30) := (hs.below.block b6 (Array.getElem?_eq_some_iff.1 HQ1.out.1).1).trans HR.out.2.1
    have hc : w'.cell? ⟨b6, 0, none⟩ = some (.int .i64 3) := by rw [cell_of_row w' b6 0 _ _ _ hq6]; rfl
    have h67 := H0.out.2.2.2
    have hB := hS.below (B := w.heap.size) HQ1.out.2.2.1.size (fun k hk => by rcases hk with e | e <;> omega)
    have hBB : Below w.heap.size w w' := HQ1.out.2.2.1.trans hB
    refine ⟨.int .i64 3, ?_, H, rfl, (HS.out.1.below hBB).more (by omega), Grow.of_below hBB⟩
    simp [results, Try.f13, go_sem, hc]
  case body =>
    rintro l2 pre k ⟨ts, ds⟩ W hl2 - ⟨⟨v, hq, ho, hst⟩, hgood⟩ ⟨h1, h2, h3, h4, h5⟩ hlt
    dsimp only at h1 h2 h3 h4 h5
    subst h1
    obtain ⟨u, rfl, hu⟩ := lit47 ts h2
    rw [← hu] at h3 h4 h5
    rw [h3, h4, h5]
    unfold chkV
    have h67 := H0.out.2.2.2.1
    have hWb : Below w.heap.size w1 W := hst.below HQ1.out.2.2.1.size (fun k hk => by have hk : k = b7 := hk; omega)
    have hsW : Sees W w.heap.size 1 (A.map (·.add (32 * k))) (chkL n k) ((pcT l k).l.map r32) := (HQ1.out.2.1.below hWb (Nat.le_refl _)).piece HS.out.2.2.1 k
    have hq6W : W.heap[b6]? = some (.cells #[.int .i64 0] 30) := (hst.block b6 (Array.getElem?_eq_some_iff.1 HQ1.out.1).1 (fun e => by have e : b6 = b7 := e; omega)).trans HQ1.out.1
    have hWs : w.heap.size ≤ W.heap.size := Nat.le_trans HQ1.out.2.2.1.size hst.size
    have hcL : chkL n k ≤ 32 := by unfold chkL; omega
    rcases bad_all (pcT l k).l with ⟨hb, hb2⟩ | ⟨hb, hb2⟩
    · have HOf := Lib.hid (of_ok (A.map (·.add (32 * k))) (chkL n k) (chkL n k) w.heap.size (pcT l k).l W hsW hWs hb hcL)
      have HQ := Lib.hid (And.intro hq (And.intro ho (And.intro hst (And.intro hgood hb2))))
      have hpl : pre.length ≤ 79000 := by have := HS.out.2.2.2.2.1; omega
      have HP := Lib.hid hpl
      clear hu hq ho hst hgood h2 h3 h4 h5 h67 hWb hsW hq6W hWs hcL hb hb2 hlt hpl
      gi_wp2_with fail
      refine ⟨trivial, ((callsIn_wide.2 HOf.out).inRound l2).mono ?_⟩
      rintro e w2 ⟨rfl, hb2⟩
      unfold chV
      obtain ⟨bx, hbx⟩ : ∃ v, w2.heap.size = v := ⟨_, rfl⟩
      obtain ⟨w3, hw3⟩ : ∃ v, w2.alloc (.cells (chC (pcT l k).l).toArray 58) = v := ⟨_, rfl⟩
      have B23 : Below w2.heap.size w2 w3 := by rw [← hw3]; exact (Below.refl _ _).alloc (Nat.le_refl _) _
      have B3 := Lib.hid (hb2.trans (B23.mono hb2.size))
      have F3 := Lib.hid (show w3.heap[bx]? = some (.cells (encT (pcT l k)).toArray 58) by rw [← hw3, ← hbx]; exact heap_alloc_new w2 _)
      have HE2 := Lib.hid (And.intro hw3 hbx)
      clear hb2 hbx hw3 B23 HOf
      have hcb : w3.cell? ⟨b7, 0, none⟩ = some v := by rw [cell_of_row w3 b7 0 _ _ _ (heap_later HQ.out.1 B3.out)]; rfl
      obtain ⟨bz, hbz⟩ : ∃ v, w3.heap.size = v := ⟨_, rfl⟩
      obtain ⟨w4, hw4⟩ : ∃ v, w3.alloc (.cells (encT (pcT l k)).toArray 58) = v := ⟨_, rfl⟩
      have B34 : Below w3.heap.size w3 w4 := by rw [← hw4]; exact (Below.refl _ _).alloc (Nat.le_refl _) _
      have B4 := Lib.hid (show Below W.heap.size W w4 from B3.out.trans (B34.mono B3.out.size))
      have S4 := Lib.hid (show Sees w4 (bz + 1) 33 (some ⟨bz, 0, none⟩) 1 (rowT [pcT l k]) from Sees.things (by rw [rowT_one, ← hw4, ← hbz]; exact heap_alloc_new _ _))
      have HR := Lib.hid (run_things (pcT l k) w3)
      rw [hw4, hbz] at HR
      have O4 := Lib.hid (own_later HQ.out.2.1 B4.out)
      have hbsz : w1.heap.size ≤ w4.heap.size := Nat.le_trans HQ.out.2.2.1.size B4.out.size
      obtain ⟨np, hnp⟩ : ∃ n, pre.length = n := ⟨_, rfl⟩
      have HNP := Lib.hid hnp
      have hpl := HP.out
      rw [hnp] at O4 hpl
      have hlz : 0 < bz + 1 ∧ bz + 1 ≤ w4.heap.size := by rw [← hw4, World.size_alloc]; omega
      have HZ := Lib.hid hlz
      clear hbz hw4 B34 hnp HP hlz
      gi_wp2_with (first
        | (refine wpListIn_skipped rfl rfl (by intro c e; cases e) (exec_store_row 58 (.tmp 9) (.tmp 20) rfl w2.heap.size (chC (pcT l k).l).toArray rfl rfl 58 _ (heap_alloc_new w2 _) (ch_info _ (pcT l k).h) ((by rfl : _ = 33).trans (encT_size (pcT l k)).symm) (all_one _)) ?_; rw [alloc_setRow, HE2.out.1, HE2.out.2])
        | (refine wpListIn_known rfl rfl (by intro c e; cases e) (exec_load_row 58 (.tmp 9) rfl bx rfl 58 (encT (pcT l k)).toArray (0, 0) _ F3.out Try.underlying58 rfl (by rw [List.size_toArray]; exact thing_info _)) ?_)
        | (refine wpListIn_known rfl rfl (by intro c e; cases e) (exec_slice1 60 (.tmp 25) rfl (.agg (encT (pcT l k)).toArray) rfl HR.out) ?_)
        | (gi_at_builtin
           refine wpListIn_append_sees _ rfl _ _ _ rfl w1.heap.size 58 i0 _ 33 136 Try.underlying60 ii0 iz0 iz1 iz2 rfl (by omega) _ np _ rfl O4.out (bz + 1) _ 1 1 (rowT [pcT l k]) rfl S4.out (rowT_oneCell _) (by simp only [maxLen]; omega) (by omega) hbsz ?_
           intro v5 w5 hown5 hg5 hat5 hnil5
           have P5 := Lib.hid (GrowI.round HQ.out.1 HQ.out.2.1 HQ.out.2.2.1 BL.out (by decide) B4.out hown5 hg5)
           have hc5 := P5.out.2.2.2.1
           have hf5 := P5.out.2.2.2.2
           obtain ⟨A5, c5, rfl, hx5⟩ := own_shape hown5
           clear hown5 hg5 hat5 hnil5 hx5))
      obtain ⟨hP1, hP2, hP3, _, _⟩ := P5.out
      refine ⟨hP1, hP2, ?_, fun k2 hk2 => ?_⟩
      · rw [List.length_append, List.map_append, rowT_append, HNP.out]
        exact hP3
      · rcases List.mem_append.1 hk2 with e | e
        · exact HQ.out.2.2.2.1 k2 e
        · rw [List.mem_singleton.1 e]; exact HQ.out.2.2.2.2
    · have HOf := Lib.hid (of_bad (A.map (·.add (32 * k))) (chkL n k) (chkL n k) w.heap.size (pcT l k).l W hsW hWs (by omega) hb)
      have HQ := Lib.hid (And.intro hq (And.intro hst (And.intro hq6W hb2)))
      have h76 := H0.out.2.2.2.1
      clear hu hq ho hst hgood h2 h3 h4 h5 h67 hWb hsW hq6W hWs hcL hb hb2 hlt
      gi_wp2_with fail
      refine ⟨trivial, ((callsIn_wide.2 HOf.out).inRound l2).mono ?_⟩
      rintro e w2 ⟨rfl, hb2⟩
      unfold chV
      obtain ⟨bx, hbx⟩ : ∃ v, w2.heap.size = v := ⟨_, rfl⟩
      obtain ⟨w3, hw3⟩ : ∃ v, w2.alloc (.cells (chC []).toArray 58) = v := ⟨_, rfl⟩
      have B23 : Below w2.heap.size w2 w3 := by rw [← hw3]; exact (Below.refl _ _).alloc (Nat.le_refl _) _
      have B3 := Lib.hid (hb2.trans (B23.mono hb2.size))
      have HE2 := Lib.hid (And.intro hw3 hbx)
      have hq63 : w3.heap[b6]? = some (.cells #[.int .i64 0] 30) := heap_later HQ.out.2.2.1 B3.out
      have hcb : w3.cell? ⟨b6, 0, none⟩ = some (.int .i64 0) := by rw [cell_of_row w3 b6 0 _ _ _ hq63]; rfl
      have hf6 : w3.frozen? ⟨b6, 0, none⟩ = false := frozen_of_row w3 b6 0 _ _ hq63
      have H63 := Lib.hid hq63
      clear hb2 hbx hw3 B23 HOf hq63
      gi_wp2_with (refine wpListIn_skipped rfl rfl (by intro c e; cases e) (exec_store_row 58 (.tmp 9) (.tmp 20) rfl w2.heap.size (chC []).toArray rfl rfl 58 _ (heap_alloc_new w2 _) (ch_info _ (by decide)) rfl (all_one [])) ?_; rw [alloc_setRow, HE2.out.1, HE2.out.2])
      have hst2 : Step (fun k => k = b6) W (w3.setCell ⟨b6, 0, none⟩ (.int .i64 3)) := (Step.of_below B3.out (fun k => k = b6)).setCell (p := ⟨b6, 0, none⟩) (.inl rfl) _
      refine ⟨KeepsFrom.of_step hst2 (fun k o ho hk => ?_), rfl, ?_, ?_, k, by simp, HQ.out.2.2.2⟩
      · have hk : k = b6 := hk
        rw [hk, HQ.out.2.2.1] at ho; cases ho; rfl
      · rw [heap_setCell_same w3 b6 0 _ _ _ H63.out]; rfl
      · exact (HQ.out.2.1.mono (fun _ _ h => .inr h)).trans (hst2.mono (fun _ _ h => .inl h))
  case done =>
    rintro D ys W hD rfl ⟨⟨v, hq, ho, hst⟩, hgood⟩ hK
    try dsimp only at ho
    have hnl := HS.out.2.2.2.2.2
    have hE : insE R i l = betR R i i := by unfold insE; rw [if_pos (pcs_good l (by rw [hnl]; exact hgood))]
    rw [List.length_range] at ho
    have hwb := HQ1.out.2.2.1
    have h67 := H0.out.2.2.2.1
    have hH0 := H0.out.2.2.2.2
    have hl1 := BL.out
    have hRW : RoS W H g R N := (HS.out.1.below hwb).step hst (fun k hk e => by have e : k = b7 := e; have := hH0 k hk; omega)
    have q6W : W.heap[b6]? = some (.cells #[.int .i64 0] 30) := (hst.block b6 (Array.getElem?_eq_some_iff.1 HQ1.out.1).1 (fun e => by have e : b6 = b7 := e; omega)).trans HQ1.out.1
    have hI0 : InsK W H b6 b7 D w1.heap.size v (chkN n) (rowT ((List.range (chkN n)).map (pcT l))) W H :=
      ⟨Grow.refl _ _, q6W, hq, hK, ho, fun e => by have := hH0 _ e; omega, fun e => by have := hH0 _ e; omega, fun e => by have := hH0 _ e; omega, fun k hk e => by have := hH0 _ e; have := own_base ho hk; omega⟩
    have hBW : Below w.heap.size w W := hwb.trans (hst.below hwb.size (fun k hk => by have hk : k = b7 := hk; omega))
    obtain ⟨Av, cv, rfl, hcv, -, hx3, hx4⟩ := own_shape ho
    have HB := Lib.hid (betweenR_any hRW i i)
    have HD := Lib.hid (And.intro hI0 (And.intro hBW (And.intro hcv (And.intro hE (show w.heap.size ≤ D from Nat.le_trans hwb.size hD)))))
    clear hD hq ho hst hgood hK hnl hE hwb h67 hH0 hl1 hRW q6W hI0 hBW hcv hx3 hx4
    go_wp2_with fail
    refine HB.out.mono ?_
    clear HB
    rintro e w2 ⟨H2, rfl, hR2, hg2⟩
    have hI2 := HD.out.1.next hg2
    rcases betR_or R i i with hb | hb
    · rw [hb]
      obtain ⟨j0, -, j2⟩ := betR_zero hb
      have HX := Lib.hid (show insE R i l = 0 ∧ insR R i l = R.take i.toNat ++ flat ((List.range (chkN n)).map (pcT l)) ++ R.drop i.toNat by
        have hE := HD.out.2.2.2.1
        rw [hb] at hE
        refine ⟨hE, ?_⟩
        unfold insR
        rw [if_pos hE, ← HS.out.2.2.2.2.2, pcs_all])
      have HL := Lib.hid (lenR_any hR2)
      have HI2 := Lib.hid hI2
      have hRl := HRl.out
      have hn1 := HS.out.2.2.2.1
      have g1 : IntKind.i64.wrap (536870912 - (R.length : Int)) = 536870912 - (R.length : Int) := IntWalk.i64_in _ (by omega)
      have hlt : ¬ 536870912 - (R.length : Int) < n := by omega
      have HJ := Lib.hid (And.intro j0 j2)
      clear hb hI2 hR2 hg2 j0 j2 hRl hn1
      go_wp2_with fail
      refine HL.out.mono ?_
      clear HL
      rintro e w3 ⟨H3, rfl, ⟨X, hX, hXR, hXN⟩, hg3⟩
      have hI3 := HI2.out.next hg3
      have HT := Lib.hid (tree_any (hX.below ((Below.refl _ w3).drew)))
      have HX3 := Lib.hid (And.intro hXR hXN)
      have hc7 : w3.cell? ⟨b7, 0, none⟩ = some (.slice Av (chkN n) cv) := by rw [cell_of_row w3 b7 0 _ _ _ hI3.q7]; rfl
      have HI3 := Lib.hid hI3
      clear hX hXR hXN hg3 hI3
      go_upto_region 15 with (fail)
      refine wp_region_held_drew (S := fun w' => w'.cell? ⟨b7, 0, none⟩ = some (.slice Av (chkN n) cv)) (by kernel_rfl) hc7 (fun hHeld => ?_)
      try dsimp only at hHeld
      refine take_at (i := 0) (v := ?_) (some 41) rfl rfl (by kernel_rfl) (by kernel_rfl) (by kernel_rfl) (fun _ _ _ h => h.elim) hHeld (by rfl) (fun wS hSw => ?_) ?_
      rotate_left
      · try dsimp only at hSw
        go_simp
        try with_reducible rfl
      try simp only [Act.put, List.setIfInBounds_toArray, List.set_cons_zero, List.set_cons_succ]
      refine take_at (i := 2) (v := ?_) (some 43) rfl rfl (by kernel_rfl) (by kernel_rfl) (by kernel_rfl) (fun _ _ _ h => h.elim) hHeld (by rfl) (fun wS hSw => ?_) ?_
      rotate_left
      · try dsimp only at hSw
        go_simp
        try with_reducible rfl
      try simp only [Act.put, List.setIfInBounds_toArray, List.set_cons_zero, List.set_cons_succ]
      refine take_at (i := 3) (v := ?_) (some 44) rfl rfl (by kernel_rfl) (by kernel_rfl) (by kernel_rfl) (fun _ _ _ h => h.elim) hHeld (by rfl) (fun wS hSw => ?_) ?_
      rotate_left
      · try dsimp only at hSw
        go_simp
        try with_reducible rfl
      try simp only [Act.put, List.setIfInBounds_toArray, List.set_cons_zero, List.set_cons_succ]
      refine take_at (i := 4) (v := ?_) (some 45) rfl rfl (by kernel_rfl) (by kernel_rfl) (by kernel_rfl) (fun _ _ _ h => h.elim) hHeld (by rfl) (fun wS hSw => ?_) ?_
      rotate_left
      · try dsimp only at hSw
        go_simp
        try with_reducible rfl
      try simp only [Act.put, List.setIfInBounds_toArray, List.set_cons_zero, List.set_cons_succ]
      refine wpAnyH_ready (rs := [1]) (by kernel_rfl) (by simp) ?_
      refine AllReadyH.cons rfl (fun K hK => ?_) AllReadyH.nil
      simp only [List.getElem_toArray, List.getElem_cons_succ, List.getElem_cons_zero]
      go_simp
      refine HT.out.mono ?_
      rintro e w4 ⟨H4, gT, rfl, hT, hg4⟩
      have hI4 := HI3.out.next ((Grow.of_below ((Below.refl _ w3).drew)).trans hg4)
      have hc4 : w4.cell? ⟨b7, 0, none⟩ = some (.slice Av (chkN n) cv) := by rw [cell_of_row w4 b7 0 _ _ _ hI4.q7]; rfl
      have HRp := Lib.hid (replaceR_any (l := (List.range (chkN n)).map (pcT l)) (B := w4.heap.size) (c := cv) hT HX3.out.2 (by rw [List.length_map, List.length_range]; exact Sees.of_own hI4.own) (Nat.le_refl _) (by rw [List.length_map, List.length_range]; exact HD.out.2.2.1)
        (fun _ bk o e hb => hI4.nv bk (by rw [e]; rfl) hb) HJ.out.1 (Int.le_refl i) (by rw [HX3.out.1]; exact HJ.out.2) (by rw [List.length_map, List.length_range]; exact HS.out.2.2.2.2.1))
      rw [List.length_map, List.length_range, HX3.out.1] at HRp
      have HI4 := Lib.hid hI4
      clear hT hg4 hI4 HT
      refine hK.out _ _ hc4 (fun _ => ?_)
      clear hK K hc4
      try simp only [Act.put, List.setIfInBounds_toArray, List.set_cons_zero, List.set_cons_succ]
      refine wpAnyH_ready (rs := [5]) (by kernel_rfl) (by simp) ?_
      refine AllReadyH.cons rfl (fun K hK => ?_) AllReadyH.nil
      simp only [List.getElem_toArray, List.getElem_cons_succ, List.getElem_cons_zero]
      go_simp
      refine HRp.out.mono ?_
      clear HRp
      rintro e w5 ⟨H5, v5, rfl, hR5, hg5⟩
      have hI5 := HI4.out.next hg5
      refine hK.out _ _ (by rw [cell_of_row w5 b7 0 _ _ _ hI5.q7]; rfl) (fun _ => ?_)
      clear hK K
      try simp only [Act.put, List.setIfInBounds_toArray, List.set_cons_zero, List.set_cons_succ]
      refine wpAnyH_done (by kernel_rfl) ?_ _
      have hc6 : w5.cell? ⟨b6, 0, none⟩ = some (.int .i64 0) := by rw [cell_of_row w5 b6 0 _ _ _ hI5.q6]; rfl
      have hf6 : w5.frozen? ⟨b6, 0, none⟩ = false := frozen_of_row w5 b6 0 _ _ hI5.q6
      have HI5 := Lib.hid (And.intro hI5 hR5)
      clear hI5 hR5 hg5
      go_wp2_with fail
      rw [HX.out.1, HX.out.2]
      have hI := HI5.out.1
      have hlD := (Array.getElem?_eq_some_iff.1 hI.qD).1
      have hD6 : D ≠ b6 := fun e => by have h1 := hI.qD; rw [e, hI.q6] at h1; cases h1
      have hs1 : Step (fun k => k = b6 ∨ k = D) w5 (w5.setCell ⟨b6, 0, none⟩ (.int .i64 0)) := (Step.refl _ _).setCell (p := ⟨b6, 0, none⟩) (.inl (.inl rfl)) _
      refine leaves_steps (G := fun k => k = D) _ _ ⟨by simp, fun d hd => by simp at hd; subst hd; exact ⟨D, rfl, Nat.zero_le _, (Below.heap_setCell _ _ _ _ hD6).trans hI.qD⟩⟩ (fun d hd k hk => by simp at hd; subst hd; injection hk with hk; exact hk.symm) (fun w' hs => ?_)
      have hs2 : Step (fun k => k = b6 ∨ k = D) w5 w' := hs1.trans (hs.mono (fun _ _ h => .inr h))
      have hq6 : w'.heap[b6]? = some (.cells #[.int .i64 0] 30) := (hs.block b6 (by simpa using (Array.getElem?_eq_some_iff.1 hI.q6).1) (fun e => hD6 e.symm)).trans (by rw [heap_setCell_same w5 b6 0 _ _ _ hI.q6]; rfl)
      have hc : w'.cell? ⟨b6, 0, none⟩ = some (.int .i64 0) := by rw [cell_of_row w' b6 0 _ _ _ hq6]; rfl
      have h67 := H0.out.2.2.2.1
      refine ⟨.int .i64 0, ?_, H5, rfl, (HI5.out.2.step hs2 (fun k hk e => ?_)), (((Grow.of_below HD.out.2.1).trans hI.grow).past hs2 (fun k hk => ?_))⟩
      · simp [results, Try.f13, go_sem, hc]
      · rcases e with e | e
        · exact hI.n6 (e ▸ hk)
        · exact hI.nD (e ▸ hk)
      · have := HD.out.2.2.2.2
        rcases hk with e | e <;> omega
    · rw [hb]
      have HX := Lib.hid (show insE R i l = 5 ∧ insR R i l = R by
        have hE := HD.out.2.2.2.1
        rw [hb] at hE
        refine ⟨hE, ?_⟩
        unfold insR
        rw [if_neg (by rw [hE]; decide)])
      have hc6 : w2.cell? ⟨b6, 0, none⟩ = some (.int .i64 0) := by rw [cell_of_row w2 b6 0 _ _ _ hI2.q6]; rfl
      have hf6 : w2.frozen? ⟨b6, 0, none⟩ = false := frozen_of_row w2 b6 0 _ _ hI2.q6
      have HI5 := Lib.hid (And.intro hI2 hR2)
      clear hb hI2 hR2 hg2
      go_wp2_with fail
      rw [HX.out.1, HX.out.2]
      have hI := HI5.out.1
      have hlD := (Array.getElem?_eq_some_iff.1 hI.qD).1
      have hD6 : D ≠ b6 := fun e => by have h1 := hI.qD; rw [e, hI.q6] at h1; cases h1
      have hs1 : Step (fun k => k = b6 ∨ k = D) w2 (w2.setCell ⟨b6, 0, none⟩ (.int .i64 5)) := (Step.refl _ _).setCell (p := ⟨b6, 0, none⟩) (.inl (.inl rfl)) _
      refine leaves_steps (G := fun k => k = D) _ _ ⟨by simp, fun d hd => by simp at hd; subst hd; exact ⟨D, rfl, Nat.zero_le _, (Below.heap_setCell _ _ _ _ hD6).trans hI.qD⟩⟩ (fun d hd k hk => by simp at hd; subst hd; injection hk with hk; exact hk.symm) (fun w' hs => ?_)
      have hs2 : Step (fun k => k = b6 ∨ k = D) w2 w' := hs1.trans (hs.mono (fun _ _ h => .inr h))
      have hq6 : w'.heap[b6]? = some (.cells #[.int .i64 5] 30) := (hs.block b6 (by simpa using (Array.getElem?_eq_some_iff.1 hI.q6).1) (fun e => hD6 e.symm)).trans (by rw [heap_setCell_same w2 b6 0 _ _ _ hI.q6]; rfl)
      have hc : w'.cell? ⟨b6, 0, none⟩ = some (.int .i64 5) := by rw [cell_of_row w' b6 0 _ _ _ hq6]; rfl
      have h67 := H0.out.2.2.2.1
      refine ⟨.int .i64 5, ?_, H2, rfl, (HI5.out.2.step hs2 (fun k hk e => ?_)).more (by omega), (((Grow.of_below HD.out.2.1).trans hI.grow).past hs2 (fun k hk => ?_))⟩
      · simp [results, Try.f13, go_sem, hc]
      · rcases e with e | e
        · exact hI.n6 (e ▸ hk)
        · exact hI.nD (e ▸ hk)
      · have := HD.out.2.2.2.2
        rcases hk with e | e <;> omega

end Go.Proofs.Ytmfkdaannjibfaa

namespace Go.Proofs.Ytmfkdaannjibfaa
open Go.RowKit

def roI (H : Nat → Prop) (g : Nat) (R : List Int) (N : Nat) : Item := ⟨H, fun w => RoS w H g R N, fun _ _ _ h hs hG => h.step hs hG, fun _ h => h.lt⟩
/-- A rope whose tree is known. -/
def roT (H : Nat → Prop) (g gT : Nat) (X : List Th) (N : Nat) : Item := ⟨H, fun w => ObT w H g gT X N, fun _ _ _ h hs hG => h.step hs hG, fun _ h => h.obW.lt⟩
/-- Runes of one's own. -/
def ruI (v : Value) (base : Nat) (R : List Int) : Item := rowI base 21 1 v R.length (R.map r32)
/-- Chunks of one's own. -/
def chI (v : Value) (base : Nat) (xs : List Th) : Item := rowI base 58 33 v xs.length (rowT xs)

section
variable {w0 w w' : World} {H H' : Nat → Prop} {g gT N N' : Nat} {R R' : List Int} {X : List Th} {A B : List Item}

theorem newR_star (h : Star w0 A w) : Calls Try.prog 9 #[] w fun e w' => ∃ g, e = .returned (.pointer (some ⟨g, 0, none⟩)) ∧ Star w0 (roI (fun k => k = g) g [] 0 :: A) w' :=
  (newR_any w).mono fun e w' ⟨g, he, hS, hb, hg⟩ => ⟨g, he, h.add hb hS (fun k hk => by have hk : k = g := hk; omega)⟩

/-- A call that hands back v and leaves this rope. -/
theorem ro_star {f : FuncId} {args : Array Value} {v : Value} (h : Star w0 (A ++ roI H g R N :: B) w) (hc : Calls Try.prog f args w fun e w' => RoR w H g R' N' v e w') : Calls Try.prog f args w fun e w' => ∃ H', e = .returned v ∧ Star w0 (A ++ roI H' g R' N' :: B) w' :=
  hc.mono fun _ _ ⟨H', he, hS, hg⟩ => ⟨H', he, h.update (I' := roI H' g R' N') hS hg⟩
theorem ro_more (h : Star w0 (A ++ roI H g R N :: B) w) (hN : N ≤ N') : Star w0 (A ++ roI H g R N' :: B) w :=
  h.update (I' := roI H g R N') ((show RoS w H g R N from h.get).more hN) (Grow.refl _ _)
theorem len_star (h : Star w0 (A ++ roI H g R N :: B) w) : Calls Try.prog 11 #[.pointer (some ⟨g, 0, none⟩)] w fun e w' => ∃ H', e = .returned (.int .i64 R.length) ∧ Star w0 (A ++ roI H' g R N :: B) w' := ro_star h (lenR_any h.get)
theorem newlines_star (h : Star w0 (A ++ roI H g R N :: B) w) : Calls Try.prog 14 #[.pointer (some ⟨g, 0, none⟩)] w fun e w' => ∃ H', e = .returned (.int .i64 (nls R)) ∧ Star w0 (A ++ roI H' g R N :: B) w' := ro_star h (newlinesR_any h.get)
theorem at_star (h : Star w0 (A ++ roI H g R N :: B) w) (i : Int) (hi : -9223372036854775808 ≤ i ∧ i ≤ 9223372036854775807) : Calls Try.prog 17 #[.pointer (some ⟨g, 0, none⟩), .int .i64 i] w fun e w' => ∃ H', e = .returned (atR R i) ∧ Star w0 (A ++ roI H' g R N :: B) w' := ro_star h (atR_any h.get i hi)
theorem line_star (h : Star w0 (A ++ roI H g R N :: B) w) (i : Int) : Calls Try.prog 16 #[.pointer (some ⟨g, 0, none⟩), .int .i64 i] w fun e w' => ∃ H', e = .returned (lineV R i) ∧ Star w0 (A ++ roI H' g R N :: B) w' := ro_star h (lineOf_any h.get i)
theorem off_star (h : Star w0 (A ++ roI H g R N :: B) w) (i : Int) : Calls Try.prog 15 #[.pointer (some ⟨g, 0, none⟩), .int .i64 i] w fun e w' => ∃ H', e = .returned (offV R i) ∧ Star w0 (A ++ roI H' g R N :: B) w' := ro_star h (offsetOf_any h.get i)
theorem del_star (h : Star w0 (A ++ roI H g R N :: B) w) (hN : N ≤ 79000) (i j : Int) : Calls Try.prog 12 #[.pointer (some ⟨g, 0, none⟩), .int .i64 i, .int .i64 j] w fun e w' => ∃ H', e = .returned (.int .i64 (betR R i j)) ∧ Star w0 (A ++ roI H' g (delR R i j) (N + 2) :: B) w' := ro_star h (deleteR_any h.get hN i j)
theorem ins_star (h : Star w0 (A ++ roI H g R N :: B) w) {n c : Nat} {Aa : Option Addr} {l : List Int} (hs : Sees w w.heap.size 1 Aa n (l.map r32)) (hc : n ≤ c) (hn : n ≤ 10000) (hN : N + chkN n ≤ 79000) (i : Int) :
    Calls Try.prog 13 #[.pointer (some ⟨g, 0, none⟩), .int .i64 i, .slice Aa n c] w fun e w' => ∃ H', e = .returned (.int .i64 (insE R i l)) ∧ Star w0 (A ++ roI H' g (insR R i l) (N + chkN n + 2) :: B) w' := ro_star h (insertR_any h.get hs hc hn hN i)
/-- Slice: a new row beside all. -/
theorem slice_star (h : Star w0 (A ++ roI H g R N :: B) w) (i j : Int) : Calls Try.prog 18 #[.pointer (some ⟨g, 0, none⟩), .int .i64 i, .int .i64 j] w fun e w' => ∃ H' v, e = .returned (.tuple #[v, .int .i64 (betR R i j)]) ∧ Star w0 (ruI v w.heap.size (cutR R i j) :: (A ++ roI H' g R N :: B)) w' :=
  (sliceR_any h.get i j).mono fun _ _ ⟨v, H', he, hS, hg, ho, hf⟩ => ⟨H', v, he, h.update_add (I' := roI H' g R N) (K := ruI v w.heap.size (cutR R i j)) hS hg ho (fun _ hk => own_base ho hk) hf⟩

theorem tree_star (h : Star w0 (A ++ roI H g R N :: B) w) : Calls Try.prog 25 #[.pointer (some ⟨g, 0, none⟩)] w fun e w' => ∃ H' gT X, e = .returned (.pointer (some ⟨gT, 0, none⟩)) ∧ flat X = R ∧ X.length ≤ N ∧ Star w0 (A ++ roT H' g gT X N :: B) w' := by
  obtain ⟨X, hX, hR, hl⟩ := (show RoS w H g R N from h.get)
  exact (tree_any hX).mono fun _ _ ⟨H', gT, he, hT, hg⟩ => ⟨H', gT, X, he, hR, hl, h.update (I' := roT H' g gT X N) hT hg⟩

set_option maxHeartbeats 1000000 in
theorem treeT_any (h : ObT w H g gT X N) : Calls Try.prog 25 #[.pointer (some ⟨g, 0, none⟩)] w fun e w' => e = .returned (.pointer (some ⟨gT, 0, none⟩)) ∧ Below w.heap.size w w' := by
  obtain ⟨hq, hrest⟩ := h
  have hc : w.cell? ⟨g, 0, none⟩ = some (.pointer (some ⟨gT, 0, none⟩)) := by rw [cell_of_row w g 0 _ _ _ hq]; rfl
  clear hrest
  go_enter Try.func25, Try.ntmps25
  go_wp2_with fail
  go_ret
  exact ⟨rfl, Below.refl _ _⟩
set_option maxHeartbeats 1000000 in
theorem lenT_any (h : ObT w H g gT X N) : Calls Try.prog 11 #[.pointer (some ⟨g, 0, none⟩)] w fun e w' => e = .returned (.int .i64 (flat X).length) ∧ Below w.heap.size w w' := by
  have HT := Lib.hid (treeT_any h)
  have HT1 := Lib.hid h
  have HV := Lib.hid (flatR_len X)
  clear h
  go_enter Try.func11, Try.ntmps11
  go_wp2_with fail
  refine HT.out.mono ?_
  rintro e w1 ⟨rfl, hb1⟩
  obtain ⟨-, G, ⟨F, gA, T, s, fr, hG, hS, hX, hN⟩, -, -⟩ := HT1.out.below hb1
  have HS := Lib.hid (size_any hS.tw hS.holds)
  rw [Tr.z_things, hX, ← HV.out] at HS
  have HB := Lib.hid hb1
  clear hG hS hX hN hb1 HT
  go_wp2_with fail
  refine HS.out.mono ?_
  rintro e w2 ⟨rfl, hb2⟩
  have HR := Lib.hid (HB.out.trans (hb2.mono HB.out.size))
  clear hb2
  go_wp2_with fail
  go_ret
  exact ⟨rfl, HR.out⟩
theorem treeT_star (h : Star w0 (A ++ roT H g gT X N :: B) w) : Calls Try.prog 25 #[.pointer (some ⟨g, 0, none⟩)] w fun e w' => e = .returned (.pointer (some ⟨gT, 0, none⟩)) ∧ Star w0 (A ++ roT H g gT X N :: B) w' :=
  (treeT_any h.get).mono fun _ _ ⟨he, hb⟩ => ⟨he, h.later hb⟩
theorem lenT_star (h : Star w0 (A ++ roT H g gT X N :: B) w) : Calls Try.prog 11 #[.pointer (some ⟨g, 0, none⟩)] w fun e w' => e = .returned (.int .i64 (flat X).length) ∧ Star w0 (A ++ roT H g gT X N :: B) w' :=
  (lenT_any h.get).mono fun _ _ ⟨he, hb⟩ => ⟨he, h.later hb⟩
theorem overC_star {L : List Item} (h : Star w0 L w) (gT : Nat) (i j : Int) : Calls Try.prog 39 #[.pointer (some ⟨gT, 0, none⟩), .int .i64 i, .int .i64 j] w fun e w' => ∃ b, e = .returned (overF b) ∧ OverAt w' gT i j b ∧ Star w0 L w' :=
  (overF_any gT i j w).mono fun _ _ ⟨b, he, ho, hb, _⟩ => ⟨b, he, ho, h.later hb⟩
/-- Collect of the parts of a tree. -/
theorem collect_star (h : Star w0 (A ++ roT H g gT X N :: B) w) {i j : Int} {b : Nat} (hb : OverAt w gT i j b) (h0 : 0 ≤ i) (h1 : i ≤ 1000000000000) (h2 : -1000000000000 ≤ j) (h3 : j ≤ 1000000000000) :
    Calls Try.prog 41 #[overF b] w fun e w' => ∃ v, e = .returned v ∧ Star w0 (chI v w.heap.size (overT X i j) :: (A ++ roT H g gT X N :: B)) w' := by
  obtain ⟨-, G, hX, -⟩ := (show ObT w H g gT X N from h.get)
  exact (collect_any hX hb h0 h1 h2 h3).mono fun _ _ ⟨v, he, ho, hb⟩ => ⟨v, he, h.add hb ho (fun _ hk => own_base ho hk)⟩
/-- Replace, by chunks of one's own. -/
theorem repl_star {v : Value} {base : Nat} {xs : List Th} (h : Star w0 (chI v base xs :: (A ++ roT H g gT X N :: B)) w) (hXN : X.length ≤ N) {i j : Int} (h0 : 0 ≤ i) (h1 : i ≤ j) (h2 : j ≤ (flat X).length) (hN : N + xs.length ≤ 79000) :
    Calls Try.prog 28 #[.pointer (some ⟨gT, 0, none⟩), .int .i64 i, .int .i64 j, v] w fun e w' => ∃ H' u, e = .returned u ∧ Star w0 (A ++ roI H' g ((flat X).take i.toNat ++ flat xs ++ (flat X).drop j.toNat) (N + xs.length + 2) :: B) w' := by
  have ho : OwnT w base v xs := h.all _ (List.mem_cons_self)
  have ha : ∀ k, v.ownBlock = some k → ¬ H k := fun k hk hH => h.apart.1 (roT H g gT X N) (by simp) k hk hH
  have hs : Star w0 (A ++ roT H g gT X N :: B) w := h.drop (A := [])
  obtain ⟨Av, c, rfl, hc, -⟩ := OwnT.shape ho
  exact (replaceR_any hs.get hXN (Sees.of_own ho) (Nat.le_refl _) hc (fun _ b o e => ha b (by rw [e]; rfl)) h0 h1 h2 hN).mono fun _ _ ⟨H', u, he, hR, hg⟩ => ⟨H', u, he, hs.update (I := roT H g gT X N) (I' := roI H' g _ _) hR hg⟩
/-- Replace, by nothing. -/
theorem cut_star (h : Star w0 (A ++ roT H g gT X N :: B) w) (hXN : X.length ≤ N) {i j : Int} (h0 : 0 ≤ i) (h1 : i ≤ j) (h2 : j ≤ (flat X).length) (hN : N ≤ 79000) :
    Calls Try.prog 28 #[.pointer (some ⟨gT, 0, none⟩), .int .i64 i, .int .i64 j, .slice none 0 0] w fun e w' => ∃ H' u, e = .returned u ∧ Star w0 (A ++ roI H' g ((flat X).take i.toNat ++ (flat X).drop j.toNat) (N + 2) :: B) w' := by
  refine (replaceR_any (l := []) (A := none) (c := 0) (B := 0) h.get hXN (Sees.nil_ _ _ _ _) (Nat.zero_le _) (Nat.le_refl _) (fun h => absurd h (by decide)) h0 h1 h2 (by simpa using hN)).mono ?_
  rintro e w' ⟨H', u, he, hR, hg⟩
  have e1 : (flat X).take i.toNat ++ flat [] ++ (flat X).drop j.toNat = (flat X).take i.toNat ++ (flat X).drop j.toNat := by rw [flat_nil, List.append_nil]
  rw [e1] at hR
  exact ⟨H', u, he, h.update (I := roT H g gT X N) (I' := roI H' g _ _) hR hg⟩
end

section
variable {w0 w : World} {H : Nat → Prop} {g N : Nat} {R : List Int} {A B : List Item}
/-- What Split leaves. -/
def SplitPost (w0 : World) (g N : Nat) (R : List Int) (i : Int) (A B : List Item) (e : Ending) (w' : World) : Prop :=
  (betR R i i = 0 ∧ ∃ H' Ho go, e = .returned (.tuple #[.pointer (some ⟨go, 0, none⟩), .int .i64 0]) ∧ Star w0 (roI Ho go (R.drop i.toNat) (N + 2) :: (A ++ roI H' g (R.take i.toNat) (N + 2) :: B)) w') ∨
  (betR R i i = 5 ∧ ∃ H', e = .returned (.tuple #[.pointer none, .int .i64 5]) ∧ Star w0 (A ++ roI H' g R N :: B) w')

set_option maxRecDepth 100000 in
set_option maxHeartbeats 2000000 in
theorem split_star (h : Star w0 (A ++ roI H g R N :: B) w) (hN : N ≤ 78000) (i : Int) : Calls Try.prog 20 #[.pointer (some ⟨g, 0, none⟩), .int .i64 i] w fun e w' => SplitPost w0 g N R i A B e w' := by
  have HB := Lib.hid (ro_star h (betweenR_any h.get i i))
  have HRl := Lib.hid (show R.length ≤ 3200000 from (show RoS w H g R N from h.get).len.1)
  clear h
  rcases betR_or R i i with hb | hb
  · obtain ⟨i0, -, i2⟩ := betR_zero hb
    have HBB := Lib.hid (And.intro hb (And.intro i0 i2))
    rw [hb] at HB
    clear hb i0 i2
    go_enter Try.func20, Try.ntmps20
    go_wp2_with fail
    refine HB.out.mono ?_
    clear HB
    rintro e w1 ⟨H1, rfl, S1⟩
    have HN := Lib.hid (newR_star S1)
    clear S1
    go_wp2_with fail
    refine HN.out.mono ?_
    clear HN
    rintro e w2 ⟨go, rfl, S2⟩
    have HT := Lib.hid (tree_star (A := []) S2)
    clear S2
    go_wp2_with fail
    refine HT.out.mono ?_
    clear HT
    rintro e w3 ⟨Ho, gO, Xo, rfl, -, hX0, S3⟩
    obtain rfl : Xo = [] := List.eq_nil_of_length_eq_zero (by omega)
    have HT := Lib.hid (tree_star (A := roT Ho go gO [] 0 :: A) S3)
    clear S3 hX0
    go_wp2_with fail
    refine HT.out.mono ?_
    clear HT
    rintro e w4 ⟨H4, gT, X, rfl, hXR, hXN, S4⟩
    have HXX := Lib.hid (And.intro hXR hXN)
    have HL := Lib.hid (lenT_star (A := roT Ho go gO [] 0 :: A) S4)
    rw [hXR] at HL
    clear S4 hXR hXN
    go_wp2_with fail
    refine HL.out.mono ?_
    clear HL
    rintro e w5 ⟨rfl, S5⟩
    have HO := Lib.hid (overC_star S5 gT i R.length)
    clear S5
    go_wp2_with fail
    refine HO.out.mono ?_
    clear HO
    rintro e w6 ⟨b, rfl, hOv, S6⟩
    have hi := HBB.out.2
    have hRl := HRl.out
    have HC := Lib.hid (collect_star (A := roT Ho go gO [] 0 :: A) S6 hOv hi.1 (by omega) (by omega) (by omega))
    clear S6 hOv hi hRl
    go_wp2_with fail
    refine HC.out.mono ?_
    clear HC
    rintro e w7 ⟨v, rfl, S7⟩
    obtain ⟨xs, hxs⟩ : ∃ xs, overT X i R.length = xs := ⟨_, rfl⟩
    have hxf : flat xs = R.drop i.toNat := by rw [← hxs, flat_over, HXX.out.1, show (R.length : Int).toNat = R.length by omega, List.take_length]
    have hxl : xs.length ≤ N := by
      rw [← hxs]
      refine Nat.le_trans (overT_ok X i R.length (fun x _ => okT_all x)).2 HXX.out.2
    rw [hxs] at S7
    have HXS := Lib.hid (And.intro hxf hxl)
    have HRp := Lib.hid (repl_star (A := []) S7 (Nat.le_refl 0) (Int.le_refl 0) (Int.le_refl 0) (by rw [flat_nil]; exact Int.le_refl 0) (by omega))
    rw [flat_nil, hxf] at HRp
    obtain ⟨Av, cv, rfl, -, -⟩ := OwnT.shape (show OwnT w7 w6.heap.size v xs from S7.all _ (List.mem_cons_self))
    clear S7 hxs hxf hxl
    go_wp2_with fail
    refine HRp.out.mono ?_
    clear HRp
    rintro e w8 ⟨H8, u8, rfl, S8⟩
    have HT := Lib.hid (treeT_star (A := roI H8 go _ _ :: A) S8)
    clear S8
    go_wp2_with fail
    refine HT.out.mono ?_
    clear HT
    rintro e w9 ⟨rfl, S9⟩
    have HL := Lib.hid (lenT_star (A := roI H8 go _ _ :: A) S9)
    rw [HXX.out.1] at HL
    clear S9
    go_wp2_with fail
    refine HL.out.mono ?_
    clear HL
    rintro e wa ⟨rfl, Sa⟩
    have HK := Lib.hid (cut_star (A := roI H8 go _ _ :: A) Sa HXX.out.2 HBB.out.2.1 HBB.out.2.2 (by rw [HXX.out.1]; exact Int.le_refl _) (by omega))
    rw [HXX.out.1] at HK
    clear Sa
    go_wp2_with fail
    refine HK.out.mono ?_
    clear HK
    rintro e wb ⟨Hb, ub, rfl, Sb⟩
    have HF := Lib.hid Sb
    clear Sb
    go_wp2_with fail
    go_ret2
    refine .inl ⟨HBB.out.1, Hb, H8, go, rfl, ?_⟩
    have hF := HF.out
    rw [show (R.length : Int).toNat = R.length by omega, List.drop_length, List.append_nil] at hF
    have hF2 : Star w0 ([] ++ roI H8 go (R.drop i.toNat) (0 + xs.length + 2) :: (A ++ roI Hb g (R.take i.toNat) (N + 2) :: B)) wb := by
      simpa using hF
    exact ro_more (A := []) hF2 (by have := HXS.out.2; omega)
  · have HBB := Lib.hid hb
    rw [hb] at HB
    clear hb
    go_enter Try.func20, Try.ntmps20
    go_wp2_with fail
    refine HB.out.mono ?_
    clear HB
    rintro e w1 ⟨H1, rfl, S1⟩
    have HF := Lib.hid S1
    clear S1
    go_wp2_with fail
    go_ret2
    exact .inr ⟨HBB.out, H1, rfl, HF.out⟩

set_option maxRecDepth 100000 in
set_option maxHeartbeats 2000000 in
/-- Concat of another rope. -/
theorem concat_star {Ho : Nat → Prop} {go No : Nat} {Ro : List Int} (h : Star w0 (roI H g R N :: roI Ho go Ro No :: B) w) (hN : N + No ≤ 78000) : Calls Try.prog 21 #[.pointer (some ⟨g, 0, none⟩), .pointer (some ⟨go, 0, none⟩)] w fun e w' => ∃ H' Ho', e = .returned (.int .i64 0) ∧ Star w0 (roI H' g (R ++ Ro) (N + No + 2) :: roI Ho' go Ro No :: B) w' := by
  have hl1 : R.length ≤ 3200000 := (show RoS w H g R N from h.get (A := [])).len.1
  have hl2 : Ro.length ≤ 3200000 := (show RoS w Ho go Ro No from h.get (A := [roI H g R N])).len.1
  have HL := Lib.hid (len_star (A := [roI H g R N]) h)
  have HRl := Lib.hid (And.intro hl1 hl2)
  have g1 : IntKind.i64.wrap (536870912 - (R.length : Int)) = 536870912 - (R.length : Int) := IntWalk.i64_in _ (by omega)
  have hlt : ¬ 536870912 - (R.length : Int) < (Ro.length : Int) := by omega
  clear h hl1 hl2
  go_enter Try.func21, Try.ntmps21
  go_wp2_with fail
  refine HL.out.mono ?_
  clear HL
  rintro e w1 ⟨H1, rfl, S1⟩
  have HL := Lib.hid (len_star (A := []) S1)
  clear S1
  go_wp2_with fail
  refine HL.out.mono ?_
  clear HL
  rintro e w2 ⟨H2, rfl, S2⟩
  have HT := Lib.hid (tree_star (A := []) S2)
  clear S2
  go_wp2_with fail
  refine HT.out.mono ?_
  clear HT
  rintro e w3 ⟨H3, gT, X, rfl, hXR, hXN, S3⟩
  have HXX := Lib.hid (And.intro hXR hXN)
  have HL := Lib.hid (lenT_star (A := []) S3)
  rw [hXR] at HL
  clear S3 hXR hXN
  go_wp2_with fail
  refine HL.out.mono ?_
  clear HL
  rintro e w4 ⟨rfl, S4⟩
  have HL := Lib.hid (lenT_star (A := []) S4)
  rw [HXX.out.1] at HL
  clear S4
  go_wp2_with fail
  refine HL.out.mono ?_
  clear HL
  rintro e w5 ⟨rfl, S5⟩
  have HT := Lib.hid (tree_star (A := [roT H3 g gT X N]) S5)
  clear S5
  go_wp2_with fail
  refine HT.out.mono ?_
  clear HT
  rintro e w6 ⟨H6, gO, Y, rfl, hYR, hYN, S6⟩
  have HYY := Lib.hid (And.intro hYR hYN)
  have HL := Lib.hid (lenT_star (A := [roT H3 g gT X N]) S6)
  rw [hYR] at HL
  clear S6 hYR hYN
  go_wp2_with fail
  refine HL.out.mono ?_
  clear HL
  rintro e w7 ⟨rfl, S7⟩
  have HO := Lib.hid (overC_star S7 gO 0 Ro.length)
  clear S7
  go_wp2_with fail
  refine HO.out.mono ?_
  clear HO
  rintro e w8 ⟨b, rfl, hOv, S8⟩
  have hRl := HRl.out
  have HC := Lib.hid (collect_star (A := [roT H3 g gT X N]) S8 hOv (Int.le_refl 0) (by omega) (by omega) (by omega))
  clear S8 hOv hRl
  go_wp2_with fail
  refine HC.out.mono ?_
  clear HC
  rintro e w9 ⟨v, rfl, S9⟩
  obtain ⟨xs, hxs⟩ : ∃ xs, overT Y 0 Ro.length = xs := ⟨_, rfl⟩
  have hxf : flat xs = Ro := by rw [← hxs, flat_over, HYY.out.1, show (Ro.length : Int).toNat = Ro.length by omega, List.take_length]; rfl
  have hxl : xs.length ≤ No := by
    rw [← hxs]
    refine Nat.le_trans (overT_ok Y 0 Ro.length (fun x _ => okT_all x)).2 HYY.out.2
  rw [hxs] at S9
  have HXS := Lib.hid hxl
  have HRp := Lib.hid (repl_star (A := []) S9 HXX.out.2 (Int.natCast_nonneg R.length) (Int.le_refl _) (by rw [HXX.out.1]; exact Int.le_refl _) (by omega))
  rw [HXX.out.1, hxf] at HRp
  obtain ⟨Av, cv, rfl, -, -⟩ := OwnT.shape (show OwnT w9 w8.heap.size v xs from S9.all _ (List.mem_cons_self))
  clear S9 hxs hxf hxl
  go_wp2_with fail
  refine HRp.out.mono ?_
  clear HRp
  rintro e wa ⟨Ha, ua, rfl, Sa⟩
  have HF := Lib.hid Sa
  clear Sa
  go_wp2_with fail
  go_ret
  have hF := HF.out
  rw [show (R.length : Int).toNat = R.length by omega, List.take_length, List.drop_length, List.append_nil] at hF
  have h2 := ro_more (A := []) hF (N' := N + No + 2) (by have := HXS.out; omega)
  have h3 : RoS wa H6 go Ro No := ⟨Y, (show ObT wa H6 go gO Y No from h2.get (A := [roI Ha g (R ++ Ro) (N + No + 2)])).obW, HYY.out.1, HYY.out.2⟩
  exact ⟨Ha, H6, rfl, Star.update (A := [roI Ha g (R ++ Ro) (N + No + 2)]) (I' := roI H6 go Ro No) h2 h3 (Grow.refl _ _)⟩
end

end Go.Proofs.Ytmfkdaannjibfaa

namespace Go.Proofs.Ytmfkdaannjibfaa
open Go.RowKit

set_option maxRecDepth 100000 in
set_option maxHeartbeats 2000000 in
theorem known_any (w : World) : Calls Try.prog 10 #[] w fun e w' => e = .returned (.bool true) ∧ Below w.heap.size w w' := by
  have HN := Lib.hid (newR_star (Star.nil_ w))
  have v1 : insE [] 0 [97, 99] = 0 := by decide
  have v2 : insR [] 0 [97, 99] = [97, 99] := by decide
  have v3 : insE [97, 99] 1 [98, 10] = 0 := by decide
  have v4 : insR [97, 99] 1 [98, 10] = [97, 98, 10, 99] := by decide
  have v5 : nls [97, 98, 10, 99] = 1 := by decide
  have v6 : lineV [97, 98, 10, 99] 2 = .tuple #[.int .i64 0, .int .i64 0] := by rfl
  have v7 : lineV [97, 98, 10, 99] 3 = .tuple #[.int .i64 1, .int .i64 0] := by rfl
  have v8 : offV [97, 98, 10, 99] 1 = .tuple #[.int .i64 3, .int .i64 0] := by rfl
  have v9 : offV [97, 98, 10, 99] 2 = .tuple #[.int .i64 0, .int .i64 5] := by rfl
  have va : betR [97, 98, 10, 99] 1 3 = 0 := by decide
  have vb : delR [97, 98, 10, 99] 1 3 = [97, 99] := by decide
  have HV := Lib.hid (And.intro v1 (And.intro v2 (And.intro v3 (And.intro v4 (And.intro v5 (And.intro v6 (And.intro v7 (And.intro v8 (And.intro v9 (And.intro va vb))))))))))
  clear v1 v2 v3 v4 v5 v6 v7 v8 v9 va vb
  go_enter Try.func10, Try.ntmps10
  go_wp2_with fail
  refine HN.out.mono ?_
  clear HN
  rintro e w1 ⟨g, rfl, S1⟩
  obtain ⟨b2, hb2⟩ : ∃ v, w1.heap.size = v := ⟨_, rfl⟩
  obtain ⟨w2, hw2⟩ : ∃ v, w1.alloc (.cells #[.int .i32 97, .int .i32 99] 21) = v := ⟨_, rfl⟩
  have S2 := S1.later (w' := w2) (by rw [← hw2]; exact (Below.refl _ _).alloc (Nat.le_refl _) _)
  have hs2 : Sees w2 w2.heap.size 1 (some ⟨b2, 0, none⟩) 2 [.int .i32 97, .int .i32 99] := by
    rw [← hw2, ← hb2]
    have h := Sees.lit w1 [.int .i32 97, .int .i32 99] 21
    exact h.up (by rw [World.size_alloc]; exact Nat.le_refl _)
  have HC := Lib.hid (ins_star (A := []) S2 (l := [97, 99]) (c := 2) hs2 (Nat.le_refl _) (by decide) (by decide) 0)
  rw [HV.out.1, HV.out.2.1] at HC
  clear S1 S2 hs2
  go_wp2_with fail
  refine HC.out.mono ?_
  clear HC hb2 hw2
  rintro e w3 ⟨H3, rfl, S3⟩
  obtain ⟨b4, hb4⟩ : ∃ v, w3.heap.size = v := ⟨_, rfl⟩
  obtain ⟨w4, hw4⟩ : ∃ v, w3.alloc (.cells #[.int .i32 98, .int .i32 10] 21) = v := ⟨_, rfl⟩
  have S4 := S3.later (w' := w4) (by rw [← hw4]; exact (Below.refl _ _).alloc (Nat.le_refl _) _)
  have hs4 : Sees w4 w4.heap.size 1 (some ⟨b4, 0, none⟩) 2 [.int .i32 98, .int .i32 10] := by
    rw [← hw4, ← hb4]
    have h := Sees.lit w3 [.int .i32 98, .int .i32 10] 21
    exact h.up (by rw [World.size_alloc]; exact Nat.le_refl _)
  have HC := Lib.hid (ins_star (A := []) S4 (l := [98, 10]) (c := 2) hs4 (Nat.le_refl _) (by decide) (by decide) 1)
  rw [HV.out.2.2.1, HV.out.2.2.2.1] at HC
  clear S3 S4 hs4
  go_wp2_with fail
  refine HC.out.mono ?_
  clear HC hb4 hw4
  rintro e w5 ⟨H5, rfl, S5⟩
  have HC := Lib.hid (len_star (A := []) S5)

  clear S5
  go_wp2_with fail
  refine HC.out.mono ?_
  clear HC
  rintro e w6 ⟨H6, rfl, S6⟩
  have HC := Lib.hid (newlines_star (A := []) S6)
  rw [HV.out.2.2.2.2.1] at HC
  clear S6
  go_wp2_with fail
  refine HC.out.mono ?_
  clear HC
  rintro e w7 ⟨H7, rfl, S7⟩
  have HC := Lib.hid (line_star (A := []) S7 2)
  rw [HV.out.2.2.2.2.2.1] at HC
  clear S7
  go_wp2_with fail
  refine HC.out.mono ?_
  clear HC
  rintro e w8 ⟨H8, rfl, S8⟩
  have HC := Lib.hid (line_star (A := []) S8 3)
  rw [HV.out.2.2.2.2.2.2.1] at HC
  clear S8
  go_wp2_with fail
  refine HC.out.mono ?_
  clear HC
  rintro e w9 ⟨H9, rfl, S9⟩
  have HC := Lib.hid (off_star (A := []) S9 1)
  rw [HV.out.2.2.2.2.2.2.2.1] at HC
  clear S9
  go_wp2_with fail
  refine HC.out.mono ?_
  clear HC
  rintro e w10 ⟨H10, rfl, S10⟩
  have HC := Lib.hid (off_star (A := []) S10 2)
  rw [HV.out.2.2.2.2.2.2.2.2.1] at HC
  clear S10
  go_wp2_with fail
  refine HC.out.mono ?_
  clear HC
  rintro e w11 ⟨H11, rfl, S11⟩
  have HC := Lib.hid (del_star (A := []) S11 (by decide) 1 3)
  rw [HV.out.2.2.2.2.2.2.2.2.2.1, HV.out.2.2.2.2.2.2.2.2.2.2] at HC
  clear S11
  go_wp2_with fail
  refine HC.out.mono ?_
  clear HC
  rintro e w12 ⟨H12, rfl, S12⟩
  have HC := Lib.hid (len_star (A := []) S12)

  clear S12
  go_wp2_with fail
  refine HC.out.mono ?_
  clear HC
  rintro e w13 ⟨H13, rfl, S13⟩
  have HB := Lib.hid S13.below
  clear S13
  go_wp2_with fail
  go_ret
  exact ⟨rfl, HB.out⟩

end Go.Proofs.Ytmfkdaannjibfaa

namespace Go.Proofs.Ytmfkdaannjibfaa
open Go.RowKit

theorem ch_size (l : List Int) (hl : l.length ≤ 32) : (chC []).toArray.size = (chC l).toArray.size := by
  rw [List.size_toArray, List.size_toArray, chC_len l hl]; rfl

theorem same_step (l m : List Int) (j : Nat) (x y : Int) (hx : l[j]? = some x) (hy : m[j]? = some y) : (l.drop j == m.drop j) = ((x == y) && (l.drop (j + 1) == m.drop (j + 1))) := by
  obtain ⟨h1, e1⟩ := List.getElem?_eq_some_iff.1 hx
  obtain ⟨h2, e2⟩ := List.getElem?_eq_some_iff.1 hy
  rw [List.drop_eq_getElem_cons h1, List.drop_eq_getElem_cons h2, e1, e2]
  rfl

set_option maxRecDepth 100000 in
set_option maxHeartbeats 2000000 in
theorem same_any (A A2 : Option Addr) (n n2 c c2 B B2 : Nat) (l m : List Int) (w : World) (hs : Sees w B 1 A n (l.map r32)) (hs2 : Sees w B2 1 A2 n2 (m.map r32)) (hn : (n : Int) ≤ 9223372036854775807) (hn2 : (n2 : Int) ≤ 9223372036854775807) :
    Calls Try.prog 19 #[.slice A n c, .slice A2 n2 c2] w fun e w' => e = .returned (.bool (l == m)) ∧ ∃ k, w' = w.drewN k := by
  have hl : l.length = n := by have := hs.1; simp at this; omega
  have hm : m.length = n2 := by have := hs2.1; simp at this; omega
  by_cases hnn : n = n2
  · subst hnn
    have HL := Lib.hid (And.intro hl hm)
    have e0 : (((n : Nat) : Int) != (n : Int)) = false := by simp
    clear hl hm
    go_enter Try.func19, Try.ntmps19
    go_wp2_with fail
    go_loopw [5] (fun v5 wr => ∃ j k : Nat, j ≤ n ∧ v5 = .int .i64 j ∧ (l.drop j == m.drop j) = (l == m) ∧ wr = w.drewN k) (fun v5 _ => n - (intOf v5).toNat)
    case atStart => exact ⟨0, 0, Nat.zero_le _, rfl, rfl, rfl⟩
    case round =>
      obtain ⟨j, k, hj, rfl, he, rfl⟩ := hrel
      by_cases hlt : j < n
      · obtain ⟨b, o, rfl, hb, hcell⟩ := hs.2 (by omega)
        obtain ⟨b2, o2, rfl, hb2, hcell2⟩ := hs2.2 (by omega)
        obtain ⟨x, hx⟩ : ∃ x, l[j]? = some x := ⟨_, List.getElem?_eq_getElem (by have := HL.out.1; omega)⟩
        obtain ⟨y, hy⟩ : ∃ y, m[j]? = some y := ⟨_, List.getElem?_eq_getElem (by have := HL.out.2; omega)⟩
        have hcx := hcell j (.int .i32 x) (by simp [hx, r32])
        have hcy := hcell2 j (.int .i32 y) (by simp [hy, r32])
        rw [same_step l m j x y hx hy] at he
        have hjI : (j : Int) < n := by omega
        clear hcell hcell2 hx hy hs hs2 e0
        cases hxy : (x == y) with
        | true =>
          rw [hxy, Bool.true_and] at he
          have e1 : (x != y) = false := by rw [bne, hxy]; rfl
          have HE := Lib.hid he
          clear he hxy
          go_wp2_with fail
          go_quiet (fail)
          go_wp2_with fail
          go_roundw
          case rel => exact ⟨j + 1, _, by omega, by go_num, HE.out, rfl⟩
          case measure => simp [intOf]; omega
        | false =>
          rw [hxy, Bool.false_and] at he
          have e1 : (x != y) = true := by rw [bne, hxy]; rfl
          have HE := Lib.hid he
          clear he hxy
          go_wp2_with fail
          go_quiet (fail)
          go_wp2_with fail
          go_ret
          exact ⟨by rw [← HE.out]; rfl, _, World.drewN_drewN _ _ _⟩
      · obtain rfl : j = n := by omega
        have HE := Lib.hid he
        clear he
        go_wp2_with fail
        go_ret
        refine ⟨?_, _, rfl⟩
        rw [← HE.out, List.drop_of_length_le (by have := HL.out.1; omega), List.drop_of_length_le (by have := HL.out.2; omega)]
        rfl
  · have hne : (l == m) = false := by
      rw [beq_eq_false_iff_ne]
      intro e
      rw [e] at hl
      omega
    have e0 : (((n : Nat) : Int) != (n2 : Int)) = true := by simp; omega
    rw [hne]
    go_enter Try.func19, Try.ntmps19
    go_wp2_with fail
    go_ret
    exact ⟨rfl, 0, rfl⟩

end Go.Proofs.Ytmfkdaannjibfaa
