/-
  ArenaPlays: the state of the play; plain laws on what All tells.
-/
import Derived.Test.YteelmlhknfbjdaaRefB
import Derived.Test.YteelmlhknfbjdaaOpen
namespace Go.Proofs.Yteelmlhknfbjdaa
open Go.RowKit

theorem refTake_F {w : World} {F : Nat → Prop} {g : Nat} {s : List (Option Int)} {fr : List Nat} (h : RefA w F g s fr) (hok : ArOk s fr) (hs : s.length ≤ 1000000) (x : Int) :
    Calls Try.prog 22 #[.pointer (some ⟨g, 0, none⟩), .int .i64 x] w fun e w' => ∃ F', e = .returned (.int .i64 (nextOf s fr : Int)) ∧ RefA w' F' g (takeS s fr x) fr.dropLast ∧ Grow F w w' F' := by
  have hlen := hok.len
  rcases List.eq_nil_or_concat fr with rfl | ⟨fr, i, rfl⟩
  · refine (refTake_new h hs x).mono ?_
    rintro e w' ⟨F', rfl, ha, hg⟩
    exact ⟨F', rfl, by simpa [takeS] using ha, hg⟩
  · rw [List.concat_eq_append] at h hok hlen ⊢
    have hi : s[i]? = some none := (hok.iff i).1 (by simp)
    have hil := (List.getElem?_eq_some_iff.1 hi).1
    refine (refTake_old h hs (by simp at hlen; omega) hil x).mono ?_
    rintro e w' ⟨F', rfl, ha, hg⟩
    refine ⟨F', by simp [nextOf], ?_, hg⟩
    rw [show (fr ++ [i]).dropLast = fr by simp, show takeS s (fr ++ [i]) x = s.set i (some x) by simp [takeS, nextOf]]
    exact ha

theorem refDrop_F {w : World} {F : Nat → Prop} {g : Nat} {s : List (Option Int)} {fr : List Nat} (h : RefA w F g s fr) (hok : ArOk s fr) (hs : s.length ≤ 1000000) {k : Nat} (hk : k < s.length) :
    Calls Try.prog 23 #[.pointer (some ⟨g, 0, none⟩), .int .i64 k] w fun e w' => ∃ F', (∃ v, e = .returned v) ∧ RefA w' F' g (s.set k none) (fr ++ [k]) ∧ Grow F w w' F' :=
  refDrop_any h hs (by have := hok.len; omega) k hk

/-- The state: the two arenas, in blocks apart; the two boxes; the marks of the loops that are over. -/
structure PlayR (B : Nat) (w0 w : World) (b2 bW gA gR : Nat) (FA FR : Nat → Prop) (sA : List (Option Int)) (fA : List Nat) (sR : List (Option Int)) (fR : List Nat) (ds : List Deferred) : Prop where
  ar : ArI w FA gA sA fA
  rf : RefA w FR gR sR fR
  dis : ∀ k, FA k → ¬ FR k
  c2 : w.heap[b2]? = some (.cells #[.bool false] 4)
  cW : w.heap[bW]? = some (.cells #[.pointer (some ⟨gR, 0, none⟩)] 47)
  o2 : ¬ FA b2 ∧ ¬ FR b2
  oW : ¬ FA bW ∧ ¬ FR bW
  low : B ≤ w0.heap.size ∧ B ≤ b2 ∧ B ≤ bW
  keeps : Below B w0 w
  lowF : ∀ k, FA k ∨ FR k → B ≤ k
  mks : Marks B w ds
  mo : ∀ d ∈ ds, ∀ r, d.target = .collected r → ¬ FA r ∧ ¬ FR r

section
variable {B : Nat} {w0 w w' : World} {b2 bW gA gR : Nat} {FA FR FA' FR' : Nat → Prop} {sA sA' : List (Option Int)} {fA fA' : List Nat} {sR sR' : List (Option Int)} {fR fR' : List Nat} {ds : List Deferred}

theorem Marks.step {G : Nat → Prop} (h : Marks B w ds) (hs : Step G w w') (hG : ∀ d ∈ ds, ∀ r, d.target = .collected r → ¬ G r) : Marks B w' ds :=
  ⟨h.1, fun d hd => by
    obtain ⟨r, hr, hb, hh⟩ := h.2 d hd
    exact ⟨r, hr, hb, (hs.block r (Array.getElem?_eq_some_iff.1 hh).1 (hG d hd r hr)).trans hh⟩⟩

theorem Marks.lt (h : Marks B w ds) : ∀ d ∈ ds, ∀ r, d.target = .collected r → r < w.heap.size := fun d hd r hr => by
  obtain ⟨r', hr', _, hh⟩ := h.2 d hd
  rw [hr'] at hr
  injection hr with hr
  subst hr
  exact (Array.getElem?_eq_some_iff.1 hh).1

theorem PlayR.lows (h : PlayR B w0 w b2 bW gA gR FA FR sA fA sR fR ds) : b2 < w.heap.size ∧ bW < w.heap.size := ⟨(Array.getElem?_eq_some_iff.1 h.c2).1, (Array.getElem?_eq_some_iff.1 h.cW).1⟩

theorem PlayR.arena (h : PlayR B w0 w b2 bW gA gR FA FR sA fA sR fR ds) (ha : ArI w' FA' gA sA' fA') (hg : Grow FA w w' FA') : PlayR B w0 w' b2 bW gA gR FA' FR sA' fA' sR fR ds := by
  obtain ⟨l2, lW⟩ := h.lows
  have hB := Nat.le_trans h.low.1 h.keeps.size
  refine ⟨ha, h.rf.step hg.step (fun k hR hA => h.dis k hA hR), fun k hA hR => ?_, (hg.step.block b2 l2 h.o2.1).trans h.c2, (hg.step.block bW lW h.oW.1).trans h.cW, ⟨fun hA => ?_, h.o2.2⟩, ⟨fun hA => ?_, h.oW.2⟩, h.low,
    h.keeps.trans (hg.step.below hB (fun k hk => h.lowF k (.inl hk))), fun k hk => ?_, h.mks.step hg.step (fun d hd r hr => (h.mo d hd r hr).1), fun d hd r hr => ⟨fun hA => ?_, (h.mo d hd r hr).2⟩⟩
  · rcases hg.new k hA with e | e
    · exact h.dis k e hR
    · have := h.rf.lt k hR; omega
  · rcases hg.new b2 hA with e | e
    · exact h.o2.1 e
    · omega
  · rcases hg.new bW hA with e | e
    · exact h.oW.1 e
    · omega
  · rcases hk with hk | hk
    · rcases hg.new k hk with e | e
      · exact h.lowF k (.inl e)
      · omega
    · exact h.lowF k (.inr hk)
  · rcases hg.new r hA with e | e
    · exact (h.mo d hd r hr).1 e
    · have := h.mks.lt d hd r hr; omega

theorem PlayR.ref (h : PlayR B w0 w b2 bW gA gR FA FR sA fA sR fR ds) (ha : RefA w' FR' gR sR' fR') (hg : Grow FR w w' FR') : PlayR B w0 w' b2 bW gA gR FA FR' sA fA sR' fR' ds := by
  obtain ⟨l2, lW⟩ := h.lows
  have hB := Nat.le_trans h.low.1 h.keeps.size
  refine ⟨h.ar.step hg.step (fun k hA hR => h.dis k hA hR), ha, fun k hA hR => ?_, (hg.step.block b2 l2 h.o2.2).trans h.c2, (hg.step.block bW lW h.oW.2).trans h.cW, ⟨h.o2.1, fun hR => ?_⟩, ⟨h.oW.1, fun hR => ?_⟩, h.low,
    h.keeps.trans (hg.step.below hB (fun k hk => h.lowF k (.inr hk))), fun k hk => ?_, h.mks.step hg.step (fun d hd r hr => (h.mo d hd r hr).2), fun d hd r hr => ⟨(h.mo d hd r hr).1, fun hR => ?_⟩⟩
  · rcases hg.new k hR with e | e
    · exact h.dis k hA e
    · have := h.ar.lt k hA; omega
  · rcases hg.new b2 hR with e | e
    · exact h.o2.2 e
    · omega
  · rcases hg.new bW hR with e | e
    · exact h.oW.2 e
    · omega
  · rcases hk with hk | hk
    · exact h.lowF k (.inl hk)
    · rcases hg.new k hk with e | e
      · exact h.lowF k (.inr e)
      · omega
  · rcases hg.new r hR with e | e
    · exact (h.mo d hd r hr).2 e
    · have := h.mks.lt d hd r hr; omega

theorem PlayR.below (h : PlayR B w0 w b2 bW gA gR FA FR sA fA sR fR ds) (hb : Below w.heap.size w w') : PlayR B w0 w' b2 bW gA gR FA FR sA fA sR fR ds :=
  h.arena (h.ar.below hb) ⟨Step.of_below hb FA, fun _ h => .inl h⟩

theorem PlayR.drewN (h : PlayR B w0 w b2 bW gA gR FA FR sA fA sR fR ds) (n : Nat) : PlayR B w0 (w.drewN n) b2 bW gA gR FA FR sA fA sR fR ds :=
  h.below (below_drewN (Below.refl _ _) n)

theorem PlayR.box (h : PlayR B w0 w b2 bW gA gR FA FR sA fA sR fR ds) : w.cell? ⟨bW, 0, none⟩ = some (.pointer (some ⟨gR, 0, none⟩)) := by rw [cell_of_row w bW 0 _ _ _ h.cW]; rfl
theorem PlayR.cell2 (h : PlayR B w0 w b2 bW gA gR FA FR sA fA sR fR ds) : w.cell? ⟨b2, 0, none⟩ = some (.bool false) := by rw [cell_of_row w b2 0 _ _ _ h.c2]; rfl
theorem PlayR.frozen2 (h : PlayR B w0 w b2 bW gA gR FA FR sA fA sR fR ds) : w.frozen? ⟨b2, 0, none⟩ = false := frozen_of_row w b2 0 _ _ h.c2

/-- A loop is over: its mark beside the others. -/
theorem PlayR.mark (h : PlayR B w0 w b2 bW gA gR FA FR sA fA sR fR ds) {D : Nat} (hb : Below w.heap.size w w') (hD : w.heap.size ≤ D) (hh : w'.heap[D]? = some (.deferred (some []))) :
    PlayR B w0 w' b2 bW gA gR FA FR sA fA sR fR ({ target := .collected D, args := #[] } :: ds) := by
  have h' := h.below hb
  refine { h' with mks := ⟨?_, fun d hd => ?_⟩, mo := fun d hd r hr => ?_ }
  · rw [List.map_cons, List.nodup_cons]
    refine ⟨fun hm => ?_, h'.mks.1⟩
    obtain ⟨d, hd, e⟩ := List.mem_map.1 hm
    have := h.mks.lt d hd D e
    omega
  · rcases List.mem_cons.1 hd with rfl | hd
    · exact ⟨D, rfl, Nat.le_trans (Nat.le_trans h.low.1 h.keeps.size) hD, hh⟩
    · exact h'.mks.2 d hd
  · rcases List.mem_cons.1 hd with rfl | hd
    · injection hr with hr
      subst hr
      exact ⟨fun hA => by have := h.ar.lt _ hA; omega, fun hR => by have := h.rf.lt _ hR; omega⟩
    · exact h'.mo d hd r hr
end

theorem heap_alloc2_old' (w : World) (A B : Obj) : ((w.alloc A).alloc B).heap[w.heap.size]? = some A := by
  rw [heap_alloc_get, if_neg (by simp), heap_alloc_get, if_pos rfl]
theorem heap_alloc2_new' (w : World) (A B : Obj) : ((w.alloc A).alloc B).heap[w.heap.size + 1]? = some B := by
  rw [heap_alloc_get, if_pos (by simp)]

/-- A zero one. -/
theorem ref_zero {w : World} {g : Nat} (h : w.heap[g]? = some (.cells #[.slice none 0 0, .slice none 0 0, .slice none 0 0] 51)) : RefR w (fun k => k = g) g (.slice none 0 0) (.slice none 0 0) (.slice none 0 0) [] [] := by
  refine ⟨⟨h, fun j r hj => ?_, fun i j r r' hne hi hj => ?_, fun j r hj => ?_⟩, rfl, fun j r hj k hk => ?_, fun k hk => ?_⟩
  · match j, hj with
    | 0, hj => cases hj; exact World.ownsRow_nil _ _ _ _
    | 1, hj => cases hj; exact World.ownsRow_nil _ _ _ _
    | 2, hj => cases hj; exact World.ownsRow_nil _ _ _ _
    | j + 3, hj => simp at hj
  · match i, j, hi, hj with
    | 0, 0, _, _ => exact absurd rfl hne
    | 1, 1, _, _ => exact absurd rfl hne
    | 2, 2, _, _ => exact absurd rfl hne
    | 0, 1, hi, hj => cases hi; cases hj; decide
    | 0, 2, hi, hj => cases hi; cases hj; decide
    | 1, 0, hi, hj => cases hi; cases hj; decide
    | 1, 2, hi, hj => cases hi; cases hj; decide
    | 2, 0, hi, hj => cases hi; cases hj; decide
    | 2, 1, hi, hj => cases hi; cases hj; decide
    | i + 3, _, hi, _ => simp at hi
    | _, j + 3, _, hj => simp at hj
  · match j, hj with
    | 0, hj => cases hj; decide
    | 1, hj => cases hj; decide
    | 2, hj => cases hj; decide
    | j + 3, hj => simp at hj
  · match j, hj with
    | 0, hj => cases hj; cases hk
    | 1, hj => cases hj; cases hk
    | 2, hj => cases hj; cases hk
    | j + 3, hj => simp at hj
  · have hk : k = g := hk
    subst hk
    exact (Array.getElem?_eq_some_iff.1 h).1

theorem map_tB_put {s : List (Option Int)} {k : Nat} {X y : Int} (hk : k < s.length) (hs : s[k] = some y) : s.map tB = (s.set k (some X)).map tB := by
  rw [List.map_set]
  apply List.ext_getElem?
  intro i
  rw [List.getElem?_set]
  split
  · next e => subst e; simp [hk, hs, tB]
  · rfl

theorem takeS_len {s : List (Option Int)} {fr : List Nat} {x : Int} {k : Nat} (h : s.length ≤ k) : (takeS s fr x).length ≤ k + 1 := by
  unfold takeS
  split
  · rw [List.length_append, List.length_singleton]; omega
  · rw [List.length_set]; omega

/-- A body that does not panic: 'bodyPostM', its panics struck. -/
def outM (F : Fence) (n : Nat) (P : Program) (fn : Func) (R : Ending → World → Prop) : Exit → Act → World → Prop
  | .normal, a, w | .ret, a, w => LeavesInM F n P fn a.tmps R a.defers .returning w
  | _, _, _ => False
theorem outM_le {F : Fence} {n : Nat} {P : Program} {fn : Func} {R : Ending → World → Prop} : ∀ e a w, outM F n P fn R e a w → bodyPostM F n P fn R e a w := by
  intro e a w h
  cases e <;> first | exact h | exact h.elim

theorem ownFrom_exit {c₀ : Code} {n₀ B : Nat} {w₀ : World} (hn : n₀ ≤ w₀.heap.size) (hB : n₀ ≤ B) (c : Code) : OwnFrom B (fun (_ : List (Nat × Int)) W => c = c₀ ∧ Below n₀ w₀ W) :=
  fun _ _ _ _ hs hg hr => ⟨hs.1, hs.2.grown hg (Nat.le_trans hn hs.2.size) (fun k e => Nat.le_trans hB (hr k e).1)⟩

theorem grown_set (w : World) (b j : Nat) (v : Value) : w.grownBy (w.setCell ⟨b, j, none⟩ v) (some b) :=
  ⟨rfl, rfl, rfl, by simp [World.setCell], fun k _ hk => heap_setCell_other w ⟨b, j, none⟩ k v (fun e => hk (by simp [e]))⟩

theorem from_set {B b : Nat} {W w : World} (h : KeepsFrom B W w) (hb : b < B) (v : Value) : KeepsFrom B W (w.setCell ⟨b, 0, none⟩ v) :=
  h.trans (KeepsFrom.of_grownBy (grown_set w b 0 v) (fun j e => by cases e; exact hb))

theorem keeps_set {b : Nat} {W w : World} (h : KeepsCells (fun k => k = b) W w) (v : Value) : KeepsCells (fun k => k = b) W (w.setCell ⟨b, 0, none⟩ v) :=
  h.trans (KeepsCells.of_step ((Step.refl (fun k => k = b) w).setCell (p := ⟨b, 0, none⟩) (.inl rfl) v))

theorem ownFrom_box {n₀ B b : Nat} {w₀ : World} {f : List (Nat × Int) → Obj} (hn : n₀ ≤ w₀.heap.size) (hB : n₀ ≤ B) (hb : b < B) : OwnFrom B (fun (pre : List (Nat × Int)) W => Below n₀ w₀ W ∧ W.heap[b]? = some (f pre)) :=
  fun _ _ _ _ hs hg hr => ⟨hs.1.grown hg (Nat.le_trans hn hs.1.size) (fun k e => Nat.le_trans hB (hr k e).1), (hg.block b (Array.getElem?_eq_some_iff.1 hs.2).1 (fun e => by have := (hr b e.symm).1; omega)).trans hs.2⟩

/-! ### What All tells -/
/-- A pair as it is yielded; numbers past a bound (that All never tells) brought below it. -/
def encP (p : Nat × Int) : Array Value := #[.int .i64 ((min p.1 1000000 : Nat) : Int), .int .i64 p.2]

theorem encP_ok {s : List (Option Int)} (hs : s.length ≤ 1000000) (k : Nat) (x : Int) (h : s[k]? = some (some x)) : encP (k, x) = pairV (k, x) := by
  have := (List.getElem?_eq_some_iff.1 h).1
  unfold encP pairV
  rw [Nat.min_eq_left (by show k ≤ _; omega)]

/-- The number behind the last one that was told. -/
def nxP (pre : List (Nat × Int)) : Nat := match pre.getLast? with
  | none => 0
  | some p => min p.1 1000000 + 1

theorem nxP_nil : nxP [] = 0 := rfl
theorem nxP_snoc (pre : List (Nat × Int)) (x : Nat × Int) : nxP (pre ++ [x]) = min x.1 1000000 + 1 := by simp [nxP]

theorem nxP_le (pre : List (Nat × Int)) : nxP pre ≤ 1000001 := by
  unfold nxP
  split <;> omega

/-- A prefix of what All tells ends ahead of some place k: it is what is taken below k. -/
theorem pfx_of {s : List (Option Int)} (hs : s.length ≤ 1000000) : ∀ (pre : List (Nat × Int)), pre <+: takens 0 s → nxP pre ≤ s.length ∧ takens 0 (s.take (nxP pre)) = pre := by
  have all : ∀ (m : Nat) (pre : List (Nat × Int)), pre.length = m → pre <+: takens 0 s → nxP pre ≤ s.length ∧ takens 0 (s.take (nxP pre)) = pre := by
   intro m
   induction m with
   | zero =>
    intro pre hm _
    obtain rfl := List.eq_nil_of_length_eq_zero hm
    exact ⟨Nat.zero_le _, by simp [nxP_nil, takens]⟩
   | succ m ihm =>
    intro pre' hm h
    rcases List.eq_nil_or_concat pre' with rfl | ⟨pre, x, rfl⟩
    · simp at hm
    rw [List.concat_eq_append] at h hm ⊢
    have ih := ihm pre (by simpa using hm)
    obtain ⟨h1, h2⟩ := ih ((List.prefix_append pre [x]).trans h)
    -- the first taken place at or behind nxP pre is x
    have key : ∀ (m k : Nat), s.length - k = m → k ≤ s.length → takens 0 (s.take k) = pre → x.1 < s.length ∧ k ≤ x.1 ∧ s[x.1]? = some (some x.2) ∧ takens 0 (s.take (x.1 + 1)) = pre ++ [x] := by
      intro m
      induction m with
      | zero =>
        intro k hm hk ht
        rw [List.take_of_length_le (by omega)] at ht
        rw [ht] at h
        have := h.length_le
        rw [List.length_append, List.length_singleton] at this
        omega
      | succ m ihm =>
        intro k hm hk ht
        have hkl : k < s.length := by omega
        obtain ⟨o, ho⟩ : ∃ o, s[k]? = some o := ⟨_, List.getElem?_eq_getElem hkl⟩
        cases o with
        | none =>
          obtain ⟨a, b, c, d⟩ := ihm (k + 1) (by omega) (by omega) (by rw [takens_none ho]; exact ht)
          exact ⟨a, by omega, c, d⟩
        | some y =>
          have h3 := takens_some ho
          rw [ht] at h3
          have hp := takens_prefix s (k + 1)
          rw [h3] at hp
          have e : (k, y) = x := by
            have e1 := List.prefix_of_prefix_length_le hp h (by simp)
            have e2 := e1.eq_of_length (by simp)
            simpa using e2
          subst e
          exact ⟨hkl, Nat.le_refl _, ho, h3⟩
    obtain ⟨a, b, c, d⟩ := key _ _ rfl h1 h2
    rw [nxP_snoc, Nat.min_eq_left (by omega)]
    exact ⟨by omega, d⟩
  exact fun pre => all _ pre rfl

theorem pfx_next {s : List (Option Int)} (hs : s.length ≤ 1000000) (pre : List (Nat × Int)) (x : Nat × Int) (h : (pre ++ [x]) <+: takens 0 s) :
    x.1 < s.length ∧ nxP pre ≤ x.1 ∧ s[x.1]? = some (some x.2) ∧ ∀ j, nxP pre ≤ j → j < x.1 → look s (j : Int) = none := by
  obtain ⟨h1, h2⟩ := pfx_of hs pre ((List.prefix_append pre [x]).trans h)
  have key : ∀ (m k : Nat), s.length - k = m → k ≤ s.length → takens 0 (s.take k) = pre → x.1 < s.length ∧ k ≤ x.1 ∧ s[x.1]? = some (some x.2) ∧ ∀ j, k ≤ j → j < x.1 → look s (j : Int) = none := by
    intro m
    induction m with
    | zero =>
      intro k hm hk ht
      rw [List.take_of_length_le (by omega)] at ht
      rw [ht] at h
      have := h.length_le
      rw [List.length_append, List.length_singleton] at this
      omega
    | succ m ihm =>
      intro k hm hk ht
      have hkl : k < s.length := by omega
      obtain ⟨o, ho⟩ : ∃ o, s[k]? = some o := ⟨_, List.getElem?_eq_getElem hkl⟩
      cases o with
      | none =>
        obtain ⟨a, a2, b, c⟩ := ihm (k + 1) (by omega) (by omega) (by rw [takens_none ho]; exact ht)
        refine ⟨a, by omega, b, fun j h3 h4 => ?_⟩
        by_cases e : j = k
        · subst e; rw [look_nat, ho]; rfl
        · exact c j (by omega) h4
      | some y =>
        have h3 := takens_some ho
        rw [ht] at h3
        have hp := takens_prefix s (k + 1)
        rw [h3] at hp
        have e : (k, y) = x := by
          have e1 := List.prefix_of_prefix_length_le hp h (by simp)
          have e2 := e1.eq_of_length (by simp)
          simpa using e2
        subst e
        exact ⟨hkl, Nat.le_refl _, ho, fun j h4 h5 => by have h5 : j < k := h5; omega⟩
  exact key _ _ rfl h1 h2

/-- Behind all that All tells nothing is taken. -/
theorem pfx_end {s : List (Option Int)} (hs : s.length ≤ 1000000) : nxP (takens 0 s) ≤ s.length ∧ ∀ j, nxP (takens 0 s) ≤ j → look s (j : Int) = none := by
  obtain ⟨h1, h2⟩ := pfx_of hs _ (List.prefix_refl (takens 0 s))
  refine ⟨h1, fun j hj => ?_⟩
  cases hl : look s (j : Int) with
  | none => rfl
  | some y =>
    exfalso
    rw [look_nat] at hl
    have hjy : s[j]? = some (some y) := by
      cases hq : s[j]? with
      | none => rw [hq] at hl; cases hl
      | some o => rw [hq] at hl; cases o with
        | none => cases hl
        | some z => exact congrArg some (by simpa using hl)
    have h3 := takens_lt hjy
    have h4 : (takens 0 (s.take (nxP (takens 0 s)))).length ≤ (takens 0 (s.take j)).length := by
      have hp : s.take (nxP (takens 0 s)) <+: s.take j := List.take_prefix_take_left hj
      obtain ⟨r, hr⟩ := hp
      rw [← hr, takens_append, List.length_append]
      omega
    rw [h2] at h4
    omega

end Go.Proofs.Yteelmlhknfbjdaa
