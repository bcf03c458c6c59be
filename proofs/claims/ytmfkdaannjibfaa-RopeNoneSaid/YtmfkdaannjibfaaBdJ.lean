/-
  Several texts in one: RoY3, RoY4.
-/
import Derived.Test.YtmfkdaannjibfaaBdI

namespace Go.Proofs.Ytmfkdaannjibfaa
open Go.RowKit

/-- Cut at a place. -/
def splitT : List Th → Int → List Th × List Th
  | [], _ => ([], [])
  | t :: L, a => if a ≤ 0 then ([], t :: L) else if sizeT t ≤ a then (t :: (splitT L (a - sizeT t)).1, (splitT L (a - sizeT t)).2) else ([cutA t a], cutB t a :: L)

theorem splitL_map (p : Nat) : ∀ (L : List (Nat × Th)) (a : Int), (splitL L a p).1.map (·.2) = (splitT (L.map (·.2)) a).1 ∧ (splitL L a p).2.map (·.2) = (splitT (L.map (·.2)) a).2
  | [], _ => ⟨rfl, rfl⟩
  | (i, t) :: L, a => by
    have ih := splitL_map p L (a - sizeT t)
    rw [splitL, List.map_cons, splitT]
    by_cases h1 : a ≤ 0
    · rw [if_pos h1, if_pos h1]; exact ⟨rfl, rfl⟩
    · rw [if_neg h1, if_neg h1]
      by_cases h2 : sizeT t ≤ a
      · rw [if_pos h2, if_pos h2]; exact ⟨by rw [List.map_cons, ih.1], ih.2⟩
      · rw [if_neg h2, if_neg h2]; exact ⟨rfl, rfl⟩

/-- Things in place of those from i to j. -/
def replT (X : List Th) (i j : Int) (l : List Th) : List Th :=
  (splitT X i).1.dropLast ++ meldL ((splitT X i).1.getLast?.toList ++ l ++ (splitT (splitT X i).2 (j - i)).2.head?.toList) ++ (splitT (splitT X i).2 (j - i)).2.tail

theorem splitT_ok : ∀ (L : List Th) (a : Int), (∀ x ∈ L, okT x) → (∀ x ∈ (splitT L a).1, okT x) ∧ (∀ x ∈ (splitT L a).2, okT x) ∧ (splitT L a).1.length + (splitT L a).2.length ≤ L.length + 1
  | [], _, h => ⟨h, h, by simp [splitT]⟩
  | t :: L, a, h => by
    have ih := splitT_ok L (a - sizeT t) (fun x hx => h x (by simp [hx]))
    rw [splitT]
    by_cases h1 : a ≤ 0
    · rw [if_pos h1]; exact ⟨fun x hx => (nomatch hx), h, by simp⟩
    · rw [if_neg h1]
      by_cases h2 : sizeT t ≤ a
      · rw [if_pos h2]
        refine ⟨fun x hx => ?_, ih.2.1, by have := ih.2.2; simp only [List.length_cons]; omega⟩
        rcases List.mem_cons.1 hx with e | e
        · rw [e]; exact h t (by simp)
        · exact ih.1 x e
      · rw [if_neg h2]
        have hc := cut_ok (h t (by simp)) (by omega : 0 < a) (by omega)
        refine ⟨fun x hx => by rw [List.mem_singleton] at hx; exact hx ▸ hc.1, fun x hx => ?_, by simp; omega⟩
        rcases List.mem_cons.1 hx with e | e
        · rw [e]; exact hc.2.1
        · exact h x (by simp [e])

theorem splitT_sum : ∀ (L : List Th) (a : Int), (∀ x ∈ L, okT x) → 0 ≤ a → a ≤ sumT L → sumT (splitT L a).1 = a ∧ sumT (splitT L a).2 = sumT L - a
  | [], a, _, h0, h1 => by
    rw [sumT] at h1
    have : a = 0 := by omega
    subst this
    exact ⟨rfl, rfl⟩
  | t :: L, a, h, h0, h1 => by
    rw [sumT] at h1
    rw [splitT]
    by_cases ha : a ≤ 0
    · rw [if_pos ha]; have : a = 0 := by omega
      subst this; exact ⟨rfl, by rw [sumT]; omega⟩
    · rw [if_neg ha]
      by_cases h2 : sizeT t ≤ a
      · rw [if_pos h2]
        have ih := splitT_sum L (a - sizeT t) (fun x hx => h x (by simp [hx])) (by omega) (by omega)
        dsimp only
        rw [sumT, ih.1, ih.2, sumT]
        exact ⟨by omega, by omega⟩
      · rw [if_neg h2]
        have hc := cut_ok (h t (by simp)) (by omega : 0 < a) (by omega)
        have hs := cutA_size (h t (by simp)) (by omega : 0 < a) (by omega)
        dsimp only
        rw [sumT, sumT, sumT, sumT]
        omega

/-! ### What is taken -/
/-- The places that are taken are these. -/
def Live (s : List (Option Nd)) (I : List Nat) : Prop := ∀ k, (∃ n, gt s k = some n) ↔ k ∈ I

theorem Live.count {s : List (Option Nd)} {fr I : List Nat} (h : Live s I) (hn : I.Nodup) (ho : ArOk s fr) : s.length = fr.length + I.length := by
  have h1 : ∀ i ∈ fr ++ I, i ∈ List.range s.length := fun i hi => by
    rw [List.mem_range]
    rcases List.mem_append.1 hi with e | e
    · exact (List.getElem?_eq_some_iff.1 ((ho.iff i).1 e)).1
    · obtain ⟨n, hn⟩ := (h i).2 e
      exact gt_lt hn
  have h2 : ∀ i ∈ List.range s.length, i ∈ fr ++ I := fun i hi => by
    rw [List.mem_range] at hi
    rw [List.mem_append]
    cases hq : s[i] with
    | none => exact .inl ((ho.iff i).2 (by rw [List.getElem?_eq_getElem hi, hq]))
    | some n => exact .inr ((h i).1 ⟨n, gt_some.2 (by rw [List.getElem?_eq_getElem hi, hq])⟩)
  have h3 : (fr ++ I).Nodup := by
    rw [List.nodup_append]
    refine ⟨ho.nodup, hn, fun a ha b hb e => ?_⟩
    subst e
    obtain ⟨n, hn⟩ := (h a).2 hb
    have := (ho.iff a).1 ha
    unfold gt at hn
    rw [this] at hn
    cases hn
  have a1 := h3.length_le_of_subset h1
  have a2 := (List.nodup_range (n := s.length)).length_le_of_subset h2
  rw [List.length_range, List.length_append] at *
  omega

theorem Live.congr {s : List (Option Nd)} {I J : List Nat} (h : Live s I) (e : ∀ k, k ∈ I ↔ k ∈ J) : Live s J := fun k => (h k).trans (e k)

theorem takeS_len {s : List (Option Nd)} {fr I : List Nat} (h : Live s I) (hn : I.Nodup) (ho : ArOk s fr) (x : Nd) : (takeS s fr x).length ≤ max s.length (I.length + 1) := by
  have hc := h.count hn ho
  unfold takeS
  split
  · next e => rw [e] at hc; rw [List.length_append, List.length_singleton]; simp at hc; omega
  · rw [List.length_set]; omega

/-- A tree whole: the places that are taken are its nodes. -/
structure TreeS (w : World) (F : Nat → Prop) (gT gA : Nat) (T : Tr) (s : List (Option Nd)) (fr : List Nat) : Prop where
  tw : TreeW w F gT gA T.rt s fr
  holds : Holds s T
  ok : OkL T.nodes
  live : Live s (ids T.nodes)

/-- The things of a tree. -/
def Tr.things (T : Tr) : List Th := T.nodes.map (·.2)
theorem Tr.things_len (T : Tr) : T.things.length = T.nodes.length := List.length_map _
theorem Tr.z_things (T : Tr) : T.z = sumT T.things := by rw [Tr.z_eq, sumT_of]; rfl

/-- A tree of these things, in the blocks G, of at most N places. -/
def TreeX (w : World) (G : Nat → Prop) (gT : Nat) (X : List Th) (N : Nat) : Prop :=
  ∃ F gA T s fr, (∀ k, G k ↔ F k ∨ k = gT) ∧ TreeS w F gT gA T s fr ∧ T.things = X ∧ s.length ≤ N

/-- The arena holds these nodes and no others. -/
structure Base (w : World) (F : Nat → Prop) (gT gA : Nat) (root : Int) (s : List (Option Nd)) (fr : List Nat) (N : List (Nat × Th)) : Prop where
  tw : TreeW w F gT gA root s fr
  ok : OkL N
  live : Live s (ids N)

section
variable {w w' : World} {F F' : Nat → Prop} {gT gA : Nat} {root : Int} {s s' : List (Option Nd)} {fr fr' : List Nat} {N N' : List (Nat × Th)}

theorem Base.step {L L' : List (Nat × Th)} {O : List Nat} (h : Base w F gT gA root s fr N) (hT : TreeW w' F' gT gA root s' fr') (hN : OkL N') (keep : ∀ j, j ∉ ids L → j ∉ ids L' → gt s' j = gt s j) (taken : ∀ j ∈ ids L', ∃ n, gt s' j = some n) (gone : ∀ j ∈ ids L, j ∉ ids L' → gt s' j = none)
    (m1 : ∀ j, j ∈ ids N ↔ j ∈ ids L ∨ j ∈ O) (m2 : ∀ j, j ∈ ids N' ↔ j ∈ ids L' ∨ j ∈ O) (ap : ∀ j ∈ O, j ∉ ids L ∧ j ∉ ids L') : Base w' F' gT gA root s' fr' N' := by
  refine ⟨hT, hN, fun k => ⟨fun ⟨n, hn⟩ => ?_, fun hk => ?_⟩⟩
  · rw [m2]
    by_cases h1 : k ∈ ids L'
    · exact .inl h1
    · by_cases h2 : k ∈ ids L
      · rw [gone k h2 h1] at hn; cases hn
      · rw [keep k h2 h1] at hn
        rcases (m1 k).1 ((h.live k).1 ⟨n, hn⟩) with e | e
        · exact absurd e h2
        · exact .inr e
  · rcases (m2 k).1 hk with e | e
    · exact taken k e
    · obtain ⟨n, hn⟩ := (h.live k).2 ((m1 k).2 (.inr e))
      exact ⟨n, by rw [keep k (ap k e).1 (ap k e).2]; exact hn⟩

theorem Base.below (h : Base w F gT gA root s fr N) (hb : Below w.heap.size w w') : Base w' F gT gA root s fr N := ⟨h.tw.below hb, h.ok, h.live⟩
theorem Base.count (h : Base w F gT gA root s fr N) : s.length = fr.length + N.length := by
  have := h.live.count h.ok.nodup h.tw.ok
  rw [ids, List.length_map] at this
  exact this
end

/-- Two trees; two trees and a node between them; three trees. -/
structure Two (w : World) (F : Nat → Prop) (gT gA : Nat) (root : Int) (A B : Tr) (s : List (Option Nd)) (fr : List Nat) : Prop where
  base : Base w F gT gA root s fr (A.nodes ++ B.nodes)
  ha : Holds s A
  hb : Holds s B
structure TwoP (w : World) (F : Nat → Prop) (gT gA : Nat) (root : Int) (A : Tr) (p : Nat) (x : Th) (B : Tr) (s : List (Option Nd)) (fr : List Nat) : Prop where
  base : Base w F gT gA root s fr (A.nodes ++ (p, x) :: B.nodes)
  ha : Holds s A
  hb : Holds s B
  hp : ∃ l0 r0 h0 z0 m0, gt s p = some (mkN x l0 r0 h0 z0 m0)
structure Three (w : World) (F : Nat → Prop) (gT gA : Nat) (root : Int) (A G B : Tr) (s : List (Option Nd)) (fr : List Nat) : Prop where
  base : Base w F gT gA root s fr (A.nodes ++ (G.nodes ++ B.nodes))
  ha : Holds s A
  hg : Holds s G
  hb : Holds s B

section
variable {w w' : World} {F : Nat → Prop} {gT gA : Nat} {root : Int} {A B : Tr} {s : List (Option Nd)} {fr : List Nat}
theorem Two.below (h : Two w F gT gA root A B s fr) (hb : Below w.heap.size w w') : Two w' F gT gA root A B s fr := ⟨h.base.below hb, h.ha, h.hb⟩
theorem TwoP.below {p : Nat} {x : Th} (h : TwoP w F gT gA root A p x B s fr) (hb : Below w.heap.size w w') : TwoP w' F gT gA root A p x B s fr := ⟨h.base.below hb, h.ha, h.hb, h.hp⟩
theorem TreeS.two {T : Tr} (h : TreeS w F gT gA T s fr) : Two w F gT gA T.rt .nil T s fr := ⟨⟨h.tw, by simpa [Tr.nodes] using h.ok, by simpa [Tr.nodes] using h.live⟩, trivial, h.holds⟩
theorem Three.two (h : Three w F gT gA root .nil A B s fr) : Two w F gT gA root A B s fr := ⟨by simpa [Tr.nodes] using h.base, h.hg, h.hb⟩
theorem mem_app {A B : List (Nat × Th)} {j : Nat} : j ∈ ids (A ++ B) ↔ j ∈ ids A ∨ j ∈ ids B := by rw [ids_append, List.mem_append]
theorem mem_cons' {p : Nat} {x : Th} {B : List (Nat × Th)} {j : Nat} : j ∈ ids ((p, x) :: B) ↔ j = p ∨ j ∈ ids B := by rw [ids, List.map_cons, List.mem_cons]; rfl
end

theorem splitL_ids2 {p j : Nat} : ∀ {L : List (Nat × Th)} {a : Int}, j ∈ ids L → j ∈ ids ((splitL L a p).1 ++ (splitL L a p).2)
  | (i, t) :: L, a, h => by
    rw [splitL]
    by_cases h1 : a ≤ 0
    · rw [if_pos h1]; exact h
    · rw [if_neg h1]
      rw [mem_cons'] at h
      by_cases h2 : sizeT t ≤ a
      · rw [if_pos h2]
        dsimp only
        rw [List.cons_append, mem_cons']
        rcases h with e | e
        · exact .inl e
        · exact .inr (splitL_ids2 e)
      · rw [if_neg h2]
        dsimp only
        rw [List.cons_append, List.nil_append, mem_cons', mem_cons']
        rcases h with e | e
        · exact .inl e
        · exact .inr (.inr e)

theorem OkL.of_append {A B : List (Nat × Th)} (ha : OkL A) (hb : OkL B) (hd : ∀ j ∈ ids A, j ∉ ids B) (hs : sumZ A + sumZ B ≤ 100000000000) (hl : A.length + B.length ≤ 100000) : OkL (A ++ B) :=
  ⟨by rw [ids_append, List.nodup_append]; exact ⟨ha.nodup, hb.nodup, fun a h1 b h2 e => hd a h1 (e ▸ h2)⟩, fun q hq => by rcases List.mem_append.1 hq with e | e; exact ha.ok q e; exact hb.ok q e, by rw [sumZ_append]; exact hs, by rw [List.length_append]; exact hl⟩

theorem split_two {w : World} {F : Nat → Prop} {gT gA : Nat} {root : Int} {A R : Tr} {s : List (Option Nd)} {fr : List Nat} (h : Two w F gT gA root A R s fr) (hl : s.length < 90000) (a : Int) (h1 : -1000000000000 ≤ a) (h2 : a ≤ 1000000000000) :
    Calls Try.prog 54 #[.pointer (some ⟨gT, 0, none⟩), .int .i64 R.rt, .int .i64 a] w fun e w' => ∃ F' fr' s' G B, e = .returned (.tuple #[.int .i64 G.rt, .int .i64 B.rt]) ∧ Three w' F' gT gA root A G B s' fr' ∧
      G.things = (splitT R.things a).1 ∧ B.things = (splitT R.things a).2 ∧ s'.length ≤ s.length + 1 ∧ Grow F w w' F' := by
  refine (split_any R w h.base.tw h.hb h.base.ok.right hl a h1 h2).mono ?_
  rintro e w' ⟨v, rfl, F', fr', s', G, B, rfl, hT, hG, hB, hnG, hnB, hk, hlen, hg⟩
  have hp := gt_next h.base.tw.ok
  have hc := h.base.count
  rw [List.length_append] at hc
  have hpR : nextOf s fr ∉ ids R.nodes := fun e => by obtain ⟨n, hn⟩ := h.hb.taken _ e; rw [hp] at hn; cases hn
  have hpA : nextOf s fr ∉ ids A.nodes := fun e => by obtain ⟨n, hn⟩ := h.ha.taken _ e; rw [hp] at hn; cases hn
  obtain ⟨k1, k2, k3, k4⟩ := splitL_ok (nextOf s fr) R.nodes a h.base.ok.right hpR (by omega)
  have hi2 := fun j => splitL_ids2 (p := nextOf s fr) (j := j) (L := R.nodes) (a := a)
  rw [← hnG, ← hnB] at hk k1 k2 k3 k4 hi2
  have hd : ∀ j ∈ ids A.nodes, j ∉ ids (G.nodes ++ B.nodes) := fun j hj e => by
    rcases k2 j e with e | e
    · exact h.base.ok.apart j hj e
    · exact hpA (e ▸ hj)
  have hs := h.base.ok.sum
  rw [sumZ_append] at hs
  have hok : OkL (A.nodes ++ (G.nodes ++ B.nodes)) := OkL.of_append h.base.ok.left k1 hd (by rw [k3]; exact hs) (by omega)
  refine ⟨F', fr', s', G, B, rfl, ⟨h.base.step (L := R.nodes) (L' := G.nodes ++ B.nodes) (O := ids A.nodes) hT hok hk (fun j hj => ?_) (fun j hj hn => absurd (hi2 j hj) hn) (fun j => by rw [mem_app]; exact Or.comm) (fun j => by rw [mem_app]; exact Or.comm) (fun j hj => ⟨h.base.ok.apart j hj, hd j hj⟩), ?_, hG, hB⟩, ?_, ?_, hlen, hg⟩
  · rcases mem_app.1 hj with e | e
    · exact hG.taken j e
    · exact hB.taken j e
  · exact h.ha.keep fun j hj => hk j (h.base.ok.apart j hj) (hd j hj)
  · rw [Tr.things, Tr.things, hnG]; exact (splitL_map _ _ _).1
  · rw [Tr.things, Tr.things, hnB]; exact (splitL_map _ _ _).2

theorem drop_three {w : World} {F : Nat → Prop} {gT gA : Nat} {root : Int} {A G B : Tr} {s : List (Option Nd)} {fr : List Nat} (h : Three w F gT gA root A G B s fr) :
    Calls Try.prog 55 #[.pointer (some ⟨gT, 0, none⟩), .int .i64 G.rt] w fun e w' => ∃ F' fr' s', (∃ v, e = .returned v) ∧ Two w' F' gT gA root A B s' fr' ∧ s'.length = s.length ∧ Grow F w w' F' := by
  refine (drop_any G w F s fr h.base.tw h.hg h.base.ok.right.left).mono ?_
  rintro e w' ⟨hv, F', s', fr', hT, hn, hk, hlen, hg⟩
  have ho := h.base.ok
  have hA : ∀ j ∈ ids A.nodes, j ∉ ids G.nodes := fun j hj e => ho.apart j hj (mem_app.2 (.inl e))
  have hB : ∀ j ∈ ids B.nodes, j ∉ ids G.nodes := fun j hj e => ho.right.apart j e hj
  have hs := ho.sum
  rw [sumZ_append, sumZ_append] at hs
  have hz := sumZ_nonneg ho.right.left.ok
  have hl := ho.len
  rw [List.length_append, List.length_append] at hl
  have hok : OkL (A.nodes ++ B.nodes) := OkL.of_append ho.left ho.right.right (fun j hj e => ho.apart j hj (mem_app.2 (.inr e))) (by omega) (by omega)
  refine ⟨F', fr', s', hv, ⟨h.base.step (L := G.nodes) (L' := []) (O := ids (A.nodes ++ B.nodes)) hT hok (fun j h1 _ => hk j h1) (fun j hj => by simp [ids] at hj) (fun j hj _ => hn j hj) (fun j => ?_) (fun j => by simp [ids]) (fun j hj => ⟨?_, by simp [ids]⟩), h.ha.keep fun j hj => hk j (hA j hj), h.hb.keep fun j hj => hk j (hB j hj)⟩, hlen, hg⟩
  · rw [mem_app, mem_app, mem_app]
    constructor
    · rintro (e | e | e)
      · exact .inr (.inl e)
      · exact .inl e
      · exact .inr (.inr e)
    · rintro (e | e | e)
      · exact .inr (.inl e)
      · exact .inl e
      · exact .inr (.inr e)
  · rcases mem_app.1 hj with e | e
    · exact hA j e
    · exact hB j e

/-- The last node of the left tree is taken off. -/
theorem last_two {w : World} {F : Nat → Prop} {gT gA : Nat} {root : Int} {A B : Tr} {s : List (Option Nd)} {fr : List Nat} (h : Two w F gT gA root A B s fr) (hA : A.rt ≠ -1) :
    Calls Try.prog 56 #[.pointer (some ⟨gT, 0, none⟩), .int .i64 A.rt] w fun e w' => ∃ s' A' p x, e = .returned (.tuple #[.int .i64 A'.rt, .int .i64 (p : Nat)]) ∧ TwoP w' F gT gA root A' p x B s' fr ∧ A.nodes = A'.nodes ++ [(p, x)] ∧ s'.length = s.length ∧ Grow F w w' F := by
  refine (last_any A hA w s h.base.tw h.ha h.base.ok.left).mono ?_
  rintro e w' ⟨v, rfl, T, s', p, x, l0, r0, h0, z0, m0, rfl, hT, hH, hL, hp, hk, hlen, hg⟩
  have hL : A.nodes = T.nodes ++ [(p, x)] := hL
  have ho := h.base.ok
  have hok : OkL (T.nodes ++ (p, x) :: B.nodes) := by rw [hL] at ho; simpa using ho
  refine ⟨s', T, p, x, rfl, ⟨h.base.step (L := A.nodes) (L' := A.nodes) (O := ids B.nodes) hT hok (fun j h1 _ => hk j h1) (fun j hj => ?_) (fun j h1 h2 => absurd h1 h2) (fun j => mem_app) (fun j => ?_) (fun j hj => ⟨fun e => ho.apart j e hj, fun e => ho.apart j e hj⟩), hH, h.hb.keep fun j hj => hk j (fun e => ho.apart j e hj), ⟨_, _, _, _, _, hp⟩⟩, hL, hlen, hg⟩
  · rw [hL, mem_app] at hj
    rcases hj with e | e
    · exact hH.taken j e
    · rw [mem_cons'] at e
      rcases e with e | e
      · subst e; exact ⟨_, hp⟩
      · simp [ids] at e
  · rw [hL, mem_app, mem_app, mem_cons', mem_cons']
    simp only [ids, List.map_nil, List.not_mem_nil, or_false, or_assoc]

/-- The first node of the right tree is taken off. -/
theorem first_two {w : World} {F : Nat → Prop} {gT gA : Nat} {root : Int} {A B : Tr} {s : List (Option Nd)} {fr : List Nat} (h : Two w F gT gA root A B s fr) (hB : B.rt ≠ -1) :
    Calls Try.prog 58 #[.pointer (some ⟨gT, 0, none⟩), .int .i64 B.rt] w fun e w' => ∃ s' B' p x, e = .returned (.tuple #[.int .i64 B'.rt, .int .i64 (p : Nat)]) ∧ TwoP w' F gT gA root A p x B' s' fr ∧ B.nodes = (p, x) :: B'.nodes ∧ s'.length = s.length ∧ Grow F w w' F := by
  refine (first_any B hB w s h.base.tw h.hb h.base.ok.right).mono ?_
  rintro e w' ⟨v, rfl, T, s', p, x, l0, r0, h0, z0, m0, rfl, hT, hH, hL, hp, hk, hlen, hg⟩
  have hL : B.nodes = (p, x) :: T.nodes := hL
  have ho := h.base.ok
  have hok : OkL (A.nodes ++ (p, x) :: T.nodes) := by rw [hL] at ho; exact ho
  refine ⟨s', T, p, x, rfl, ⟨h.base.step (L := B.nodes) (L' := B.nodes) (O := ids A.nodes) hT hok (fun j h1 _ => hk j h1) (fun j hj => ?_) (fun j h1 h2 => absurd h1 h2) (fun j => by rw [mem_app]; exact Or.comm) (fun j => by rw [hL, mem_app]; exact Or.comm) (fun j hj => ⟨ho.apart j hj, ho.apart j hj⟩), h.ha.keep fun j hj => hk j (ho.apart j hj), hH, ⟨_, _, _, _, _, hp⟩⟩, hL, hlen, hg⟩
  rw [hL, mem_cons'] at hj
  rcases hj with e | e
  · subst e; exact ⟨_, hp⟩
  · exact hH.taken j e

/-- A node between two trees is freed; its thing is told. -/
theorem pick_two {w : World} {F : Nat → Prop} {gT gA : Nat} {root : Int} {A B : Tr} {p : Nat} {x : Th} {s : List (Option Nd)} {fr : List Nat} (h : TwoP w F gT gA root A p x B s fr) :
    Calls Try.prog 57 #[.pointer (some ⟨gT, 0, none⟩), .int .i64 (p : Nat)] w fun e w' => e = .returned (thV x) ∧ ∃ F' fr' s', Two w' F' gT gA root A B s' fr' ∧ s'.length = s.length ∧ Grow F w w' F' := by
  obtain ⟨l0, r0, h0, z0, m0, hp⟩ := h.hp
  refine (pick_any h.base.tw hp).mono ?_
  rintro e w' ⟨rfl, F', hT, hg⟩
  have ho := h.base.ok
  have hpl := gt_lt hp
  have hk : ∀ j, j ≠ p → gt (s.set p none) j = gt s j := fun j hj => gt_set_other hpl _ hj
  have hA : ∀ j ∈ ids A.nodes, j ≠ p := fun j hj e => ho.apart j hj (mem_cons'.2 (.inl e))
  have hB : ∀ j ∈ ids B.nodes, j ≠ p := fun j hj e => by
    have hn := ho.right.nodup
    rw [ids, List.map_cons, List.nodup_cons] at hn
    exact hn.1 (e ▸ hj)
  have hs := ho.sum
  rw [sumZ_append, sumZ] at hs
  have hz := sizeT_ok (ho.ok (p, x) (by simp))
  have hl := ho.len
  rw [List.length_append, List.length_cons] at hl
  dsimp only at hs hz
  have hok : OkL (A.nodes ++ B.nodes) := OkL.of_append ho.left ho.right.tail (fun j hj e => ho.apart j hj (mem_cons'.2 (.inr e))) (by omega) (by omega)
  refine ⟨rfl, F', _, _, ⟨h.base.step (L := [(p, x)]) (L' := []) (O := ids (A.nodes ++ B.nodes)) hT hok (fun j h1 _ => hk j (fun e => h1 (by simp [ids, e]))) (fun j hj => by simp [ids] at hj) (fun j hj _ => ?_) (fun j => ?_) (fun j => by simp [ids]) (fun j hj => ⟨fun e => ?_, by simp [ids]⟩), h.ha.keep fun j hj => hk j (hA j hj), h.hb.keep fun j hj => hk j (hB j hj)⟩, by rw [List.length_set], hg⟩
  · have e : j = p := by simpa [ids] using hj
    rw [e]; exact gt_set_self hpl _
  · rw [mem_app, mem_cons', mem_app, mem_cons']
    simp only [ids, List.map_nil, List.not_mem_nil, or_false]
    constructor
    · rintro (e | e | e)
      · exact .inr (.inl e)
      · exact .inl e
      · exact .inr (.inr e)
    · rintro (e | e | e)
      · exact .inr (.inl e)
      · exact .inl e
      · exact .inr (.inr e)
  · have e : j = p := by simpa [ids] using e
    rcases mem_app.1 hj with q | q
    · exact hA j q e
    · exact hB j q e

/-- A new node. -/
theorem take_two {w : World} {F : Nat → Prop} {gT gA : Nat} {root : Int} {A B : Tr} {s : List (Option Nd)} {fr : List Nat} (h : Two w F gT gA root A B s fr) (x : Th) (hx : okT x) (hs : sumT A.things + sumT B.things + sizeT x ≤ 100000000000) (hl : s.length < 90000) :
    Calls Try.prog 61 #[.pointer (some ⟨gA, 0, none⟩), (mkN x 0 0 0 0 0).V] w fun e w' => ∃ F' fr' s' p, e = .returned (.int .i64 (p : Nat)) ∧ TwoP w' F' gT gA root A p x B s' fr' ∧ s'.length ≤ max s.length (A.nodes.length + B.nodes.length + 1) ∧ Grow F w w' F' := by
  refine (takeN_F h.base.tw.ar h.base.tw.ok (by omega) (mkN x 0 0 0 0 0)).mono ?_
  rintro e w' ⟨F', rfl, ha, hg⟩
  have hlen := takeS_len h.base.live h.base.ok.nodup h.base.tw.ok (mkN x 0 0 0 0 0)
  rw [ids, List.length_map, List.length_append] at hlen
  have hgt := gt_takeS h.base.tw.ok (mkN x 0 0 0 0 0)
  have hle := takeS_le (s := s) (fr := fr) (mkN x 0 0 0 0 0)
  have hT := h.base.tw.arena ha (h.base.tw.ok.take _) hg (by omega)
  have hp := gt_next h.base.tw.ok
  obtain ⟨p, hp'⟩ : ∃ p, nextOf s fr = p := ⟨_, rfl⟩
  rw [hp'] at hgt hp
  rw [hp']
  have ho := h.base.ok
  have hc := h.base.count
  rw [List.length_append] at hc
  have hpN : p ∉ ids (A.nodes ++ B.nodes) := fun e => by obtain ⟨n, hn⟩ := (h.base.live p).2 e; rw [hp] at hn; cases hn
  have hk : ∀ j, j ≠ p → gt (takeS s fr (mkN x 0 0 0 0 0)) j = gt s j := fun j hj => by rw [hgt, if_neg hj]
  have hA : ∀ j ∈ ids A.nodes, j ≠ p := fun j hj e => hpN (mem_app.2 (.inl (e ▸ hj)))
  have hB : ∀ j ∈ ids B.nodes, j ≠ p := fun j hj e => hpN (mem_app.2 (.inr (e ▸ hj)))
  rw [Tr.things, Tr.things, ← sumT_of, ← sumT_of] at hs
  have hb1 : OkL ((p, x) :: B.nodes) := by
    have hz := sumZ_nonneg ho.left.ok
    refine ⟨?_, fun q hq => ?_, by rw [sumZ]; dsimp only; omega, by rw [List.length_cons]; omega⟩
    · rw [ids, List.map_cons, List.nodup_cons]; exact ⟨fun e => hB p e rfl, ho.right.nodup⟩
    · rcases List.mem_cons.1 hq with e | e
      · rw [e]; exact hx
      · exact ho.right.ok q e
  have hok : OkL (A.nodes ++ (p, x) :: B.nodes) := OkL.of_append ho.left hb1 (fun j hj e => by
    rcases mem_cons'.1 e with e | e
    · exact hA j hj e
    · exact ho.apart j hj e) (by rw [sumZ]; dsimp only; omega) (by rw [List.length_cons]; omega)
  refine ⟨F', _, _, p, rfl, ⟨h.base.step (L := []) (L' := [(p, x)]) (O := ids (A.nodes ++ B.nodes)) hT hok (fun j _ h1 => hk j (fun e => h1 (by simp [ids, e]))) (fun j hj => ?_) (fun j hj _ => by simp [ids] at hj) (fun j => by simp [ids]) (fun j => ?_) (fun j hj => ⟨by simp [ids], fun e => ?_⟩), h.ha.keep fun j hj => hk j (hA j hj), h.hb.keep fun j hj => hk j (hB j hj), ⟨0, 0, 0, 0, 0, by rw [hgt, if_pos rfl]⟩⟩, hlen, hg⟩
  · have e : j = p := by simpa [ids] using hj
    rw [e, hgt, if_pos rfl]; exact ⟨_, rfl⟩
  · rw [mem_app, mem_cons', mem_app, mem_cons']
    simp only [ids, List.map_nil, List.not_mem_nil, or_false]
    constructor
    · rintro (e | e | e)
      · exact .inr (.inl e)
      · exact .inl e
      · exact .inr (.inr e)
    · rintro (e | e | e)
      · exact .inr (.inl e)
      · exact .inl e
      · exact .inr (.inr e)
  · have e : j = p := by simpa [ids] using e
    exact hpN (e ▸ hj)

/-- A node is joined behind the left tree. -/
theorem join_two {w : World} {F : Nat → Prop} {gT gA : Nat} {root : Int} {A B : Tr} {p : Nat} {x : Th} {s : List (Option Nd)} {fr : List Nat} (h : TwoP w F gT gA root A p x B s fr) :
    Calls Try.prog 60 #[.pointer (some ⟨gT, 0, none⟩), .int .i64 A.rt, .int .i64 (p : Nat), .int .i64 (-1)] w fun e w' => ∃ s' A', e = .returned (.int .i64 A'.rt) ∧ Two w' F gT gA root A' B s' fr ∧ A'.nodes = A.nodes ++ [(p, x)] ∧ s'.length = s.length ∧ Grow F w w' F := by
  obtain ⟨l0, r0, h0, z0, m0, hp⟩ := h.hp
  have ho := h.base.ok
  have hol : OkL ((A.nodes ++ [(p, x)]) ++ B.nodes) := by simpa using ho
  refine (show Calls Try.prog 60 #[.pointer (some ⟨gT, 0, none⟩), .int .i64 A.rt, .int .i64 (p : Nat), .int .i64 (-1)] w _ from join_any _ A .nil (Nat.le_refl _) w s h.base.tw hp h.ha trivial (by simpa [Tr.nodes] using hol.left)).mono ?_
  rintro e w' ⟨v, rfl, T, s', rfl, hT, hH, hn, hk, hlen, hg⟩
  have hn : T.nodes = A.nodes ++ [(p, x)] := hn
  have hk : ∀ j, j ∉ ids (A.nodes ++ [(p, x)]) → gt s' j = gt s j := hk
  have hap := hol.apart
  refine ⟨s', T, rfl, ⟨h.base.step (L := A.nodes ++ [(p, x)]) (L' := A.nodes ++ [(p, x)]) (O := ids B.nodes) hT (by rw [hn]; exact hol) (fun j h1 _ => hk j h1) (fun j hj => hH.taken j (by rw [hn]; exact hj)) (fun j h1 h2 => absurd h1 h2) (fun j => ?_) (fun j => by rw [hn, mem_app]) (fun j hj => ⟨fun e => hap j e hj, fun e => hap j e hj⟩), hH, h.hb.keep fun j hj => hk j (fun e => hap j e hj)⟩, hn, hlen, hg⟩
  rw [mem_app, mem_app, mem_cons', mem_cons']
  simp only [ids, List.map_nil, List.not_mem_nil, or_false, or_assoc]

/-- Two trees become one. -/
theorem concat_two {w : World} {F : Nat → Prop} {gT gA : Nat} {root : Int} {A B : Tr} {s : List (Option Nd)} {fr : List Nat} (h : Two w F gT gA root A B s fr) :
    Calls Try.prog 62 #[.pointer (some ⟨gT, 0, none⟩), .int .i64 A.rt, .int .i64 B.rt] w fun e w' => ∃ s' T, e = .returned (.int .i64 T.rt) ∧ TreeW w' F gT gA root s' fr ∧ Holds s' T ∧ OkL T.nodes ∧ Live s' (ids T.nodes) ∧ T.things = A.things ++ B.things ∧ s'.length = s.length ∧ Grow F w w' F := by
  refine (concat_any h.base.tw h.ha h.hb h.base.ok).mono ?_
  rintro e w' ⟨v, rfl, T, s', rfl, hT, hH, hn, hk, hlen, hg⟩
  have hb := h.base.step (L := A.nodes ++ B.nodes) (L' := A.nodes ++ B.nodes) (O := []) hT (N' := A.nodes ++ B.nodes) h.base.ok (fun j h1 _ => hk j h1) (fun j hj => hH.taken j (by rw [hn]; exact hj)) (fun j h1 h2 => absurd h1 h2) (fun j => by simp) (fun j => by simp) (fun j hj => by simp at hj)
  exact ⟨s', T, rfl, hT, hH, by rw [hn]; exact hb.ok, by rw [hn]; exact hb.live, by rw [Tr.things, hn, List.map_append]; rfl, hlen, hg⟩

theorem sumT_last (L : List Th) : sumT L.dropLast + sumT L.getLast?.toList = sumT L := by
  rcases List.eq_nil_or_concat L with rfl | ⟨P, y, rfl⟩
  · rfl
  · rw [List.concat_eq_append, List.dropLast_concat, List.getLast?_append, List.getLast?_singleton, sumT_append]
    rfl
theorem sumT_head (L : List Th) : sumT L.head?.toList + sumT L.tail = sumT L := by
  cases L with
  | nil => rfl
  | cons x L => show sumT [x] + sumT L = _; rw [sumT, sumT, sumT]; omega
theorem mem_lastOf {L : List Th} {x : Th} (h : x ∈ L.getLast?.toList) : x ∈ L := by
  rw [Option.mem_toList] at h
  exact List.mem_of_getLast? h
theorem mem_headOf {L : List Th} {x : Th} (h : x ∈ L.head?.toList) : x ∈ L := by
  rw [Option.mem_toList] at h
  exact List.mem_of_mem_head? h

/-- What stands between the parts: the last one ahead, what is put in, the first one behind. -/
def midT (X : List Th) (i j : Int) (l : List Th) : List Th := (splitT X i).1.getLast?.toList ++ l ++ (splitT (splitT X i).2 (j - i)).2.head?.toList
theorem replT_eq (X : List Th) (i j : Int) (l : List Th) : replT X i j l = (splitT X i).1.dropLast ++ meldL (midT X i j l) ++ (splitT (splitT X i).2 (j - i)).2.tail := rfl

theorem repl_facts {X l : List Th} {i j : Int} (hX : ∀ x ∈ X, okT x) (hl : ∀ x ∈ l, okT x) (h0 : 0 ≤ i) (h1 : i ≤ j) (h2 : j ≤ sumT X) (hs : sumT X - (j - i) + sumT l ≤ 1000000000) :
    (∀ x ∈ midT X i j l, okT x) ∧ sumT (midT X i j l) ≤ 1000000000 ∧ (midT X i j l).length ≤ l.length + 2 ∧ (∀ x ∈ meldL (midT X i j l), okT x) ∧
    sumT (splitT X i).1.dropLast + sumT (meldL (midT X i j l)) + sumT (splitT (splitT X i).2 (j - i)).2.tail = sumT X - (j - i) + sumT l ∧
    0 ≤ sumT (splitT X i).1.dropLast ∧ 0 ≤ sumT (splitT (splitT X i).2 (j - i)).2.tail := by
  have hz : 0 ≤ sumT X := sumT_nonneg hX
  obtain ⟨a1, a2, _⟩ := splitT_ok X i hX
  obtain ⟨s1, s2⟩ := splitT_sum X i hX h0 (by omega)
  unfold midT
  generalize splitT X i = q at *
  obtain ⟨_, b2, _⟩ := splitT_ok q.2 (j - i) a2
  obtain ⟨_, t2⟩ := splitT_sum q.2 (j - i) a2 (by omega) (by omega)
  generalize splitT q.2 (j - i) = r at *
  have e1 := sumT_last q.1
  have e2 := sumT_head r.2
  have n1 := sumT_nonneg (l := q.1.dropLast) (fun x hx => a1 x ((List.dropLast_sublist _).subset hx))
  have n2 := sumT_nonneg (l := r.2.tail) (fun x hx => b2 x (List.mem_of_mem_tail hx))
  have hm : ∀ x ∈ q.1.getLast?.toList ++ l ++ r.2.head?.toList, okT x := fun x hx => by
    rcases List.mem_append.1 hx with e | e
    · rcases List.mem_append.1 e with e | e
      · exact a1 x (mem_lastOf e)
      · exact hl x e
    · exact b2 x (mem_headOf e)
  have hsm : sumT (q.1.getLast?.toList ++ l ++ r.2.head?.toList) = sumT q.1.getLast?.toList + sumT l + sumT r.2.head?.toList := by rw [sumT_append, sumT_append]
  have hle : sumT (q.1.getLast?.toList ++ l ++ r.2.head?.toList) ≤ 1000000000 := by rw [hsm]; omega
  obtain ⟨m1, m2, _⟩ := meldL_ok hm hle
  have hlo : ∀ o : Option Th, o.toList.length ≤ 1 := fun o => by cases o <;> simp
  refine ⟨hm, hle, ?_, m1, by rw [m2, hsm]; omega, n1, n2⟩
  have := hlo q.1.getLast?
  have := hlo r.2.head?
  simp only [List.length_append]
  omega

theorem Two.step {w w' : World} {F G : Nat → Prop} {gT gA : Nat} {root : Int} {A B : Tr} {s : List (Option Nd)} {fr : List Nat} (h : Two w F gT gA root A B s fr) (hs : Step G w w') (hG : ∀ k, F k → ¬ G k) (hT : ¬ G gT) : Two w' F gT gA root A B s fr :=
  ⟨⟨h.base.tw.step hs hG hT, h.base.ok, h.base.live⟩, h.ha, h.hb⟩

theorem Grow.row {F F' : Nat → Prop} {w w1 w2 : World} {row : Option Nat} (h : Grow F w w1 F') (hg : w1.grownBy w2 row) (hr : ∀ k, row = some k → w.heap.size ≤ k) : Grow F w w2 F' :=
  ⟨h.step.grown hg (fun k e => .inr (hr k e)), h.new⟩
theorem Grow.to {F F' : Nat → Prop} {w w1 w2 : World} (h : Grow F w w1 F') (hb : Below w1.heap.size w1 w2) : Grow F w w2 F' := h.trans (Grow.of_below hb)

theorem TreeW.setRoot {w : World} {F : Nat → Prop} {gT gA : Nat} {root : Int} {s : List (Option Nd)} {fr : List Nat} (h : TreeW w F gT gA root s fr) (r : Int) : TreeW (w.setCell ⟨gT, 4, none⟩ (.int .i64 r)) F gT gA r s fr :=
  ⟨by rw [heap_setCell_same w gT 4 _ _ _ h.blk]; rfl, h.ar.step (G := fun k => k = gT) ((Step.refl (fun k => k = gT) w).setCell (p := ⟨gT, 4, none⟩) (.inl rfl) _) (fun k hk e => h.oF (by have e : k = gT := e; rw [← e]; exact hk)), h.ok, h.oF, h.len⟩

/-- Behind 'the last one of a': the left tree without it, and it. -/
def St1 (w : World) (F : Nat → Prop) (gT gA : Nat) (root : Int) (XA : List Th) (B : Tr) (n : Nat) (v8 v12 : Value) (wz : World) : Prop :=
  ∃ F' s' fr' A', v8 = .int .i64 A'.rt ∧ Two wz F' gT gA root A' B s' fr' ∧ A'.things = XA.dropLast ∧ OwnT wz w.heap.size v12 XA.getLast?.toList ∧ Off v12 F' ∧ s'.length ≤ n ∧ Grow F w wz F'

/-- Behind 'the first one of b': the right tree without it; it stands behind what there is. -/
def St2 (w : World) (F : Nat → Prop) (gT gA : Nat) (root : Int) (A : Tr) (XB Y : List Th) (n : Nat) (v11 v12 : Value) (wz : World) : Prop :=
  ∃ F' s' fr' B', v11 = .int .i64 B'.rt ∧ Two wz F' gT gA root A B' s' fr' ∧ B'.things = XB.tail ∧ OwnT wz w.heap.size v12 (Y ++ XB.head?.toList) ∧ s'.length ≤ n ∧ Grow F w wz F'

/-- While they are joined. -/
def St3 (w : World) (F : Nat → Prop) (gT gA : Nat) (root : Int) (X0 : List Th) (B : Tr) (M : List Th) (n : Nat) (vM : Value) (base k : Nat) (v8 : Value) (wz : World) : Prop :=
  ∃ F' s' fr' A', v8 = .int .i64 A'.rt ∧ Two wz F' gT gA root A' B s' fr' ∧ A'.things = X0 ++ M.take k ∧ OwnT wz base vM M ∧ Off vM F' ∧ s'.length ≤ max n (A'.nodes.length + B.nodes.length) ∧ Grow F w wz F'

theorem Tr.rt_nil {A : Tr} (h : A.rt = -1) : A = .nil := by
  cases A with
  | nil => rfl
  | nd i t l r => have h : (i : Int) = -1 := h; omega

theorem things_snoc {A A' : Tr} {p : Nat} {x : Th} (h : A.nodes = A'.nodes ++ [(p, x)]) : A.things = A'.things ++ [x] := by rw [Tr.things, h, List.map_append]; rfl
theorem things_cons {A A' : Tr} {p : Nat} {x : Th} (h : A.nodes = (p, x) :: A'.nodes) : A.things = x :: A'.things := by rw [Tr.things, h]; rfl
theorem last_snoc {A : List Th} {x : Th} : (A ++ [x]).getLast?.toList = [x] ∧ (A ++ [x]).dropLast = A := by
  rw [List.getLast?_append, List.getLast?_singleton, List.dropLast_concat]; exact ⟨rfl, rfl⟩

end Go.Proofs.Ytmfkdaannjibfaa

namespace Go.Proofs.Ytmfkdaannjibfaa
open Go.RowKit

theorem things_of {A A' : Tr} {p : Nat} {x : Th} (h : A'.nodes = A.nodes ++ [(p, x)]) : A'.things = A.things ++ [x] := things_snoc h

set_option maxRecDepth 100000 in
set_option maxHeartbeats 8000000 in
theorem replace_any {w : World} {G : Nat → Prop} {gT N : Nat} {X : List Th} (h : TreeX w G gT X N) {B c : Nat} {A : Option Addr} {l : List Th} (hl : Sees w B 33 A l.length (rowT l)) (hB : B ≤ w.heap.size) (_ : l.length ≤ c) (hoff : 0 < l.length → ∀ b o, A = some ⟨b, o, none⟩ → ¬ G b) (hlo : ∀ x ∈ l, okT x)
    {i j : Int} (h0 : 0 ≤ i) (h1 : i ≤ j) (h2 : j ≤ sumT X) (hX : sumT X ≤ 1000000000) (hs : sumT X - (j - i) + sumT l ≤ 1000000000) (hN : N ≤ 79998) (hR : (replT X i j l).length ≤ 80000) (hln : l.length ≤ 100000) :
    Calls Try.prog 28 #[.pointer (some ⟨gT, 0, none⟩), .int .i64 i, .int .i64 j, .slice A l.length c] w fun e w' => ∃ G', (∃ v, e = .returned v) ∧ TreeX w' G' gT (replT X i j l) (max (N + 2) (replT X i j l).length) ∧ Grow G w w' G' := by
  obtain ⟨i0, ii0, iz0, iz1, iz2⟩ := info_parts thing_info4
  obtain ⟨F, gA, T, s, fr, hG, hS, rfl, hsN⟩ := h
  have hokX : ∀ x ∈ T.things, okT x := fun x hx => by obtain ⟨q, hq, e⟩ := List.mem_map.1 hx; exact e ▸ hS.ok.ok q hq
  have HF := Lib.hid (repl_facts hokX hlo h0 h1 h2 hs)
  have HG := Lib.hid hG
  have H2 := Lib.hid hS.two
  have hcR := hS.tw.cR
  have HFL := Lib.hid hS.tw.ar.lt
  have HGT := Lib.hid hS.tw.lt
  have HL := Lib.hid (fun (F' : Nat → Prop) (w1 : World) (hg : Grow F w w1 F') => (show Sees w1 B 33 A l.length (rowT l) from ⟨hl.1, fun hn => by
    obtain ⟨b, o, hA, hb, hcl⟩ := hl.2 hn
    refine ⟨b, o, hA, hb, fun q u hu => ?_⟩
    have hq := hcl q u hu
    have hbF : ¬ F b := fun hF => hoff hn b o hA ((hG b).2 (.inl hF))
    have he := hg.step.block b (by omega) hbF
    exact (World.cell?_of_block (w := w) (a := ⟨b, o + q, none⟩) he).trans hq⟩))
  have HLO := Lib.hid (And.intro hlo hs)
  have HRL := Lib.hid hR
  obtain ⟨nl, hnl⟩ : ∃ n, l.length = n := ⟨_, rfl⟩
  have HNL := Lib.hid hnl
  rw [hnl] at HL hln ⊢
  have h0' : (nl : Int) ≤ 100000 := by omega
  have g1 : IntKind.i64.wrap (j - i) = j - i := IntWalk.i64_in _ (by omega)
  have h3 : i ≤ 1000000000 := by omega
  have h4 : j - i ≤ 1000000000 := by omega
  obtain ⟨root, hroot⟩ : ∃ x, T.rt = x := ⟨_, rfl⟩
  have HRT := Lib.hid hroot
  have H2 : Hid (Two w F gT gA root .nil T s fr) := by rw [hroot] at H2; exact H2
  rw [hroot] at hcR
  clear hS hokX hG hl hlo hs hR hnl hroot hoff
  go_enter Try.func28, Try.ntmps28
  go_wp2_with fail
  have HS1 := Lib.hid (split_two H2.out (by omega) i (by omega) (by omega))
  rw [HRT.out] at HS1
  refine HS1.out.mono ?_
  clear HS1
  rintro e w1 ⟨F1, fr1, s1, TA, TR, rfl, hT1, ha1, hr1, hl1, hg1⟩
  have hsl1 : s1.length < 90000 := by omega
  have HS2 := Lib.hid (split_two hT1.two hsl1 (j - i) (by omega) (by omega))
  have Q1 := Lib.hid (And.intro ha1 (And.intro hr1 (And.intro hl1 hg1)))
  clear hT1 ha1 hr1 hl1 hg1 hsl1
  go_wp2_with fail
  refine HS2.out.mono ?_
  clear HS2
  rintro e w2 ⟨F2, fr2, s2, TG, TB, rfl, hT2, hgo2, hb2, hl2, hg2⟩
  have HD := Lib.hid (drop_three hT2)
  have Q2 := Lib.hid (And.intro (show TA.things = (splitT T.things i).1 from Q1.out.1) (And.intro (show TB.things = (splitT (splitT T.things i).2 (j - i)).2 by rw [hb2, Q1.out.2.1]) (And.intro (show s2.length ≤ N + 2 by have := Q1.out.2.2.1; omega) (Q1.out.2.2.2.trans hg2))))
  clear hT2 hgo2 hb2 hl2 hg2
  go_wp2_with fail
  refine HD.out.mono ?_
  clear HD
  rintro e w3 ⟨F3, fr3, s3, ⟨v3, rfl⟩, hT3, hl3, hg3⟩
  have Q3 := Lib.hid (And.intro hT3 (And.intro (show s3.length ≤ N + 2 by have := Q2.out.2.2.1; omega) (Q2.out.2.2.2.trans hg3)))
  clear hT3 hl3 hg3
  go_upto_if 42 with fail
  obtain ⟨XA, hXA⟩ : ∃ x, (splitT T.things i).1 = x := ⟨_, rfl⟩
  obtain ⟨XB, hXB⟩ : ∃ x, (splitT (splitT T.things i).2 (j - i)).2 = x := ⟨_, rfl⟩
  obtain ⟨n, hn⟩ : ∃ n, N + 2 = n := ⟨_, rfl⟩
  have HXX := Lib.hid (And.intro hXA (And.intro hXB hn))
  rw [hXA, hXB] at Q2
  rw [hn] at Q3
  clear hXA hXB hn
  go_cut [8, 12, 13, 14] from 41 to 55 (fun v8 v12 _ _ wz => St1 w F gT gA root XA TB n v8 v12 wz)
  case first =>
    by_cases hA : TA.rt = -1
    · have e := Tr.rt_nil hA
      have HP := Lib.hid (show St1 w F gT gA root XA TB n (.int .i64 TA.rt) (.slice none 0 0) w3 from by
        have e2 : XA = [] := by rw [← Q2.out.1, e]; rfl
        exact ⟨F3, s3, fr3, TA, rfl, Q3.out.1, by rw [e, e2]; rfl, by rw [e2]; exact ⟨rfl, .inl ⟨rfl, rfl⟩⟩, Off.nil_ _, Q3.out.2.1, Q3.out.2.2⟩)
      have hne : ((TA.rt : Int) != -1) = false := by simp [hA]
      clear hA e
      go_wp2_with fail
      go_meet
      case rel => exact HP.out
    · have hne : ((TA.rt : Int) == -1) = false := by simpa using hA
      have HLa := Lib.hid (last_two Q3.out.1 hA)
      have hne2 : ((TA.rt : Int) != -1) = true := by simpa using hA
      clear hA
      go_wp2_with fail
      refine HLa.out.mono ?_
      clear HLa
      rintro e w4 ⟨s4, A4, p, x, rfl, hT4, hn4, hl4, hg4⟩
      have HPk := Lib.hid (pick_two hT4)
      have Q4 := Lib.hid (And.intro hn4 (And.intro hl4 hg4))
      clear hT4 hn4 hl4 hg4
      go_wp2_with fail
      refine HPk.out.mono ?_
      clear HPk
      rintro e w5 ⟨rfl, F5, fr5, s5, hT5, hl5, hg5⟩
      have G5 := Lib.hid (Q3.out.2.2.trans (Q4.out.2.2.trans hg5))
      have L5 := Lib.hid (show s5.length ≤ n by have h1 := Q4.out.2.1; have h2 := Q3.out.2.1; omega)
      have T5 := Lib.hid hT5
      have HXA := Lib.hid (show XA = A4.things ++ [x] by rw [← Q2.out.1]; exact things_snoc Q4.out.1)
      clear hT5 hl5 hg5
      obtain ⟨bz, hbz⟩ : ∃ v, w5.heap.size = v := ⟨_, rfl⟩
      obtain ⟨wa, hwa⟩ : ∃ v, w5.alloc (.cells (encT x).toArray 58) = v := ⟨_, rfl⟩
      have Ba := Lib.hid (show Below w5.heap.size w5 wa by rw [← hwa]; exact (Below.refl _ _).alloc (Nat.le_refl _) _)
      have Sa := Lib.hid (show Sees wa (bz + 1) 33 (some ⟨bz, 0, none⟩) 1 (rowT [x]) from Sees.things (by rw [rowT_one, ← hwa, ← hbz]; exact heap_alloc_new _ _))
      have HR := Lib.hid (run_things x w5)
      rw [hwa, hbz] at HR
      clear hwa hbz

      go_wp2_with (first
        | (refine wpList_known _ rfl (v := .slice (some ⟨bz, 0, none⟩) 1 1) (w' := wa) (exec_slice1 60 (.tmp 53) rfl (.agg (encT x).toArray) rfl HR.out) ?_)
        | (at_builtin
           refine wpList_append_sees _ rfl _ _ _ rfl w.heap.size 58 i0 _ 33 136 Try.underlying60 ii0 iz0 iz1 iz2 rfl (by omega) _ 0 [] rfl ⟨rfl, .inl ⟨rfl, rfl⟩⟩ (bz + 1) _ 1 1 (rowT [x]) rfl Sa.out (rowT_oneCell _) (by simp only [maxLen]; omega) (by omega) (Nat.le_trans G5.out.step.size Ba.out.size) ?_
           intro v6 w6 hown6 hg6 hat6 hnil6
           have HP := Lib.hid (show St1 w F gT gA root XA TB n (.int .i64 A4.rt) v6 w6 from by
             have hTa := T5.out.below Ba.out
             have hFl := hTa.base.tw.ar.lt
             have hr : ∀ k, (Value.slice none 0 0).ownBlock = some k → False := fun k hk => by cases hk
             refine ⟨F5, s5, fr5, A4, rfl, hTa.step (grown_step hg6) (fun k _ e => hr k e) (fun e => hr _ e), by rw [HXA.out, last_snoc.2], by rw [HXA.out, last_snoc.1]; exact hown6, ?_, L5.out, Grow.row (G5.out.to Ba.out) hg6 (fun k hk => absurd hk (fun e => hr k e))⟩
             exact Off.at (v := .slice none 0 0) (Off.nil_ _) (fun k hk => hFl k hk) hat6)
           clear hown6 hg6 hat6 hnil6))
      go_meet
      case rel => exact HP.out
  case rest =>
    obtain ⟨F4, s4, fr4, A0, rfl, hT4, hA0, hown4, hoff4, hl4, hg4⟩ := hcut
    obtain ⟨Y0, hY0⟩ : ∃ x, XA.getLast?.toList = x := ⟨_, rfl⟩
    rw [hY0] at hown4
    have hy0 : Y0.length ≤ 1 := by rw [← hY0]; cases XA.getLast? <;> simp
    have HY0 := Lib.hid hY0
    obtain ⟨A12, c12, rfl, hc12, hm12⟩ := hown4.shape
    obtain ⟨n0, hn0⟩ : ∃ n, Y0.length = n := ⟨_, rfl⟩
    have HN0 := Lib.hid hn0
    have hO : wc.ownsRow w.heap.size 58 33 (.slice A12 n0 c12) n0 (rowT Y0) := by have h1 := hown4; unfold OwnT at h1; rw [hn0] at h1; exact h1
    rw [hn0] at hy0 hc12 hoff4 ⊢
    have O4 := Lib.hid (And.intro hO hoff4)
    have T4 := Lib.hid (And.intro hT4 (And.intro hA0 (And.intro hl4 hg4)))
    clear hO hY0 hown4 hn0 hT4 hA0 hoff4 hl4 hg4 Q3
    go_upto_if 60 with (
      at_builtin
      refine wpList_append_sees _ rfl _ _ _ rfl w.heap.size 58 i0 _ 33 136 Try.underlying60 ii0 iz0 iz1 iz2 rfl (by omega) _ n0 (rowT Y0) rfl O4.out.1 B _ nl c (rowT l) rfl (HL.out F4 wc T4.out.2.2.2) (rowT_oneCell _) (by simp only [maxLen]; omega) (by omega) T4.out.2.2.2.step.size ?_
      intro v6 w6 hown6 hg6 hat6 hnil6
      have C6 := Lib.hid (And.intro hown6 (And.intro hg6 hat6))
      clear hown6 hg6 hat6 hnil6)
    have hFl4 := T4.out.1.base.tw.ar.lt
    have T6 := Lib.hid (show Two w6 F4 gT gA root A0 TB s4 fr4 from T4.out.1.step (grown_step C6.out.2.1) (fun k hF e => O4.out.2 k e hF) (fun e => by have h1 := own_base O4.out.1 e; have h2 := HGT.out; omega))
    have G6 := Lib.hid (Grow.row T4.out.2.2.2 C6.out.2.1 (fun k e => own_base O4.out.1 e))
    have O6 := Lib.hid (show OwnT w6 w.heap.size v6 (Y0 ++ l) ∧ Off v6 F4 from ⟨by unfold OwnT; rw [rowT_append, List.length_append, HN0.out, HNL.out]; exact C6.out.1, O4.out.2.at hFl4 C6.out.2.2⟩)
    clear C6 hFl4 O4
    obtain ⟨Y, hY⟩ : ∃ x, Y0 ++ l = x := ⟨_, rfl⟩
    have HY := Lib.hid hY
    have hyl : Y.length ≤ 100001 := by rw [← hY, List.length_append, HN0.out, HNL.out]; omega
    rw [hY] at O6
    clear hY
    obtain ⟨A6, c6, rfl, hc6, hm6⟩ := O6.out.1.shape
    obtain ⟨ny, hny⟩ : ∃ n, Y.length = n := ⟨_, rfl⟩
    have HNY := Lib.hid hny
    rw [hny] at hyl hc6 O6 ⊢
    have O6r := Lib.hid (show w6.ownsRow w.heap.size 58 33 (.slice A6 ny c6) ny (rowT Y) by have h1 := O6.out.1; unfold OwnT at h1; rw [HNY.out] at h1; exact h1)
    clear hny
    go_cut [11, 12, 15, 16] from 59 to 73 (fun v11 v12 _ _ wz => St2 w F gT gA root A0 XB Y n v11 v12 wz)
    case first =>
      by_cases hB : TB.rt = -1
      · have e := Tr.rt_nil hB
        have HP := Lib.hid (show St2 w F gT gA root A0 XB Y n (.int .i64 TB.rt) (.slice A6 ny c6) w6 from by
          have e2 : XB = [] := by rw [← Q2.out.2.1, e]; rfl
          exact ⟨F4, s4, fr4, TB, rfl, T6.out, by rw [e, e2]; rfl, by rw [e2]; simpa using O6.out.1, T4.out.2.2.1, G6.out⟩)
        have hne : ((TB.rt : Int) != -1) = false := by simp [hB]
        clear hB e
        go_wp2_with fail
        go_meet
        case rel => exact HP.out
      · have hne : ((TB.rt : Int) == -1) = false := by simpa using hB
        have HLa := Lib.hid (first_two T6.out hB)
        have hne2 : ((TB.rt : Int) != -1) = true := by simpa using hB
        clear hB
        go_wp2_with fail
        refine HLa.out.mono ?_
        clear HLa
        rintro e w7 ⟨s7, B7, p, x, rfl, hT7, hn7, hl7, hg7⟩
        have HPk := Lib.hid (pick_two hT7)
        have Q7 := Lib.hid (And.intro hn7 (And.intro hl7 hg7))
        clear hT7 hn7 hl7 hg7
        go_wp2_with fail
        refine HPk.out.mono ?_
        clear HPk
        rintro e w8 ⟨rfl, F8, fr8, s8, hT8, hl8, hg8⟩
        have G8 := Lib.hid (G6.out.trans (Q7.out.2.2.trans hg8))
        have L8 := Lib.hid (show s8.length ≤ n by have h1 := Q7.out.2.1; have h2 := T4.out.2.2.1; omega)
        have T8 := Lib.hid hT8
        have HXB := Lib.hid (show XB = x :: B7.things by rw [← Q2.out.2.1]; exact things_cons Q7.out.1)
        have hO8 : w8.ownsRow w.heap.size 58 33 (.slice A6 ny c6) ny (rowT Y) := own_step (own_step O6r.out Q7.out.2.2.step O6.out.2) hg8.step O6.out.2
        have hoff8 : Off (.slice A6 ny c6) F8 := O6.out.2.grow (Q7.out.2.2.trans hg8) (fun k hk => own_lt O6.out.1 hk)
        have O8 := Lib.hid (And.intro hO8 hoff8)
        clear hT8 hl8 hg8 hO8 hoff8
        obtain ⟨bz, hbz⟩ : ∃ v, w8.heap.size = v := ⟨_, rfl⟩
        obtain ⟨wa, hwa⟩ : ∃ v, w8.alloc (.cells (encT x).toArray 58) = v := ⟨_, rfl⟩
        have Ba := Lib.hid (show Below w8.heap.size w8 wa by rw [← hwa]; exact (Below.refl _ _).alloc (Nat.le_refl _) _)
        have Sa := Lib.hid (show Sees wa (bz + 1) 33 (some ⟨bz, 0, none⟩) 1 (rowT [x]) from Sees.things (by rw [rowT_one, ← hwa, ← hbz]; exact heap_alloc_new _ _))
        have HR := Lib.hid (run_things x w8)
        rw [hwa, hbz] at HR
        clear hwa hbz
        have Oa := Lib.hid (show wa.ownsRow w.heap.size 58 33 (.slice A6 ny c6) ny (rowT Y) from own_later O8.out.1 Ba.out)
        go_wp2_with (first
          | (refine wpList_known _ rfl (v := .slice (some ⟨bz, 0, none⟩) 1 1) (w' := wa) (exec_slice1 60 (.tmp 71) rfl (.agg (encT x).toArray) rfl HR.out) ?_)
          | (at_builtin
             refine wpList_append_sees _ rfl _ _ _ rfl w.heap.size 58 i0 _ 33 136 Try.underlying60 ii0 iz0 iz1 iz2 rfl (by omega) _ ny (rowT Y) rfl Oa.out (bz + 1) _ 1 1 (rowT [x]) rfl Sa.out (rowT_oneCell _) (by simp only [maxLen]; omega) (by omega) (Nat.le_trans G8.out.step.size Ba.out.size) ?_
             intro v9 w9 hown9 hg9 hat9 hnil9
             have HP := Lib.hid (show St2 w F gT gA root A0 XB Y n (.int .i64 B7.rt) v9 w9 from by
               have hTa := T8.out.below Ba.out
               refine ⟨F8, s8, fr8, B7, rfl, hTa.step (grown_step hg9) (fun k hF e => O8.out.2 k e hF) (fun e => by have h1 := own_base Oa.out e; have h2 := HGT.out; omega), by rw [HXB.out]; rfl, ?_, L8.out, Grow.row (G8.out.to Ba.out) hg9 (fun k hk => own_base Oa.out hk)⟩
               rw [HXB.out]
               show OwnT w9 w.heap.size v9 (Y ++ [x])
               unfold OwnT
               rw [rowT_append, List.length_append, HNY.out]
               exact hown9)
             clear hown9 hg9 hat9 hnil9))
        go_meet
        case rel => exact HP.out
    case rest =>
      obtain ⟨F7, s7, fr7, B', rfl, hT7, hB7, hown7, hl7, hg7⟩ := hcut
      obtain ⟨X0, hX0⟩ : ∃ x, XA.dropLast = x := ⟨_, rfl⟩
      have hmid : midT T.things i j l = Y ++ XB.head?.toList := by unfold midT; rw [HXX.out.1, HXX.out.2.1, HY0.out, HY.out]
      have hrep : replT T.things i j l = X0 ++ meldL (Y ++ XB.head?.toList) ++ XB.tail := by rw [replT_eq, hmid, HXX.out.1, HXX.out.2.1, hX0]
      have hF := HF.out
      rw [hmid, HXX.out.1, HXX.out.2.1, hX0] at hF
      have HRP := Lib.hid hrep
      obtain ⟨Z, hZ⟩ : ∃ x, Y ++ XB.head?.toList = x := ⟨_, rfl⟩
      rw [hZ] at hown7 hF HRP
      have hzl : Z.length ≤ 200000 := by have h1 := hF.2.2.1; rw [HNL.out] at h1; omega
      have hA0 := T4.out.2.1
      rw [hX0] at hA0
      have T7 := Lib.hid (And.intro hT7 (And.intro hA0 (And.intro hB7 (And.intro hl7 hg7))))
      obtain ⟨AZ, cZ, rfl, hcZ, hmZ⟩ := hown7.shape
      have HML := Lib.hid (melded_any hT7.base.tw (Sees.of_own hown7) (Nat.le_refl _) hcZ hF.1 hF.2.1 hzl)
      have HZF := Lib.hid hF
      obtain ⟨nz, hnz⟩ : ∃ n, Z.length = n := ⟨_, rfl⟩
      rw [hnz] at HML ⊢
      clear hmid hrep hF hX0 hZ hown7 hA0 hT7 hB7 hl7 hg7 hcZ hnz T6 G6 O6 O6r T4 HF Q2
      go_wp2_with fail
      refine HML.out.mono ?_
      clear HML
      rintro e w10 ⟨vM, rfl, hM, hb10⟩
      obtain ⟨AM, cM, rfl, hcM, hmM⟩ := hM.shape
      obtain ⟨M, hMe⟩ : ∃ x, meldL Z = x := ⟨_, rfl⟩
      rw [hMe] at hM hcM HZF HRP ⊢
      obtain ⟨nm, hnm⟩ : ∃ n, M.length = n := ⟨_, rfl⟩
      have HNM := Lib.hid hnm
      rw [hnm] at hM hcM ⊢
      have hnm2 : nm ≤ 80000 := by have h1 := HRL.out; rw [HRP.out, List.length_append, List.length_append, hnm] at h1; omega
      have hnmI : (nm : Int) ≤ 80000 := by omega
      obtain ⟨B0, hB0⟩ : ∃ x, wc.heap.size = x := ⟨_, rfl⟩
      rw [hB0] at hM
      have HST := Lib.hid (show St3 w F gT gA root X0 B' M n (.slice AM nm cM) B0 0 (.int .i64 A0.rt) w10 from
        ⟨F7, s7, fr7, A0, rfl, T7.out.1.below hb10, by rw [T7.out.2.1, List.take_zero, List.append_nil], hM, fun k hk hF => by have h1 := T7.out.1.base.tw.ar.lt k hF; have h2 := own_base hM hk; omega, by have := T7.out.2.2.2.1; omega, T7.out.2.2.2.2.to hb10⟩)
      have HB7 := Lib.hid T7.out.2.2.1
      clear hM hb10 hMe hnm hB0 T7
      go_wp2_with fail
      go_loopw [8, 78] (fun v8 v78 wr => ∃ (k : Nat) (u : Value), k ≤ nm ∧ u = v8 ∧ v78 = .int .i64 k ∧ St3 w F gT gA root X0 B' M n (.slice AM nm cM) B0 k u wr) (fun _ v78 _ => nm - (intOf v78).toNat)
      case atStart => exact ⟨0, _, Nat.zero_le _, rfl, rfl, HST.out⟩
      case round =>
        obtain ⟨k, v8, hk, rfl, rfl, F', s', fr', A', rfl, hT, hA, hM, hO, hl, hg⟩ := hrel
        by_cases hlt : k < nm
        · have hkI : (k : Int) < nm := by omega
          obtain ⟨x, hx⟩ : ∃ x, M[k]? = some x := ⟨_, List.getElem?_eq_getElem (by rw [HNM.out]; exact hlt)⟩
          have hmem : x ∈ M := List.mem_of_getElem? hx
          have hTK : M.take (k + 1) = M.take k ++ [x] := by rw [List.take_add_one, hx]; rfl
          have hsplit : M = M.take k ++ x :: M.drop (k + 1) := by
            have h1 := (List.getElem?_eq_some_iff.1 hx)
            rw [← h1.2, ← List.drop_eq_getElem_cons h1.1, List.take_append_drop]
          have hZF := HZF.out
          have hsn := sumT_nonneg (l := M.drop (k + 1)) (fun y hy => hZF.2.2.2.1 y (List.mem_of_mem_drop hy))
          have hsM : sumT M = sumT (M.take k) + (sizeT x + sumT (M.drop (k + 1))) := by rw [← sumT.eq_2, ← sumT_append, ← hsplit]
          have hle : s'.length < 90000 := by
            have h1 := HRL.out
            rw [HRP.out, List.length_append, List.length_append, HNM.out] at h1
            have h2 : A'.nodes.length = X0.length + k := by rw [← Tr.things_len, hA, List.length_append, List.length_take, HNM.out]; omega
            have h3 : B'.nodes.length = XB.tail.length := by rw [← Tr.things_len, HB7.out]
            have h4 := HXX.out.2.2
            omega
          have HX := Lib.hid (show okT x ∧ sumT A'.things + sumT B'.things + sizeT x ≤ 100000000000 ∧ s'.length < 90000 from ⟨hZF.2.2.2.1 x hmem, by
            rw [hA, HB7.out, sumT_append]
            have h5 := hZF.2.2.2.2.1
            have h6 := HLO.out.2
            omega, hle⟩)
          obtain ⟨-, bm, rfl, hbm, hbl, hrm, -⟩ := hM.thing hx
          obtain ⟨bx, hbx⟩ : ∃ v, wr.heap.size = v := ⟨_, rfl⟩
          obtain ⟨w2, hw2⟩ : ∃ v, wr.alloc (.cells (encT x).toArray 58) = v := ⟨_, rfl⟩
          have B2 : Below wr.heap.size wr w2 := by rw [← hw2]; exact (Below.refl _ _).alloc (Nat.le_refl _) _
          have F2 := Lib.hid (show w2.heap[bx]? = some (.cells (encT x).toArray 58) by rw [← hw2, ← hbx]; exact heap_alloc_new wr _)
          have C2 := Lib.hid (hT.below B2)
          have HBX := Lib.hid (show ¬ F' bx from fun hF => by have := hT.base.tw.ar.lt _ hF; omega)
          have HM2 := Lib.hid (And.intro (OwnT.later hM B2) hO)
          have HA := Lib.hid (And.intro hA (And.intro hl (hg.to B2)))
          have HTK := Lib.hid hTK
          have HE := Lib.hid (And.intro hw2 hbx)
          have HRx := Lib.hid hrm
          clear hx hmem hTK hsplit hZF hsn hsM hle hbx hw2 B2 hT hA hM hO hl hg hrm
          go_upto_region 14 with (first
            | (refine wpList_load_mid rfl 58 (.tmp 80) rfl bm (k * 33) rfl (encT x) _ HRx.out Try.underlying58 rfl (thing_info x) ?_)
            | (refine wpList_store_row rfl 58 (.tmp 18) (.tmp 81) rfl wr.heap.size (encT x).toArray rfl rfl 58 _ (heap_alloc_new wr _) (by rw [List.size_toArray]; exact thing_info _) ((by rfl : _ = 33).trans (encT_size _).symm) (all_oneCell_toArray (encT_one _)) ?_; rw [alloc_setRow, HE.out.1, HE.out.2]))
          refine wp_region_held_drew (S := fun w' => w'.cell? ⟨gT, 3, none⟩ = some (.pointer (some ⟨gA, 0, none⟩)) ∧ w'.heap[bx]? = some (.cells (encT x).toArray 58)) (by kernel_rfl) ⟨C2.out.base.tw.cN, F2.out⟩ (fun hHeld => ?_)
          try dsimp only at hHeld
          refine take_at (i := 0) (v := ?_) (some 82) rfl rfl (by kernel_rfl) (by kernel_rfl) (by kernel_rfl) (fun _ _ _ h => h) hHeld (by rfl) (fun wS hSw => ?_) ?_
          rotate_left
          · try dsimp only at hSw
            go_simp
            try with_reducible rfl
          try simp only [Act.put, List.setIfInBounds_toArray, List.set_cons_zero, List.set_cons_succ]
          refine take_at (i := 1) (v := ?_) (some 83) rfl rfl (by kernel_rfl) (by kernel_rfl) (by kernel_rfl) (fun _ _ _ h => h) hHeld (by rfl) (fun wS hSw => ?_) ?_
          rotate_left
          · try dsimp only at hSw
            go_simp
            try with_reducible rfl
          try simp only [Act.put, List.setIfInBounds_toArray, List.set_cons_zero, List.set_cons_succ]
          refine take_at (i := 2) (v := ?_) (some 84) rfl rfl (by kernel_rfl) (by kernel_rfl) (by kernel_rfl) (fun _ _ _ h => h) hHeld (by rfl) (fun wS hSw => ?_) ?_
          rotate_left
          · try dsimp only at hSw
            go_simp
            try with_reducible rfl
          try simp only [Act.put, List.setIfInBounds_toArray, List.set_cons_zero, List.set_cons_succ]
          refine take_at (i := 3) (v := ?_) (some 85) rfl rfl (by kernel_rfl) (by kernel_rfl) (by kernel_rfl) (fun _ _ _ h => h) hHeld (by rfl) (fun wS hSw => ?_) ?_
          rotate_left
          · try dsimp only at hSw
            go_simp
            try with_reducible rfl
          try simp only [Act.put, List.setIfInBounds_toArray, List.set_cons_zero, List.set_cons_succ]
          refine take_at (i := 4) (v := ?_) (some 86) rfl rfl (by kernel_rfl) (by kernel_rfl) (by kernel_rfl) (fun _ _ _ h => h) hHeld (by rfl) (fun wS hSw => ?_) ?_
          rotate_left
          · try dsimp only at hSw
            go_simp
            try with_reducible rfl
          try simp only [Act.put, List.setIfInBounds_toArray, List.set_cons_zero, List.set_cons_succ]
          refine take_at (i := 5) (v := ?_) (some 87) rfl rfl (by kernel_rfl) (by kernel_rfl) (by kernel_rfl) (fun _ _ _ h => h) hHeld (by rfl) (fun wS hSw => ?_) ?_
          rotate_left
          · have hS1 := hSw.1
            try dsimp only at hSw
            go_simp
            try with_reducible rfl
          try simp only [Act.put, List.setIfInBounds_toArray, List.set_cons_zero, List.set_cons_succ]
          refine take_at (i := 6) (v := ?_) (some 88) rfl rfl (by kernel_rfl) (by kernel_rfl) (by kernel_rfl) (fun _ _ _ h => h) hHeld (by rfl) (fun wS hSw => ?_) ?_
          rotate_left
          · refine exec_load_row 58 (.tmp 18) ?_ bx ?_ 58 (encT x).toArray (0, 0) _ hSw.2 Try.underlying58 rfl (by rw [List.size_toArray]; exact thing_info _) <;> rfl
          try simp only [Act.put, List.setIfInBounds_toArray, List.set_cons_zero, List.set_cons_succ]
          refine take_at (i := 7) (v := ?_) (some 89) rfl rfl (by kernel_rfl) (by kernel_rfl) (by kernel_rfl) (fun _ _ _ h => h) hHeld (by rfl) (fun wS hSw => ?_) ?_
          rotate_left
          · refine exec_build1 103 0 (.tmp 88) ?_ (.agg (encT x).toArray) ?_ (mkN x 0 0 0 0 0).C.toArray (built_node _) <;> rfl
          try simp only [Act.put, List.setIfInBounds_toArray, List.set_cons_zero, List.set_cons_succ]
          refine wpAnyH_ready (rs := [8]) (by kernel_rfl) (by simp) ?_
          refine AllReadyH.cons rfl (fun K hK => ?_) AllReadyH.nil
          simp only [List.getElem_toArray, List.getElem_cons_succ, List.getElem_cons_zero]
          go_simp
          refine (show Calls Try.prog 61 #[.pointer (some ⟨gA, 0, none⟩), .agg (mkN x 0 0 0 0 0).C.toArray] w2.drew _ from take_two (C2.out.below (Below.refl _ _).drew) x HX.out.1 HX.out.2.1 HX.out.2.2).mono ?_
          rintro e w3 ⟨F3, fr3, s3, p, rfl, hT3, hl3, hg3⟩
          have hbx : ¬ F' bx := HBX.out
          have hH3 : w3.cell? ⟨gT, 3, none⟩ = some (.pointer (some ⟨gA, 0, none⟩)) ∧ w3.heap[bx]? = some (.cells (encT x).toArray 58) := ⟨hT3.base.tw.cN, (hg3.step.block bx (Array.getElem?_eq_some_iff.1 hHeld.2).1 hbx).trans hHeld.2⟩
          have C3 := Lib.hid (And.intro hT3 (And.intro hl3 (And.intro ((Grow.of_below (Below.refl w2.heap.size w2).drew).trans hg3) (show OwnT w3 B0 (.slice (some ⟨bm, 0, none⟩) nm cM) M from own_step (show OwnT w2.drew B0 (.slice (some ⟨bm, 0, none⟩) nm cM) M from HM2.out.1) hg3.step HM2.out.2))))
          clear hT3 hl3 hg3 hbx
          try dsimp only
          have hOld := hHeld
          refine hK.out _ _ hH3 (fun _ => ?_)
          clear hK K
          refine wpAnyH_mono (S2 := fun w' => w'.cell? ⟨gT, 3, none⟩ = some (.pointer (some ⟨gA, 0, none⟩)) ∧ w'.heap[bx]? = some (.cells (encT x).toArray 58)) (fun _ h => h) _ _ _ _ ?_
          clear hHeld
          have hHeld := hH3
          clear hOld
          try simp only [Act.put, List.setIfInBounds_toArray, List.set_cons_zero, List.set_cons_succ]
          refine wpAnyH_ready (rs := [9]) (by kernel_rfl) (by simp) ?_
          refine AllReadyH.cons rfl (fun K hK => ?_) AllReadyH.nil
          simp only [List.getElem_toArray, List.getElem_cons_succ, List.getElem_cons_zero]
          go_simp
          refine (join_two C3.out.1).mono ?_
          rintro e w4 ⟨s4, A4, rfl, hT4, hn4, hl4, hg4⟩
          have hoff3 : Off (.slice (some ⟨bm, 0, none⟩) nm cM) F3 := HM2.out.2.grow C3.out.2.2.1 (fun k hk => own_lt HM2.out.1 hk)
          have hbx3 : ¬ F3 bx := fun hF => by
            rcases C3.out.2.2.1.new bx hF with e | e
            · exact HBX.out e
            · exact absurd (Array.getElem?_eq_some_iff.1 F2.out).1 (by omega)
          have hH4 : w4.cell? ⟨gT, 3, none⟩ = some (.pointer (some ⟨gA, 0, none⟩)) ∧ w4.heap[bx]? = some (.cells (encT x).toArray 58) := ⟨hT4.base.tw.cN, (hg4.step.block bx (Array.getElem?_eq_some_iff.1 hHeld.2).1 hbx3).trans hHeld.2⟩
          have C4 := Lib.hid (show St3 w F gT gA root X0 B' M n (.slice (some ⟨bm, 0, none⟩) nm cM) B0 (k + 1) (.int .i64 A4.rt) w4 from ⟨F3, s4, fr3, A4, rfl, hT4, by rw [things_of hn4, HA.out.1, HTK.out, List.append_assoc], own_step C3.out.2.2.2 hg4.step hoff3, hoff3, by rw [hl4, hn4, List.length_append, List.length_singleton]; have h1 := C3.out.2.1; have h2 := HA.out.2.1; omega, HA.out.2.2.trans (C3.out.2.2.1.trans hg4)⟩)
          clear hT4 hn4 hl4 hg4 hoff3 hbx3
          try dsimp only
          have hOld := hHeld
          refine hK.out _ _ hH4 (fun _ => ?_)
          clear hK K
          refine wpAnyH_mono (S2 := fun w' => w'.cell? ⟨gT, 3, none⟩ = some (.pointer (some ⟨gA, 0, none⟩)) ∧ w'.heap[bx]? = some (.cells (encT x).toArray 58)) (fun _ h => h) _ _ _ _ ?_
          clear hHeld
          have hHeld := hH4
          clear hOld
          try simp only [Act.put, List.setIfInBounds_toArray, List.set_cons_zero, List.set_cons_succ]
          refine take_at (i := 10) (v := ?_) (some 8) rfl rfl (by kernel_rfl) (by kernel_rfl) (by kernel_rfl) (fun _ _ _ h => h) hHeld (by rfl) (fun wS hSw => ?_) ?_
          rotate_left
          · try dsimp only at hSw
            go_simp
            try with_reducible rfl
          try simp only [Act.put, List.setIfInBounds_toArray, List.set_cons_zero, List.set_cons_succ]
          refine wpAnyH_done (by kernel_rfl) ?_ _
          clear hHeld hH4
          go_wp2_with fail
          go_roundw
          case rel => exact ⟨k + 1, _, by omega, rfl, by go_num, C4.out⟩
          case measure => simp [intOf]; omega
        · obtain rfl : k = nm := by omega
          have HCo := Lib.hid (concat_two hT)
          have HE3 := Lib.hid (And.intro hA (And.intro hl hg))
          clear hT hA hM hO hl hg
          go_wp2_with fail
          refine HCo.out.mono ?_
          clear HCo
          rintro e w5 ⟨s5, T5, rfl, hT5, hH5, hok5, hlv5, hth5, hl5, hg5⟩
          have hcR5 := hT5.cR
          have hfz5 := frozen_of_row w5 gT 4 _ _ hT5.blk
          have HT5 := Lib.hid (show TreeS (w5.setCell ⟨gT, 4, none⟩ (.int .i64 T5.rt)) F' gT gA T5 s5 fr' from ⟨hT5.setRoot _, hH5, hok5, hlv5⟩)
          have HFin := Lib.hid (And.intro hth5 (And.intro hl5 (HE3.out.2.2.trans hg5)))
          clear hT5 hH5 hok5 hlv5 hth5 hl5 hg5
          go_wp2_with fail
          go_end0
          have hgr := HFin.out.2.2
          refine ⟨fun q => F' q ∨ q = gT, ⟨_, rfl⟩, ⟨F', gA, T5, s5, fr', fun _ => Iff.rfl, HT5.out, ?_, ?_⟩, ⟨?_, fun q hq => ?_⟩⟩
          · rw [HFin.out.1, HE3.out.1, HB7.out, HRP.out, List.take_of_length_le (by rw [HNM.out]; exact Nat.le_refl _)]
          · have h1 := HE3.out.2.1
            rw [HFin.out.2.1, HRP.out, List.length_append, List.length_append]
            have h2 : A'.nodes.length = X0.length + M.length := by rw [← Tr.things_len, HE3.out.1, List.length_append, List.take_of_length_le (by rw [HNM.out]; exact Nat.le_refl _)]
            have h3 : B'.nodes.length = XB.tail.length := by rw [← Tr.things_len, HB7.out]
            have h4 := HXX.out.2.2
            omega
          · exact (hgr.step.mono (G := G) (fun q _ hq => (HG.out q).2 (.inl hq))).setCell (p := ⟨gT, 4, none⟩) (.inl ((HG.out gT).2 (.inr rfl))) _
          · rcases hq with hq | hq
            · rcases hgr.new q hq with e | e
              · exact .inl ((HG.out q).2 (.inl e))
              · exact .inr e
            · exact .inl ((HG.out q).2 (.inr hq))

end Go.Proofs.Ytmfkdaannjibfaa
