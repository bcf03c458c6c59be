/-
  A tree's things, plainly (the cut, 'Replace', what is taken); its calls where other trees lie in the arena; the stages of Replace's walk.
-/
import Derived.Test.YtbioomilnjikpaaSpX
namespace Go.Proofs.Ytbioomilnjikpaa
open Go.RowKit

/-- Cut at a place. -/
def splitT : List Th → Int → List Th × List Th
  | [], _ => ([], [])
  | t :: L, a => if a ≤ 0 then ([], t :: L) else if sizeT t ≤ a then (t :: (splitT L (a - sizeT t)).1, (splitT L (a - sizeT t)).2) else ([cutA t a], cutB t a :: L)

theorem splitL_map (p : Nat) : ∀ (L : List (Nat × Th)) (a : Int), (splitL L a p).1.map (·.2) = (splitT (L.map (·.2)) a).1 ∧ (splitL L a p).2.map (·.2) = (splitT (L.map (·.2)) a).2
  | [], _ => ⟨rfl, rfl⟩
  | (i, t) :: L, a => by
    have ih := splitL_map p L (a - sizeT t)
    rw [splitL, List.map_cons, splitT]
    by_cases h1 : a ≤ 0
    · rw [if_pos h1, if_pos h1]; exact ⟨rfl, rfl⟩
    · rw [if_neg h1, if_neg h1]
      by_cases h2 : sizeT t ≤ a
      · rw [if_pos h2, if_pos h2]; exact ⟨by rw [List.map_cons, ih.1], ih.2⟩
      · rw [if_neg h2, if_neg h2]; exact ⟨rfl, rfl⟩

/-- Things in place of those from i to j. -/
def replT (X : List Th) (i j : Int) (l : List Th) : List Th :=
  (splitT X i).1.dropLast ++ meldL ((splitT X i).1.getLast?.toList ++ l ++ (splitT (splitT X i).2 (j - i)).2.head?.toList) ++ (splitT (splitT X i).2 (j - i)).2.tail

theorem splitT_ok : ∀ (L : List Th) (a : Int), (∀ x ∈ L, okT x) → (∀ x ∈ (splitT L a).1, okT x) ∧ (∀ x ∈ (splitT L a).2, okT x) ∧ (splitT L a).1.length + (splitT L a).2.length ≤ L.length + 1
  | [], _, h => ⟨h, h, by simp [splitT]⟩
  | t :: L, a, h => by
    have ih := splitT_ok L (a - sizeT t) (fun x hx => h x (by simp [hx]))
    rw [splitT]
    by_cases h1 : a ≤ 0
    · rw [if_pos h1]; exact ⟨fun x hx => (nomatch hx), h, by simp⟩
    · rw [if_neg h1]
      by_cases h2 : sizeT t ≤ a
      · rw [if_pos h2]
        refine ⟨fun x hx => ?_, ih.2.1, by have := ih.2.2; simp only [List.length_cons]; omega⟩
        rcases List.mem_cons.1 hx with e | e
        · rw [e]; exact h t (by simp)
        · exact ih.1 x e
      · rw [if_neg h2]
        have hc := cut_ok (h t (by simp)) (by omega : 0 < a) (by omega)
        refine ⟨fun x hx => by rw [List.mem_singleton] at hx; exact hx ▸ hc.1, fun x hx => ?_, by simp; omega⟩
        rcases List.mem_cons.1 hx with e | e
        · rw [e]; exact hc.2.1
        · exact h x (by simp [e])

theorem splitT_sum : ∀ (L : List Th) (a : Int), (∀ x ∈ L, okT x) → 0 ≤ a → a ≤ sumT L → sumT (splitT L a).1 = a ∧ sumT (splitT L a).2 = sumT L - a
  | [], a, _, h0, h1 => by
    rw [sumT] at h1
    have : a = 0 := by omega
    subst this
    exact ⟨rfl, rfl⟩
  | t :: L, a, h, h0, h1 => by
    rw [sumT] at h1
    rw [splitT]
    by_cases ha : a ≤ 0
    · rw [if_pos ha]; have : a = 0 := by omega
      subst this; exact ⟨rfl, by rw [sumT]; omega⟩
    · rw [if_neg ha]
      by_cases h2 : sizeT t ≤ a
      · rw [if_pos h2]
        have ih := splitT_sum L (a - sizeT t) (fun x hx => h x (by simp [hx])) (by omega) (by omega)
        dsimp only
        rw [sumT, ih.1, ih.2, sumT]
        exact ⟨by omega, by omega⟩
      · rw [if_neg h2]
        have hc := cut_ok (h t (by simp)) (by omega : 0 < a) (by omega)
        have hs := cutA_size (h t (by simp)) (by omega : 0 < a) (by omega)
        dsimp only
        rw [sumT, sumT, sumT, sumT]
        omega

/-! ### What is taken -/
/-- The places that are taken are these. -/
def Live (s : List (Option Nd)) (I : List Nat) : Prop := ∀ k, (∃ n, gt s k = some n) ↔ k ∈ I

theorem Live.count {s : List (Option Nd)} {fr I : List Nat} (h : Live s I) (hn : I.Nodup) (ho : ArOk s fr) : s.length = fr.length + I.length := by
  have h1 : ∀ i ∈ fr ++ I, i ∈ List.range s.length := fun i hi => by
    rw [List.mem_range]
    rcases List.mem_append.1 hi with e | e
    · exact (List.getElem?_eq_some_iff.1 ((ho.iff i).1 e)).1
    · obtain ⟨n, hn⟩ := (h i).2 e
      exact gt_lt hn
  have h2 : ∀ i ∈ List.range s.length, i ∈ fr ++ I := fun i hi => by
    rw [List.mem_range] at hi
    rw [List.mem_append]
    cases hq : s[i] with
    | none => exact .inl ((ho.iff i).2 (by rw [List.getElem?_eq_getElem hi, hq]))
    | some n => exact .inr ((h i).1 ⟨n, gt_some.2 (by rw [List.getElem?_eq_getElem hi, hq])⟩)
  have h3 : (fr ++ I).Nodup := by
    rw [List.nodup_append]
    refine ⟨ho.nodup, hn, fun a ha b hb e => ?_⟩
    subst e
    obtain ⟨n, hn⟩ := (h a).2 hb
    have := (ho.iff a).1 ha
    unfold gt at hn
    rw [this] at hn
    cases hn
  have a1 := h3.length_le_of_subset h1
  have a2 := (List.nodup_range (n := s.length)).length_le_of_subset h2
  rw [List.length_range, List.length_append] at *
  omega

theorem Live.congr {s : List (Option Nd)} {I J : List Nat} (h : Live s I) (e : ∀ k, k ∈ I ↔ k ∈ J) : Live s J := fun k => (h k).trans (e k)

theorem takeS_len {s : List (Option Nd)} {fr I : List Nat} (h : Live s I) (hn : I.Nodup) (ho : ArOk s fr) (x : Nd) : (takeS s fr x).length ≤ max s.length (I.length + 1) := by
  have hc := h.count hn ho
  unfold takeS
  split
  · next e => rw [e] at hc; rw [List.length_append, List.length_singleton]; simp at hc; omega
  · rw [List.length_set]; omega

/-- A tree whole: the places that are taken are its nodes. -/
structure TreeS (w : World) (F : Nat → Prop) (gT gA : Nat) (T : Tr) (s : List (Option Nd)) (fr : List Nat) : Prop where
  tw : TreeW w F gT gA T.rt s fr
  holds : Holds s T
  ok : OkL T.nodes
  live : Live s (ids T.nodes)

/-- The things of a tree. -/
def Tr.things (T : Tr) : List Th := T.nodes.map (·.2)
theorem Tr.things_len (T : Tr) : T.things.length = T.nodes.length := List.length_map _
theorem Tr.z_things (T : Tr) : T.z = sumT T.things := by rw [Tr.z_eq, sumT_of]; rfl

/-- A tree of these things, in the blocks G, of at most N places. -/
def TreeX (w : World) (G : Nat → Prop) (gT : Nat) (X : List Th) (N : Nat) : Prop :=
  ∃ F gA T s fr, (∀ k, G k ↔ F k ∨ k = gT) ∧ TreeS w F gT gA T s fr ∧ T.things = X ∧ s.length ≤ N

/-- The arena holds these nodes and no others. -/
structure Base (w : World) (F : Nat → Prop) (gT gA : Nat) (root : Int) (s : List (Option Nd)) (fr : List Nat) (N : List (Nat × Th)) : Prop where
  tw : TreeW w F gT gA root s fr
  ok : OkL N
  live : Live s (ids N)

section
variable {w w' : World} {F F' : Nat → Prop} {gT gA : Nat} {root : Int} {s s' : List (Option Nd)} {fr fr' : List Nat} {N N' : List (Nat × Th)}

theorem Base.step {L L' : List (Nat × Th)} {O : List Nat} (h : Base w F gT gA root s fr N) (hT : TreeW w' F' gT gA root s' fr') (hN : OkL N') (keep : ∀ j, j ∉ ids L → j ∉ ids L' → gt s' j = gt s j) (taken : ∀ j ∈ ids L', ∃ n, gt s' j = some n) (gone : ∀ j ∈ ids L, j ∉ ids L' → gt s' j = none)
    (m1 : ∀ j, j ∈ ids N ↔ j ∈ ids L ∨ j ∈ O) (m2 : ∀ j, j ∈ ids N' ↔ j ∈ ids L' ∨ j ∈ O) (ap : ∀ j ∈ O, j ∉ ids L ∧ j ∉ ids L') : Base w' F' gT gA root s' fr' N' := by
  refine ⟨hT, hN, fun k => ⟨fun ⟨n, hn⟩ => ?_, fun hk => ?_⟩⟩
  · rw [m2]
    by_cases h1 : k ∈ ids L'
    · exact .inl h1
    · by_cases h2 : k ∈ ids L
      · rw [gone k h2 h1] at hn; cases hn
      · rw [keep k h2 h1] at hn
        rcases (m1 k).1 ((h.live k).1 ⟨n, hn⟩) with e | e
        · exact absurd e h2
        · exact .inr e
  · rcases (m2 k).1 hk with e | e
    · exact taken k e
    · obtain ⟨n, hn⟩ := (h.live k).2 ((m1 k).2 (.inr e))
      exact ⟨n, by rw [keep k (ap k e).1 (ap k e).2]; exact hn⟩

theorem Base.below (h : Base w F gT gA root s fr N) (hb : Below w.heap.size w w') : Base w' F gT gA root s fr N := ⟨h.tw.below hb, h.ok, h.live⟩
theorem Base.count (h : Base w F gT gA root s fr N) : s.length = fr.length + N.length := by
  have := h.live.count h.ok.nodup h.tw.ok
  rw [ids, List.length_map] at this
  exact this
end

/-- Two trees; two trees and a node between them; three trees. -/
structure Two (w : World) (F : Nat → Prop) (gT gA : Nat) (root : Int) (A B : Tr) (s : List (Option Nd)) (fr : List Nat) : Prop where
  base : Base w F gT gA root s fr (A.nodes ++ B.nodes)
  ha : Holds s A
  hb : Holds s B
structure TwoP (w : World) (F : Nat → Prop) (gT gA : Nat) (root : Int) (A : Tr) (p : Nat) (x : Th) (B : Tr) (s : List (Option Nd)) (fr : List Nat) : Prop where
  base : Base w F gT gA root s fr (A.nodes ++ (p, x) :: B.nodes)
  ha : Holds s A
  hb : Holds s B
  hp : ∃ l0 r0 h0 z0 m0, gt s p = some (mkN x l0 r0 h0 z0 m0)
structure Three (w : World) (F : Nat → Prop) (gT gA : Nat) (root : Int) (A G B : Tr) (s : List (Option Nd)) (fr : List Nat) : Prop where
  base : Base w F gT gA root s fr (A.nodes ++ (G.nodes ++ B.nodes))
  ha : Holds s A
  hg : Holds s G
  hb : Holds s B

section
variable {w w' : World} {F : Nat → Prop} {gT gA : Nat} {root : Int} {A B : Tr} {s : List (Option Nd)} {fr : List Nat}
theorem Two.below (h : Two w F gT gA root A B s fr) (hb : Below w.heap.size w w') : Two w' F gT gA root A B s fr := ⟨h.base.below hb, h.ha, h.hb⟩
theorem TwoP.below {p : Nat} {x : Th} (h : TwoP w F gT gA root A p x B s fr) (hb : Below w.heap.size w w') : TwoP w' F gT gA root A p x B s fr := ⟨h.base.below hb, h.ha, h.hb, h.hp⟩
theorem TreeS.two {T : Tr} (h : TreeS w F gT gA T s fr) : Two w F gT gA T.rt .nil T s fr := ⟨⟨h.tw, by simpa [Tr.nodes] using h.ok, by simpa [Tr.nodes] using h.live⟩, trivial, h.holds⟩
theorem Three.two (h : Three w F gT gA root .nil A B s fr) : Two w F gT gA root A B s fr := ⟨by simpa [Tr.nodes] using h.base, h.hg, h.hb⟩
theorem mem_app {A B : List (Nat × Th)} {j : Nat} : j ∈ ids (A ++ B) ↔ j ∈ ids A ∨ j ∈ ids B := by rw [ids_append, List.mem_append]
theorem mem_cons' {p : Nat} {x : Th} {B : List (Nat × Th)} {j : Nat} : j ∈ ids ((p, x) :: B) ↔ j = p ∨ j ∈ ids B := by rw [ids, List.map_cons, List.mem_cons]; rfl
end

theorem splitL_ids2 {p j : Nat} : ∀ {L : List (Nat × Th)} {a : Int}, j ∈ ids L → j ∈ ids ((splitL L a p).1 ++ (splitL L a p).2)
  | (i, t) :: L, a, h => by
    rw [splitL]
    by_cases h1 : a ≤ 0
    · rw [if_pos h1]; exact h
    · rw [if_neg h1]
      rw [mem_cons'] at h
      by_cases h2 : sizeT t ≤ a
      · rw [if_pos h2]
        dsimp only
        rw [List.cons_append, mem_cons']
        rcases h with e | e
        · exact .inl e
        · exact .inr (splitL_ids2 e)
      · rw [if_neg h2]
        dsimp only
        rw [List.cons_append, List.nil_append, mem_cons', mem_cons']
        rcases h with e | e
        · exact .inl e
        · exact .inr (.inr e)

theorem OkL.of_append {A B : List (Nat × Th)} (ha : OkL A) (hb : OkL B) (hd : ∀ j ∈ ids A, j ∉ ids B) (hs : sumZ A + sumZ B ≤ 100000000000) (hl : A.length + B.length ≤ 100000) : OkL (A ++ B) :=
  ⟨by rw [ids_append, List.nodup_append]; exact ⟨ha.nodup, hb.nodup, fun a h1 b h2 e => hd a h1 (e ▸ h2)⟩, fun q hq => by rcases List.mem_append.1 hq with e | e; exact ha.ok q e; exact hb.ok q e, by rw [sumZ_append]; exact hs, by rw [List.length_append]; exact hl⟩

theorem split_two {w : World} {F : Nat → Prop} {gT gA : Nat} {root : Int} {A R : Tr} {s : List (Option Nd)} {fr : List Nat} (h : Two w F gT gA root A R s fr) (hl : s.length < 90000) (a : Int) (h1 : -1000000000000 ≤ a) (h2 : a ≤ 1000000000000) :
    Calls Try.prog 40 #[.pointer (some ⟨gT, 0, none⟩), .int .i64 R.rt, .int .i64 a] w fun e w' => ∃ F' fr' s' G B, e = .returned (.tuple #[.int .i64 G.rt, .int .i64 B.rt]) ∧ Three w' F' gT gA root A G B s' fr' ∧
      G.things = (splitT R.things a).1 ∧ B.things = (splitT R.things a).2 ∧ s'.length ≤ s.length + 1 ∧ Grow F w w' F' := by
  refine (split_any R w h.base.tw h.hb h.base.ok.right hl a h1 h2).mono ?_
  rintro e w' ⟨v, rfl, F', fr', s', G, B, rfl, hT, hG, hB, hnG, hnB, hk, hlen, hg⟩
  have hp := gt_next h.base.tw.ok
  have hc := h.base.count
  rw [List.length_append] at hc
  have hpR : nextOf s fr ∉ ids R.nodes := fun e => by obtain ⟨n, hn⟩ := h.hb.taken _ e; rw [hp] at hn; cases hn
  have hpA : nextOf s fr ∉ ids A.nodes := fun e => by obtain ⟨n, hn⟩ := h.ha.taken _ e; rw [hp] at hn; cases hn
  obtain ⟨k1, k2, k3, k4⟩ := splitL_ok (nextOf s fr) R.nodes a h.base.ok.right hpR (by omega)
  have hi2 := fun j => splitL_ids2 (p := nextOf s fr) (j := j) (L := R.nodes) (a := a)
  rw [← hnG, ← hnB] at hk k1 k2 k3 k4 hi2
  have hd : ∀ j ∈ ids A.nodes, j ∉ ids (G.nodes ++ B.nodes) := fun j hj e => by
    rcases k2 j e with e | e
    · exact h.base.ok.apart j hj e
    · exact hpA (e ▸ hj)
  have hs := h.base.ok.sum
  rw [sumZ_append] at hs
  have hok : OkL (A.nodes ++ (G.nodes ++ B.nodes)) := OkL.of_append h.base.ok.left k1 hd (by rw [k3]; exact hs) (by omega)
  refine ⟨F', fr', s', G, B, rfl, ⟨h.base.step (L := R.nodes) (L' := G.nodes ++ B.nodes) (O := ids A.nodes) hT hok hk (fun j hj => ?_) (fun j hj hn => absurd (hi2 j hj) hn) (fun j => by rw [mem_app]; exact Or.comm) (fun j => by rw [mem_app]; exact Or.comm) (fun j hj => ⟨h.base.ok.apart j hj, hd j hj⟩), ?_, hG, hB⟩, ?_, ?_, hlen, hg⟩
  · rcases mem_app.1 hj with e | e
    · exact hG.taken j e
    · exact hB.taken j e
  · exact h.ha.keep fun j hj => hk j (h.base.ok.apart j hj) (hd j hj)
  · rw [Tr.things, Tr.things, hnG]; exact (splitL_map _ _ _).1
  · rw [Tr.things, Tr.things, hnB]; exact (splitL_map _ _ _).2

theorem drop_three {w : World} {F : Nat → Prop} {gT gA : Nat} {root : Int} {A G B : Tr} {s : List (Option Nd)} {fr : List Nat} (h : Three w F gT gA root A G B s fr) :
    Calls Try.prog 41 #[.pointer (some ⟨gT, 0, none⟩), .int .i64 G.rt] w fun e w' => ∃ F' fr' s', (∃ v, e = .returned v) ∧ Two w' F' gT gA root A B s' fr' ∧ s'.length = s.length ∧ Grow F w w' F' := by
  refine (drop_any G w F s fr h.base.tw h.hg h.base.ok.right.left).mono ?_
  rintro e w' ⟨hv, F', s', fr', hT, hn, hk, hlen, hg⟩
  have ho := h.base.ok
  have hA : ∀ j ∈ ids A.nodes, j ∉ ids G.nodes := fun j hj e => ho.apart j hj (mem_app.2 (.inl e))
  have hB : ∀ j ∈ ids B.nodes, j ∉ ids G.nodes := fun j hj e => ho.right.apart j e hj
  have hs := ho.sum
  rw [sumZ_append, sumZ_append] at hs
  have hz := sumZ_nonneg ho.right.left.ok
  have hl := ho.len
  rw [List.length_append, List.length_append] at hl
  have hok : OkL (A.nodes ++ B.nodes) := OkL.of_append ho.left ho.right.right (fun j hj e => ho.apart j hj (mem_app.2 (.inr e))) (by omega) (by omega)
  refine ⟨F', fr', s', hv, ⟨h.base.step (L := G.nodes) (L' := []) (O := ids (A.nodes ++ B.nodes)) hT hok (fun j h1 _ => hk j h1) (fun j hj => by simp [ids] at hj) (fun j hj _ => hn j hj) (fun j => ?_) (fun j => by simp [ids]) (fun j hj => ⟨?_, by simp [ids]⟩), h.ha.keep fun j hj => hk j (hA j hj), h.hb.keep fun j hj => hk j (hB j hj)⟩, hlen, hg⟩
  · rw [mem_app, mem_app, mem_app]
    constructor
    · rintro (e | e | e)
      · exact .inr (.inl e)
      · exact .inl e
      · exact .inr (.inr e)
    · rintro (e | e | e)
      · exact .inr (.inl e)
      · exact .inl e
      · exact .inr (.inr e)
  · rcases mem_app.1 hj with e | e
    · exact hA j e
    · exact hB j e

/-- The last node of the left tree is taken off. -/
theorem last_two {w : World} {F : Nat → Prop} {gT gA : Nat} {root : Int} {A B : Tr} {s : List (Option Nd)} {fr : List Nat} (h : Two w F gT gA root A B s fr) (hA : A.rt ≠ -1) :
    Calls Try.prog 42 #[.pointer (some ⟨gT, 0, none⟩), .int .i64 A.rt] w fun e w' => ∃ s' A' p x, e = .returned (.tuple #[.int .i64 A'.rt, .int .i64 (p : Nat)]) ∧ TwoP w' F gT gA root A' p x B s' fr ∧ A.nodes = A'.nodes ++ [(p, x)] ∧ s'.length = s.length ∧ Grow F w w' F := by
  refine (last_any A hA w s h.base.tw h.ha h.base.ok.left).mono ?_
  rintro e w' ⟨v, rfl, T, s', p, x, l0, r0, h0, z0, m0, rfl, hT, hH, hL, hp, hk, hlen, hg⟩
  have hL : A.nodes = T.nodes ++ [(p, x)] := hL
  have ho := h.base.ok
  have hok : OkL (T.nodes ++ (p, x) :: B.nodes) := by rw [hL] at ho; simpa using ho
  refine ⟨s', T, p, x, rfl, ⟨h.base.step (L := A.nodes) (L' := A.nodes) (O := ids B.nodes) hT hok (fun j h1 _ => hk j h1) (fun j hj => ?_) (fun j h1 h2 => absurd h1 h2) (fun j => mem_app) (fun j => ?_) (fun j hj => ⟨fun e => ho.apart j e hj, fun e => ho.apart j e hj⟩), hH, h.hb.keep fun j hj => hk j (fun e => ho.apart j e hj), ⟨_, _, _, _, _, hp⟩⟩, hL, hlen, hg⟩
  · rw [hL, mem_app] at hj
    rcases hj with e | e
    · exact hH.taken j e
    · rw [mem_cons'] at e
      rcases e with e | e
      · subst e; exact ⟨_, hp⟩
      · simp [ids] at e
  · rw [hL, mem_app, mem_app, mem_cons', mem_cons']
    simp only [ids, List.map_nil, List.not_mem_nil, or_false, or_assoc]

/-- The first node of the right tree is taken off. -/
theorem first_two {w : World} {F : Nat → Prop} {gT gA : Nat} {root : Int} {A B : Tr} {s : List (Option Nd)} {fr : List Nat} (h : Two w F gT gA root A B s fr) (hB : B.rt ≠ -1) :
    Calls Try.prog 44 #[.pointer (some ⟨gT, 0, none⟩), .int .i64 B.rt] w fun e w' => ∃ s' B' p x, e = .returned (.tuple #[.int .i64 B'.rt, .int .i64 (p : Nat)]) ∧ TwoP w' F gT gA root A p x B' s' fr ∧ B.nodes = (p, x) :: B'.nodes ∧ s'.length = s.length ∧ Grow F w w' F := by
  refine (first_any B hB w s h.base.tw h.hb h.base.ok.right).mono ?_
  rintro e w' ⟨v, rfl, T, s', p, x, l0, r0, h0, z0, m0, rfl, hT, hH, hL, hp, hk, hlen, hg⟩
  have hL : B.nodes = (p, x) :: T.nodes := hL
  have ho := h.base.ok
  have hok : OkL (A.nodes ++ (p, x) :: T.nodes) := by rw [hL] at ho; exact ho
  refine ⟨s', T, p, x, rfl, ⟨h.base.step (L := B.nodes) (L' := B.nodes) (O := ids A.nodes) hT hok (fun j h1 _ => hk j h1) (fun j hj => ?_) (fun j h1 h2 => absurd h1 h2) (fun j => by rw [mem_app]; exact Or.comm) (fun j => by rw [hL, mem_app]; exact Or.comm) (fun j hj => ⟨ho.apart j hj, ho.apart j hj⟩), h.ha.keep fun j hj => hk j (ho.apart j hj), hH, ⟨_, _, _, _, _, hp⟩⟩, hL, hlen, hg⟩
  rw [hL, mem_cons'] at hj
  rcases hj with e | e
  · subst e; exact ⟨_, hp⟩
  · exact hH.taken j e

/-- A node between two trees is freed; its thing is told. -/
theorem pick_two {w : World} {F : Nat → Prop} {gT gA : Nat} {root : Int} {A B : Tr} {p : Nat} {x : Th} {s : List (Option Nd)} {fr : List Nat} (h : TwoP w F gT gA root A p x B s fr) :
    Calls Try.prog 43 #[.pointer (some ⟨gT, 0, none⟩), .int .i64 (p : Nat)] w fun e w' => e = .returned (thV x) ∧ ∃ F' fr' s', Two w' F' gT gA root A B s' fr' ∧ s'.length = s.length ∧ Grow F w w' F' := by
  obtain ⟨l0, r0, h0, z0, m0, hp⟩ := h.hp
  refine (pick_any h.base.tw hp).mono ?_
  rintro e w' ⟨rfl, F', hT, hg⟩
  have ho := h.base.ok
  have hpl := gt_lt hp
  have hk : ∀ j, j ≠ p → gt (s.set p none) j = gt s j := fun j hj => gt_set_other hpl _ hj
  have hA : ∀ j ∈ ids A.nodes, j ≠ p := fun j hj e => ho.apart j hj (mem_cons'.2 (.inl e))
  have hB : ∀ j ∈ ids B.nodes, j ≠ p := fun j hj e => by
    have hn := ho.right.nodup
    rw [ids, List.map_cons, List.nodup_cons] at hn
    exact hn.1 (e ▸ hj)
  have hs := ho.sum
  rw [sumZ_append, sumZ] at hs
  have hz := sizeT_ok (ho.ok (p, x) (by simp))
  have hl := ho.len
  rw [List.length_append, List.length_cons] at hl
  dsimp only at hs hz
  have hok : OkL (A.nodes ++ B.nodes) := OkL.of_append ho.left ho.right.tail (fun j hj e => ho.apart j hj (mem_cons'.2 (.inr e))) (by omega) (by omega)
  refine ⟨rfl, F', _, _, ⟨h.base.step (L := [(p, x)]) (L' := []) (O := ids (A.nodes ++ B.nodes)) hT hok (fun j h1 _ => hk j (fun e => h1 (by simp [ids, e]))) (fun j hj => by simp [ids] at hj) (fun j hj _ => ?_) (fun j => ?_) (fun j => by simp [ids]) (fun j hj => ⟨fun e => ?_, by simp [ids]⟩), h.ha.keep fun j hj => hk j (hA j hj), h.hb.keep fun j hj => hk j (hB j hj)⟩, by rw [List.length_set], hg⟩
  · have e : j = p := by simpa [ids] using hj
    rw [e]; exact gt_set_self hpl _
  · rw [mem_app, mem_cons', mem_app, mem_cons']
    simp only [ids, List.map_nil, List.not_mem_nil, or_false]
    constructor
    · rintro (e | e | e)
      · exact .inr (.inl e)
      · exact .inl e
      · exact .inr (.inr e)
    · rintro (e | e | e)
      · exact .inr (.inl e)
      · exact .inl e
      · exact .inr (.inr e)
  · have e : j = p := by simpa [ids] using e
    rcases mem_app.1 hj with q | q
    · exact hA j q e
    · exact hB j q e

/-- A new node. -/
theorem take_two {w : World} {F : Nat → Prop} {gT gA : Nat} {root : Int} {A B : Tr} {s : List (Option Nd)} {fr : List Nat} (h : Two w F gT gA root A B s fr) (x : Th) (hx : okT x) (hs : sumT A.things + sumT B.things + sizeT x ≤ 100000000000) (hl : s.length < 90000) :
    Calls Try.prog 47 #[.pointer (some ⟨gA, 0, none⟩), (mkN x 0 0 0 0 0).V] w fun e w' => ∃ F' fr' s' p, e = .returned (.int .i64 (p : Nat)) ∧ TwoP w' F' gT gA root A p x B s' fr' ∧ s'.length ≤ max s.length (A.nodes.length + B.nodes.length + 1) ∧ Grow F w w' F' := by
  refine (takeN_F h.base.tw.ar h.base.tw.ok (by omega) (mkN x 0 0 0 0 0)).mono ?_
  rintro e w' ⟨F', rfl, ha, hg⟩
  have hlen := takeS_len h.base.live h.base.ok.nodup h.base.tw.ok (mkN x 0 0 0 0 0)
  rw [ids, List.length_map, List.length_append] at hlen
  have hgt := gt_takeS h.base.tw.ok (mkN x 0 0 0 0 0)
  have hle := takeS_le (s := s) (fr := fr) (mkN x 0 0 0 0 0)
  have hT := h.base.tw.arena ha (h.base.tw.ok.take _) hg (by omega)
  have hp := gt_next h.base.tw.ok
  obtain ⟨p, hp'⟩ : ∃ p, nextOf s fr = p := ⟨_, rfl⟩
  rw [hp'] at hgt hp
  rw [hp']
  have ho := h.base.ok
  have hc := h.base.count
  rw [List.length_append] at hc
  have hpN : p ∉ ids (A.nodes ++ B.nodes) := fun e => by obtain ⟨n, hn⟩ := (h.base.live p).2 e; rw [hp] at hn; cases hn
  have hk : ∀ j, j ≠ p → gt (takeS s fr (mkN x 0 0 0 0 0)) j = gt s j := fun j hj => by rw [hgt, if_neg hj]
  have hA : ∀ j ∈ ids A.nodes, j ≠ p := fun j hj e => hpN (mem_app.2 (.inl (e ▸ hj)))
  have hB : ∀ j ∈ ids B.nodes, j ≠ p := fun j hj e => hpN (mem_app.2 (.inr (e ▸ hj)))
  rw [Tr.things, Tr.things, ← sumT_of, ← sumT_of] at hs
  have hb1 : OkL ((p, x) :: B.nodes) := by
    have hz := sumZ_nonneg ho.left.ok
    refine ⟨?_, fun q hq => ?_, by rw [sumZ]; dsimp only; omega, by rw [List.length_cons]; omega⟩
    · rw [ids, List.map_cons, List.nodup_cons]; exact ⟨fun e => hB p e rfl, ho.right.nodup⟩
    · rcases List.mem_cons.1 hq with e | e
      · rw [e]; exact hx
      · exact ho.right.ok q e
  have hok : OkL (A.nodes ++ (p, x) :: B.nodes) := OkL.of_append ho.left hb1 (fun j hj e => by
    rcases mem_cons'.1 e with e | e
    · exact hA j hj e
    · exact ho.apart j hj e) (by rw [sumZ]; dsimp only; omega) (by rw [List.length_cons]; omega)
  refine ⟨F', _, _, p, rfl, ⟨h.base.step (L := []) (L' := [(p, x)]) (O := ids (A.nodes ++ B.nodes)) hT hok (fun j _ h1 => hk j (fun e => h1 (by simp [ids, e]))) (fun j hj => ?_) (fun j hj _ => by simp [ids] at hj) (fun j => by simp [ids]) (fun j => ?_) (fun j hj => ⟨by simp [ids], fun e => ?_⟩), h.ha.keep fun j hj => hk j (hA j hj), h.hb.keep fun j hj => hk j (hB j hj), ⟨0, 0, 0, 0, 0, by rw [hgt, if_pos rfl]⟩⟩, hlen, hg⟩
  · have e : j = p := by simpa [ids] using hj
    rw [e, hgt, if_pos rfl]; exact ⟨_, rfl⟩
  · rw [mem_app, mem_cons', mem_app, mem_cons']
    simp only [ids, List.map_nil, List.not_mem_nil, or_false]
    constructor
    · rintro (e | e | e)
      · exact .inr (.inl e)
      · exact .inl e
      · exact .inr (.inr e)
    · rintro (e | e | e)
      · exact .inr (.inl e)
      · exact .inl e
      · exact .inr (.inr e)
  · have e : j = p := by simpa [ids] using e
    exact hpN (e ▸ hj)

/-- A node is joined behind the left tree. -/
theorem join_two {w : World} {F : Nat → Prop} {gT gA : Nat} {root : Int} {A B : Tr} {p : Nat} {x : Th} {s : List (Option Nd)} {fr : List Nat} (h : TwoP w F gT gA root A p x B s fr) :
    Calls Try.prog 46 #[.pointer (some ⟨gT, 0, none⟩), .int .i64 A.rt, .int .i64 (p : Nat), .int .i64 (-1)] w fun e w' => ∃ s' A', e = .returned (.int .i64 A'.rt) ∧ Two w' F gT gA root A' B s' fr ∧ A'.nodes = A.nodes ++ [(p, x)] ∧ s'.length = s.length ∧ Grow F w w' F := by
  obtain ⟨l0, r0, h0, z0, m0, hp⟩ := h.hp
  have ho := h.base.ok
  have hol : OkL ((A.nodes ++ [(p, x)]) ++ B.nodes) := by simpa using ho
  refine (show Calls Try.prog 46 #[.pointer (some ⟨gT, 0, none⟩), .int .i64 A.rt, .int .i64 (p : Nat), .int .i64 (-1)] w _ from join_any _ A .nil (Nat.le_refl _) w s h.base.tw hp h.ha trivial (by simpa [Tr.nodes] using hol.left)).mono ?_
  rintro e w' ⟨v, rfl, T, s', rfl, hT, hH, hn, hk, hlen, hg⟩
  have hn : T.nodes = A.nodes ++ [(p, x)] := hn
  have hk : ∀ j, j ∉ ids (A.nodes ++ [(p, x)]) → gt s' j = gt s j := hk
  have hap := hol.apart
  refine ⟨s', T, rfl, ⟨h.base.step (L := A.nodes ++ [(p, x)]) (L' := A.nodes ++ [(p, x)]) (O := ids B.nodes) hT (by rw [hn]; exact hol) (fun j h1 _ => hk j h1) (fun j hj => hH.taken j (by rw [hn]; exact hj)) (fun j h1 h2 => absurd h1 h2) (fun j => ?_) (fun j => by rw [hn, mem_app]) (fun j hj => ⟨fun e => hap j e hj, fun e => hap j e hj⟩), hH, h.hb.keep fun j hj => hk j (fun e => hap j e hj)⟩, hn, hlen, hg⟩
  rw [mem_app, mem_app, mem_cons', mem_cons']
  simp only [ids, List.map_nil, List.not_mem_nil, or_false, or_assoc]

/-- Two trees become one. -/
theorem concat_two {w : World} {F : Nat → Prop} {gT gA : Nat} {root : Int} {A B : Tr} {s : List (Option Nd)} {fr : List Nat} (h : Two w F gT gA root A B s fr) :
    Calls Try.prog 48 #[.pointer (some ⟨gT, 0, none⟩), .int .i64 A.rt, .int .i64 B.rt] w fun e w' => ∃ s' T, e = .returned (.int .i64 T.rt) ∧ TreeW w' F gT gA root s' fr ∧ Holds s' T ∧ OkL T.nodes ∧ Live s' (ids T.nodes) ∧ T.things = A.things ++ B.things ∧ s'.length = s.length ∧ Grow F w w' F := by
  refine (concat_any h.base.tw h.ha h.hb h.base.ok).mono ?_
  rintro e w' ⟨v, rfl, T, s', rfl, hT, hH, hn, hk, hlen, hg⟩
  have hb := h.base.step (L := A.nodes ++ B.nodes) (L' := A.nodes ++ B.nodes) (O := []) hT (N' := A.nodes ++ B.nodes) h.base.ok (fun j h1 _ => hk j h1) (fun j hj => hH.taken j (by rw [hn]; exact hj)) (fun j h1 h2 => absurd h1 h2) (fun j => by simp) (fun j => by simp) (fun j hj => by simp at hj)
  exact ⟨s', T, rfl, hT, hH, by rw [hn]; exact hb.ok, by rw [hn]; exact hb.live, by rw [Tr.things, hn, List.map_append]; rfl, hlen, hg⟩

theorem sumT_last (L : List Th) : sumT L.dropLast + sumT L.getLast?.toList = sumT L := by
  rcases List.eq_nil_or_concat L with rfl | ⟨P, y, rfl⟩
  · rfl
  · rw [List.concat_eq_append, List.dropLast_concat, List.getLast?_append, List.getLast?_singleton, sumT_append]
    rfl
theorem sumT_head (L : List Th) : sumT L.head?.toList + sumT L.tail = sumT L := by
  cases L with
  | nil => rfl
  | cons x L => show sumT [x] + sumT L = _; rw [sumT, sumT, sumT]; omega
theorem mem_lastOf {L : List Th} {x : Th} (h : x ∈ L.getLast?.toList) : x ∈ L := by
  rw [Option.mem_toList] at h
  exact List.mem_of_getLast? h
theorem mem_headOf {L : List Th} {x : Th} (h : x ∈ L.head?.toList) : x ∈ L := by
  rw [Option.mem_toList] at h
  exact List.mem_of_mem_head? h

/-- What stands between the parts: the last one ahead, what is put in, the first one behind. -/
def midT (X : List Th) (i j : Int) (l : List Th) : List Th := (splitT X i).1.getLast?.toList ++ l ++ (splitT (splitT X i).2 (j - i)).2.head?.toList
theorem replT_eq (X : List Th) (i j : Int) (l : List Th) : replT X i j l = (splitT X i).1.dropLast ++ meldL (midT X i j l) ++ (splitT (splitT X i).2 (j - i)).2.tail := rfl

theorem repl_facts {X l : List Th} {i j : Int} (hX : ∀ x ∈ X, okT x) (hl : ∀ x ∈ l, okT x) (h0 : 0 ≤ i) (h1 : i ≤ j) (h2 : j ≤ sumT X) (hs : sumT X - (j - i) + sumT l ≤ 1000000000) :
    (∀ x ∈ midT X i j l, okT x) ∧ sumT (midT X i j l) ≤ 1000000000 ∧ (midT X i j l).length ≤ l.length + 2 ∧ (∀ x ∈ meldL (midT X i j l), okT x) ∧
    sumT (splitT X i).1.dropLast + sumT (meldL (midT X i j l)) + sumT (splitT (splitT X i).2 (j - i)).2.tail = sumT X - (j - i) + sumT l ∧
    0 ≤ sumT (splitT X i).1.dropLast ∧ 0 ≤ sumT (splitT (splitT X i).2 (j - i)).2.tail := by
  have hz : 0 ≤ sumT X := sumT_nonneg hX
  obtain ⟨a1, a2, _⟩ := splitT_ok X i hX
  obtain ⟨s1, s2⟩ := splitT_sum X i hX h0 (by omega)
  unfold midT
  generalize splitT X i = q at *
  obtain ⟨_, b2, _⟩ := splitT_ok q.2 (j - i) a2
  obtain ⟨_, t2⟩ := splitT_sum q.2 (j - i) a2 (by omega) (by omega)
  generalize splitT q.2 (j - i) = r at *
  have e1 := sumT_last q.1
  have e2 := sumT_head r.2
  have n1 := sumT_nonneg (l := q.1.dropLast) (fun x hx => a1 x ((List.dropLast_sublist _).subset hx))
  have n2 := sumT_nonneg (l := r.2.tail) (fun x hx => b2 x (List.mem_of_mem_tail hx))
  have hm : ∀ x ∈ q.1.getLast?.toList ++ l ++ r.2.head?.toList, okT x := fun x hx => by
    rcases List.mem_append.1 hx with e | e
    · rcases List.mem_append.1 e with e | e
      · exact a1 x (mem_lastOf e)
      · exact hl x e
    · exact b2 x (mem_headOf e)
  have hsm : sumT (q.1.getLast?.toList ++ l ++ r.2.head?.toList) = sumT q.1.getLast?.toList + sumT l + sumT r.2.head?.toList := by rw [sumT_append, sumT_append]
  have hle : sumT (q.1.getLast?.toList ++ l ++ r.2.head?.toList) ≤ 1000000000 := by rw [hsm]; omega
  obtain ⟨m1, m2, _⟩ := meldL_ok hm hle
  have hlo : ∀ o : Option Th, o.toList.length ≤ 1 := fun o => by cases o <;> simp
  refine ⟨hm, hle, ?_, m1, by rw [m2, hsm]; omega, n1, n2⟩
  have := hlo q.1.getLast?
  have := hlo r.2.head?
  simp only [List.length_append]
  omega

theorem Two.step {w w' : World} {F G : Nat → Prop} {gT gA : Nat} {root : Int} {A B : Tr} {s : List (Option Nd)} {fr : List Nat} (h : Two w F gT gA root A B s fr) (hs : Step G w w') (hG : ∀ k, F k → ¬ G k) (hT : ¬ G gT) : Two w' F gT gA root A B s fr :=
  ⟨⟨h.base.tw.step hs hG hT, h.base.ok, h.base.live⟩, h.ha, h.hb⟩

theorem Grow.row {F F' : Nat → Prop} {w w1 w2 : World} {row : Option Nat} (h : Grow F w w1 F') (hg : w1.grownBy w2 row) (hr : ∀ k, row = some k → w.heap.size ≤ k) : Grow F w w2 F' :=
  ⟨h.step.grown hg (fun k e => .inr (hr k e)), h.new⟩
theorem Grow.to {F F' : Nat → Prop} {w w1 w2 : World} (h : Grow F w w1 F') (hb : Below w1.heap.size w1 w2) : Grow F w w2 F' := h.trans (Grow.of_below hb)

theorem TreeW.setRoot {w : World} {F : Nat → Prop} {gT gA : Nat} {root : Int} {s : List (Option Nd)} {fr : List Nat} (h : TreeW w F gT gA root s fr) (r : Int) : TreeW (w.setCell ⟨gT, 4, none⟩ (.int .i64 r)) F gT gA r s fr :=
  ⟨by rw [heap_setCell_same w gT 4 _ _ _ h.blk]; rfl, h.ar.step (G := fun k => k = gT) ((Step.refl (fun k => k = gT) w).setCell (p := ⟨gT, 4, none⟩) (.inl rfl) _) (fun k hk e => h.oF (by have e : k = gT := e; rw [← e]; exact hk)), h.ok, h.oF, h.len⟩

/-- Behind 'the last one of a': the left tree without it, and it. -/
def St1 (w : World) (F : Nat → Prop) (gT gA : Nat) (root : Int) (XA : List Th) (B : Tr) (n : Nat) (v8 v12 : Value) (wz : World) : Prop :=
  ∃ F' s' fr' A', v8 = .int .i64 A'.rt ∧ Two wz F' gT gA root A' B s' fr' ∧ A'.things = XA.dropLast ∧ OwnT wz w.heap.size v12 XA.getLast?.toList ∧ Off v12 F' ∧ s'.length ≤ n ∧ Grow F w wz F'

/-- Behind 'the first one of b': the right tree without it; it stands behind what there is. -/
def St2 (w : World) (F : Nat → Prop) (gT gA : Nat) (root : Int) (A : Tr) (XB Y : List Th) (n : Nat) (v11 v12 : Value) (wz : World) : Prop :=
  ∃ F' s' fr' B', v11 = .int .i64 B'.rt ∧ Two wz F' gT gA root A B' s' fr' ∧ B'.things = XB.tail ∧ OwnT wz w.heap.size v12 (Y ++ XB.head?.toList) ∧ s'.length ≤ n ∧ Grow F w wz F'

/-- While they are joined. -/
def St3 (w : World) (F : Nat → Prop) (gT gA : Nat) (root : Int) (X0 : List Th) (B : Tr) (M : List Th) (n : Nat) (vM : Value) (base k : Nat) (v8 : Value) (wz : World) : Prop :=
  ∃ F' s' fr' A', v8 = .int .i64 A'.rt ∧ Two wz F' gT gA root A' B s' fr' ∧ A'.things = X0 ++ M.take k ∧ OwnT wz base vM M ∧ Off vM F' ∧ s'.length ≤ max n (A'.nodes.length + B.nodes.length) ∧ Grow F w wz F'

theorem Tr.rt_nil {A : Tr} (h : A.rt = -1) : A = .nil := by
  cases A with
  | nil => rfl
  | nd i t l r => have h : (i : Int) = -1 := h; omega

theorem things_snoc {A A' : Tr} {p : Nat} {x : Th} (h : A.nodes = A'.nodes ++ [(p, x)]) : A.things = A'.things ++ [x] := by rw [Tr.things, h, List.map_append]; rfl
theorem things_cons {A A' : Tr} {p : Nat} {x : Th} (h : A.nodes = (p, x) :: A'.nodes) : A.things = x :: A'.things := by rw [Tr.things, h]; rfl
theorem last_snoc {A : List Th} {x : Th} : (A ++ [x]).getLast?.toList = [x] ∧ (A ++ [x]).dropLast = A := by
  rw [List.getLast?_append, List.getLast?_singleton, List.dropLast_concat]; exact ⟨rfl, rfl⟩

end Go.Proofs.Ytbioomilnjikpaa
