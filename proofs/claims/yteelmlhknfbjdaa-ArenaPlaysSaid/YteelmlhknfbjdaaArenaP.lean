/-
  rubriclaw08.ArenaKeeps: the closure that makes a text of a number; the map that tells what was put, next to the arena.
-/
import Derived.Test.YteelmlhknfbjdaaArenaK
import Derived.Test.YteelmlhknfbjdaaHeld
import Derived.Deep.DeepCutAuto
import Derived.Deep.CutRange
import Derived.Deep.CutBlock
import Derived.Maps.RangeWalk
import Derived.Maps.OwnOps
import Derived.Maps.OwnSet
namespace Go.Proofs.Yteelmlhknfbjdaa
open Go.RowKit Go.Maps

def textL (x : Int) : List UInt8 := [UInt8.ofNat (x % 256).toNat, UInt8.ofNat (x / 256 % 256).toNat, 7]
def textB (x : Int) : ByteArray := ⟨(textL x).toArray⟩

theorem ofNat_back (a : Int) : ((UInt8.ofNat (a % 256).toNat).toNat : Int) = a % 256 := by
  simp
  omega

theorem text_cells (x : Int) : bvs (textL x) = [.int .u8 (x % 256), .int .u8 (x / 256 % 256), .int .u8 7] := by
  simp only [textL, bvs, bv, List.map_cons, List.map_nil, ofNat_back]
  rfl

set_option maxHeartbeats 1000000 in
theorem text_any (x : Int) (w : World):
    Calls Try.prog 14 #[.int .i64 x] w fun e w' => e = .returned (.string (textB x)) ∧ Below w.heap.size w w' := by
  have hS : Sees (w.alloc (.cells #[.int .u8 (x % 256), .int .u8 (x / 256 % 256), .int .u8 7] 5)) (w.heap.size + 1) 1 (some ⟨w.heap.size, 0, none⟩) 3 (bvs (textL x)) := by
    rw [text_cells]
    exact Sees.lit w _ _
  go_enter Try.func14, Try.ntmps14
  go_wp2_with (refine wpList_str rfl _ 36 _ _ rfl Try.underlying36 Try.underlying5 Try.underlying9 (l := textL x) rfl hS ?_)
  go_ret
  exact ⟨rfl, (Below.refl _ _).alloc (Nat.le_refl _) _⟩

/-! ### The map and the arena say the same -/
/-- A key. -/
def K8 (i : Int) : Lit := .int .i64 i

/-- What the map D holds of each number is what the arena's thing at it is made of. -/
def Agree8 (s : List (Option ByteArray)) (D : DataW Unit) : Prop :=
  ∀ i : Int, (look s i = none → has D (K8 i) = false) ∧ (∀ x, look s i = some x → has D (K8 i) = true ∧ ∃ c, (∀ z, D.atKey (K8 i) z = .lit (.int .i64 c)) ∧ x = textB c)

theorem look_set {α : Type} (s : List (Option α)) (k : Nat) (o : Option α) (hk : k < s.length) (i : Int) : look (s.set k o) i = if i = k then o else look s i := by
  unfold look
  by_cases hi : 0 ≤ i
  · rw [if_pos hi, if_pos hi, List.getElem?_set]
    by_cases h : k = i.toNat
    · rw [if_pos h, if_pos (by omega), if_pos (by omega)]; rfl
    · rw [if_neg h, if_neg (by omega)]
  · rw [if_neg hi, if_neg hi, if_neg (by omega)]

theorem look_take {α : Type} {s : List (Option α)} {fr : List Nat} (hok : ArOk s fr) (x : α) (i : Int) : look (takeS s fr x) i = if i = nextOf s fr then some x else look s i := by
  rcases List.eq_nil_or_concat fr with rfl | ⟨fr, j, rfl⟩
  · rw [takeS, if_pos rfl, show nextOf s ([] : List Nat) = s.length from rfl]
    unfold look
    by_cases hi : 0 ≤ i
    · rw [if_pos hi, if_pos hi, List.getElem?_append]
      by_cases h : i = s.length
      · subst h; simp
      · rw [if_neg h]
        split
        · rfl
        · rename_i hl
          have h1 : i.toNat - s.length ≠ 0 := by omega
          rw [List.getElem?_eq_none (l := s) (by omega)]
          cases hq : i.toNat - s.length with
          | zero => omega
          | succ q => rfl
    · rw [if_neg hi, if_neg hi, if_neg (by omega)]
  · have hs : s[j]? = some none := (hok.iff j).1 (by simp)
    have hl := (List.getElem?_eq_some_iff.1 hs).1
    have hn : nextOf s (fr.concat j) = j := by simp [nextOf]
    rw [takeS, if_neg (by simp), hn, look_set s j _ hl]

theorem look_next {α : Type} {s : List (Option α)} {fr : List Nat} (hok : ArOk s fr) : look s (nextOf s fr) = none := by
  rw [look_nat]
  rcases List.eq_nil_or_concat fr with rfl | ⟨fr, j, rfl⟩
  · simp [nextOf]
  · have hs : s[j]? = some none := (hok.iff j).1 (by simp)
    have hn : nextOf s (fr.concat j) = j := by simp [nextOf]
    rw [hn, hs]
    rfl

theorem Agree8.nil_ : Agree8 [] (.map []) := fun i => ⟨fun _ => rfl, fun x h => by simp [look] at h⟩

theorem K8_ne {i j : Int} (h : i ≠ j) : K8 i ≠ K8 j := fun e => h (by simpa [K8] using e)

theorem Agree8.put {s s' : List (Option ByteArray)} {D : DataW Unit} (h : Agree8 s D) (hD : IsMap D) {k : Int} (c : Int) (hs : ∀ i, look s' i = if i = k then some (textB c) else look s i) : Agree8 s' (D.put (K8 k) (.lit (.int .i64 c))) := by
  intro i
  rw [hs i]
  by_cases hik : i = k
  · subst hik
    rw [if_pos rfl]
    exact ⟨fun h => (by cases h), fun x hx => ⟨has_put_same hD (k := K8 i) (show WideAt.IsKeyLit (K8 i) from trivial) _, c, fun z => atKey_put_same hD (k := K8 i) (show WideAt.IsKeyLit (K8 i) from trivial) _ _, by simpa using hx.symm⟩⟩
  · rw [if_neg hik]
    refine ⟨fun hn => ?_, fun x hx => ?_⟩
    · rw [has_put_other (K8_ne hik)]; exact (h i).1 hn
    · obtain ⟨h1, c', h2, h3⟩ := (h i).2 x hx
      exact ⟨by rw [has_put_other (K8_ne hik)]; exact h1, c', fun z => by rw [atKey_put_other (K8_ne hik)]; exact h2 z, h3⟩

theorem Agree8.del {s s' : List (Option ByteArray)} {D : DataW Unit} (h : Agree8 s D) {k : Int} (hs : ∀ i, look s' i = if i = k then none else look s i) : Agree8 s' (D.del (K8 k)) := by
  intro i
  rw [hs i]
  by_cases hik : i = k
  · subst hik
    rw [if_pos rfl]
    exact ⟨fun _ => has_del_same, fun x hx => by cases hx⟩
  · rw [if_neg hik]
    refine ⟨fun hn => ?_, fun x hx => ?_⟩
    · rw [has_del_other (K8_ne hik)]; exact (h i).1 hn
    · obtain ⟨h1, c', h2, h3⟩ := (h i).2 x hx
      exact ⟨by rw [has_del_other (K8_ne hik)]; exact h1, c', fun z => by rw [atKey_del_other (K8_ne hik)]; exact h2 z, h3⟩

/-- The arena, and the map in block b of at most k entries. -/
structure Play8 (B : Nat) (w0 : World) (g b k : Nat) (w : World) (F : Nat → Prop) (s : List (Option ByteArray)) (fr : List Nat) (D : DataW Unit) : Prop where
  ar : ArS w F g s fr
  ok : ArOk s fr
  map : w.ownsMap Try.prog 3 (plainElem Try.prog 2) b k D
  low : B ≤ b
  off : ¬ F b
  keeps : Keeps B w0 w F

theorem map_step {w w' : World} {G : Nat → Prop} {P : Program} {t : TypeId} {R : Value → Option (DataW Unit × List MemPlace)} {b k : Nat} {D : DataW Unit} (h : w.ownsMap P t R b k D) (hs : Step G w w') (hb : ¬ G b) : w'.ownsMap P t R b k D := by
  have hlt := h.lt
  obtain ⟨es, clock, h1, h2⟩ := h
  exact ⟨es, clock, (hs.block b hlt hb).trans h1, h2⟩

section
variable {B : Nat} {w0 : World} {g b k : Nat} {w w' : World} {F F' : Nat → Prop} {s s' : List (Option ByteArray)} {fr fr' : List Nat} {D D' : DataW Unit}

theorem Play8.arena (h : Play8 B w0 g b k w F s fr D) (ha : ArS w' F' g s' fr') (hok : ArOk s' fr') (hg : Grow F w w' F') : Play8 B w0 g b k w' F' s' fr' D :=
  ⟨ha, hok, map_step h.map hg.step h.off, h.low, (fun hF => by
    rcases hg.new b hF with h' | h'
    · exact h.off h'
    · have := h.map.lt
      omega), h.keeps.next hg⟩

theorem Play8.below (h : Play8 B w0 g b k w F s fr D) (hb : Below w.heap.size w w') : Play8 B w0 g b k w' F s fr D :=
  h.arena (h.ar.below hb) h.ok ⟨Step.of_below hb F, fun _ h => .inl h⟩

theorem Play8.drewN (h : Play8 B w0 g b k w F s fr D) (n : Nat) : Play8 B w0 g b k (w.drewN n) F s fr D :=
  ⟨h.ar.drewN n, h.ok, map_step (w' := w.drewN n) (G := fun _ => False) h.map ((Step.refl _ w).drewN n) (fun h => h), h.low, h.off, h.keeps.drewN n⟩

theorem Play8.set (h : Play8 B w0 g b k w F s fr D) {k' : Nat} (hm : w'.ownsMap Try.prog 3 (plainElem Try.prog 2) b k' D') (hg : w.grownBy w' (some b)) : Play8 B w0 g b k' w' F s fr D' :=
  ⟨h.ar.step (grown_step hg) (fun j hF e => by cases e; exact h.off hF), h.ok, hm, h.low, h.off, h.keeps.row hg (fun j e => by cases e; exact h.low)⟩

theorem Play8.aside (h : Play8 B w0 g b k w F s fr D) {r : Nat} (hs : Step (fun j => j = r) w w') (h1 : ¬ F r) (h2 : r ≠ b) (h3 : B ≤ r) : Play8 B w0 g b k w' F s fr D :=
  ⟨h.ar.step hs (fun j hF e => by subst e; exact h1 hF), h.ok, map_step h.map hs (fun e => h2 e.symm), h.low, h.off,
    ⟨h.keeps.low, h.keeps.below.trans (hs.below (Nat.le_trans h.keeps.low h.keeps.below.size) (fun j e => by subst e; exact h3)), h.keeps.own⟩⟩

theorem Play8.more (h : Play8 B w0 g b k w F s fr D) {k' : Nat} (hk : k ≤ k') : Play8 B w0 g b k' w F s fr D :=
  ⟨h.ar, h.ok, h.map.mono hk, h.low, h.off, h.keeps⟩
end

theorem Agree8.at_ {s : List (Option ByteArray)} {D : DataW Unit} (h : Agree8 s D) {i c : Int} (hat : ∀ z, D.atKey (K8 i) z = .lit (.int .i64 c)) : look s i = some (textB c) := by
  have hh := has_true_of_atKey hat
  cases hl : look s i with
  | none => rw [(h i).1 hl] at hh; cases hh
  | some x =>
    obtain ⟨_, c', h2, rfl⟩ := (h i).2 x hl
    have := (h2 .nil).symm.trans (hat .nil)
    simp only [DataW.lit.injEq, Lit.int.injEq, true_and] at this
    rw [this]

theorem atS_look {w : World} {F : Nat → Prop} {g : Nat} {s : List (Option ByteArray)} {fr : List Nat} (h : ArS w F g s fr) (hs : s.length ≤ 1000000) {i : Int} {x : ByteArray} (hk : look s i = some x) :
    Calls Try.prog 18 #[.pointer (some ⟨g, 0, none⟩), .int .i64 i] w fun e w' => e = .returned (.tuple #[.string x, .int .i64 0]) ∧ w = w' := by
  obtain ⟨n, rfl, hn, hx⟩ := look_some hk
  exact atS_F h hs (by rw [List.getElem?_eq_getElem hn, hx])

theorem ranges_below {w w' : World} {P : Program} {t : TypeId} {R : Value → Option (DataW Unit × List MemPlace)} {b r n : Nat} {D : DataW Unit} {left : Lit → Bool} {cnt : Nat} (h : w.ranges P t R b r n D left cnt) (hb : Below w.heap.size w w') : w'.ranges P t R b r n D left cnt :=
  h.kept (row := none) ⟨hb.os, hb.tape, hb.output, hb.size, fun k hk _ => hb.block k hk⟩ (by simp) (by simp)

structure Pure8 (s : List (Option ByteArray)) (fr : List Nat) (D : DataW Unit) : Prop where
  agree : Agree8 s D
  tidy : Tidy D
  size : Maps.size D + fr.length = s.length

section
variable {s : List (Option ByteArray)} {fr : List Nat} {D : DataW Unit}

theorem Pure8.take (h : Pure8 s fr D) (hok : ArOk s fr) (c : Int) :
    Pure8 (takeS s fr (textB c)) fr.dropLast (D.put (K8 (nextOf s fr)) (.lit (.int .i64 c))) ∧ has D (K8 (nextOf s fr)) = false ∧
      max s.length (Maps.size (D.put (K8 (nextOf s fr)) (.lit (.int .i64 c)))) = (takeS s fr (textB c)).length ∧ (takeS s fr (textB c)).length ≤ s.length + 1 := by
  have hn := (h.agree _).1 (look_next hok)
  have hsz := size_put h.tidy (k := K8 (nextOf s fr)) (.lit (.int .i64 c))
  rw [hn] at hsz
  have hsz : Maps.size (D.put (K8 (nextOf s fr)) (.lit (.int .i64 c))) = Maps.size D + 1 := hsz
  have h0 := h.size
  have hl : (takeS s fr (textB c)).length = if fr = [] then s.length + 1 else s.length := by
    unfold takeS
    split
    · simp
    · simp
  refine ⟨⟨h.agree.put h.tidy.isMap c (look_take hok _), h.tidy.put (show WideAt.IsKeyLit (K8 _) from trivial) _, ?_⟩, hn, ?_, ?_⟩
  · rw [hsz, hl, List.length_dropLast]
    split
    · rename_i hf
      subst hf
      simp at h0 ⊢
      omega
    · rename_i hf
      have := List.length_pos_iff.2 hf
      omega
  · rw [hsz, hl]
    split
    · rename_i hf
      subst hf
      simp at h0
      omega
    · rename_i hf
      have := List.length_pos_iff.2 hf
      omega
  · rw [hl]
    split <;> omega

theorem Pure8.put (h : Pure8 s fr D) {k : Nat} {y : ByteArray} (hk : s[k]? = some (some y)) (c : Int) :
    Pure8 (s.set k (some (textB c))) fr (D.put (K8 k) (.lit (.int .i64 c))) ∧ has D (K8 k) = true ∧ max s.length (Maps.size (D.put (K8 k) (.lit (.int .i64 c)))) = (s.set k (some (textB c))).length := by
  have hy : look s k = some y := by rw [look_nat, hk]; rfl
  have hn := ((h.agree k).2 y hy).1
  have hsz := size_put h.tidy (k := K8 k) (.lit (.int .i64 c))
  rw [hn] at hsz
  have hsz : Maps.size (D.put (K8 k) (.lit (.int .i64 c))) = Maps.size D := hsz
  have h0 := h.size
  refine ⟨⟨h.agree.put h.tidy.isMap c (look_set s k _ (List.getElem?_eq_some_iff.1 hk).1), h.tidy.put (show WideAt.IsKeyLit (K8 _) from trivial) _, ?_⟩, hn, ?_⟩
  · rw [hsz, List.length_set]; exact h0
  · rw [hsz, List.length_set]; omega

theorem Pure8.free (h : Pure8 s fr D) {k : Nat} {y : ByteArray} (hk : s[k]? = some (some y)) :
    Pure8 (s.set k none) (fr ++ [k]) (D.del (K8 k)) ∧ has D (K8 k) = true ∧ max s.length (Maps.size (D.del (K8 k))) = (s.set k none).length := by
  have hy : look s k = some y := by rw [look_nat, hk]; rfl
  have hn := ((h.agree k).2 y hy).1
  have hsz := size_del h.tidy (k := K8 k)
  rw [hn] at hsz
  have hsz : Maps.size (D.del (K8 k)) + 1 = Maps.size D := hsz
  have h0 := h.size
  refine ⟨⟨h.agree.del (look_set s k _ (List.getElem?_eq_some_iff.1 hk).1), h.tidy.del _, ?_⟩, hn, ?_⟩
  · rw [List.length_set, List.length_append, List.length_singleton]; omega
  · rw [List.length_set]; omega
end

end Go.Proofs.Yteelmlhknfbjdaa
