/-
  Sets of attributes and patches, plainly: the patch on a set, what it tells of a key. No function of the program stands here.
-/
import Derived.Test.YtpaelbhljgdenaaWords
namespace Go.Proofs.Ytpaelbhljgdenaa

/-- An attribute's value. -/
structure Vl where
  kind : Int
  n : Int
  f : Int
  s : ByteArray
deriving DecidableEq

/-- An attribute. -/
structure At where
  key : Int
  v : Vl
deriving DecidableEq

/-- A change. -/
structure Ch where
  key : Int
  gone : Bool
  v : Vl

def Vl.cells (v : Vl) : List Value := [.int .u8 v.kind, .int .i64 v.n, .int .u64 v.f, .string v.s]
def At.cells (a : At) : List Value := .int .i64 a.key :: a.v.cells
def Ch.cells (c : Ch) : List Value := .int .i64 c.key :: .bool c.gone :: c.v.cells
def rowA (l : List At) : List Value := l.flatMap At.cells
def rowC (l : List Ch) : List Value := l.flatMap Ch.cells
def Ch.at_ (c : Ch) : At := ⟨c.key, c.v⟩

/-- Keys rise. -/
def riseA (l : List At) : Prop := l.Pairwise fun a b => a.key < b.key
def riseC (l : List Ch) : Prop := l.Pairwise fun a b => a.key < b.key

/-- What is put in for a change. -/
def putC (c : Ch) : List At := if c.gone then [] else [c.at_]
/-- The set without the key that stands first. -/
def dropK (k : Int) : List At → List At
  | [] => []
  | a :: S => if a.key = k then S else a :: S
/-- A patch on a set, as the code does it. -/
def applyP : List At → List Ch → List At
  | S, [] => S
  | S, c :: p => S.takeWhile (fun a => decide (a.key < c.key)) ++ (putC c ++ applyP (dropK c.key (S.dropWhile fun a => decide (a.key < c.key))) p)

/-- The value of a key. -/
def getK (l : List At) (k : Int) : Option Vl := (l.find? fun a => decide (a.key = k)).map (·.v)

theorem dropK_sub (k : Int) (S : List At) : (dropK k S).Sublist S := by
  cases S with
  | nil => exact List.Sublist.refl _
  | cons a S =>
    show (if a.key = k then S else a :: S).Sublist (a :: S)
    split
    · exact List.sublist_cons_self _ _
    · exact List.Sublist.refl _

theorem riseA.sub {S S' : List At} (h : riseA S) (hs : S'.Sublist S) : riseA S' := List.Pairwise.sublist hs h

/-- Behind the cut all keys are greater. -/
theorem rest_gt {S : List At} (h : riseA S) (k : Int) : ∀ a ∈ dropK k (S.dropWhile fun a => decide (a.key < k)), k < a.key := by
  induction S with
  | nil => intro a ha; cases ha
  | cons b S ih =>
    have h' := List.pairwise_cons.1 h
    by_cases hb : b.key < k
    · rw [List.dropWhile_cons_of_pos (by simpa using hb)]
      exact ih h'.2
    · rw [List.dropWhile_cons_of_neg (by simpa using hb)]
      intro a ha
      have ha : a ∈ if b.key = k then S else b :: S := ha
      split at ha
      · next e => have := h'.1 a ha; omega
      · next e =>
        rcases List.mem_cons.1 ha with q | q
        · subst q; omega
        · have := h'.1 a q; omega

theorem mem_apply : ∀ (p : List Ch) (S : List At) (a : At), a ∈ applyP S p → a ∈ S ∨ ∃ c ∈ p, a = c.at_ ∧ c.gone = false
  | [], _, a, h => .inl h
  | c :: p, S, a, h => by
    unfold applyP at h
    rcases List.mem_append.1 h with h | h
    · exact .inl ((List.takeWhile_sublist _).subset h)
    · rcases List.mem_append.1 h with h | h
      · unfold putC at h
        split at h
        · cases h
        · next e => exact .inr ⟨c, by simp, by simpa using h, by simpa using e⟩
      · rcases mem_apply p _ a h with h | ⟨d, hd, e⟩
        · exact .inl ((List.dropWhile_sublist _).subset ((dropK_sub _ _).subset h))
        · exact .inr ⟨d, by simp [hd], e⟩

theorem apply_gt {p : List Ch} {S : List At} {k : Int} (hS : ∀ a ∈ S, k < a.key) (hp : ∀ c ∈ p, k < c.key) : ∀ a ∈ applyP S p, k < a.key := by
  intro a ha
  rcases mem_apply p S a ha with h | ⟨c, hc, rfl, _⟩
  · exact hS a h
  · exact hp c hc

theorem apply_rise : ∀ (p : List Ch) (S : List At), riseA S → riseC p → riseA (applyP S p)
  | [], _, hS, _ => hS
  | c :: p, S, hS, hp => by
    have hp' := List.pairwise_cons.1 hp
    have hR : riseA (dropK c.key (S.dropWhile fun a => decide (a.key < c.key))) := hS.sub ((dropK_sub _ _).trans (List.dropWhile_sublist _))
    have hg := apply_gt (k := c.key) (rest_gt hS c.key) hp'.1
    have ht : ∀ a ∈ S.takeWhile (fun a => decide (a.key < c.key)), a.key < c.key := fun a ha => by
      have := List.all_takeWhile (p := fun a : At => decide (a.key < c.key)) (l := S)
      simpa using (List.all_eq_true.1 this) a ha
    unfold applyP
    refine List.pairwise_append.2 ⟨hS.sub (List.takeWhile_sublist _), List.pairwise_append.2 ⟨?_, apply_rise p _ hR hp'.2, fun a ha b hb => ?_⟩, fun a ha b hb => ?_⟩
    · unfold putC
      split
      · exact List.Pairwise.nil
      · exact List.pairwise_singleton _ _
    · have : a.key = c.key := by unfold putC at ha; split at ha; cases ha; rw [List.mem_singleton.1 ha]; rfl
      have := hg b hb
      omega
    · have h1 := ht a ha
      rcases List.mem_append.1 hb with hb | hb
      · have : b.key = c.key := by unfold putC at hb; split at hb; cases hb; rw [List.mem_singleton.1 hb]; rfl
        omega
      · have := hg b hb
        omega

theorem getK_app (A B : List At) (k : Int) : getK (A ++ B) k = (getK A k).or (getK B k) := by
  unfold getK
  rw [List.find?_append]
  cases List.find? (fun a => decide (a.key = k)) A <;> rfl
theorem getK_none {A : List At} {k : Int} (h : ∀ a ∈ A, a.key ≠ k) : getK A k = none := by
  unfold getK
  rw [List.find?_eq_none.2 (fun a ha => by simpa using h a ha)]
  rfl

/-- What a patch says of a key, the set that it makes tells. -/
theorem get_apply : ∀ (p : List Ch) (S : List At), riseA S → riseC p → ∀ c ∈ p, getK (applyP S p) c.key = if c.gone then none else some c.v
  | [], _, _, _, _, hc => by cases hc
  | d :: p, S, hS, hp, c, hc => by
    have hp' := List.pairwise_cons.1 hp
    have hR : riseA (dropK d.key (S.dropWhile fun a => decide (a.key < d.key))) := hS.sub ((dropK_sub _ _).trans (List.dropWhile_sublist _))
    have hg := apply_gt (k := d.key) (rest_gt hS d.key) hp'.1
    have ht : ∀ a ∈ S.takeWhile (fun a => decide (a.key < d.key)), a.key < d.key := fun a ha => by
      have := List.all_takeWhile (p := fun a : At => decide (a.key < d.key)) (l := S)
      simpa using (List.all_eq_true.1 this) a ha
    unfold applyP
    rw [getK_app, getK_app]
    rcases List.mem_cons.1 hc with e | e
    · subst e
      rw [getK_none (fun a ha => by have := ht a ha; omega), getK_none (A := applyP _ _) (fun a ha => by have := hg a ha; omega)]
      unfold putC
      cases hcg : c.gone
      · simp [getK, Ch.at_]
      · simp [getK]
    · have hlt := hp'.1 c e
      rw [getK_none (fun a ha => by have := ht a ha; omega), getK_none (A := putC d) (fun a ha => by
        have : a.key = d.key := by unfold putC at ha; split at ha; cases ha; rw [List.mem_singleton.1 ha]; rfl
        omega), get_apply p _ hR hp'.2 c e]
      rfl

end Go.Proofs.Ytpaelbhljgdenaa
