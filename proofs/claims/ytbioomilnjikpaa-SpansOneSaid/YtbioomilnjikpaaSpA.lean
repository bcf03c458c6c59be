/-
  The arena of a tree's nodes: what it is; asked, At, Len, Cap, New.
-/
import Derived.Test.YtbioomilnjikpaaRowM
import Derived.Test.YtbioomilnjikpaaArOk
import Derived.Test.YtbioomilnjikpaaRows
import Derived.BigQuiet
import Derived.Deep.QuietTactic
namespace Go.Proofs.Ytbioomilnjikpaa
open Go.RowKit

/-- A node: its thing's cells, its children, its totals. -/
structure Nd where
  x : List Value
  hx : x.length = 2
  h1 : ∀ v ∈ x, v.oneCell' = true
  l : Int
  r : Int
  h : Int
  sz : Int
  mk_ : Int

def Nd.C (n : Nd) : List Value := n.x ++ [.int .i64 n.l, .int .i64 n.r, .int .i64 n.h, .int .i64 n.sz, .int .i64 n.mk_]
theorem Nd.C_len (n : Nd) : n.C.length = 2 + 5 := by simp [Nd.C, n.hx]
theorem Nd.C_one (n : Nd) : ∀ v ∈ n.C, v.oneCell' = true := by
  intro v hv
  rcases List.mem_append.1 hv with h | h
  · exact n.h1 v h
  · simp at h
    rcases h with rfl | rfl | rfl | rfl | rfl <;> rfl
theorem Nd.C_x (n : Nd) (j : Nat) (hj : j < 2) : n.C[j]? = n.x[j]? := List.getElem?_append_left (by rw [n.hx]; exact hj)
theorem Nd.C_l (n : Nd) : n.C[2]? = some (.int .i64 n.l) := by rw [Nd.C, List.getElem?_append_right (by rw [n.hx]; omega), n.hx]; rfl
theorem Nd.C_r (n : Nd) : n.C[2 + 1]? = some (.int .i64 n.r) := by rw [Nd.C, List.getElem?_append_right (by rw [n.hx]; omega), n.hx]; rfl
theorem Nd.C_h (n : Nd) : n.C[2 + 2]? = some (.int .i64 n.h) := by rw [Nd.C, List.getElem?_append_right (by rw [n.hx]; omega), n.hx]; rfl
theorem Nd.C_sz (n : Nd) : n.C[2 + 3]? = some (.int .i64 n.sz) := by rw [Nd.C, List.getElem?_append_right (by rw [n.hx]; omega), n.hx]; rfl
theorem Nd.C_mk (n : Nd) : n.C[2 + 4]? = some (.int .i64 n.mk_) := by rw [Nd.C, List.getElem?_append_right (by rw [n.hx]; omega), n.hx]; rfl
def Nd.V (n : Nd) : Value := .agg n.C.toArray
/-- The zero node. -/
def nd0 : Nd := ⟨[.int .i64 0, .int .i64 0], rfl, by decide, 0, 0, 0, 0, 0⟩

def plC : Option Nd → List Value
  | some n => n.C ++ [.bool true]
  | none => nd0.C ++ [.bool false]
theorem plC_len (o : Option Nd) : (plC o).length = 2 + 6 := by cases o <;> simp [plC, Nd.C_len]
theorem plC_one (o : Option Nd) : ∀ v ∈ plC o, v.oneCell' = true := by
  intro v hv
  cases o <;> rcases List.mem_append.1 hv with h | h
  · exact nd0.C_one v h
  · simp at h; subst h; rfl
  · rename_i n; exact n.C_one v h
  · simp at h; subst h; rfl
theorem plC_flag (o : Option Nd) : (plC o)[2 + 5]? = some (.bool o.isSome) := by
  cases o <;> (simp only [plC]; rw [List.getElem?_append_right (by rw [Nd.C_len]; omega), Nd.C_len]; rfl)
theorem plC_node (n : Nd) (j : Nat) (hj : j < 2 + 5) : (plC (some n))[j]? = n.C[j]? := List.getElem?_append_left (by rw [Nd.C_len]; exact hj)

def iV (i : Nat) : Value := .int .i64 (i : Int)

/-- The arena's two rows, as they lie. -/
def Ar2 (w : World) (F : Nat → Prop) (g : Nat) (vp : Value) (np : Nat) (ps : List Value) (vf : Value) (nf : Nat) (fs : List Value) : Prop :=
  StF w F g 97 [⟨99, 2 + 6, vp, np, ps⟩, ⟨3, 1, vf, nf, fs⟩]

section
variable {w : World} {F : Nat → Prop} {g : Nat} {vp vf : Value} {np nf : Nat} {ps fs : List Value}
theorem Ar2.p (h : Ar2 w F g vp np ps vf nf fs) : w.ownsRow 0 99 (2 + 6) vp np ps := StF.row h (j := 0) rfl
theorem Ar2.f (h : Ar2 w F g vp np ps vf nf fs) : w.ownsRow 0 3 1 vf nf fs := StF.row h (j := 1) rfl
theorem Ar2.c0 (h : Ar2 w F g vp np ps vf nf fs) : w.cell? ⟨g, 0, none⟩ = some vp := StF.cell h (j := 0) rfl
theorem Ar2.c1 (h : Ar2 w F g vp np ps vf nf fs) : w.cell? ⟨g, 1, none⟩ = some vf := StF.cell h (j := 1) rfl
theorem Ar2.below {w' : World} (h : Ar2 w F g vp np ps vf nf fs) (hs : Below w.heap.size w w') : Ar2 w' F g vp np ps vf nf fs := StF.below h hs
theorem Ar2.storesP (h : Ar2 w F g vp np ps vf nf fs) {b c : Nat} (hv : vp = .slice (some ⟨b, 0, none⟩) np c) (o : Nat) (vs : List Value) : Ar2 (w.setCells b o vs) F g vp np (setMany ps o vs) vf nf fs ∧ Grow F w (w.setCells b o vs) F := StF.stores vs h (i := 0) rfl hv o
theorem Ar2.renewP {w1 : World} (h : Ar2 w F g vp np ps vf nf fs) {v' : Value} {n' : Nat} {ys : List Value} (hg : w.grownBy w1 vp.ownBlock) (hown : w1.ownsRow 0 99 (2 + 6) v' n' ys) (hat : ∀ k, v'.ownBlock = some k → vp.ownBlock = some k ∨ w.heap.size ≤ k) :
    (w1.cell? ⟨g, 0, none⟩ = some vp ∧ w1.frozen? ⟨g, 0, none⟩ = false) ∧ Ar2 (w1.setCell ⟨g, 0, none⟩ v') (fun k => F k ∨ v'.ownBlock = some k) g v' n' ys vf nf fs ∧ Grow F w (w1.setCell ⟨g, 0, none⟩ v') (fun k => F k ∨ v'.ownBlock = some k) := StF.renew h (i := 0) rfl hg hown hat
theorem Ar2.renewF {w1 : World} (h : Ar2 w F g vp np ps vf nf fs) {v' : Value} {n' : Nat} {ys : List Value} (hg : w.grownBy w1 vf.ownBlock) (hown : w1.ownsRow 0 3 1 v' n' ys) (hat : ∀ k, v'.ownBlock = some k → vf.ownBlock = some k ∨ w.heap.size ≤ k) :
    (w1.cell? ⟨g, 1, none⟩ = some vf ∧ w1.frozen? ⟨g, 1, none⟩ = false) ∧ Ar2 (w1.setCell ⟨g, 1, none⟩ v') (fun k => F k ∨ v'.ownBlock = some k) g vp np ps v' n' ys ∧ Grow F w (w1.setCell ⟨g, 1, none⟩ v') (fun k => F k ∨ v'.ownBlock = some k) := StF.renew h (i := 1) rfl hg hown hat
end

/-- The arena behind ⟨g, 0⟩, of the blocks F: its places, its free ones. -/
def ArN (w : World) (F : Nat → Prop) (g : Nat) (s : List (Option Nd)) (fr : List Nat) : Prop :=
  ∃ vp vf, Ar2 w F g vp s.length (s.flatMap plC) vf fr.length (fr.map iV)

section
variable {w w' : World} {F : Nat → Prop} {g : Nat} {s : List (Option Nd)} {fr : List Nat}
theorem ArN.of2 {vp vf : Value} {np nf : Nat} {ps fs : List Value} (h : Ar2 w F g vp np ps vf nf fs) (h1 : np = s.length) (h2 : ps = s.flatMap plC) (h3 : nf = fr.length) (h4 : fs = fr.map iV) : ArN w F g s fr := by
  subst h1 h2 h3 h4
  exact ⟨_, _, h⟩
theorem ArN.lt (h : ArN w F g s fr) : ∀ k, F k → k < w.heap.size := by obtain ⟨_, _, h⟩ := h; exact StF.lt h
theorem ArN.step {G : Nat → Prop} (h : ArN w F g s fr) (hs : Step G w w') (hG : ∀ k, F k → ¬ G k) : ArN w' F g s fr := by obtain ⟨_, _, h⟩ := h; exact ⟨_, _, StF.step h hs hG⟩
theorem ArN.below (h : ArN w F g s fr) (hs : Below w.heap.size w w') : ArN w' F g s fr := by obtain ⟨_, _, h⟩ := h; exact ⟨_, _, StF.below h hs⟩
theorem ArN.drewN (h : ArN w F g s fr) (n : Nat) : ArN (w.drewN n) F g s fr := by obtain ⟨_, _, h⟩ := h; exact ⟨_, _, StF.drewN h n⟩
end

theorem node_info : (Try.prog.info? 80).map (·.size) = some (2 + 5) := by kernel_rfl
theorem place_info : (Try.prog.info? 99).map (·.size) = some (2 + 6) := by kernel_rfl
theorem nd_info (n : Nd) : (Try.prog.info? 80).map (·.size) = some n.C.length := by rw [Nd.C_len]; exact node_info

set_option maxHeartbeats 1000000 in
theorem askedN_no {w : World} {F : Nat → Prop} {g : Nat} {s : List (Option Nd)} {fr : List Nat} (h : ArN w F g s fr) (hs : s.length ≤ 1000000) (i : Int) (hi : look s i = none) :
    Calls Try.prog 61 #[.pointer (some ⟨g, 0, none⟩), .int .i64 i] w fun e w' => e = .returned (.int .i64 5) ∧ w = w' := by
  obtain ⟨vp, vf, h⟩ := h
  have h0 := h.c0
  obtain ⟨A, c, rfl, _⟩ := own_shape h.p
  have hh : i < 0 ∨ (¬ i < 0 ∧ (s.length : Int) ≤ i) ∨ ∃ k : Nat, i = k ∧ k < s.length := by
    by_cases h1 : i < 0
    · exact .inl h1
    · by_cases h2 : (s.length : Int) ≤ i
      · exact .inr (.inl ⟨h1, h2⟩)
      · exact .inr (.inr ⟨i.toNat, by omega, by omega⟩)
  rcases hh with hi1 | ⟨hi1, hi2⟩ | ⟨k, rfl, hk⟩
  · go_enter Try.func61, Try.ntmps61
    go_wp2
    go_ret
    exact ⟨rfl, rfl⟩
  · go_enter Try.func61, Try.ntmps61
    go_wp2
    go_ret
    exact ⟨rfl, rfl⟩
  · obtain ⟨b, c1, hv, hc, _, _, hr, _⟩ := row_range plC plC_len h.p rfl hk
    obtain ⟨rfl, rfl⟩ : A = some ⟨b, 0, none⟩ ∧ c = c1 := by injection hv with e1 e2 e3; exact ⟨e1, e3⟩
    have hn : s[k] = none := by
      have : look s (k : Int) = (s[k]?).join := by simp [look]
      rw [this, List.getElem?_eq_getElem hk] at hi
      simpa using hi
    have hc5 := hr (2 + 5) (.bool false) (by rw [plC_flag, hn]; rfl)
    obtain ⟨ns, hns⟩ : ∃ n, s.length = n := ⟨_, rfl⟩
    rw [hns] at h0 hc hk
    have hkI : (k : Int) < ns := by omega
    have hsI : (ns : Int) ≤ 1000000 := by omega
    clear hr hv h hns hn hi
    go_enter Try.func61, Try.ntmps61
    go_wp2
    go_ret
    exact ⟨rfl, rfl⟩

set_option maxHeartbeats 1000000 in
theorem askedN_yes {w : World} {F : Nat → Prop} {g : Nat} {s : List (Option Nd)} {fr : List Nat} (h : ArN w F g s fr) (hs : s.length ≤ 1000000) {k : Nat} {n : Nd} (hk : s[k]? = some (some n)) :
    Calls Try.prog 61 #[.pointer (some ⟨g, 0, none⟩), .int .i64 k] w fun e w' => e = .returned (.int .i64 0) ∧ w = w' := by
  obtain ⟨vp, vf, h⟩ := h
  have h0 := h.c0
  obtain ⟨hkl, hke⟩ := List.getElem?_eq_some_iff.1 hk
  obtain ⟨b, c, rfl, hc, _, _, hr, _⟩ := row_range plC plC_len h.p rfl hkl
  have hc5 := hr (2 + 5) (.bool true) (by rw [plC_flag, hke]; rfl)
  obtain ⟨ns, hns⟩ : ∃ n, s.length = n := ⟨_, rfl⟩
  rw [hns] at h0 hc hkl
  have hkI : (k : Int) < ns := by omega
  have hsI : (ns : Int) ≤ 1000000 := by omega
  clear hr h hns hke hk
  go_enter Try.func61, Try.ntmps61
  go_wp2
  go_ret
  exact ⟨rfl, rfl⟩

end Go.Proofs.Ytbioomilnjikpaa
