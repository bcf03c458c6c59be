/-
  Several texts in one: RoA, Held, RoB, RoC, RoD, RoE, RoF.
-/
import Derived.Test.YtmfkdaannjibfaaRows
import Derived.BigQuiet
import Derived.Deep.QuietTactic
import Derived.Deep.RegionHeld3
import Derived.Deep.RegionLaw
import Derived.Great.BuildSlice
import Derived.Test.YtmfkdaannjibfaaBdA

namespace Go.Proofs.Ytmfkdaannjibfaa
open Go.RowKit

theorem list_succ {α : Type} {n : Nat} {x : List α} (h : x.length = n + 1) : ∃ a y, x = a :: y ∧ y.length = n := by
  cases x with
  | nil => simp at h
  | cons a y => exact ⟨a, y, rfl, by simpa using h⟩

theorem list_K {α : Type} (x : List α) (hx0 : x.length = 33) : ∃ a0 a1 a2 a3 a4 a5 a6 a7 a8 a9 a10 a11 a12 a13 a14 a15 a16 a17 a18 a19 a20 a21 a22 a23 a24 a25 a26 a27 a28 a29 a30 a31 a32, x = [a0, a1, a2, a3, a4, a5, a6, a7, a8, a9, a10, a11, a12, a13, a14, a15, a16, a17, a18, a19, a20, a21, a22, a23, a24, a25, a26, a27, a28, a29, a30, a31, a32] := by
  obtain ⟨a0, x0, rfl, hx1⟩ := list_succ hx0
  obtain ⟨a1, x1, rfl, hx2⟩ := list_succ hx1
  obtain ⟨a2, x2, rfl, hx3⟩ := list_succ hx2
  obtain ⟨a3, x3, rfl, hx4⟩ := list_succ hx3
  obtain ⟨a4, x4, rfl, hx5⟩ := list_succ hx4
  obtain ⟨a5, x5, rfl, hx6⟩ := list_succ hx5
  obtain ⟨a6, x6, rfl, hx7⟩ := list_succ hx6
  obtain ⟨a7, x7, rfl, hx8⟩ := list_succ hx7
  obtain ⟨a8, x8, rfl, hx9⟩ := list_succ hx8
  obtain ⟨a9, x9, rfl, hx10⟩ := list_succ hx9
  obtain ⟨a10, x10, rfl, hx11⟩ := list_succ hx10
  obtain ⟨a11, x11, rfl, hx12⟩ := list_succ hx11
  obtain ⟨a12, x12, rfl, hx13⟩ := list_succ hx12
  obtain ⟨a13, x13, rfl, hx14⟩ := list_succ hx13
  obtain ⟨a14, x14, rfl, hx15⟩ := list_succ hx14
  obtain ⟨a15, x15, rfl, hx16⟩ := list_succ hx15
  obtain ⟨a16, x16, rfl, hx17⟩ := list_succ hx16
  obtain ⟨a17, x17, rfl, hx18⟩ := list_succ hx17
  obtain ⟨a18, x18, rfl, hx19⟩ := list_succ hx18
  obtain ⟨a19, x19, rfl, hx20⟩ := list_succ hx19
  obtain ⟨a20, x20, rfl, hx21⟩ := list_succ hx20
  obtain ⟨a21, x21, rfl, hx22⟩ := list_succ hx21
  obtain ⟨a22, x22, rfl, hx23⟩ := list_succ hx22
  obtain ⟨a23, x23, rfl, hx24⟩ := list_succ hx23
  obtain ⟨a24, x24, rfl, hx25⟩ := list_succ hx24
  obtain ⟨a25, x25, rfl, hx26⟩ := list_succ hx25
  obtain ⟨a26, x26, rfl, hx27⟩ := list_succ hx26
  obtain ⟨a27, x27, rfl, hx28⟩ := list_succ hx27
  obtain ⟨a28, x28, rfl, hx29⟩ := list_succ hx28
  obtain ⟨a29, x29, rfl, hx30⟩ := list_succ hx29
  obtain ⟨a30, x30, rfl, hx31⟩ := list_succ hx30
  obtain ⟨a31, x31, rfl, hx32⟩ := list_succ hx31
  obtain ⟨a32, x32, rfl, hx33⟩ := list_succ hx32
  obtain rfl := List.eq_nil_of_length_eq_zero hx33
  exact ⟨a0, a1, a2, a3, a4, a5, a6, a7, a8, a9, a10, a11, a12, a13, a14, a15, a16, a17, a18, a19, a20, a21, a22, a23, a24, a25, a26, a27, a28, a29, a30, a31, a32, rfl⟩

/-- A node: its thing's cells, its children, its totals. -/
structure Nd where
  x : List Value
  hx : x.length = 33
  h1 : ∀ v ∈ x, v.oneCell' = true
  l : Int
  r : Int
  h : Int
  sz : Int
  mk_ : Int

def Nd.C (n : Nd) : List Value := n.x ++ [.int .i64 n.l, .int .i64 n.r, .int .i64 n.h, .int .i64 n.sz, .int .i64 n.mk_]
theorem Nd.C_len (n : Nd) : n.C.length = 33 + 5 := by simp [Nd.C, n.hx]
theorem Nd.C_one (n : Nd) : ∀ v ∈ n.C, v.oneCell' = true := by
  intro v hv
  rcases List.mem_append.1 hv with h | h
  · exact n.h1 v h
  · simp at h
    rcases h with rfl | rfl | rfl | rfl | rfl <;> rfl
theorem Nd.C_x (n : Nd) (j : Nat) (hj : j < 33) : n.C[j]? = n.x[j]? := List.getElem?_append_left (by rw [n.hx]; exact hj)
theorem Nd.C_l (n : Nd) : n.C[33]? = some (.int .i64 n.l) := by rw [Nd.C, List.getElem?_append_right (by rw [n.hx]; omega), n.hx]; rfl
theorem Nd.C_r (n : Nd) : n.C[33 + 1]? = some (.int .i64 n.r) := by rw [Nd.C, List.getElem?_append_right (by rw [n.hx]; omega), n.hx]; rfl
theorem Nd.C_h (n : Nd) : n.C[33 + 2]? = some (.int .i64 n.h) := by rw [Nd.C, List.getElem?_append_right (by rw [n.hx]; omega), n.hx]; rfl
theorem Nd.C_sz (n : Nd) : n.C[33 + 3]? = some (.int .i64 n.sz) := by rw [Nd.C, List.getElem?_append_right (by rw [n.hx]; omega), n.hx]; rfl
theorem Nd.C_mk (n : Nd) : n.C[33 + 4]? = some (.int .i64 n.mk_) := by rw [Nd.C, List.getElem?_append_right (by rw [n.hx]; omega), n.hx]; rfl
def Nd.V (n : Nd) : Value := .agg n.C.toArray
/-- The zero node. -/
def nd0 : Nd := ⟨[.int .i32 0, .int .i32 0, .int .i32 0, .int .i32 0, .int .i32 0, .int .i32 0, .int .i32 0, .int .i32 0, .int .i32 0, .int .i32 0, .int .i32 0, .int .i32 0, .int .i32 0, .int .i32 0, .int .i32 0, .int .i32 0, .int .i32 0, .int .i32 0, .int .i32 0, .int .i32 0, .int .i32 0, .int .i32 0, .int .i32 0, .int .i32 0, .int .i32 0, .int .i32 0, .int .i32 0, .int .i32 0, .int .i32 0, .int .i32 0, .int .i32 0, .int .i32 0, .int .i64 0], rfl, by decide, 0, 0, 0, 0, 0⟩

def plC : Option Nd → List Value
  | some n => n.C ++ [.bool true]
  | none => nd0.C ++ [.bool false]
theorem plC_len (o : Option Nd) : (plC o).length = 33 + 6 := by cases o <;> simp [plC, Nd.C_len]
theorem plC_one (o : Option Nd) : ∀ v ∈ plC o, v.oneCell' = true := by
  intro v hv
  cases o <;> rcases List.mem_append.1 hv with h | h
  · exact nd0.C_one v h
  · simp at h; subst h; rfl
  · rename_i n; exact n.C_one v h
  · simp at h; subst h; rfl
theorem plC_flag (o : Option Nd) : (plC o)[33 + 5]? = some (.bool o.isSome) := by
  cases o <;> (simp only [plC]; rw [List.getElem?_append_right (by rw [Nd.C_len]; omega), Nd.C_len]; rfl)
theorem plC_node (n : Nd) (j : Nat) (hj : j < 33 + 5) : (plC (some n))[j]? = n.C[j]? := List.getElem?_append_left (by rw [Nd.C_len]; exact hj)

def iV (i : Nat) : Value := .int .i64 (i : Int)

/-- The arena's two rows, as they lie. -/
def Ar2 (w : World) (F : Nat → Prop) (g : Nat) (vp : Value) (np : Nat) (ps : List Value) (vf : Value) (nf : Nat) (fs : List Value) : Prop :=
  StF w F g 122 [⟨124, 33 + 6, vp, np, ps⟩, ⟨3, 1, vf, nf, fs⟩]

section
variable {w : World} {F : Nat → Prop} {g : Nat} {vp vf : Value} {np nf : Nat} {ps fs : List Value}
theorem Ar2.p (h : Ar2 w F g vp np ps vf nf fs) : w.ownsRow 0 124 (33 + 6) vp np ps := StF.row h (j := 0) rfl
theorem Ar2.f (h : Ar2 w F g vp np ps vf nf fs) : w.ownsRow 0 3 1 vf nf fs := StF.row h (j := 1) rfl
theorem Ar2.c0 (h : Ar2 w F g vp np ps vf nf fs) : w.cell? ⟨g, 0, none⟩ = some vp := StF.cell h (j := 0) rfl
theorem Ar2.c1 (h : Ar2 w F g vp np ps vf nf fs) : w.cell? ⟨g, 1, none⟩ = some vf := StF.cell h (j := 1) rfl
theorem Ar2.below {w' : World} (h : Ar2 w F g vp np ps vf nf fs) (hs : Below w.heap.size w w') : Ar2 w' F g vp np ps vf nf fs := StF.below h hs
theorem Ar2.storesP (h : Ar2 w F g vp np ps vf nf fs) {b c : Nat} (hv : vp = .slice (some ⟨b, 0, none⟩) np c) (o : Nat) (vs : List Value) : Ar2 (w.setCells b o vs) F g vp np (setMany ps o vs) vf nf fs ∧ Grow F w (w.setCells b o vs) F := StF.stores vs h (i := 0) rfl hv o
theorem Ar2.renewP {w1 : World} (h : Ar2 w F g vp np ps vf nf fs) {v' : Value} {n' : Nat} {ys : List Value} (hg : w.grownBy w1 vp.ownBlock) (hown : w1.ownsRow 0 124 (33 + 6) v' n' ys) (hat : ∀ k, v'.ownBlock = some k → vp.ownBlock = some k ∨ w.heap.size ≤ k) :
    (w1.cell? ⟨g, 0, none⟩ = some vp ∧ w1.frozen? ⟨g, 0, none⟩ = false) ∧ Ar2 (w1.setCell ⟨g, 0, none⟩ v') (fun k => F k ∨ v'.ownBlock = some k) g v' n' ys vf nf fs ∧ Grow F w (w1.setCell ⟨g, 0, none⟩ v') (fun k => F k ∨ v'.ownBlock = some k) := StF.renew h (i := 0) rfl hg hown hat
theorem Ar2.renewF {w1 : World} (h : Ar2 w F g vp np ps vf nf fs) {v' : Value} {n' : Nat} {ys : List Value} (hg : w.grownBy w1 vf.ownBlock) (hown : w1.ownsRow 0 3 1 v' n' ys) (hat : ∀ k, v'.ownBlock = some k → vf.ownBlock = some k ∨ w.heap.size ≤ k) :
    (w1.cell? ⟨g, 1, none⟩ = some vf ∧ w1.frozen? ⟨g, 1, none⟩ = false) ∧ Ar2 (w1.setCell ⟨g, 1, none⟩ v') (fun k => F k ∨ v'.ownBlock = some k) g vp np ps v' n' ys ∧ Grow F w (w1.setCell ⟨g, 1, none⟩ v') (fun k => F k ∨ v'.ownBlock = some k) := StF.renew h (i := 1) rfl hg hown hat
end

/-- The arena behind ⟨g, 0⟩, of the blocks F: its places, its free ones. -/
def ArN (w : World) (F : Nat → Prop) (g : Nat) (s : List (Option Nd)) (fr : List Nat) : Prop :=
  ∃ vp vf, Ar2 w F g vp s.length (s.flatMap plC) vf fr.length (fr.map iV)

section
variable {w w' : World} {F : Nat → Prop} {g : Nat} {s : List (Option Nd)} {fr : List Nat}
theorem ArN.of2 {vp vf : Value} {np nf : Nat} {ps fs : List Value} (h : Ar2 w F g vp np ps vf nf fs) (h1 : np = s.length) (h2 : ps = s.flatMap plC) (h3 : nf = fr.length) (h4 : fs = fr.map iV) : ArN w F g s fr := by
  subst h1 h2 h3 h4
  exact ⟨_, _, h⟩
theorem ArN.lt (h : ArN w F g s fr) : ∀ k, F k → k < w.heap.size := by obtain ⟨_, _, h⟩ := h; exact StF.lt h
theorem ArN.step {G : Nat → Prop} (h : ArN w F g s fr) (hs : Step G w w') (hG : ∀ k, F k → ¬ G k) : ArN w' F g s fr := by obtain ⟨_, _, h⟩ := h; exact ⟨_, _, StF.step h hs hG⟩
theorem ArN.below (h : ArN w F g s fr) (hs : Below w.heap.size w w') : ArN w' F g s fr := by obtain ⟨_, _, h⟩ := h; exact ⟨_, _, StF.below h hs⟩
theorem ArN.drewN (h : ArN w F g s fr) (n : Nat) : ArN (w.drewN n) F g s fr := by obtain ⟨_, _, h⟩ := h; exact ⟨_, _, StF.drewN h n⟩
end

theorem node_info : (Try.prog.info? 103).map (·.size) = some (33 + 5) := by kernel_rfl
theorem place_info : (Try.prog.info? 124).map (·.size) = some (33 + 6) := by kernel_rfl
theorem nd_info (n : Nd) : (Try.prog.info? 103).map (·.size) = some n.C.length := by rw [Nd.C_len]; exact node_info

set_option maxHeartbeats 1000000 in
theorem askedN_no {w : World} {F : Nat → Prop} {g : Nat} {s : List (Option Nd)} {fr : List Nat} (h : ArN w F g s fr) (hs : s.length ≤ 1000000) (i : Int) (hi : look s i = none) :
    Calls Try.prog 79 #[.pointer (some ⟨g, 0, none⟩), .int .i64 i] w fun e w' => e = .returned (.int .i64 5) ∧ w = w' := by
  obtain ⟨vp, vf, h⟩ := h
  have h0 := h.c0
  obtain ⟨A, c, rfl, _⟩ := own_shape h.p
  have hh : i < 0 ∨ (¬ i < 0 ∧ (s.length : Int) ≤ i) ∨ ∃ k : Nat, i = k ∧ k < s.length := by
    by_cases h1 : i < 0
    · exact .inl h1
    · by_cases h2 : (s.length : Int) ≤ i
      · exact .inr (.inl ⟨h1, h2⟩)
      · exact .inr (.inr ⟨i.toNat, by omega, by omega⟩)
  rcases hh with hi1 | ⟨hi1, hi2⟩ | ⟨k, rfl, hk⟩
  · go_enter Try.func79, Try.ntmps79
    go_wp2
    go_ret
    exact ⟨rfl, rfl⟩
  · go_enter Try.func79, Try.ntmps79
    go_wp2
    go_ret
    exact ⟨rfl, rfl⟩
  · obtain ⟨b, c1, hv, hc, _, _, hr, _⟩ := row_range plC plC_len h.p rfl hk
    obtain ⟨rfl, rfl⟩ : A = some ⟨b, 0, none⟩ ∧ c = c1 := by injection hv with e1 e2 e3; exact ⟨e1, e3⟩
    have hn : s[k] = none := by
      have : look s (k : Int) = (s[k]?).join := by simp [look]
      rw [this, List.getElem?_eq_getElem hk] at hi
      simpa using hi
    have hc5 := hr (33 + 5) (.bool false) (by rw [plC_flag, hn]; rfl)
    obtain ⟨ns, hns⟩ : ∃ n, s.length = n := ⟨_, rfl⟩
    rw [hns] at h0 hc hk
    have hkI : (k : Int) < ns := by omega
    have hsI : (ns : Int) ≤ 1000000 := by omega
    clear hr hv h hns hn hi
    go_enter Try.func79, Try.ntmps79
    go_wp2
    go_ret
    exact ⟨rfl, rfl⟩

set_option maxHeartbeats 1000000 in
theorem askedN_yes {w : World} {F : Nat → Prop} {g : Nat} {s : List (Option Nd)} {fr : List Nat} (h : ArN w F g s fr) (hs : s.length ≤ 1000000) {k : Nat} {n : Nd} (hk : s[k]? = some (some n)) :
    Calls Try.prog 79 #[.pointer (some ⟨g, 0, none⟩), .int .i64 k] w fun e w' => e = .returned (.int .i64 0) ∧ w = w' := by
  obtain ⟨vp, vf, h⟩ := h
  have h0 := h.c0
  obtain ⟨hkl, hke⟩ := List.getElem?_eq_some_iff.1 hk
  obtain ⟨b, c, rfl, hc, _, _, hr, _⟩ := row_range plC plC_len h.p rfl hkl
  have hc5 := hr (33 + 5) (.bool true) (by rw [plC_flag, hke]; rfl)
  obtain ⟨ns, hns⟩ : ∃ n, s.length = n := ⟨_, rfl⟩
  rw [hns] at h0 hc hkl
  have hkI : (k : Int) < ns := by omega
  have hsI : (ns : Int) ≤ 1000000 := by omega
  clear hr h hns hke hk
  go_enter Try.func79, Try.ntmps79
  go_wp2
  go_ret
  exact ⟨rfl, rfl⟩

end Go.Proofs.Ytmfkdaannjibfaa

namespace Go.Proofs.Ytmfkdaannjibfaa

theorem wpAnyH_mono {P : Program} {md : Region.Mode} {ops : Array Oper} {Q : Exit → Act → World → Prop} {S S2 : World → Prop} (hS : ∀ w, S2 w → S w) :
    ∀ (fuel : Nat) (listed : Array Bool) (a : Act) (w : World), wpAnyH P md ops Q S2 fuel listed a w → wpAnyH P md ops Q S fuel listed a w
  | 0, _, _, _, h => h
  | fuel + 1, _, _, _, h => ⟨h.1, fun i hi => wpOp_mono (fun a w hh => ⟨hS w hh.1, wpAnyH_mono hS fuel _ a w hh.2⟩) (h.2 i hi)⟩

/-- 'wpAnyH_take', the slot that is written given outright. -/
theorem take_at {P : Program} {md : Region.Mode} {ops : Array Oper} {Q : Exit → Act → World → Prop} {S : World → Prop} {i : Nat} {oi : Oper} {v : Value} (d : Option Tmp) {fuel : Nat} {listed : Array Bool} {a : Act} {w : World} (hi : ops[i]? = some oi) (hd : oi.dst = d)
    (hs : Region.noSelect ops = true) (hf : Region.free md ops listed i = true) (hr : (Region.ready md ops listed).contains i = true)
    (hQ : ∀ c a w, Q (.panic c) (a.put d v) w → Q (.panic c) a w) (hS : S w) (hw : Region.wanted oi (yielded ops a.tmps) = true) (hy : ∀ w, S w → (execOp a.eval oi).run P w = .ok (.value v) w)
    (h : wpAnyH P md ops Q S fuel (listed.setIfInBounds i true) (a.put d v) w) : wpAnyH P md ops Q S (fuel + 1) listed a w := by
  subst hd
  exact wpAnyH_take hi hs hf hr hQ (.inl ⟨hw, hy⟩) hS h

theorem skip_at {P : Program} {md : Region.Mode} {ops : Array Oper} {Q : Exit → Act → World → Prop} {S : World → Prop} {i : Nat} {oi : Oper} (d : Option Tmp) {fuel : Nat} {listed : Array Bool} {a : Act} {w : World} (hi : ops[i]? = some oi) (hd : oi.dst = d)
    (hs : Region.noSelect ops = true) (hf : Region.free md ops listed i = true) (hr : (Region.ready md ops listed).contains i = true)
    (hQ : ∀ c a w, Q (.panic c) (a.put d undef) w → Q (.panic c) a w) (hS : S w) (hw : Region.wanted oi (yielded ops a.tmps) = false)
    (h : wpAnyH P md ops Q S fuel (listed.setIfInBounds i true) (a.put d undef) w) : wpAnyH P md ops Q S (fuel + 1) listed a w := by
  subst hd
  exact wpAnyH_take hi hs hf hr hQ (.inr ⟨hw, rfl⟩) hS h

theorem of_if {c : Prop} [Decidable c] {A B : Prop} (hc : c) (h : A) : if c then A else B := by
  rw [if_pos hc]
  exact h

/-- append onto a row of one's own, as one step of a region that draws. -/
theorem step_append_sees {P : Program} {o : Oper} {a : Act} {w : World} {K : Act → World → Prop} {Q : Exit → Act → World → Prop}
    (s x : Operand) (t : TypeId) (ho : o.op = Op.call { callee := Callee.builtin Builtin.append, args := #[s, x], argTypes := #[t, t] })
    (base : Nat) (e : TypeId) (i : TypeInfo) (z : Value) (size bytes : Nat) (ht : P.underlying t = some (.slice e)) (hi : P.info? e = some i) (hz : i.zero = some z)
    (hsize : i.size = size) (hby : i.bytes = bytes) (hzs : z.cells.size = size) (hsz : 0 < size)
    (v : Value) (n : Nat) (xs : List Value) (hs : a.eval s = v) (hown : w.ownsRow base e size v n xs)
    (B : Nat) (A : Option Addr) (m c : Nat) (news : List Value) (hx : a.eval x = .slice A m c) (hr : Sees w B size A m news) (h1 : ∀ u ∈ news, u.oneCell' = true)
    (h63 : n + m ≤ maxLen) (hbytes : (n + m) * bytes ≤ 140737488355328) (hbase : base ≤ w.heap.size)
    (hK : ∀ v' w', w'.ownsRow base e size v' (n + m) (xs ++ news) → w.grownBy w' v.ownBlock → (v'.ownBlock = v.ownBlock ∨ v'.ownBlock = some w.heap.size) → K (a.put o.dst v') w') :
    Oper.wp P o a w K Q := by
  obtain ⟨v', w', hrun, h2, h3, h4, _⟩ := run_append_sees (P := P) w base t o.type e i z size bytes ht hi hz hsize hby hzs hsz v n xs hown B A m c news hr h1 h63 hbytes hbase
  unfold Oper.wp execOp
  simp only [ho, resolve, invoke, builtin, Sem.run_bind, Sem.run_pure, Result.andThen_ok, List.map_toArray, List.map_cons, List.map_nil, hs, hx, hrun]
  exact hK _ _ h2 h3 h4

end Go.Proofs.Ytmfkdaannjibfaa

namespace Go.Proofs.Ytmfkdaannjibfaa
open Go.RowKit

set_option maxHeartbeats 1000000 in
theorem atN_yes {w : World} {F : Nat → Prop} {g : Nat} {s : List (Option Nd)} {fr : List Nat} (h : ArN w F g s fr) (hs : s.length ≤ 1000000) {k : Nat} {n : Nd} (hk : s[k]? = some (some n)) :
    Calls Try.prog 78 #[.pointer (some ⟨g, 0, none⟩), .int .i64 k] w fun e w' => e = .returned (.tuple #[n.V, .int .i64 0]) ∧ Below w.heap.size w w' := by
  have HA := Lib.hid (fun o => askedN_yes (h.below ((Below.refl w.heap.size w).alloc (Nat.le_refl _) o)) hs hk)
  obtain ⟨vp, vf, h⟩ := h
  have h0 := h.c0
  obtain ⟨hkl, hke⟩ := List.getElem?_eq_some_iff.1 hk
  obtain ⟨b, c, rfl, hc, _, hbl, hr, _⟩ := row_range plC plC_len h.p rfl hkl
  have hr2 : w.rangeAt b (k * (33 + 6)) n.C := fun j v hv => hr j v (by rw [hke, plC_node n j (by rw [← n.C_len]; exact (List.getElem?_eq_some_iff.1 hv).1)]; exact hv)
  have HR := Lib.hid (fun o => range_below hr2 hbl ((Below.refl w.heap.size w).alloc (Nat.le_refl _) o))
  obtain ⟨ns, hns⟩ : ∃ n, s.length = n := ⟨_, rfl⟩
  rw [hns] at h0 hc hkl
  have hkI : (k : Int) < ns := by omega
  have hsI : (ns : Int) ≤ 1000000 := by omega
  have h0a : ∀ o, (w.alloc o).cell? ⟨g, 0, none⟩ = some (.slice (some ⟨b, 0, none⟩) ns c) := fun o => (((Below.refl w.heap.size w).alloc (Nat.le_refl _) o).cell (p := ⟨g, 0, none⟩) (World.block_lt_of_cell? w _ h0)).trans h0
  clear hr hr2 h hns hke hk
  go_enter Try.func78, Try.ntmps78
  go_wp2_with (first
    | (go_at_call 79; refine (HA.out _).mono ?_; rintro e w' ⟨rfl, rfl⟩)
    | (refine wpList_load_mid rfl 103 (.tmp 21) rfl b (k * (33 + 6)) rfl n.C _ (HR.out _) Try.underlying103 rfl (nd_info n) ?_)
    | (refine wpList_store_row rfl 103 (.tmp 4) (.tmp 22) rfl w.heap.size n.C.toArray rfl rfl 103 _ (heap_alloc_new w _) (nd_info n) (by simp [Nd.C_len]) (all_oneCell_toArray n.C_one) ?_; rw [alloc_setRow]))
  exact bodyPost_ret (v := .tuple #[n.V, .int .i64 0]) (results_ct rfl _ _ w.heap.size _ n.C.toArray (0, 0) _ _ rfl rfl (heap_alloc_new w _) Try.underlying103 rfl (nd_info n)) rfl
    ⟨rfl, (Below.refl _ _).alloc (Nat.le_refl _) _⟩

theorem set_C {s : List (Option Nd)} {k : Nat} {n0 n : Nd} (hk : s[k]? = some (some n0)) : setMany (s.flatMap plC) (k * (33 + 6)) n.C = (s.set k (some n)).flatMap plC := by
  obtain ⟨hkl, hke⟩ := List.getElem?_eq_some_iff.1 hk
  refine setMany_flat plC (33 + 6) plC_len s k (some n) hkl n.C (by rw [Nd.C_len]; omega) (fun j hj => plC_node n j (by rw [← n.C_len]; exact hj)) (fun j h1 h2 => ?_)
  rw [Nd.C_len] at h1
  have e : j = 33 + 5 := by omega
  subst e
  rw [hke, plC_flag, plC_flag]
  rfl

set_option maxRecDepth 100000 in
set_option maxHeartbeats 1000000 in
theorem putN_yes {w : World} {F : Nat → Prop} {g : Nat} {s : List (Option Nd)} {fr : List Nat} (h : ArN w F g s fr) (hs : s.length ≤ 1000000) {k : Nat} {n0 : Nd} (hk : s[k]? = some (some n0)) (n : Nd) :
    Calls Try.prog 73 #[.pointer (some ⟨g, 0, none⟩), .int .i64 k, n.V] w fun e w' => e = .returned (.int .i64 0) ∧ ArN w' F g (s.set k (some n)) fr ∧ Grow F w w' F := by
  unfold Nd.V
  obtain ⟨w1, hw1⟩ : ∃ v, w.alloc (.cells n.C.toArray 103) = v := ⟨_, rfl⟩
  have hb1 : Below w.heap.size w w1 := by rw [← hw1]; exact (Below.refl _ _).alloc (Nat.le_refl _) _
  have hx1 : w1.heap[w.heap.size]? = some (.cells n.C.toArray 103) := by rw [← hw1]; exact heap_alloc_new w _
  obtain ⟨bx, hbx⟩ : ∃ v, w.heap.size = v := ⟨_, rfl⟩
  have HA := Lib.hid (askedN_yes (h.below hb1) hs hk)
  have hlt := h.lt
  obtain ⟨vp, vf, h⟩ := h
  obtain ⟨hkl, hke⟩ := List.getElem?_eq_some_iff.1 hk
  have h1 := h.below hb1
  obtain ⟨b, c, rfl, hc, _, hbl, hr, ht⟩ := row_range plC plC_len h1.p rfl hkl
  have h01 := h1.c0
  have h1d : Ar2 w1.drew F g (.slice (some ⟨b, 0, none⟩) s.length c) s.length (s.flatMap plC) vf fr.length (fr.map iV) := StF.drew h1
  have hst := h1d.storesP rfl (k * (33 + 6)) n.C
  rw [set_C hk] at hst
  have HT := Lib.hid (show w1.drew.there b (k * (33 + 6)) n.C.toArray.size from fun j hj => ht j (by simp [Nd.C_len] at hj; omega))
  have hFb : F b := h.2.2.1 0 _ rfl b rfl
  have HS := Lib.hid (And.intro hst (And.intro hb1.drew (And.intro hFb hlt)))
  have hFg := h.2.1
  obtain ⟨ns, hns⟩ : ∃ n, s.length = n := ⟨_, rfl⟩
  have HN := Lib.hid hns
  rw [hns] at h01 hc hkl
  rw [hbx] at hx1
  have hkI : (k : Int) < ns := by omega
  have hsI : (ns : Int) ≤ 1000000 := by omega
  have hbb : b ≠ bx := fun e => by have := hlt b hFb; omega
  have hgb : g ≠ b := fun e => own_row_blk h.p h.1.blk (by decide) (by rw [e]; rfl)
  have hS1 : (w1.drew.setCells b (k * (33 + 6)) n.C).cell? ⟨g, 0, none⟩ = some (.slice (some ⟨b, 0, none⟩) ns c) := (World.cell?_setCells_out b n.C _ w1.drew ⟨g, 0, none⟩ (fun e _ => absurd e hgb)).trans h01
  have hS2 : (w1.drew.setCells b (k * (33 + 6)) n.C).heap[bx]? = some (.cells n.C.toArray 103) := (hst.2.step.block bx (show bx < w1.heap.size from (Array.getElem?_eq_some_iff.1 hx1).1) (fun hF => by have := hlt bx hF; omega)).trans hx1
  clear hr ht hst h1 h1d h hns hke hlt
  go_enter Try.func73, Try.ntmps73
  go_wp2_with fail
  clear hw1 hbx
  refine HA.out.mono ?_
  rintro e w' ⟨rfl, rfl⟩
  go_wp2_with fail
  refine wp_region_held_drew (S := fun w' => w'.cell? ⟨g, 0, none⟩ = some (.slice (some ⟨b, 0, none⟩) ns c) ∧ w'.heap[bx]? = some (.cells n.C.toArray 103)) (by kernel_rfl) ⟨h01, hx1⟩ (fun hHeld => ?_)
  try dsimp only at hHeld
  refine take_at (i := 0) (v := ?_) (some 14) rfl rfl (by kernel_rfl) (by kernel_rfl) (by kernel_rfl) (fun _ _ _ h => h) hHeld (by rfl) (fun wS hSw => ?_) ?_
  rotate_left
  · try dsimp only at hSw
    go_simp
    try with_reducible rfl
  try simp only [Act.put, List.setIfInBounds_toArray, List.set_cons_zero, List.set_cons_succ]
  refine take_at (i := 1) (v := ?_) (some 15) rfl rfl (by kernel_rfl) (by kernel_rfl) (by kernel_rfl) (fun _ _ _ h => h) hHeld (by rfl) (fun wS hSw => ?_) ?_
  rotate_left
  · try dsimp only at hSw
    go_simp
    try with_reducible rfl
  try simp only [Act.put, List.setIfInBounds_toArray, List.set_cons_zero, List.set_cons_succ]
  refine take_at (i := 2) (v := ?_) (some 16) rfl rfl (by kernel_rfl) (by kernel_rfl) (by kernel_rfl) (fun _ _ _ h => h) hHeld (by rfl) (fun wS hSw => ?_) ?_
  rotate_left
  · try dsimp only at hSw
    go_simp
    try with_reducible rfl
  try simp only [Act.put, List.setIfInBounds_toArray, List.set_cons_zero, List.set_cons_succ]
  refine take_at (i := 3) (v := ?_) (some 17) rfl rfl (by kernel_rfl) (by kernel_rfl) (by kernel_rfl) (fun _ _ _ h => h) hHeld (by rfl) (fun wS hSw => ?_) ?_
  rotate_left
  · have hS1 := hSw.1
    try dsimp only at hSw
    go_simp
    try with_reducible rfl
  try simp only [Act.put, List.setIfInBounds_toArray, List.set_cons_zero, List.set_cons_succ]
  refine take_at (i := 4) (v := ?_) (some 18) rfl rfl (by kernel_rfl) (by kernel_rfl) (by kernel_rfl) (fun _ _ _ h => h) hHeld (by rfl) (fun wS hSw => ?_) ?_
  rotate_left
  · try dsimp only at hSw
    go_simp
    try with_reducible rfl
  try simp only [Act.put, List.setIfInBounds_toArray, List.set_cons_zero, List.set_cons_succ]
  refine take_at (i := 5) (v := ?_) (some 19) rfl rfl (by kernel_rfl) (by kernel_rfl) (by kernel_rfl) (fun _ _ _ h => h) hHeld (by rfl) (fun wS hSw => ?_) ?_
  rotate_left
  · refine exec_load_row 103 (.tmp 5) ?_ bx ?_ 103 n.C.toArray (0, 0) _ hSw.2 Try.underlying103 rfl (nd_info n) <;> rfl
  try simp only [Act.put, List.setIfInBounds_toArray, List.set_cons_zero, List.set_cons_succ]
  refine take_at (i := 6) (v := ?_) (some 20) rfl rfl (by kernel_rfl) (by kernel_rfl) (by kernel_rfl) (fun _ _ _ h => h) hHeld (by rfl) (fun wS hSw => ?_) ?_
  rotate_left
  · try dsimp only at hSw
    go_simp
    try with_reducible rfl
  try simp only [Act.put, List.setIfInBounds_toArray, List.set_cons_zero, List.set_cons_succ]
  refine take_at (i := 7) (v := ?_) (some 21) rfl rfl (by kernel_rfl) (by kernel_rfl) (by kernel_rfl) (fun _ _ _ h => h) hHeld (by rfl) (fun wS hSw => ?_) ?_
  rotate_left
  · try dsimp only at hSw
    go_simp
    try with_reducible rfl
  try simp only [Act.put, List.setIfInBounds_toArray, List.set_cons_zero, List.set_cons_succ]
  refine wpAnyH_ready (rs := [8]) (by kernel_rfl) (by simp) ?_
  refine AllReadyH.cons rfl (fun K hK => ?_) AllReadyH.nil
  simp only [List.getElem_toArray, List.getElem_cons_succ, List.getElem_cons_zero]
  refine of_if (by rfl) ?_
  refine wp_store_mid 103 (.tmp 21) (.tmp 19) rfl b (k * (33 + 6)) n.C.toArray rfl rfl (HT.out) (nd_info n) (all_oneCell_toArray n.C_one) ?_
  have hOld := hHeld
  refine hK.out _ _ ⟨hS1, hS2⟩ (fun _ => ?_)
  clear hK K
  refine wpAnyH_mono (S2 := fun w' => w'.cell? ⟨g, 0, none⟩ = some (.slice (some ⟨b, 0, none⟩) ns c) ∧ w'.heap[bx]? = some (.cells n.C.toArray 103)) (fun _ h => h) _ _ _ _ ?_
  clear hHeld
  have hHeld := And.intro hS1 hS2
  clear hOld
  try simp only [Act.put]
  refine wpAnyH_done (by kernel_rfl) ?_ _
  go_wp2_with fail
  go_ret
  have hx := HS.out
  exact ⟨rfl, ArN.of2 hx.1.1 (by rw [List.length_set]) rfl rfl rfl, (Grow.of_below hx.2.1).trans hx.1.2⟩

end Go.Proofs.Ytmfkdaannjibfaa

namespace Go.Proofs.Ytmfkdaannjibfaa
open Go.RowKit

theorem int_info : (Try.prog.info? 3).map (fun i => (i.zero, i.size, i.bytes)) = some (some (.int .i64 0), 1, 8) := by kernel_rfl

theorem set_none {s : List (Option Nd)} {k : Nat} (hk : k < s.length) : setMany (s.flatMap plC) (k * (33 + 6)) (plC none) = (s.set k none).flatMap plC :=
  setMany_flat plC (33 + 6) plC_len s k none hk (plC none) (by rw [plC_len]; exact Nat.le_refl _) (fun _ _ => rfl) (fun j h1 h2 => by rw [plC_len] at h1; omega)
theorem set_some {s : List (Option Nd)} {k : Nat} (n : Nd) (hk : k < s.length) : setMany (s.flatMap plC) (k * (33 + 6)) (plC (some n)) = (s.set k (some n)).flatMap plC :=
  setMany_flat plC (33 + 6) plC_len s k (some n) hk (plC (some n)) (by rw [plC_len]; exact Nat.le_refl _) (fun _ _ => rfl) (fun j h1 h2 => by rw [plC_len] at h1; omega)
theorem pl_info (o : Option Nd) : (Try.prog.info? 124).map (·.size) = some (plC o).length := by rw [plC_len]; exact place_info

theorem Sees.one_at (w : World) (b : Nat) (u : Value) (e : TypeId) (hb : w.heap.size = b) : Sees (w.alloc (.cells #[u] e)) (b + 1) 1 (some ⟨b, 0, none⟩) 1 [u] := by
  subst hb
  exact Sees.one w u e

set_option maxRecDepth 100000 in
set_option maxHeartbeats 1000000 in
theorem freeN_yes {w : World} {F : Nat → Prop} {g : Nat} {s : List (Option Nd)} {fr : List Nat} (h : ArN w F g s fr) (hs : s.length ≤ 1000000) (hf : fr.length ≤ 1000000) {k : Nat} {n0 : Nd} (hk : s[k]? = some (some n0)) :
    Calls Try.prog 74 #[.pointer (some ⟨g, 0, none⟩), .int .i64 k] w fun e w' => ∃ F', e = .returned (.int .i64 0) ∧ ArN w' F' g (s.set k none) (fr ++ [k]) ∧ Grow F w w' F' := by
  obtain ⟨i0, ii0, iz0, iz1, iz2⟩ := info_parts int_info
  have HA := Lib.hid (askedN_yes h hs hk)
  obtain ⟨vp, vf, h⟩ := h
  obtain ⟨hkl, hke⟩ := List.getElem?_eq_some_iff.1 hk
  obtain ⟨b, c, rfl, hc, _, hbl, _, ht⟩ := row_range plC plC_len h.p rfl hkl
  have h01 := h.c0
  have hst := h.storesP rfl (k * (33 + 6)) (plC none)
  rw [set_none hkl] at hst
  have HT := Lib.hid (show w.there b (k * (33 + 6)) (plC none).toArray.size from fun j hj => ht j (by simp [plC_len] at hj; omega))
  obtain ⟨A2, c2, rfl, _⟩ := own_shape h.f
  obtain ⟨w2, hw2⟩ : ∃ v, w.setCells b (k * (33 + 6)) (plC none) = v := ⟨_, rfl⟩
  rw [hw2] at hst
  have h21 := hst.1.c1
  have B3 : Below w2.heap.size w2 (w2.alloc (.cells #[.int .i64 (k : Int)] 3)) := (Below.refl _ _).alloc (Nat.le_refl _) _
  have HS := Lib.hid (hst.1.below B3)
  have h31 := HS.out.c1
  have HG := Lib.hid (hst.2.trans (Grow.of_below B3))
  obtain ⟨ns, hns⟩ : ∃ n, s.length = n := ⟨_, rfl⟩
  obtain ⟨nf, hnf⟩ : ∃ n, fr.length = n := ⟨_, rfl⟩
  have HN := Lib.hid (And.intro hns hnf)
  rw [hns] at h01 hc hkl HS
  rw [hnf] at h21 h31 HS hf
  have hkI : (k : Int) < ns := by omega
  have hsI : (ns : Int) ≤ 1000000 := by omega
  have HW := Lib.hid hw2
  clear ht hst h hns hnf hke hw2 B3
  go_enter Try.func74, Try.ntmps74
  go_wp2_with (first
    | (go_at_call 79; refine HA.out.mono ?_; rintro e w' ⟨rfl, rfl⟩)
    | (refine wpList_store_mid rfl 124 (.tmp 18) (.tmp 17) rfl b (k * (33 + 6)) (plC none).toArray rfl (by with_unfolding_all rfl) HT.out (pl_info none) (all_oneCell_toArray (plC_one none)) ?_; rw [List.toList_toArray, HW.out])
    | (at_builtin
       refine wpList_append_sees _ rfl _ _ _ rfl 0 3 i0 _ 1 8 Try.underlying120 ii0 iz0 iz1 iz2 rfl (by omega) _ nf _ rfl
         HS.out.f _ _ 1 1 _ rfl (Sees.one_at _ w2.heap.size (.int .i64 (k : Int)) _ rfl) (by intro u hu; simp at hu; subst hu; rfl) (by simp only [maxLen]; omega) (by omega) (Nat.zero_le _) ?_
       intro v4 w4 hown4 hg4 hat4 hnil4
       obtain ⟨⟨q1, q2⟩, q3, q4⟩ := HS.out.renewF hg4 hown4 (fun k hk => by rcases hat4 with e | e; exact .inl (e ▸ hk); exact .inr (by rw [e] at hk; cases hk; exact Nat.le_refl _))
       obtain ⟨B4, e4, hv4, _⟩ := own_shape hown4
       subst hv4
       have Q3 := Lib.hid q3
       have Q4 := Lib.hid q4
       clear q3 q4 hown4 hg4 hat4 hnil4))
  go_ret
  exact ⟨_, rfl, ArN.of2 Q3.out (by rw [List.length_set, HN.out.1]) rfl (by simp [HN.out.2]) (by simp [iV]), HG.out.trans Q4.out⟩

end Go.Proofs.Ytmfkdaannjibfaa

namespace Go.Proofs.Ytmfkdaannjibfaa
open Go.RowKit

theorem exec_build2 {P : Program} {o : Oper} {ev : Operand → Value} {w : World} (t : TypeId) (i j : Nat) (x y : Operand) (ho : o.op = .build t #[(i, x), (j, y)]) (u v : Value) (hx : ev x = u) (hy : ev y = v) (cells : Array Value)
    (h : P.built t [(i, u), (j, v)] = some cells) : (execOp ev o).run P w = .ok (.value (.agg cells)) w := by
  subst hx hy
  unfold execOp
  simp only [ho, Sem.run_bind, List.map_toArray, List.map_cons, List.map_nil, run_build w t #[(i, ev x), (j, ev y)] cells h, Result.andThen_ok, Sem.run_pure]

theorem built_place (n : Nd) : Try.prog.built 124 [(0, .agg n.C.toArray), (1, .bool true)] = some (plC (some n)).toArray := by
  obtain ⟨x, hx, h1, l, r, h, sz, mk⟩ := n
  obtain ⟨a0, a1, a2, a3, a4, a5, a6, a7, a8, a9, a10, a11, a12, a13, a14, a15, a16, a17, a18, a19, a20, a21, a22, a23, a24, a25, a26, a27, a28, a29, a30, a31, a32, rfl⟩ := list_K x hx
  kernel_rfl

theorem run_place (n : Nd) (w : World) : (Instr.build 124 #[(0, .agg n.C.toArray), (1, .bool true)]).run Try.prog w = .ok (.agg (plC (some n)).toArray) w := run_build w _ _ _ (built_place n)

theorem run_places (n : Nd) (w : World) : (Instr.buildSlice 119 1 #[(0, .agg (plC (some n)).toArray)]).run Try.prog w = .ok (.slice (some ⟨w.heap.size, 0, none⟩) 1 1) (w.alloc (.cells (plC (some n)).toArray 124)) := by
  obtain ⟨x, hx, h1, l, r, h, sz, mk⟩ := n
  obtain ⟨a0, a1, a2, a3, a4, a5, a6, a7, a8, a9, a10, a11, a12, a13, a14, a15, a16, a17, a18, a19, a20, a21, a22, a23, a24, a25, a26, a27, a28, a29, a30, a31, a32, rfl⟩ := list_K x hx
  kernel_rfl

theorem own_less {w : World} {base : Nat} {e : TypeId} {g n c : Nat} {ys : List Value} (h : w.ownsRow base e 1 (.slice (some ⟨g, 0, none⟩) (n + 1) c) (n + 1) ys) : w.ownsRow base e 1 (.slice (some ⟨g, 0, none⟩) n c) n (ys.take n) := by
  refine ⟨by rw [List.length_take, h.1]; omega, ?_⟩
  rcases h.2 with ⟨h', _⟩ | ⟨g', cap', cur, h', hb, hg, hnc, hcm, hcs, htake⟩
  · cases h'
  · simp only [Value.slice.injEq, Option.some.injEq, Addr.mk.injEq, and_true, true_and] at h'
    obtain ⟨rfl, rfl⟩ := h'
    refine .inr ⟨g, c, cur, rfl, hb, hg, by omega, hcm, hcs, ?_⟩
    rw [← htake, List.take_take, Nat.min_eq_left (by omega), Nat.mul_one]

set_option maxRecDepth 100000 in
set_option maxHeartbeats 2000000 in
theorem takeN_old {w : World} {F : Nat → Prop} {g : Nat} {s : List (Option Nd)} {fr : List Nat} {i : Nat} (h : ArN w F g s (fr ++ [i])) (hs : s.length ≤ 1000000) (hf : fr.length ≤ 1000000) (hi : i < s.length) (n : Nd) :
    Calls Try.prog 61 #[.pointer (some ⟨g, 0, none⟩), n.V] w fun e w' => e = .returned (.int .i64 (i : Int)) ∧ ArN w' F g (s.set i (some n)) fr ∧ Grow F w w' F := by
  unfold Nd.V
  obtain ⟨w1, hw1⟩ : ∃ v, w.alloc (.cells n.C.toArray 103) = v := ⟨_, rfl⟩
  have hb1 : Below w.heap.size w w1 := by rw [← hw1]; exact (Below.refl _ _).alloc (Nat.le_refl _) _
  have hx1 : w1.heap[w.heap.size]? = some (.cells n.C.toArray 103) := by rw [← hw1]; exact heap_alloc_new w _
  obtain ⟨bx, hbx⟩ : ∃ v, w.heap.size = v := ⟨_, rfl⟩
  have hlt := h.lt
  obtain ⟨vp, vf, h⟩ := h
  have h1 := h.below hb1
  have hfr := h1.f
  rw [List.length_append, List.length_singleton] at hfr
  obtain ⟨bf, cf, rfl, hcf, _, hfr2, _⟩ := row_at hfr (k := fr.length) (by omega)
  have hfc : w1.cell? ⟨bf, fr.length, none⟩ = some (.int .i64 (i : Int)) := hfr2 _ _ (by simp [iV])
  have h1' : Ar2 w1 F g vp s.length (s.flatMap plC) (.slice (some ⟨bf, 0, none⟩) (fr.length + 1) cf) (fr.length + 1) ((fr ++ [i]).map iV) := by simpa using h1
  obtain ⟨b, c, rfl, hc, _, hbl, _, ht⟩ := row_range plC plC_len h1.p rfl hi
  have h11 := h1'.c1
  have h01 := h1'.c0
  have hless := own_less hfr
  rw [List.map_append, List.take_left' (by simp)] at hless
  obtain ⟨⟨q1, q2⟩, q3, q4⟩ := h1'.renewF (World.grownBy.refl _ _) hless (fun k hk => .inl (by simpa [Value.ownBlock] using hk))
  have hFbf : F bf := h.2.2.1 1 _ rfl bf rfl
  have eF : (fun k => F k ∨ (Value.slice (some ⟨bf, 0, none⟩) fr.length cf).ownBlock = some k) = F := funext fun k => propext ⟨fun hk => hk.elim id (fun e => by have e : bf = k := Option.some.inj e; exact e ▸ hFbf), .inl⟩
  rw [eF] at q3 q4
  obtain ⟨w2, hw2⟩ : ∃ v, w1.setCell ⟨g, 1, none⟩ (.slice (some ⟨bf, 0, none⟩) fr.length cf) = v := ⟨_, rfl⟩
  rw [hw2] at q3 q4
  obtain ⟨b', c', hv, _, _, _, _, ht2⟩ := row_range plC plC_len q3.p rfl hi
  obtain rfl : b = b' := by injection hv with e1 e2 e3; injection e1 with e1; injection e1
  have h02 := q3.c0
  have hFb : F b := h.2.2.1 0 _ rfl b rfl
  have hx2 : w2.heap[bx]? = some (.cells n.C.toArray 103) := by
    rw [← hbx]
    exact (q4.step.block _ (Array.getElem?_eq_some_iff.1 hx1).1 (fun hF => by have := hlt _ hF; omega)).trans hx1
  have q3d : Ar2 w2.drew F g (.slice (some ⟨b, 0, none⟩) s.length c) s.length (s.flatMap plC) (.slice (some ⟨bf, 0, none⟩) fr.length cf) fr.length (fr.map iV) := StF.drew q3
  have hst := q3d.storesP rfl (i * (33 + 6)) (plC (some n))
  rw [set_some n hi] at hst
  have HT := Lib.hid (show w2.drew.there b (i * (33 + 6)) (plC (some n)).toArray.size from fun j hj => ht2 j (by simp [plC_len] at hj; omega))
  have hgb : g ≠ b := fun e => own_row_blk h.p h.1.blk (by decide) (by rw [e]; rfl)
  have hbb : b ≠ bx := fun e => by have := hlt b hFb; omega
  have HS := Lib.hid (And.intro hst (And.intro hb1 (And.intro q4 hlt)))
  obtain ⟨ns, hns⟩ : ∃ n, s.length = n := ⟨_, rfl⟩
  obtain ⟨nf, hnf⟩ : ∃ n, fr.length = n := ⟨_, rfl⟩
  have HN := Lib.hid (And.intro hns hnf)
  have hS1 : (w2.drew.setCells b (i * (33 + 6)) (plC (some n))).cell? ⟨g, 0, none⟩ = some (.slice (some ⟨b, 0, none⟩) s.length c) := (World.cell?_setCells_out b (plC (some n)) _ w2.drew ⟨g, 0, none⟩ (fun e _ => absurd e hgb)).trans h02
  have hS2 : (w2.drew.setCells b (i * (33 + 6)) (plC (some n))).heap[bx]? = some (.cells n.C.toArray 103) := (hst.2.step.block bx (show bx < w2.heap.size from (Array.getElem?_eq_some_iff.1 hx2).1) (fun hF => by have := hlt bx hF; omega)).trans hx2
  rw [hns] at h01 h02 hc hi hs hS1
  rw [hnf] at h11 hcf hf hfc q1
  have hiI : (i : Int) < ns := by omega
  have hsI : (ns : Int) ≤ 1000000 := by omega
  have hfI : (nf : Int) ≤ 1000000 := by omega
  have g1 : IntKind.i64.wrap ((nf : Int) + 1 - 1) = nf := by rw [show (nf : Int) + 1 - 1 = nf by omega]; exact IntWalk.i64_in _ (by omega)
  have g2 : (nf : Int) ≤ cf := by omega
  rw [hnf] at hw2
  clear ht ht2 hst h h1 h1' hns hnf hlt hfr hfr2 hless q3 q4 q3d eF hv hx1
  go_enter Try.func61, Try.ntmps61
  go_wp2_with fail
  refine wp_region_held_drew (S := fun w' => w'.cell? ⟨g, 0, none⟩ = some (.slice (some ⟨b, 0, none⟩) ns c) ∧ w'.heap[bx]? = some (.cells n.C.toArray 103)) (by kernel_rfl) ⟨h02, hx2⟩ (fun hHeld => ?_)
  try dsimp only at hHeld
  refine take_at (i := 0) (v := ?_) (some 33) rfl rfl (by kernel_rfl) (by kernel_rfl) (by kernel_rfl) (fun _ _ _ h => h) hHeld (by rfl) (fun wS hSw => ?_) ?_
  rotate_left
  · try dsimp only at hSw
    go_simp
    try with_reducible rfl
  try simp only [Act.put, List.setIfInBounds_toArray, List.set_cons_zero, List.set_cons_succ]
  refine take_at (i := 1) (v := ?_) (some 34) rfl rfl (by kernel_rfl) (by kernel_rfl) (by kernel_rfl) (fun _ _ _ h => h) hHeld (by rfl) (fun wS hSw => ?_) ?_
  rotate_left
  · try dsimp only at hSw
    go_simp
    try with_reducible rfl
  try simp only [Act.put, List.setIfInBounds_toArray, List.set_cons_zero, List.set_cons_succ]
  refine take_at (i := 2) (v := ?_) (some 35) rfl rfl (by kernel_rfl) (by kernel_rfl) (by kernel_rfl) (fun _ _ _ h => h) hHeld (by rfl) (fun wS hSw => ?_) ?_
  rotate_left
  · try dsimp only at hSw
    go_simp
    try with_reducible rfl
  try simp only [Act.put, List.setIfInBounds_toArray, List.set_cons_zero, List.set_cons_succ]
  refine take_at (i := 3) (v := ?_) (some 36) rfl rfl (by kernel_rfl) (by kernel_rfl) (by kernel_rfl) (fun _ _ _ h => h) hHeld (by rfl) (fun wS hSw => ?_) ?_
  rotate_left
  · have hS1 := hSw.1
    try dsimp only at hSw
    go_simp
    try with_reducible rfl
  try simp only [Act.put, List.setIfInBounds_toArray, List.set_cons_zero, List.set_cons_succ]
  refine take_at (i := 4) (v := ?_) (some 37) rfl rfl (by kernel_rfl) (by kernel_rfl) (by kernel_rfl) (fun _ _ _ h => h) hHeld (by rfl) (fun wS hSw => ?_) ?_
  rotate_left
  · try dsimp only at hSw
    go_simp
    try with_reducible rfl
  try simp only [Act.put, List.setIfInBounds_toArray, List.set_cons_zero, List.set_cons_succ]
  refine take_at (i := 5) (v := ?_) (some 38) rfl rfl (by kernel_rfl) (by kernel_rfl) (by kernel_rfl) (fun _ _ _ h => h) hHeld (by rfl) (fun wS hSw => ?_) ?_
  rotate_left
  · refine exec_load_row 103 (.tmp 3) ?_ bx ?_ 103 n.C.toArray (0, 0) _ hSw.2 Try.underlying103 rfl (nd_info n) <;> rfl
  try simp only [Act.put, List.setIfInBounds_toArray, List.set_cons_zero, List.set_cons_succ]
  refine take_at (i := 6) (v := ?_) (some 39) rfl rfl (by kernel_rfl) (by kernel_rfl) (by kernel_rfl) (fun _ _ _ h => h) hHeld (by rfl) (fun wS hSw => ?_) ?_
  rotate_left
  · refine exec_build2 124 0 1 (.tmp 38) (.const (.bool true)) ?_ (.agg n.C.toArray) (.bool true) ?_ ?_ (plC (some n)).toArray (built_place n) <;> rfl
  try simp only [Act.put, List.setIfInBounds_toArray, List.set_cons_zero, List.set_cons_succ]
  refine take_at (i := 7) (v := ?_) (some 40) rfl rfl (by kernel_rfl) (by kernel_rfl) (by kernel_rfl) (fun _ _ _ h => h) hHeld (by rfl) (fun wS hSw => ?_) ?_
  rotate_left
  · try dsimp only at hSw
    go_simp
    try with_reducible rfl
  try simp only [Act.put, List.setIfInBounds_toArray, List.set_cons_zero, List.set_cons_succ]
  refine wpAnyH_ready (rs := [8]) (by kernel_rfl) (by simp) ?_
  refine AllReadyH.cons rfl (fun K hK => ?_) AllReadyH.nil
  simp only [List.getElem_toArray, List.getElem_cons_succ, List.getElem_cons_zero]
  refine of_if (by rfl) ?_
  refine wp_store_mid 124 (.tmp 40) (.tmp 39) rfl b (i * (33 + 6)) (plC (some n)).toArray rfl rfl HT.out (pl_info (some n)) (all_oneCell_toArray (plC_one (some n))) ?_
  have hOld := hHeld
  refine hK.out _ _ ⟨hS1, hS2⟩ (fun _ => ?_)
  clear hK K
  refine wpAnyH_mono (S2 := fun w' => w'.cell? ⟨g, 0, none⟩ = some (.slice (some ⟨b, 0, none⟩) ns c) ∧ w'.heap[bx]? = some (.cells n.C.toArray 103)) (fun _ h => h) _ _ _ _ ?_
  clear hHeld
  have hHeld := And.intro hS1 hS2
  clear hOld
  try simp only [Act.put]
  refine wpAnyH_done (by kernel_rfl) ?_ _
  go_wp2_with fail
  go_ret
  have hx := HS.out
  exact ⟨by simp, ArN.of2 hx.1.1 (by rw [List.length_set]) rfl rfl rfl, (Grow.of_below hx.2.1).trans (hx.2.2.1.trans ((⟨(Step.refl F w2).drewN 1, fun _ h => .inl h⟩ : Grow F w2 w2.drew F).trans hx.1.2))⟩

end Go.Proofs.Ytmfkdaannjibfaa

namespace Go.Proofs.Ytmfkdaannjibfaa
open Go.RowKit

theorem place_info4 : (Try.prog.info? 124).map (fun i => (i.zero, i.size, i.bytes)) = some (some (.agg (plC none).toArray), 33 + 6, 184) := by kernel_rfl

theorem Sees.pl_at (w : World) (b : Nat) (o : Option Nd) (e : TypeId) (hb : w.heap.size = b) : Sees (w.alloc (.cells (plC o).toArray e)) (b + 1) (33 + 6) (some ⟨b, 0, none⟩) 1 (plC o) := by
  subst hb
  refine ⟨by rw [plC_len, Nat.one_mul], fun _ => ⟨w.heap.size, 0, rfl, by omega, fun j z hz => ?_⟩⟩
  have hc := cell_of_row (w.alloc (.cells (plC o).toArray e)) w.heap.size j (plC o).toArray e (0, 0) (heap_alloc_new w _)
  rw [Nat.zero_add, hc]
  simpa using hz

theorem oper_known {P : Program} {o : Oper} {a : Act} {w w' : World} {K : Act → World → Prop} {Q : Exit → Act → World → Prop} {v : Value} (hrun : (execOp a.eval o).run P w = .ok (.value v) w') (h : K (a.put o.dst v) w') : Oper.wp P o a w K Q := by
  unfold Oper.wp
  rw [hrun]
  exact h
theorem exec_slice_pl {P : Program} {o : Oper} {ev : Operand → Value} {w w' : World} {v : Value} (t : TypeId) (x : Operand) (ho : o.op = .buildSlice t 1 #[(0, x)]) (u : Value) (hx : ev x = u)
    (h : (Instr.buildSlice t 1 #[(0, u)]).run P w = .ok v w') : (execOp ev o).run P w = .ok (.value v) w' := by
  subst hx
  unfold execOp
  simp only [ho, Sem.run_bind, List.map_toArray, List.map_cons, List.map_nil, h, Result.andThen_ok, Sem.run_pure]

set_option maxRecDepth 100000 in
set_option maxHeartbeats 4000000 in
theorem takeN_new {w : World} {F : Nat → Prop} {g : Nat} {s : List (Option Nd)} (h : ArN w F g s []) (hs : s.length ≤ 100000) (n : Nd) :
    Calls Try.prog 61 #[.pointer (some ⟨g, 0, none⟩), n.V] w fun e w' => ∃ F', e = .returned (.int .i64 (s.length : Int)) ∧ ArN w' F' g (s ++ [some n]) [] ∧ Grow F w w' F' := by
  obtain ⟨i0, ii0, iz0, iz1, iz2⟩ := info_parts place_info4
  unfold Nd.V
  obtain ⟨w1, hw1⟩ : ∃ v, w.alloc (.cells n.C.toArray 103) = v := ⟨_, rfl⟩
  have hb1 : Below w.heap.size w w1 := by rw [← hw1]; exact (Below.refl _ _).alloc (Nat.le_refl _) _
  obtain ⟨bx, hbx⟩ : ∃ v, w.heap.size = v := ⟨_, rfl⟩
  have hx1 : w1.heap[bx]? = some (.cells n.C.toArray 103) := by rw [← hw1, ← hbx]; exact heap_alloc_new w _
  have hlt := h.lt
  obtain ⟨vp, vf, h⟩ := h
  have h1' := h.below hb1
  have h01 := h1'.c0
  have h11 := h1'.c1
  obtain ⟨A0, c0, rfl, _⟩ := own_shape h1'.p
  obtain ⟨A1, c1, hvf, _⟩ := own_shape h1'.f
  have hvf0 : vf = .slice A1 0 c1 := hvf
  subst hvf0
  clear hvf
  have B2 : Below w1.heap.size w1 (w1.drew.alloc (.cells (plC (some n)).toArray 124)) := (Below.refl _ _).drew.alloc (Nat.le_refl _) _
  have HS := Lib.hid (h1'.below B2)
  have HB := Lib.hid (hb1.trans (B2.mono hb1.size))
  have HE := Lib.hid (Sees.pl_at w1.drew w1.heap.size (some n) 124 rfl)
  have HO := Lib.hid (plC_one (some n))
  obtain ⟨ns, hns⟩ : ∃ n, s.length = n := ⟨_, rfl⟩
  have HN := Lib.hid hns
  rw [hns] at h01 hs HS ⊢
  have hsI : (ns : Int) ≤ 100000 := by omega
  have hby : (ns + 1) * i0.bytes ≤ 140737488355328 := by
    have := Nat.mul_le_mul (show ns + 1 ≤ 100001 by omega) (Nat.le_of_eq iz2)
    omega
  have h01a : ∀ o, (w1.alloc o).cell? ⟨g, 0, none⟩ = some (.slice A0 ns c0) := fun o => (((Below.refl w1.heap.size w1).alloc (Nat.le_refl _) o).cell (p := ⟨g, 0, none⟩) (World.block_lt_of_cell? w1 _ h01)).trans h01
  have hx1d : w1.drew.heap[bx]? = some (.cells n.C.toArray 103) := hx1
  clear h h1' hlt hx1 hns hb1 B2
  go_enter Try.func61, Try.ntmps61
  go_wp2_with fail
  refine wp_region_held_drew (S := fun _ => True) (by kernel_rfl) trivial (fun hHeld => ?_)
  refine take_at (i := 0) (v := ?_) (some 42) rfl rfl (by kernel_rfl) (by kernel_rfl) (by kernel_rfl) (fun _ _ _ h => h) trivial (by rfl) (fun wS hSw => ?_) ?_
  rotate_left
  · try dsimp only at hSw
    go_simp
    try with_reducible rfl
  try simp only [Act.put, List.setIfInBounds_toArray, List.set_cons_zero, List.set_cons_succ]
  refine take_at (i := 1) (v := ?_) (some 43) rfl rfl (by kernel_rfl) (by kernel_rfl) (by kernel_rfl) (fun _ _ _ h => h) trivial (by rfl) (fun wS hSw => ?_) ?_
  rotate_left
  · try dsimp only at hSw
    go_simp
    try with_reducible rfl
  try simp only [Act.put, List.setIfInBounds_toArray, List.set_cons_zero, List.set_cons_succ]
  refine take_at (i := 2) (v := ?_) (some 44) rfl rfl (by kernel_rfl) (by kernel_rfl) (by kernel_rfl) (fun _ _ _ h => h) trivial (by rfl) (fun wS hSw => ?_) ?_
  rotate_left
  · try dsimp only at hSw
    go_simp
    try with_reducible rfl
  try simp only [Act.put, List.setIfInBounds_toArray, List.set_cons_zero, List.set_cons_succ]
  refine take_at (i := 3) (v := ?_) (some 45) rfl rfl (by kernel_rfl) (by kernel_rfl) (by kernel_rfl) (fun _ _ _ h => h) trivial (by rfl) (fun wS hSw => ?_) ?_
  rotate_left
  · try dsimp only at hSw
    go_simp
    try with_reducible rfl
  try simp only [Act.put, List.setIfInBounds_toArray, List.set_cons_zero, List.set_cons_succ]
  refine wpAnyH_ready (rs := [4, 5]) (by kernel_rfl) (by simp) ?_
  refine AllReadyH.cons rfl (fun K hK => ?_) (AllReadyH.cons rfl (fun K hK => ?_) AllReadyH.nil)
  · simp only [List.getElem_toArray, List.getElem_cons_succ, List.getElem_cons_zero]
    go_simp
    refine hK.out _ _ trivial (fun _ => ?_)
    clear hK K
    try simp only [Act.put, List.setIfInBounds_toArray, List.set_cons_zero, List.set_cons_succ]
    refine wpAnyH_ready (rs := [5]) (by kernel_rfl) (by simp) ?_
    refine AllReadyH.cons rfl (fun K hK => ?_) AllReadyH.nil
    simp only [List.getElem_toArray, List.getElem_cons_succ, List.getElem_cons_zero]
    refine of_if (by rfl) ?_
    refine oper_known (exec_load_row 103 (.tmp 3) rfl bx rfl 103 n.C.toArray (0, 0) _ hx1d Try.underlying103 rfl (nd_info n)) ?_
    refine hK.out _ _ trivial (fun _ => ?_)
    clear hK K
    try simp only [Act.put, List.setIfInBounds_toArray, List.set_cons_zero, List.set_cons_succ]
    refine take_at (i := 6) (v := ?_) (some 48) rfl rfl (by kernel_rfl) (by kernel_rfl) (by kernel_rfl) (fun _ _ _ h => h) trivial (by rfl) (fun wS hSw => ?_) ?_
    rotate_left
    · refine exec_build2 124 0 1 (.tmp 47) (.const (.bool true)) ?_ (.agg n.C.toArray) (.bool true) ?_ ?_ (plC (some n)).toArray (built_place n) <;> rfl
    try simp only [Act.put, List.setIfInBounds_toArray, List.set_cons_zero, List.set_cons_succ]
    refine wpAnyH_ready (rs := [7]) (by kernel_rfl) (by simp) ?_
    refine AllReadyH.cons rfl (fun K hK => ?_) AllReadyH.nil
    simp only [List.getElem_toArray, List.getElem_cons_succ, List.getElem_cons_zero]
    refine of_if (by rfl) ?_
    refine oper_known (exec_slice_pl 119 (.tmp 48) rfl (.agg (plC (some n)).toArray) rfl (run_places n w1.drew)) ?_
    refine hK.out _ _ trivial (fun _ => ?_)
    clear hK K
    try simp only [Act.put, List.setIfInBounds_toArray, List.set_cons_zero, List.set_cons_succ]
    refine wpAnyH_ready (rs := [8]) (by kernel_rfl) (by simp) ?_
    refine AllReadyH.cons rfl (fun K hK => ?_) AllReadyH.nil
    simp only [List.getElem_toArray, List.getElem_cons_succ, List.getElem_cons_zero]
    refine of_if (by rfl) ?_
    refine step_append_sees (.tmp 46) (.tmp 49) 119 rfl 0 124 i0 _ (33 + 6) i0.bytes Try.underlying119 ii0 iz0 iz1 rfl (by simp [Value.cells, plC_len]) (by omega) _ ns _ rfl HS.out.p _ _ 1 1 (plC (some n)) rfl HE.out HO.out (by simp only [maxLen]; omega) hby (Nat.zero_le _) ?_
    intro v4 w4 hown4 hg4 hat4
    obtain ⟨⟨q1, q2⟩, q3, q4⟩ := HS.out.renewP hg4 hown4 (fun k hk => by rcases hat4 with e | e; exact .inl (e ▸ hk); exact .inr (by rw [e] at hk; cases hk; exact Nat.le_refl _))
    obtain ⟨B4, e4, hv4, _⟩ := own_shape hown4
    subst hv4
    have Q3 := Lib.hid q3
    have Q4 := Lib.hid q4
    have m0 := q3.c0
    clear q3 q4 hown4 hg4 hat4
    refine hK.out _ _ trivial (fun _ => ?_)
    clear hK K
    try simp only [Act.put, List.setIfInBounds_toArray, List.set_cons_zero, List.set_cons_succ]
    refine take_at (i := 9) (v := ?_) (some 51) rfl rfl (by kernel_rfl) (by kernel_rfl) (by kernel_rfl) (fun _ _ _ h => h) trivial (by rfl) (fun wS hSw => ?_) ?_
    rotate_left
    · try dsimp only at hSw
      go_simp
      try with_reducible rfl
    try simp only [Act.put, List.setIfInBounds_toArray, List.set_cons_zero, List.set_cons_succ]
    refine take_at (i := 10) (v := ?_) (some 52) rfl rfl (by kernel_rfl) (by kernel_rfl) (by kernel_rfl) (fun _ _ _ h => h) trivial (by rfl) (fun wS hSw => ?_) ?_
    rotate_left
    · try dsimp only at hSw
      go_simp
      try with_reducible rfl
    try simp only [Act.put, List.setIfInBounds_toArray, List.set_cons_zero, List.set_cons_succ]
    refine wpAnyH_ready (rs := [11]) (by kernel_rfl) (by simp) ?_
    refine AllReadyH.cons rfl (fun K hK => ?_) AllReadyH.nil
    simp only [List.getElem_toArray, List.getElem_cons_succ, List.getElem_cons_zero]
    go_simp
    refine hK.out _ _ trivial (fun _ => ?_)
    clear hK K
    try simp only [Act.put, List.setIfInBounds_toArray, List.set_cons_zero, List.set_cons_succ]
    refine wpAnyH_done (by kernel_rfl) ?_ _
    go_wp2_with fail
    go_ret
    refine ⟨_, by simp, ArN.of2 Q3.out (by simp [HN.out]) (by rw [List.flatMap_append, List.flatMap_cons, List.flatMap_nil, List.append_nil]) rfl rfl, (Grow.of_below HB.out).trans Q4.out⟩
  · simp only [List.getElem_toArray, List.getElem_cons_succ, List.getElem_cons_zero]
    refine of_if (by rfl) ?_
    refine oper_known (exec_load_row 103 (.tmp 3) rfl bx rfl 103 n.C.toArray (0, 0) _ hx1d Try.underlying103 rfl (nd_info n)) ?_
    refine hK.out _ _ trivial (fun _ => ?_)
    clear hK K
    try simp only [Act.put, List.setIfInBounds_toArray, List.set_cons_zero, List.set_cons_succ]
    refine take_at (i := 6) (v := ?_) (some 48) rfl rfl (by kernel_rfl) (by kernel_rfl) (by kernel_rfl) (fun _ _ _ h => h) trivial (by rfl) (fun wS hSw => ?_) ?_
    rotate_left
    · refine exec_build2 124 0 1 (.tmp 47) (.const (.bool true)) ?_ (.agg n.C.toArray) (.bool true) ?_ ?_ (plC (some n)).toArray (built_place n) <;> rfl
    try simp only [Act.put, List.setIfInBounds_toArray, List.set_cons_zero, List.set_cons_succ]
    refine wpAnyH_ready (rs := [4, 7]) (by kernel_rfl) (by simp) ?_
    refine AllReadyH.cons rfl (fun K hK => ?_) (AllReadyH.cons rfl (fun K hK => ?_) AllReadyH.nil)
    · simp only [List.getElem_toArray, List.getElem_cons_succ, List.getElem_cons_zero]
      go_simp
      refine hK.out _ _ trivial (fun _ => ?_)
      clear hK K
      try simp only [Act.put, List.setIfInBounds_toArray, List.set_cons_zero, List.set_cons_succ]
      refine wpAnyH_ready (rs := [7]) (by kernel_rfl) (by simp) ?_
      refine AllReadyH.cons rfl (fun K hK => ?_) AllReadyH.nil
      simp only [List.getElem_toArray, List.getElem_cons_succ, List.getElem_cons_zero]
      refine of_if (by rfl) ?_
      refine oper_known (exec_slice_pl 119 (.tmp 48) rfl (.agg (plC (some n)).toArray) rfl (run_places n w1.drew)) ?_
      refine hK.out _ _ trivial (fun _ => ?_)
      clear hK K
      try simp only [Act.put, List.setIfInBounds_toArray, List.set_cons_zero, List.set_cons_succ]
      refine wpAnyH_ready (rs := [8]) (by kernel_rfl) (by simp) ?_
      refine AllReadyH.cons rfl (fun K hK => ?_) AllReadyH.nil
      simp only [List.getElem_toArray, List.getElem_cons_succ, List.getElem_cons_zero]
      refine of_if (by rfl) ?_
      refine step_append_sees (.tmp 46) (.tmp 49) 119 rfl 0 124 i0 _ (33 + 6) i0.bytes Try.underlying119 ii0 iz0 iz1 rfl (by simp [Value.cells, plC_len]) (by omega) _ ns _ rfl HS.out.p _ _ 1 1 (plC (some n)) rfl HE.out HO.out (by simp only [maxLen]; omega) hby (Nat.zero_le _) ?_
      intro v4 w4 hown4 hg4 hat4
      obtain ⟨⟨q1, q2⟩, q3, q4⟩ := HS.out.renewP hg4 hown4 (fun k hk => by rcases hat4 with e | e; exact .inl (e ▸ hk); exact .inr (by rw [e] at hk; cases hk; exact Nat.le_refl _))
      obtain ⟨B4, e4, hv4, _⟩ := own_shape hown4
      subst hv4
      have Q3 := Lib.hid q3
      have Q4 := Lib.hid q4
      have m0 := q3.c0
      clear q3 q4 hown4 hg4 hat4
      refine hK.out _ _ trivial (fun _ => ?_)
      clear hK K
      try simp only [Act.put, List.setIfInBounds_toArray, List.set_cons_zero, List.set_cons_succ]
      refine take_at (i := 9) (v := ?_) (some 51) rfl rfl (by kernel_rfl) (by kernel_rfl) (by kernel_rfl) (fun _ _ _ h => h) trivial (by rfl) (fun wS hSw => ?_) ?_
      rotate_left
      · try dsimp only at hSw
        go_simp
        try with_reducible rfl
      try simp only [Act.put, List.setIfInBounds_toArray, List.set_cons_zero, List.set_cons_succ]
      refine take_at (i := 10) (v := ?_) (some 52) rfl rfl (by kernel_rfl) (by kernel_rfl) (by kernel_rfl) (fun _ _ _ h => h) trivial (by rfl) (fun wS hSw => ?_) ?_
      rotate_left
      · try dsimp only at hSw
        go_simp
        try with_reducible rfl
      try simp only [Act.put, List.setIfInBounds_toArray, List.set_cons_zero, List.set_cons_succ]
      refine wpAnyH_ready (rs := [11]) (by kernel_rfl) (by simp) ?_
      refine AllReadyH.cons rfl (fun K hK => ?_) AllReadyH.nil
      simp only [List.getElem_toArray, List.getElem_cons_succ, List.getElem_cons_zero]
      go_simp
      refine hK.out _ _ trivial (fun _ => ?_)
      clear hK K
      try simp only [Act.put, List.setIfInBounds_toArray, List.set_cons_zero, List.set_cons_succ]
      refine wpAnyH_done (by kernel_rfl) ?_ _
      go_wp2_with fail
      go_ret
      refine ⟨_, by simp, ArN.of2 Q3.out (by simp [HN.out]) (by rw [List.flatMap_append, List.flatMap_cons, List.flatMap_nil, List.append_nil]) rfl rfl, (Grow.of_below HB.out).trans Q4.out⟩
    · simp only [List.getElem_toArray, List.getElem_cons_succ, List.getElem_cons_zero]
      refine of_if (by rfl) ?_
      refine oper_known (exec_slice_pl 119 (.tmp 48) rfl (.agg (plC (some n)).toArray) rfl (run_places n w1.drew)) ?_
      refine hK.out _ _ trivial (fun _ => ?_)
      clear hK K
      try simp only [Act.put, List.setIfInBounds_toArray, List.set_cons_zero, List.set_cons_succ]
      refine wpAnyH_ready (rs := [4]) (by kernel_rfl) (by simp) ?_
      refine AllReadyH.cons rfl (fun K hK => ?_) AllReadyH.nil
      simp only [List.getElem_toArray, List.getElem_cons_succ, List.getElem_cons_zero]
      go_simp
      refine hK.out _ _ trivial (fun _ => ?_)
      clear hK K
      try simp only [Act.put, List.setIfInBounds_toArray, List.set_cons_zero, List.set_cons_succ]
      refine wpAnyH_ready (rs := [8]) (by kernel_rfl) (by simp) ?_
      refine AllReadyH.cons rfl (fun K hK => ?_) AllReadyH.nil
      simp only [List.getElem_toArray, List.getElem_cons_succ, List.getElem_cons_zero]
      refine of_if (by rfl) ?_
      refine step_append_sees (.tmp 46) (.tmp 49) 119 rfl 0 124 i0 _ (33 + 6) i0.bytes Try.underlying119 ii0 iz0 iz1 rfl (by simp [Value.cells, plC_len]) (by omega) _ ns _ rfl HS.out.p _ _ 1 1 (plC (some n)) rfl HE.out HO.out (by simp only [maxLen]; omega) hby (Nat.zero_le _) ?_
      intro v4 w4 hown4 hg4 hat4
      obtain ⟨⟨q1, q2⟩, q3, q4⟩ := HS.out.renewP hg4 hown4 (fun k hk => by rcases hat4 with e | e; exact .inl (e ▸ hk); exact .inr (by rw [e] at hk; cases hk; exact Nat.le_refl _))
      obtain ⟨B4, e4, hv4, _⟩ := own_shape hown4
      subst hv4
      have Q3 := Lib.hid q3
      have Q4 := Lib.hid q4
      have m0 := q3.c0
      clear q3 q4 hown4 hg4 hat4
      refine hK.out _ _ trivial (fun _ => ?_)
      clear hK K
      try simp only [Act.put, List.setIfInBounds_toArray, List.set_cons_zero, List.set_cons_succ]
      refine take_at (i := 9) (v := ?_) (some 51) rfl rfl (by kernel_rfl) (by kernel_rfl) (by kernel_rfl) (fun _ _ _ h => h) trivial (by rfl) (fun wS hSw => ?_) ?_
      rotate_left
      · try dsimp only at hSw
        go_simp
        try with_reducible rfl
      try simp only [Act.put, List.setIfInBounds_toArray, List.set_cons_zero, List.set_cons_succ]
      refine take_at (i := 10) (v := ?_) (some 52) rfl rfl (by kernel_rfl) (by kernel_rfl) (by kernel_rfl) (fun _ _ _ h => h) trivial (by rfl) (fun wS hSw => ?_) ?_
      rotate_left
      · try dsimp only at hSw
        go_simp
        try with_reducible rfl
      try simp only [Act.put, List.setIfInBounds_toArray, List.set_cons_zero, List.set_cons_succ]
      refine wpAnyH_ready (rs := [11]) (by kernel_rfl) (by simp) ?_
      refine AllReadyH.cons rfl (fun K hK => ?_) AllReadyH.nil
      simp only [List.getElem_toArray, List.getElem_cons_succ, List.getElem_cons_zero]
      go_simp
      refine hK.out _ _ trivial (fun _ => ?_)
      clear hK K
      try simp only [Act.put, List.setIfInBounds_toArray, List.set_cons_zero, List.set_cons_succ]
      refine wpAnyH_done (by kernel_rfl) ?_ _
      go_wp2_with fail
      go_ret
      refine ⟨_, by simp, ArN.of2 Q3.out (by simp [HN.out]) (by rw [List.flatMap_append, List.flatMap_cons, List.flatMap_nil, List.append_nil]) rfl rfl, (Grow.of_below HB.out).trans Q4.out⟩

theorem takeN_F {w : World} {F : Nat → Prop} {g : Nat} {s : List (Option Nd)} {fr : List Nat} (h : ArN w F g s fr) (hok : ArOk s fr) (hs : s.length ≤ 100000) (n : Nd) :
    Calls Try.prog 61 #[.pointer (some ⟨g, 0, none⟩), n.V] w fun e w' => ∃ F', e = .returned (.int .i64 (nextOf s fr : Int)) ∧ ArN w' F' g (takeS s fr n) fr.dropLast ∧ Grow F w w' F' := by
  have hlen := hok.len
  rcases List.eq_nil_or_concat fr with rfl | ⟨fr, i, rfl⟩
  · refine (takeN_new h hs n).mono ?_
    rintro e w' ⟨F', rfl, ha, hg⟩
    exact ⟨F', by simp [nextOf], by simpa [takeS] using ha, hg⟩
  · rw [List.concat_eq_append] at h hok hlen ⊢
    have hi : s[i]? = some none := (hok.iff i).1 (by simp)
    have hil := (List.getElem?_eq_some_iff.1 hi).1
    refine (takeN_old h (by omega) (by simp at hlen; omega) hil n).mono ?_
    rintro e w' ⟨rfl, ha, hg⟩
    refine ⟨F, by simp [nextOf], ?_, hg⟩
    rw [show (fr ++ [i]).dropLast = fr by simp, show takeS s (fr ++ [i]) n = s.set i (some n) by simp [takeS, nextOf]]
    exact ha

set_option maxHeartbeats 400000 in
theorem newN_any (w : World) :
    Calls Try.prog 72 #[] w fun e w' => e = .returned (.pointer (some ⟨w.heap.size, 0, none⟩)) ∧ w' = w.alloc (.cells #[.slice none 0 0, .slice none 0 0] 122) := by
  go_enter Try.func72, Try.ntmps72
  go_wp2
  go_ret
  exact ⟨rfl, rfl⟩

theorem ar_zero {w : World} {g : Nat} (h : w.heap[g]? = some (.cells #[.slice none 0 0, .slice none 0 0] 122)) : ArN w (fun k => k = g) g [] [] := by
  refine ⟨.slice none 0 0, .slice none 0 0, ⟨h, fun j r hj => ?_, fun i j r r' hne hi hj => ?_, fun j r hj => ?_⟩, rfl, fun j r hj k hk => ?_, fun k hk => ?_⟩
  · match j, hj with
    | 0, hj => cases hj; exact World.ownsRow_nil _ _ _ _
    | 1, hj => cases hj; exact World.ownsRow_nil _ _ _ _
    | j + 2, hj => simp at hj
  · match i, j, hi, hj with
    | 0, 0, _, _ => exact absurd rfl hne
    | 1, 1, _, _ => exact absurd rfl hne
    | 0, 1, hi, hj => cases hi; cases hj; decide
    | 1, 0, hi, hj => cases hi; cases hj; decide
    | i + 2, _, hi, _ => simp at hi
    | _, j + 2, _, hj => simp at hj
  · match j, hj with
    | 0, hj => cases hj; decide
    | 1, hj => cases hj; decide
    | j + 2, hj => simp at hj
  · match j, hj with
    | 0, hj => cases hj; cases hk
    | 1, hj => cases hj; cases hk
    | j + 2, hj => simp at hj
  · have hk : k = g := hk
    subst hk
    exact (Array.getElem?_eq_some_iff.1 h).1

end Go.Proofs.Ytmfkdaannjibfaa

namespace Go.Proofs.Ytmfkdaannjibfaa
open Go.RowKit

/-- The tree's own block. -/
def treeC (gA : Nat) (root : Int) : Array Value := #[.func (.func 46) #[] #[], .func (.func 49) #[] #[], .func (.func 51) #[] #[], .pointer (some ⟨gA, 0, none⟩), .int .i64 root]

structure TreeW (w : World) (F : Nat → Prop) (gT gA : Nat) (root : Int) (s : List (Option Nd)) (fr : List Nat) : Prop where
  blk : w.heap[gT]? = some (.cells (treeC gA root) 93)
  ar : ArN w F gA s fr
  ok : ArOk s fr
  oF : ¬ F gT
  len : s.length ≤ 90000

section
variable {w w' : World} {F F' : Nat → Prop} {gT gA : Nat} {root : Int} {s s' : List (Option Nd)} {fr fr' : List Nat}
theorem TreeW.lt (h : TreeW w F gT gA root s fr) : gT < w.heap.size := (Array.getElem?_eq_some_iff.1 h.blk).1
theorem TreeW.step {G : Nat → Prop} (h : TreeW w F gT gA root s fr) (hs : Step G w w') (hG : ∀ k, F k → ¬ G k) (hT : ¬ G gT) : TreeW w' F gT gA root s fr :=
  ⟨(hs.block gT h.lt hT).trans h.blk, h.ar.step hs hG, h.ok, h.oF, h.len⟩
theorem TreeW.below (h : TreeW w F gT gA root s fr) (hb : Below w.heap.size w w') : TreeW w' F gT gA root s fr := h.step (Step.of_below hb fun _ => False) (fun _ _ h => h) (fun h => h)
theorem TreeW.drewN (h : TreeW w F gT gA root s fr) (n : Nat) : TreeW (w.drewN n) F gT gA root s fr := h.below (below_drewN (Below.refl _ _) n)
theorem TreeW.arena (h : TreeW w F gT gA root s fr) (ha : ArN w' F' gA s' fr') (hok : ArOk s' fr') (hg : Grow F w w' F') (hl : s'.length ≤ 90000) : TreeW w' F' gT gA root s' fr' :=
  ⟨(hg.step.block gT h.lt h.oF).trans h.blk, ha, hok, fun hF => by rcases hg.new gT hF with e | e; exact h.oF e; have := h.lt; omega, hl⟩
theorem TreeW.cM (h : TreeW w F gT gA root s fr) : w.cell? ⟨gT, 0, none⟩ = some (.func (.func 46) #[] #[]) := by rw [cell_of_row w gT 0 _ _ _ h.blk]; rfl
theorem TreeW.cC (h : TreeW w F gT gA root s fr) : w.cell? ⟨gT, 1, none⟩ = some (.func (.func 49) #[] #[]) := by rw [cell_of_row w gT 1 _ _ _ h.blk]; rfl
theorem TreeW.cD (h : TreeW w F gT gA root s fr) : w.cell? ⟨gT, 2, none⟩ = some (.func (.func 51) #[] #[]) := by rw [cell_of_row w gT 2 _ _ _ h.blk]; rfl
theorem TreeW.cN (h : TreeW w F gT gA root s fr) : w.cell? ⟨gT, 3, none⟩ = some (.pointer (some ⟨gA, 0, none⟩)) := by rw [cell_of_row w gT 3 _ _ _ h.blk]; rfl
theorem TreeW.cR (h : TreeW w F gT gA root s fr) : w.cell? ⟨gT, 4, none⟩ = some (.int .i64 root) := by rw [cell_of_row w gT 4 _ _ _ h.blk]; rfl
end

theorem cell_later {w w' : World} {p : Addr} {v : Value} (h : w.cell? p = some v) (hb : Below w.heap.size w w') : w'.cell? p = some v := (hb.cell (p := p) (World.block_lt_of_cell? w _ h)).trans h

set_option maxHeartbeats 1000000 in
theorem at_any {w : World} {F : Nat → Prop} {gT gA : Nat} {root : Int} {s : List (Option Nd)} {fr : List Nat} (h : TreeW w F gT gA root s fr) {k : Nat} {n : Nd} (hk : gt s k = some n) :
    Calls Try.prog 67 #[.pointer (some ⟨gT, 0, none⟩), .int .i64 k] w fun e w' => e = .returned n.V ∧ Below w.heap.size w w' := by
  have hl := h.len
  have hN := h.cN
  have hNa : ∀ o, (w.alloc o).cell? ⟨gT, 3, none⟩ = some (.pointer (some ⟨gA, 0, none⟩)) := fun o => cell_later hN ((Below.refl _ _).alloc (Nat.le_refl _) o)
  have HA := Lib.hid (fun o => atN_yes (h.ar.below ((Below.refl w.heap.size w).alloc (Nat.le_refl _) o)) (by omega) (gt_some.1 hk))
  unfold Nd.V at HA ⊢
  clear h
  go_enter Try.func67, Try.ntmps67
  go_wp2_with fail
  refine (HA.out _).mono ?_
  rintro e w1 ⟨rfl, hb1⟩
  obtain ⟨b0, hb0⟩ : ∃ b, w.heap.size = b := ⟨_, rfl⟩
  have H0 := Lib.hid (heap_later (heap_alloc_new w _) hb1)
  have hb : Below w.heap.size w w1 := ((Below.refl _ _).alloc (Nat.le_refl _) _).trans (hb1.mono (by simp))
  have HB := Lib.hid hb
  rw [hb0] at H0 HB ⊢
  have hl0 : b0 < w1.heap.size := (Array.getElem?_eq_some_iff.1 H0.out).1
  have HB0 := Lib.hid hb0
  clear hb1 hb hb0
  obtain ⟨b1, hb1⟩ : ∃ b, w1.heap.size = b := ⟨_, rfl⟩
  obtain ⟨w2, hw2⟩ : ∃ v, w1.alloc (.cells n.C.toArray 103) = v := ⟨_, rfl⟩
  have H2 := Lib.hid (show w2.heap[w1.heap.size]? = some (.cells n.C.toArray 103) by rw [← hw2]; exact heap_alloc_new w1 _)
  have H02 := Lib.hid (show w2.heap[b0]? = _ from heap_later H0.out (by rw [← hw2]; exact (Below.refl _ _).alloc (Nat.le_refl _) _))
  have HB2 := Lib.hid (show Below b0 w w2 by rw [← hw2]; exact HB.out.alloc (by omega) _)
  have HW2 := Lib.hid hw2
  have HZ2 := Lib.hid (show b0 ≤ w2.heap.size by rw [← hw2, World.size_alloc]; omega)
  clear hw2 hb1
  go_wp2_with (first
    | (refine wpList_store_row rfl 103 (.tmp 5) (.tmp 14) rfl w1.heap.size n.C.toArray rfl rfl 103 _ (heap_alloc_new w1 _) (nd_info n) (by simp [Nd.C_len]) (all_oneCell_toArray n.C_one) ?_; rw [alloc_setRow, HW2.out])
    | (refine wpList_load_row rfl 103 (.tmp 5) rfl w1.heap.size rfl 103 n.C.toArray (0, 0) _ H2.out Try.underlying103 rfl (nd_info n) ?_)
    | (refine wpList_store_row rfl 103 (.tmp 4) (.tmp 16) rfl b0 n.C.toArray rfl rfl 103 _ H02.out (nd_info n) (by simp [Nd.C_len]) (all_oneCell_toArray n.C_one) ?_))
  exact bodyPost_ret (v := .agg n.C.toArray) (results_c rfl _ _ b0 _ n.C.toArray (0, 0) _ rfl (setRow_heap _ _ _ _ _ _ H02.out) Try.underlying103 rfl (nd_info n)) rfl
    ⟨rfl, by rw [HB0.out]; exact below_setRow HB2.out HZ2.out (Nat.le_refl _) _⟩

/-- A subtree's totals. -/
def hS (s : List (Option Nd)) (r : Int) : Int := match look s r with | some n => n.h | none => 0
def zS (s : List (Option Nd)) (r : Int) : Int := match look s r with | some n => n.sz | none => 0
def mS (s : List (Option Nd)) (r : Int) : Int := match look s r with | some n => n.mk_ | none => 0
/-- A subtree's number: none, or a node's. -/
def okR (s : List (Option Nd)) (r : Int) : Prop := r = -1 ∨ ∃ (k : Nat) (n : Nd), r = k ∧ gt s k = some n

end Go.Proofs.Ytmfkdaannjibfaa
