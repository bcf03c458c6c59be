/-
  Sets of attributes as the things of a tree: a slice's value; the tree's functions (para.tree$1, para.tree$3).
-/
import Derived.Test.YtpaelbhljgdenaaRowM
import Derived.Test.YtpaelbhljgdenaaRows
namespace Go.Proofs.Ytpaelbhljgdenaa
open Go.RowKit

/-- A set, as the slice that holds it. -/
structure Th where
  A : Option Addr
  n : Nat
  c : Nat
deriving DecidableEq

/-- Its value. -/
def thV (t : Th) : Value := .slice t.A t.n t.c
def encT (t : Th) : List Value := [.slice t.A t.n t.c]
theorem encT_len (t : Th) : (encT t).length = 1 := rfl
theorem encT_one (t : Th) : ∀ v ∈ encT t, v.oneCell' = true := by intro v hv; simp [encT] at hv; subst hv; rfl
def sizeT (_ : Th) : Int := 1
def marksT (_ : Th) : Int := 0
def okT (_ : Th) : Prop := True
theorem sizeT_ok {t : Th} (_ : okT t) : 0 ≤ sizeT t := by unfold sizeT; decide
theorem marksT_ok {t : Th} (_ : okT t) : 0 ≤ marksT t ∧ marksT t ≤ sizeT t := by unfold sizeT marksT; decide

set_option maxHeartbeats 400000 in
theorem measure_any (t : Th) (w : World) : Calls Try.prog 37 #[thV t] w fun e w' => e = .returned (.tuple #[.int .i64 (sizeT t), .int .i64 (marksT t)]) ∧ Below w.heap.size w w' := by
  unfold thV sizeT marksT
  go_enter Try.func37, Try.ntmps37
  go_wp2
  exact bodyPost_ret (results_tmp2 rfl _ _ _) rfl ⟨rfl, Below.refl _ _⟩

def cutA (t : Th) (_ : Int) : Th := t
def cutB (_ : Th) (_ : Int) : Th := ⟨none, 0, 0⟩
def meldT (_ _ : Th) : Th := ⟨none, 0, 0⟩
def meldB (_ _ : Th) : Bool := false

theorem meld_ok {x y : Th} (_ : okT x) (_ : okT y) (_ : sizeT x + sizeT y ≤ 1000000000) (h : meldB x y = true) : okT (meldT x y) ∧ sizeT (meldT x y) = sizeT x + sizeT y := by cases h
theorem cut_ok {t : Th} {a : Int} (_ : okT t) (h0 : 0 < a) (h1 : a < sizeT t) : okT (cutA t a) ∧ okT (cutB t a) ∧ sizeT (cutA t a) + sizeT (cutB t a) = sizeT t := by
  unfold sizeT at h1
  omega
theorem cutA_size {t : Th} {a : Int} (_ : okT t) (h0 : 0 < a) (h1 : a < sizeT t) : sizeT (cutA t a) = a := by
  unfold sizeT at h1
  omega

set_option maxHeartbeats 400000 in
theorem meld_any (x y : Th) (w : World) (_ : okT x) (_ : okT y) :
    Calls Try.prog 39 #[thV x, thV y] w fun e w' => e = .returned (.tuple #[thV (meldT x y), .bool (meldB x y)]) ∧ Below w.heap.size w w' := by
  unfold thV meldT meldB
  dsimp only
  go_enter Try.func39, Try.ntmps39
  go_wp2
  exact bodyPost_ret (results_tmp2 rfl _ _ _) rfl ⟨rfl, Below.refl _ _⟩

set_option maxHeartbeats 400000 in
theorem measure_same (t : Th) (w : World) : Calls Try.prog 37 #[.slice t.A t.n t.c] w fun e w' => e = .returned (.tuple #[.int .i64 1, .int .i64 0]) ∧ w = w' := by
  go_enter Try.func37, Try.ntmps37
  go_wp2
  exact bodyPost_ret (results_tmp2 rfl _ _ _) rfl ⟨rfl, rfl⟩
set_option maxHeartbeats 400000 in
theorem meld_same (x y : Th) (w : World) : Calls Try.prog 39 #[.slice x.A x.n x.c, .slice y.A y.n y.c] w fun e w' => e = .returned (.tuple #[.slice none 0 0, .bool false]) ∧ w = w' := by
  go_enter Try.func39, Try.ntmps39
  go_wp2
  exact bodyPost_ret (results_tmp2 rfl _ _ _) rfl ⟨rfl, rfl⟩

theorem loadVar_one {P : Program} (w : World) (b o : Nat) (ty e : TypeId) (v : Value) (hc : w.cell? ⟨b, o, none⟩ = some v) (hu : P.underlying ty = some (.slice e)) : (loadVar ty ⟨b, o, none⟩).run P w = .ok v w := by
  have hagg : (isAgg ty).run P w = .ok false w := by
    unfold isAgg
    rw [Sem.run_bind, run_underlying hu w]
    simp
  simp [loadVar, Sem.run_bind, hagg, hc]

/-- A thing that lies in a row is loaded. -/
theorem exec_load_thing {o : Oper} {ev : Operand → Value} {w : World} (x : Operand) (ho : o.op = .load 38 x)
    (b off : Nat) (hx : ev x = .pointer (some ⟨b, off, none⟩)) (t : Th) (hc : w.rangeAt b off (encT t)) : (execOp ev o).run Try.prog w = .ok (.value (thV t)) w := by
  have h0 := hc 0 _ rfl
  rw [Nat.add_zero] at h0
  unfold execOp
  simp only [ho, hx, Instr.loadAt, Instr.sureAddr, Sem.run_bind, Sem.run_pure, Result.andThen_ok, loadVar_one w b off _ _ _ h0 Try.underlying38]
  rfl

end Go.Proofs.Ytpaelbhljgdenaa
