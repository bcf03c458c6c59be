/-
  Spans as the things of a tree: their cells, their size; the tree's three functions (spans.tree$1 to $3).
-/
import Derived.Test.YtbioomilnjikpaaRowM
import Derived.Test.YtbioomilnjikpaaRows
namespace Go.Proofs.Ytbioomilnjikpaa
open Go.RowKit

/-- A span: how many, which number. -/
structure Th where
  n : Int
  id : Int
deriving DecidableEq

def encT (t : Th) : List Value := [.int .i64 t.n, .int .i64 t.id]
theorem encT_len (t : Th) : (encT t).length = 2 := rfl
theorem encT_one (t : Th) : ∀ v ∈ encT t, v.oneCell' = true := by intro v hv; simp [encT] at hv; rcases hv with rfl | rfl <;> rfl
/-- Its value. -/
def thV (t : Th) : Value := .agg #[.int .i64 t.n, .int .i64 t.id]
theorem thV_cells (t : Th) : thV t = .agg (encT t).toArray := rfl
def sizeT (t : Th) : Int := t.n
def marksT (_ : Th) : Int := 0
def okT (t : Th) : Prop := 0 ≤ t.n ∧ t.n ≤ 1000000000
theorem sizeT_ok {t : Th} (h : okT t) : 0 ≤ sizeT t := h.1
theorem marksT_ok {t : Th} (h : okT t) : 0 ≤ marksT t ∧ marksT t ≤ sizeT t := ⟨Int.le_refl 0, h.1⟩

set_option maxHeartbeats 400000 in
theorem measure_any (t : Th) (w : World) : Calls Try.prog 37 #[thV t] w fun e w' => e = .returned (.tuple #[.int .i64 (sizeT t), .int .i64 (marksT t)]) ∧ Below w.heap.size w w' := by
  unfold thV sizeT marksT
  go_enter Try.func37, Try.ntmps37
  go_wp2
  exact bodyPost_ret (results_tmp2 rfl _ _ _) rfl ⟨rfl, (Below.refl _ _).alloc (Nat.le_refl _) _⟩

def cutA (t : Th) (i : Int) : Th := ⟨i, t.id⟩
def cutB (t : Th) (i : Int) : Th := ⟨t.n - i, t.id⟩
def meldT (a b : Th) : Th := ⟨a.n + b.n, a.id⟩
def meldB (a b : Th) : Bool := a.id == b.id

theorem meld_ok {x y : Th} (hx : okT x) (hy : okT y) (h : sizeT x + sizeT y ≤ 1000000000) (_ : meldB x y = true) : okT (meldT x y) ∧ sizeT (meldT x y) = sizeT x + sizeT y := by
  unfold okT sizeT meldT at *
  dsimp only at *
  omega

theorem cut_ok {t : Th} {a : Int} (h : okT t) (h0 : 0 < a) (h1 : a < sizeT t) : okT (cutA t a) ∧ okT (cutB t a) ∧ sizeT (cutA t a) + sizeT (cutB t a) = sizeT t := by
  unfold okT sizeT cutA cutB at *
  dsimp only at *
  omega

theorem results_cc {P : Program} {fn : Func} {p p2 : Tmp} {ty : TypeId} (h : fn.results = #[.cell p ty, .cell p2 ty]) (tmps : Array Value) (w : World) (g g2 : Nat) (t t2 : TypeId) (cs cs2 : Array Value) (fr fr2 : Nat × Nat) (d : TypeDesc)
    (hp : tmps.getD p undef = .pointer (some ⟨g, 0, none⟩)) (hp2 : tmps.getD p2 undef = .pointer (some ⟨g2, 0, none⟩)) (hg : w.heap[g]? = some (.cells cs t fr)) (hg2 : w.heap[g2]? = some (.cells cs2 t2 fr2))
    (hu : P.underlying ty = some d) (hd : (match d with | .struct _ | .array _ _ => true | _ => false) = true) (hi : (P.info? ty).map (·.size) = some cs.size) (hi2 : (P.info? ty).map (·.size) = some cs2.size) :
    (results fn tmps).run P w = .ok (.tuple #[.agg cs, .agg cs2]) w := by
  have hp' : tmps[p]?.getD undef = .pointer (some ⟨g, 0, none⟩) := by simpa using hp
  have hp2' : tmps[p2]?.getD undef = .pointer (some ⟨g2, 0, none⟩) := by simpa using hp2
  simp [results, h, hp', hp2', asAddr, run_loadVar_row w g t ty cs fr d hg hu hd hi, run_loadVar_row w g2 t2 ty cs2 fr2 d hg2 hu hd hi2]

theorem span_info (a b : Value) : (Try.prog.info? 34).map (·.size) = some (#[a, b] : Array Value).size := by kernel_rfl

theorem cutA_size {t : Th} {a : Int} (_ : okT t) (_ : 0 < a) (_ : a < sizeT t) : sizeT (cutA t a) = a := rfl

set_option maxHeartbeats 1000000 in
theorem cut_any (t : Th) (i : Int) (w : World) (h0 : 0 ≤ i) (h1 : i ≤ t.n) (h2 : t.n ≤ 1000000000) :
    Calls Try.prog 38 #[thV t, .int .i64 i] w fun e w' => e = .returned (.tuple #[thV (cutA t i), thV (cutB t i)]) ∧ Below w.heap.size w w' := by
  unfold thV cutA cutB
  dsimp only
  go_enter Try.func38, Try.ntmps38
  go_wp2_with fail
  obtain ⟨b, hb⟩ : ∃ b, w.heap.size = b := ⟨_, rfl⟩
  have g1 : IntKind.i64.wrap (t.n - i) = t.n - i := IntWalk.i64_in _ (by omega)
  obtain ⟨w1, hw1⟩ : ∃ v, ((w.alloc (.cells #[.int .i64 t.n, .int .i64 t.id] 34)).alloc (.cells #[.int .i64 0, .int .i64 0] 34)).alloc (.cells #[.int .i64 0, .int .i64 0] 34) = v := ⟨_, rfl⟩
  have q0 : w1.heap[b]? = some (.cells #[.int .i64 t.n, .int .i64 t.id] 34) := by
    rw [← hw1]; simp only [heap_alloc_get, World.size_alloc, hb]; repeat (first | rw [if_pos trivial] | rw [if_pos rfl] | rw [if_neg (by omega)])
  have q1 : w1.heap[b + 1]? = some (.cells #[.int .i64 0, .int .i64 0] 34) := by
    rw [← hw1]; simp only [heap_alloc_get, World.size_alloc, hb]; repeat (first | rw [if_pos trivial] | rw [if_pos rfl] | rw [if_neg (by omega)])
  have q2 : w1.heap[b + 1 + 1]? = some (.cells #[.int .i64 0, .int .i64 0] 34) := by
    rw [← hw1]; simp only [heap_alloc_get, World.size_alloc, hb]; repeat (first | rw [if_pos trivial] | rw [if_pos rfl] | rw [if_neg (by omega)])
  have hB : Below w.heap.size w w1 := by rw [← hw1]; exact (((Below.refl _ w).alloc (Nat.le_refl _) _).alloc (by simp) _).alloc (by simp; omega) _
  have c0 : w1.cell? ⟨b, 0, none⟩ = some (.int .i64 t.n) := by rw [cell_of_row w1 b 0 _ _ _ q0]; rfl
  have c1 : w1.cell? ⟨b, 1, none⟩ = some (.int .i64 t.id) := by rw [cell_of_row w1 b 1 _ _ _ q0]; rfl
  have d0 : w1.cell? ⟨b + 1, 0, none⟩ = some (.int .i64 0) := by rw [cell_of_row w1 _ 0 _ _ _ q1]; rfl
  have d1 : w1.cell? ⟨b + 1, 1, none⟩ = some (.int .i64 0) := by rw [cell_of_row w1 _ 1 _ _ _ q1]; rfl
  have e0 : w1.cell? ⟨b + 1 + 1, 0, none⟩ = some (.int .i64 0) := by rw [cell_of_row w1 _ 0 _ _ _ q2]; rfl
  have e1 : w1.cell? ⟨b + 1 + 1, 1, none⟩ = some (.int .i64 0) := by rw [cell_of_row w1 _ 1 _ _ _ q2]; rfl
  have fz1 : ∀ j, w1.frozen? ⟨b + 1, j, none⟩ = false := fun j => frozen_of_row w1 _ j _ _ q1
  have fz2 : ∀ j, w1.frozen? ⟨b + 1 + 1, j, none⟩ = false := fun j => frozen_of_row w1 _ j _ _ q2
  have HQ := Lib.hid (And.intro q1 (And.intro q2 (And.intro hB hb)))
  rw [hb, hw1]
  clear hw1 q0 q1 q2 hB hb
  go_region
  have q1 := HQ.out.1
  have q2 := HQ.out.2.1
  have hB := HQ.out.2.2.1
  have hb := HQ.out.2.2.2
  have r2 := heap_setCell_same _ (b + 1) 1 _ _ (.int .i64 t.id) (heap_setCell_same w1 (b + 1) 0 _ _ (.int .i64 i) q1)
  have r4 := (heap_setCell_other _ ⟨b + 1 + 1, 1, none⟩ (b + 1) (.int .i64 t.id) (by show b + 1 ≠ b + 1 + 1; omega)).trans ((heap_setCell_other _ ⟨b + 1 + 1, 0, none⟩ (b + 1) (.int .i64 (t.n - i)) (by show b + 1 ≠ b + 1 + 1; omega)).trans r2)
  have s2 := (heap_setCell_other _ ⟨b + 1, 1, none⟩ (b + 1 + 1) (.int .i64 t.id) (by show b + 1 + 1 ≠ b + 1; omega)).trans ((heap_setCell_other w1 ⟨b + 1, 0, none⟩ (b + 1 + 1) (.int .i64 i) (by show b + 1 + 1 ≠ b + 1; omega)).trans q2)
  have s4 := heap_setCell_same _ (b + 1 + 1) 1 _ _ (.int .i64 t.id) (heap_setCell_same _ (b + 1 + 1) 0 _ _ (.int .i64 (t.n - i)) s2)
  have hB4 := ((((hB.setCell (p := ⟨b + 1, 0, none⟩) (by show _ ≤ b + 1; omega) (.int .i64 i)).setCell (p := ⟨b + 1, 1, none⟩) (by show _ ≤ b + 1; omega) (.int .i64 t.id)).setCell (p := ⟨b + 1 + 1, 0, none⟩) (by show _ ≤ b + 1 + 1; omega) (.int .i64 (t.n - i))).setCell (p := ⟨b + 1 + 1, 1, none⟩) (by show _ ≤ b + 1 + 1; omega) (.int .i64 t.id)).drew
  have HR := Lib.hid (And.intro r4 (And.intro s4 hB4))
  clear q1 q2 hB hb r2 r4 s2 s4 hB4 c0 c1 d0 d1 e0 e1 fz1 fz2
  go_wp2_with fail
  exact bodyPost_ret (results_cc rfl _ _ (b + 1) (b + 1 + 1) _ _ #[.int .i64 i, .int .i64 t.id] #[.int .i64 (t.n - i), .int .i64 t.id] (0, 0) (0, 0) _ rfl rfl HR.out.1 HR.out.2.1 Try.underlying34 rfl (span_info _ _) (span_info _ _)) rfl ⟨rfl, HR.out.2.2⟩

set_option maxHeartbeats 1000000 in
theorem meld_any (x y : Th) (w : World) (hx : okT x) (hy : okT y) :
    Calls Try.prog 39 #[thV x, thV y] w fun e w' => e = .returned (.tuple #[thV (meldT x y), .bool (meldB x y)]) ∧ Below w.heap.size w w' := by
  obtain ⟨hx1, hx2⟩ := hx
  obtain ⟨hy1, hy2⟩ := hy
  unfold thV meldT meldB
  dsimp only
  go_enter Try.func39, Try.ntmps39
  go_wp2_with fail
  obtain ⟨b, hb⟩ : ∃ b, w.heap.size = b := ⟨_, rfl⟩
  have g1 : IntKind.i64.wrap (x.n + y.n) = x.n + y.n := IntWalk.i64_in _ (by omega)
  obtain ⟨w1, hw1⟩ : ∃ v, ((w.alloc (.cells #[.int .i64 x.n, .int .i64 x.id] 34)).alloc (.cells #[.int .i64 y.n, .int .i64 y.id] 34)).alloc (.cells #[.int .i64 0, .int .i64 0] 34) = v := ⟨_, rfl⟩
  have q0 : w1.heap[b]? = some (.cells #[.int .i64 x.n, .int .i64 x.id] 34) := by
    rw [← hw1]; simp only [heap_alloc_get, World.size_alloc, hb]; repeat (first | rw [if_pos trivial] | rw [if_pos rfl] | rw [if_neg (by omega)])
  have q1 : w1.heap[b + 1]? = some (.cells #[.int .i64 y.n, .int .i64 y.id] 34) := by
    rw [← hw1]; simp only [heap_alloc_get, World.size_alloc, hb]; repeat (first | rw [if_pos trivial] | rw [if_pos rfl] | rw [if_neg (by omega)])
  have q2 : w1.heap[b + 1 + 1]? = some (.cells #[.int .i64 0, .int .i64 0] 34) := by
    rw [← hw1]; simp only [heap_alloc_get, World.size_alloc, hb]; repeat (first | rw [if_pos trivial] | rw [if_pos rfl] | rw [if_neg (by omega)])
  have hB : Below w.heap.size w w1 := by rw [← hw1]; exact (((Below.refl _ w).alloc (Nat.le_refl _) _).alloc (by simp) _).alloc (by simp; omega) _
  have c0 : w1.cell? ⟨b, 0, none⟩ = some (.int .i64 x.n) := by rw [cell_of_row w1 b 0 _ _ _ q0]; rfl
  have c1 : w1.cell? ⟨b, 1, none⟩ = some (.int .i64 x.id) := by rw [cell_of_row w1 b 1 _ _ _ q0]; rfl
  have d0 : w1.cell? ⟨b + 1, 0, none⟩ = some (.int .i64 y.n) := by rw [cell_of_row w1 _ 0 _ _ _ q1]; rfl
  have d1 : w1.cell? ⟨b + 1, 1, none⟩ = some (.int .i64 y.id) := by rw [cell_of_row w1 _ 1 _ _ _ q1]; rfl
  have e0 : w1.cell? ⟨b + 1 + 1, 0, none⟩ = some (.int .i64 0) := by rw [cell_of_row w1 _ 0 _ _ _ q2]; rfl
  have e1 : w1.cell? ⟨b + 1 + 1, 1, none⟩ = some (.int .i64 0) := by rw [cell_of_row w1 _ 1 _ _ _ q2]; rfl
  have fz2 : ∀ j, w1.frozen? ⟨b + 1 + 1, j, none⟩ = false := fun j => frozen_of_row w1 _ j _ _ q2
  have HQ := Lib.hid (And.intro q2 (And.intro hB hb))
  rw [hb, hw1]
  clear hw1 q0 q1 q2 hB hb
  go_region
  have q2 := HQ.out.1
  have hB := HQ.out.2.1
  have hb := HQ.out.2.2
  have s4 := heap_setCell_same _ (b + 1 + 1) 1 _ _ (.int .i64 x.id) (heap_setCell_same w1 (b + 1 + 1) 0 _ _ (.int .i64 (x.n + y.n)) q2)
  have hB4 := ((hB.setCell (p := ⟨b + 1 + 1, 0, none⟩) (by show _ ≤ b + 1 + 1; omega) (.int .i64 (x.n + y.n))).setCell (p := ⟨b + 1 + 1, 1, none⟩) (by show _ ≤ b + 1 + 1; omega) (.int .i64 x.id)).drew
  have HR := Lib.hid (And.intro s4 hB4)
  clear q2 hB hb s4 hB4 c0 c1 d0 d1 e0 e1 fz2
  go_wp2_with fail
  exact bodyPost_ret (results_ct rfl _ _ (b + 1 + 1) _ #[.int .i64 (x.n + y.n), .int .i64 x.id] (0, 0) _ _ rfl rfl HR.out.1 Try.underlying34 rfl (span_info _ _)) rfl ⟨rfl, HR.out.2⟩

end Go.Proofs.Ytbioomilnjikpaa
