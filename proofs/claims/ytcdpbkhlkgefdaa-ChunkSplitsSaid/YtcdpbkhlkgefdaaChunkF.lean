/-
  == between chunks, and between a chunk's runes and noughts.
-/
import Derived.Test.YtcdpbkhlkgefdaaChunkE
import Derived.ChangeKeysEq
namespace Go.Proofs.Ytcdpbkhlkgefdaa
open Go.RowKit

theorem run_eqItems_ints {P : Program} (w : World) (d : Nat) {e : TypeId} {k : IntKind} (he : P.underlying e = some (.int k)) (xs ys : Array Value) (f g : Nat → Int) : ∀ is : List Nat,
    (∀ j ∈ is, xs[j]? = some (.int k (f j)) ∧ ys[j]? = some (.int k (g j))) → (Op.eqItems (d + 1) e 1 xs ys is).run P w = .ok (is.all fun j => f j == g j) w := by
  intro is
  induction is with
  | nil => intro _; simp [Op.eqItems]
  | cons j is ih =>
    intro h
    obtain ⟨hx, hy⟩ := h j (by simp)
    have px : (part e xs (j * 1)).run P w = .ok (.int k (f j)) w := by simp [part, isAgg, run_underlying he, hx]
    have py : (part e ys (j * 1)).run P w = .ok (.int k (g j)) w := by simp [part, isAgg, run_underlying he, hy]
    simp only [Op.eqItems, Sem.run_bind, px, py, Result.andThen_ok, run_equalIn_int w d e k k _ _ he, List.all_cons]
    cases hb : (f j == g j)
    · simp
    · simp only [Bool.not_true, Bool.false_eq_true, if_false, Bool.true_and]
      exact ih fun i hi => h i (by simp [hi])

theorem run_eq_array {P : Program} (w : World) (d : Nat) {t e : TypeId} {n : Nat} {i : TypeInfo} {k : IntKind} (ht : P.underlying t = some (.array n e)) (he : P.underlying e = some (.int k)) (hi : P.info? e = some i) (hc : P.cellsOf e = 1)
    (xs ys : Array Value) (f g : Nat → Int) (h : ∀ j, j < n → xs[j]? = some (.int k (f j)) ∧ ys[j]? = some (.int k (g j))) :
    (Op.equalIn (d + 2) t (.agg xs) (.agg ys)).run P w = .ok ((List.range n).all fun j => f j == g j) w := by
  rw [run_equalIn_array w (d + 1) xs ys ht hi, hc]
  exact run_eqItems_ints w d he xs ys f g _ (fun j hj => h j (List.mem_range.1 hj))

/-- The j-th rune; nought behind the last one. -/
def rn (l : List Int) (j : Nat) : Int := l[j]?.getD 0

theorem all_rn (l m : List Int) (hl : l.length ≤ 32) (hm : m.length ≤ 32) : (((List.range 32).all fun j => rn l j == rn m j) && (((l.length : Nat) : Int) == ((m.length : Nat) : Int))) = (l == m) := by
  rw [Bool.eq_iff_iff, Bool.and_eq_true, List.all_eq_true, beq_iff_eq, beq_iff_eq]
  constructor
  · rintro ⟨h1, h2⟩
    apply List.ext_getElem (by omega)
    intro j hj hj'
    have := h1 j (List.mem_range.2 (by omega))
    simpa [rn, hj, hj'] using this
  · rintro rfl
    exact ⟨fun j _ => by simp, rfl⟩

theorem int32_cells : Try.prog.cellsOf 21 = 1 := by kernel_rfl

theorem run_eq_chunk_d (d : Nat) (w : World) (l m : List Int) (hl : l.length ≤ 32) (hm : m.length ≤ 32) :
    (Op.equalIn (d + 3) 26 (.agg (chC l).toArray) (.agg (chC m).toArray)).run Try.prog w = .ok (l == m) w := by
  obtain ⟨i0, ii0, _⟩ := info_parts r32_info
  rw [run_equalIn_struct w (d + 2) _ _ _ (by kernel_rfl) (by kernel_rfl)]
  have hf : (Try.prog.fieldsOf 26).toList.map (fun f => (f.name == "_", f.type, f.offset)) = [(false, 24, 0), (false, 3, 32)] := by kernel_rfl
  generalize (Try.prog.fieldsOf 26).toList = fs at hf ⊢
  rcases fs with _ | ⟨f0, _ | ⟨f1, _ | ⟨f2, fs⟩⟩⟩
  · exact absurd (congrArg List.length hf) (by simp)
  · exact absurd (congrArg List.length hf) (by simp)
  rotate_left
  · exact absurd (congrArg List.length hf) (by simp)
  simp only [List.map_cons, List.map_nil, List.cons.injEq, Prod.mk.injEq, and_true] at hf
  obtain ⟨⟨n0, t0, o0⟩, n1, t1, o1⟩ := hf
  have n0' : f0.name ≠ "_" := by simpa using n0
  have n1' : f1.name ≠ "_" := by simpa using n1
  have hsz : ∀ w, (sizeOf 24).run Try.prog w = .ok 32 w := fun w => by kernel_rfl
  have pa : ∀ l : List Int, (part 24 (chC l).toArray 0).run Try.prog w = .ok (.agg ((chC l).toArray.extract 0 32)) w := fun l => by
    simp [part, isAgg, run_underlying Try.underlying24, hsz]
  have pn : ∀ l : List Int, l.length ≤ 32 → (part 3 (chC l).toArray 32).run Try.prog w = .ok (.int .i64 (l.length : Int)) w := fun l hl => by
    simp [part, isAgg, run_underlying Try.underlying3, chC_n l hl]
  have hx : ∀ (l : List Int) (j : Nat), l.length ≤ 32 → j < 32 → ((chC l).toArray.extract 0 32)[j]? = some (.int .i32 (rn l j)) := fun l j hl hj => by
    rw [Array.getElem?_extract]
    simp only [Nat.zero_add, List.size_toArray, chC_len l hl]
    rw [if_pos (by omega), List.getElem?_toArray, chC_get l j hl hj]
    rfl
  have ea := run_eq_array w d Try.underlying24 Try.underlying21 ii0 int32_cells ((chC l).toArray.extract 0 32) ((chC m).toArray.extract 0 32) (rn l) (rn m) (fun j hj => ⟨hx l j hl hj, hx m j hm hj⟩)
  have en := run_equalIn_int (P := Try.prog) w (d + 1) 3 .i64 .i64 (l.length : Int) (m.length : Int) Try.underlying3
  rw [Op.eqFields, if_pos n0', t0, o0]
  rw [Sem.run_bind, pa l, Result.andThen_ok, Sem.run_bind, pa m, Result.andThen_ok, Sem.run_bind, ea, Result.andThen_ok]
  rw [← all_rn l m hl hm]
  cases (List.range 32).all fun j => rn l j == rn m j
  · simp
  · rw [Op.eqFields, if_pos n1', t1, o1]
    simp only [Bool.not_true, Bool.false_eq_true, if_false, Sem.run_bind, pn l hl, pn m hm, Result.andThen_ok, en]
    cases hq : (((l.length : Nat) : Int) == ((m.length : Nat) : Int)) <;> simp [Op.eqFields]

theorem run_eq_chunk (w : World) (l m : List Int) (hl : l.length ≤ 32) (hm : m.length ≤ 32) :
    (binOp .eql 26 (.agg (chC l).toArray) (.agg (chC m).toArray)).run Try.prog w = .ok (.bool (l == m)) w := by
  rw [run_eql_struct, run_eq_chunk_d 9997 w l m hl hm]
  rfl
theorem run_ne_chunk (w : World) (l m : List Int) (hl : l.length ≤ 32) (hm : m.length ≤ 32) :
    (binOp .neq 26 (.agg (chC l).toArray) (.agg (chC m).toArray)).run Try.prog w = .ok (.bool (!(l == m))) w := by
  rw [run_neq_struct, run_eq_chunk_d 9997 w l m hl hm]
  rfl

/-- 'a == b' of two chunks. -/
theorem wpList_eq_chunk {ops : Array Oper} {rest : List Oper} {o : Oper} {a : Act} {w : World} {Q : Exit → Act → World → Prop} (hgd : Region.wanted o (yielded ops a.tmps) = true) (x y : Operand)
    (ho : o.op = .binOp .eql 26 x y 26) (l m : List Int) (hx : a.eval x = .agg (chC l).toArray) (hy : a.eval y = .agg (chC m).toArray) (hl : l.length ≤ 32) (hm : m.length ≤ 32) (r : Bool) (hr : (l == m) = r)
    (h : wpList Try.prog ops Q rest (a.put o.dst (.bool r)) w) : wpList Try.prog ops Q (o :: rest) a w :=
  wpList_step fun _ hK => by
    subst hr
    rw [if_pos hgd]
    unfold Oper.wp execOp
    simp only [ho, hx, hy, Sem.run_bind, run_eqGuard_agg (P := Try.prog) w .eql 26 x y (chC l).toArray (chC m).toArray (by kernel_rfl), Result.andThen_ok, run_eq_chunk w l m hl hm]
    exact hK _ _ h

end Go.Proofs.Ytcdpbkhlkgefdaa
