/-
  Several texts in one: Words, Step, RowSt, RowM, ArOk.
-/
import Derived.WalkKit
import Derived.WalkSpells
import Derived.WalkLawsBesides
import Derived.Below
import Derived.Laws.OwnMore
import Derived.Maps.AppendAt
import Derived.Deep.Draws
import Derived.OwnWalk
import Derived.Laws.BytesString
import Derived.Lib.Hide
import Derived.Lib.SlBytesConst
import Derived.Deep.MidRow

namespace Go.Proofs.Ytmfkdaannjibfaa
open Go.RowKit

/-- The slice value '.slice A n c' reads as the cells xs ('size' cells an element), which lie below block number B. -/
def Sees (w : World) (B size : Nat) (A : Option Addr) (n : Nat) (xs : List Value) : Prop :=
  xs.length = n * size ∧ (0 < n → ∃ b o, A = some ⟨b, o, none⟩ ∧ b < B ∧ ∀ j u, xs[j]? = some u → w.cell? ⟨b, o + j, none⟩ = some u)

section
variable {w w' : World} {B B' size n : Nat} {A : Option Addr} {xs : List Value}

theorem Sees.nil_ (w : World) (B size : Nat) (A : Option Addr) : Sees w B size A 0 [] := ⟨by simp, fun h => absurd h (by omega)⟩

theorem Sees.keep (h : Sees w B size A n xs) (hk : ∀ b o, b < B → w'.cell? ⟨b, o, none⟩ = w.cell? ⟨b, o, none⟩) : Sees w' B size A n xs :=
  ⟨h.1, fun hn => by
    obtain ⟨b, o, e, hb, hc⟩ := h.2 hn
    exact ⟨b, o, e, hb, fun j u hu => (hk b (o + j) hb).trans (hc j u hu)⟩⟩

theorem Sees.up (h : Sees w B size A n xs) (hB : B ≤ B') : Sees w B' size A n xs :=
  ⟨h.1, fun hn => by
    obtain ⟨b, o, e, hb, hc⟩ := h.2 hn
    exact ⟨b, o, e, by omega, hc⟩⟩

theorem Sees.below {C : Nat} (h : Sees w B size A n xs) (hb : Below C w w') (hBC : B ≤ C) : Sees w' B size A n xs :=
  h.keep fun b o hp => hb.cell (p := ⟨b, o, none⟩) (by show b < C; omega)

theorem Sees.drewN (h : Sees w B size A n xs) (k : Nat) : Sees (w.drewN k) B size A n xs := h
theorem Sees.drew (h : Sees w B size A n xs) : Sees w.drew B size A n xs := h

theorem Sees.alloc (h : Sees w B size A n xs) (hB : B ≤ w.heap.size) (o : Obj) : Sees (w.alloc o) B size A n xs :=
  h.below ((Below.refl B w).alloc hB o) (Nat.le_refl _)

theorem Sees.setCell (h : Sees w B size A n xs) {p : Addr} (hB : B ≤ p.block) (u : Value) : Sees (w.setCell p u) B size A n xs :=
  h.below ((Below.refl B w).setCell hB u) (Nat.le_refl _)

theorem Sees.grown (h : Sees w B size A n xs) {row : Option Nat} (hg : w.grownBy w' row) (hB : B ≤ w.heap.size) (hr : ∀ g, row = some g → B ≤ g) : Sees w' B size A n xs :=
  h.below ((Below.refl B w).grown hg hB hr) (Nat.le_refl _)

/-- 'k of them on': the cut of a slice of one-cell elements. -/
theorem Sees.cut {k cap : Nat} (h : Sees w B 1 A n xs) (hk : k ≤ n) (hc : n ≤ cap) :
    Sees w B 1 (if cap = k then A else A.map (·.add k)) (n - k) (xs.drop k) := by
  refine ⟨by rw [List.length_drop, h.1]; omega, fun hn => ?_⟩
  obtain ⟨b, o, rfl, hb, hcell⟩ := h.2 (by omega)
  rw [if_neg (by omega)]
  refine ⟨b, o + k, by simp only [Option.map_some, Addr.add_lit], hb, fun j u hu => ?_⟩
  rw [Nat.add_assoc]
  exact hcell _ u (by rw [← hu, List.getElem?_drop])

theorem Sees.prefix_ {k : Nat} (h : Sees w B 1 A n xs) (hk : k ≤ n) : Sees w B 1 A k (xs.take k) := by
  refine ⟨by rw [List.length_take, h.1]; omega, fun hn => ?_⟩
  obtain ⟨b, o, rfl, hb, hcell⟩ := h.2 (by omega)
  refine ⟨b, o, rfl, hb, fun j u hu => hcell j u ?_⟩
  rw [List.getElem?_take] at hu
  split at hu
  · exact hu
  · cases hu

theorem Sees.mid {k m cap : Nat} (h : Sees w B 1 A n xs) (hk : k + m ≤ n) (hc : n ≤ cap) :
    Sees w B 1 (if cap = k then A else A.map (·.add k)) m ((xs.drop k).take m) :=
  (h.cut (k := k) (by omega) hc).prefix_ (by omega)

theorem Sees.of_own {base : Nat} {e : TypeId} {c : Nat} (h : w.ownsRow base e size (.slice A n c) n xs) : Sees w w.heap.size size A n xs := by
  refine ⟨h.1, fun hn => ?_⟩
  rcases h.2 with ⟨hv, h0⟩ | ⟨g, cap, cur, hv, hb, hg, _⟩
  · omega
  · injection hv with hA
    subst hA
    refine ⟨g, 0, rfl, (Array.getElem?_eq_some_iff.1 hg).1, fun j u hu => ?_⟩
    have := h.cells (g := g) rfl j u hu
    rwa [Addr.add_lit] at this
end

/-- The one new cell that 'append(b, x)' lays first. -/
theorem Sees.one (w : World) (u : Value) (e : TypeId) : Sees (w.alloc (.cells #[u] e)) (w.heap.size + 1) 1 (some ⟨w.heap.size, 0, none⟩) 1 [u] := by
  refine ⟨rfl, fun _ => ⟨w.heap.size, 0, rfl, by omega, fun j v hv => ?_⟩⟩
  have hj : j = 0 := by
    have := (List.getElem?_eq_some_iff.1 hv).1
    simpa using this
  subst hj
  have hc := cell_of_row (w.alloc (.cells #[u] e)) w.heap.size 0 #[u] e (0, 0) (heap_alloc_new w _)
  rw [Nat.add_zero, hc]
  simpa using hv

/-- A new block of cells, known whole. -/
theorem Sees.lit (w : World) (cs : List Value) (e : TypeId) (fr : Nat × Nat := (0, 0)) : Sees (w.alloc (.cells cs.toArray e fr)) (w.heap.size + 1) 1 (some ⟨w.heap.size, 0, none⟩) cs.length cs := by
  refine ⟨by simp, fun _ => ⟨w.heap.size, 0, rfl, by omega, fun j v hv => ?_⟩⟩
  have hc := cell_of_row (w.alloc (.cells cs.toArray e fr)) w.heap.size j cs.toArray e fr (heap_alloc_new w _)
  rw [Nat.zero_add, hc]
  simpa using hv

/-! ### The shape of a row of one's own -/
theorem own_shape {w : World} {base : Nat} {e : TypeId} {size : Nat} {v : Value} {n : Nat} {xs : List Value} (h : w.ownsRow base e size v n xs) :
    ∃ A c, v = .slice A n c ∧ n ≤ c ∧ c ≤ maxLen ∧ (A = none → n = 0 ∧ c = 0) ∧ (∀ ad, A = some ad → ∃ g, ad = ⟨g, 0, none⟩ ∧ base ≤ g ∧ g < w.heap.size) := by
  rcases h.2 with ⟨rfl, h0⟩ | ⟨g, cap, cur, rfl, hb, hg, hc, hm, _⟩
  · subst h0
    exact ⟨none, 0, rfl, Nat.le_refl _, Nat.zero_le _, fun _ => ⟨rfl, rfl⟩, fun ad h => by cases h⟩
  · exact ⟨some ⟨g, 0, none⟩, cap, rfl, hc, hm, (fun h => by cases h), fun ad h => ⟨g, (Option.some.inj h).symm, hb, (Array.getElem?_eq_some_iff.1 hg).1⟩⟩

theorem own_below {w w' : World} {C base : Nat} {e : TypeId} {size : Nat} {v : Value} {n : Nat} {xs : List Value} (h : w.ownsRow base e size v n xs) (hb : Below C w w') (hC : ∀ g, v.ownBlock = some g → g < C) : w'.ownsRow base e size v n xs := by
  refine ⟨h.1, ?_⟩
  rcases h.2 with hn | ⟨g, cap, cur, rfl, hbg, hgg, rest⟩
  · exact .inl hn
  · exact .inr ⟨g, cap, cur, rfl, hbg, (hb.block g (hC g rfl)).trans hgg, rest⟩

theorem own_lower {w : World} {base base' : Nat} {e : TypeId} {size : Nat} {v : Value} {n : Nat} {xs : List Value} (h : w.ownsRow base e size v n xs) (hb : base' ≤ base) : w.ownsRow base' e size v n xs := by
  refine ⟨h.1, ?_⟩
  rcases h.2 with hn | ⟨g, cap, cur, hv, hbg, rest⟩
  · exact .inl hn
  · exact .inr ⟨g, cap, cur, hv, by omega, rest⟩

theorem own_drewN {w : World} {base : Nat} {e : TypeId} {size : Nat} {v : Value} {n : Nat} {xs : List Value} (h : w.ownsRow base e size v n xs) (k : Nat) : (w.drewN k).ownsRow base e size v n xs := h

theorem below_drewN {C : Nat} {a w : World} (h : Below C a w) (k : Nat) : Below C a (w.drewN k) := ⟨h.os, h.tape, h.output, h.size, h.block⟩

/-! ### append onto a row of one's own: the source nil, empty or not -/
section
variable {P : Program} (w : World)

theorem run_append_sees (base : Nat) (t ty e : TypeId) (i : TypeInfo) (z : Value) (size bytes : Nat) (ht : P.underlying t = some (.slice e)) (hi : P.info? e = some i) (hz : i.zero = some z)
    (hsize : i.size = size) (hby : i.bytes = bytes) (hzs : z.cells.size = size) (hsz : 0 < size)
    (v : Value) (n : Nat) (xs : List Value) (hown : w.ownsRow base e size v n xs)
    (B : Nat) (A : Option Addr) (m c : Nat) (news : List Value) (hr : Sees w B size A m news) (h1 : ∀ u ∈ news, u.oneCell' = true)
    (h63 : n + m ≤ maxLen) (hbytes : (n + m) * bytes ≤ 140737488355328) (hbase : base ≤ w.heap.size) :
    ∃ v' w', (Builtin.append_ #[t, t] ty #[v, .slice A m c]).run P w = .ok v' w' ∧ w'.ownsRow base e size v' (n + m) (xs ++ news) ∧ w.grownBy w' v.ownBlock ∧
      (v'.ownBlock = v.ownBlock ∨ v'.ownBlock = some w.heap.size) ∧ (v' = .slice none 0 0 ↔ v = .slice none 0 0 ∧ m = 0) := by
  cases A with
  | none =>
    have hm : m = 0 := by
      rcases Nat.eq_zero_or_pos m with h0 | h0
      · exact h0
      · obtain ⟨_, _, h, _⟩ := hr.2 h0
        cases h
    subst hm
    have hn : news = [] := List.eq_nil_of_length_eq_zero (by simpa using hr.1)
    subst hn
    refine ⟨v, w, ?_, by simpa using hown, World.grownBy.refl w _, .inl rfl, by simp⟩
    rcases hown.2 with ⟨rfl, rfl⟩ | ⟨g, cap, cur, rfl, _, _, hnc, _⟩
    · simp [Builtin.append_, run_underlying ht, sizeOf, typeInfo, hi, Builtin.lenOf, Builtin.firstCells]
    · simp [Builtin.append_, run_underlying ht, sizeOf, typeInfo, hi, Builtin.lenOf, Builtin.firstCells, hnc, storeCells]
  | some ad =>
    have hcells : ∀ j u, news[j]? = some u → w.cell? (ad.add j) = some u := by
      intro j u hu
      rcases Nat.eq_zero_or_pos m with h0 | h0
      · subst h0
        have hn : news = [] := List.eq_nil_of_length_eq_zero (by simpa using hr.1)
        subst hn
        simp at hu
      · obtain ⟨b, o, h, _, hc⟩ := hr.2 h0
        injection h with h
        subst h
        rw [Addr.add_lit]
        exact hc j u hu
    obtain ⟨v', w', hrun, h2, h3, h4, h5⟩ := run_append_own_at (P := P) w base t ty e i z size bytes ht hi hz hsize hby hzs hsz v n xs hown ad m c news hr.1 hcells h1 h63 hbytes hbase
    exact ⟨v', w', hrun, h2, h3, h5, h4⟩

theorem wpList_append_sees {ops : Array Oper} {rest : List Oper} {o : Oper} {a : Act} {Q : Exit → Act → World → Prop} (hgd : o.guard = none) (s x : Operand) (t : TypeId)
    (ho : o.op = .call { callee := .builtin .append, args := #[s, x], argTypes := #[t, t] })
    (base : Nat) (e : TypeId) (i : TypeInfo) (z : Value) (size bytes : Nat) (ht : P.underlying t = some (.slice e)) (hi : P.info? e = some i) (hz : i.zero = some z)
    (hsize : i.size = size) (hby : i.bytes = bytes) (hzs : z.cells.size = size) (hsz : 0 < size)
    (v : Value) (n : Nat) (xs : List Value) (hs : a.eval s = v) (hown : w.ownsRow base e size v n xs)
    (B : Nat) (A : Option Addr) (m c : Nat) (news : List Value) (hx : a.eval x = .slice A m c) (hr : Sees w B size A m news) (h1 : ∀ u ∈ news, u.oneCell' = true)
    (h63 : n + m ≤ maxLen) (hbytes : (n + m) * bytes ≤ 140737488355328) (hbase : base ≤ w.heap.size)
    (h : ∀ v' w', w'.ownsRow base e size v' (n + m) (xs ++ news) → w.grownBy w' v.ownBlock → (v'.ownBlock = v.ownBlock ∨ v'.ownBlock = some w.heap.size) → (v' = .slice none 0 0 ↔ v = .slice none 0 0 ∧ m = 0) →
      wpList P ops Q rest (a.put o.dst v') w') : wpList P ops Q (o :: rest) a w := by
  refine wpList_plain hgd fun K hK => ?_
  obtain ⟨v', w', hrun, h2, h3, h4, h5⟩ := run_append_sees (P := P) w base t o.type e i z size bytes ht hi hz hsize hby hzs hsz v n xs hown B A m c news hr h1 h63 hbytes hbase
  unfold Oper.wp execOp
  simp only [ho, resolve, invoke, builtin, Sem.run_bind, Sem.run_pure, Result.andThen_ok, List.map_toArray, List.map_cons, List.map_nil, hs, hx, hrun]
  exact hK _ _ (h v' w' h2 h3 h4 h5)

/-- Any operation whose run is known. -/
theorem wpList_known {ops : Array Oper} {rest : List Oper} {o : Oper} {a : Act} {Q : Exit → Act → World → Prop} (hgd : Region.wanted o (yielded ops a.tmps) = true) {v : Value} {w' : World}
    (hrun : (execOp a.eval o).run P w = .ok (.value v) w') (h : wpList P ops Q rest (a.put o.dst v) w') : wpList P ops Q (o :: rest) a w := by
  refine wpList_step fun K hK => ?_
  rw [if_pos hgd]
  unfold Oper.wp
  rw [hrun]
  exact hK _ _ h
end

/-! ### Bytes -/
/-- A byte as a value. -/
def bv (c : UInt8) : Value := .int .u8 (c.toNat : Int)

/-- Bytes as cells. -/
def bvs (l : List UInt8) : List Value := l.map bv

theorem bvs_length (l : List UInt8) : (bvs l).length = l.length := by simp [bvs]
theorem bvs_append (l m : List UInt8) : bvs (l ++ m) = bvs l ++ bvs m := by simp [bvs]
theorem bvs_get {l : List UInt8} {j : Nat} (h : j < l.length) : (bvs l)[j]? = some (.int .u8 (l[j].toNat : Int)) := by simp [bvs, bv, h]
theorem bvs_drop (l : List UInt8) (k : Nat) : (bvs l).drop k = bvs (l.drop k) := by simp [bvs, List.map_drop]
theorem bvs_take (l : List UInt8) (k : Nat) : (bvs l).take k = bvs (l.take k) := by simp [bvs, List.map_take]
theorem bvs_mid (l : List UInt8) (k m : Nat) : ((bvs l).drop k).take m = bvs ((l.drop k).take m) := by rw [bvs_drop, bvs_take]
theorem bvs_one (l : List UInt8) : ∀ u ∈ bvs l, u.oneCell' = true := by
  intro u hu
  obtain ⟨_, _, rfl⟩ := List.mem_map.1 hu
  rfl

theorem foldl_push (l : List UInt8) : ∀ s : ByteArray, (l.map fun c => (c.toNat : Int)).foldl (fun r n => r.push (UInt8.ofNat n.toNat)) s = ⟨s.data ++ l.toArray⟩ := by
  induction l with
  | nil => intro s; simp
  | cons c l ih =>
    intro s
    simp only [List.map_cons, List.foldl_cons]
    rw [ih]
    simp [ByteArray.push]

theorem run_str {P : Program} {w : World} {src dst e : TypeId} {B : Nat} {A : Option Addr} {n c : Nat} {l : List UInt8}
    (hs : P.underlying src = some (.slice e)) (he : P.underlying e = some (.int .u8)) (hd : P.underlying dst = some .string) (h : Sees w B 1 A n (bvs l)) :
    (convert src dst (.slice A n c)).run P w = .ok (.string ⟨l.toArray⟩) w := by
  rw [run_convert_bytes_string w src dst e A n c hs he hd]
  have hn : l.length = n := by have := h.1; rw [bvs_length] at this; omega
  cases A with
  | none =>
    have h0 : n = 0 := by
      rcases Nat.eq_zero_or_pos n with h0 | h0
      · exact h0
      · obtain ⟨_, _, h, _⟩ := h.2 h0
        cases h
    subst h0
    have hl : l = [] := List.eq_nil_of_length_eq_zero hn
    subst hl
    rfl
  | some ad =>
    have hload : (loadCells ad n).run P w = .ok ((l.map fun c => (c.toNat : Int)).map (Value.int .u8)).toArray w := by
      have he : (l.map fun c => (c.toNat : Int)).map (Value.int .u8) = bvs l := by simp [bvs, bv, Function.comp_def]
      rw [he]
      have hl2 : (bvs l).length = n := by rw [bvs_length]; exact hn
      rw [← hl2]
      refine run_loadCells_list w ad (bvs l) fun j u hu => ?_
      rcases Nat.eq_zero_or_pos n with h0 | h0
      · have : bvs l = [] := List.eq_nil_of_length_eq_zero (by omega)
        rw [this] at hu
        simp at hu
      · obtain ⟨b, o, hA, _, hc⟩ := h.2 h0
        injection hA with hA
        subst hA
        rw [Addr.add_lit]
        exact hc j u hu
    rw [run_bytesToString w ad n c _ hload, foldl_push]
    show Result.ok (Value.string ⟨#[] ++ l.toArray⟩) w = _
    rw [Array.empty_append]

/-- 'string(b)'. -/
theorem wpList_str {P : Program} {w : World} {ops : Array Oper} {rest : List Oper} {o : Oper} {a : Act} {Q : Exit → Act → World → Prop} (hgd : Region.wanted o (yielded ops a.tmps) = true) (x : Operand) (src dst e : TypeId)
    (ho : o.op = .convert src dst x) (hs : P.underlying src = some (.slice e)) (he : P.underlying e = some (.int .u8)) (hd : P.underlying dst = some .string)
    {B : Nat} {A : Option Addr} {n c : Nat} {l : List UInt8} (hx : a.eval x = .slice A n c) (h : Sees w B 1 A n (bvs l))
    (hK : wpList P ops Q rest (a.put o.dst (.string ⟨l.toArray⟩)) w) : wpList P ops Q (o :: rest) a w := by
  refine wpList_known w hgd (v := .string ⟨l.toArray⟩) (w' := w) ?_ hK
  unfold execOp
  simp only [ho, hx, Sem.run_bind, run_str (c := c) hs he hd h, Result.andThen_ok, Sem.run_pure]

/-- A slice of bytes that came in, as its row's proof tells it. -/
theorem bytes_of_row {w : World} {a : Option Addr} {len cap : Nat} {zs : List Int}
    (h : (a = none ∧ len = 0 ∧ cap = 0 ∧ zs = []) ∨
      ∃ x, a = some x ∧ len ≤ cap ∧ cap ≤ maxLen ∧ zs.length = cap ∧ (∀ i, i < zs.length → w.cell? (x.add i) = some (.int .u8 (zs.getD i 0))) ∧ ∀ n ∈ zs, (Lit.int .u8 n).wf = true) :
    ∃ l : List UInt8, Sees w w.heap.size 1 a len (bvs l) ∧ l.length = len ∧ len ≤ cap := by
  rcases h with ⟨rfl, rfl, rfl, rfl⟩ | ⟨x, rfl, hl, hm, hz, hcell, hwf⟩
  · exact ⟨[], Sees.nil_ _ _ _ _, rfl, Nat.le_refl _⟩
  · refine ⟨(zs.take len).map fun z => UInt8.ofNat z.toNat, ⟨by simp [bvs]; omega, fun hn => ?_⟩, by simp; omega, hl⟩
    have h0 := hcell 0 (by omega)
    obtain ⟨b, o, sp⟩ := x
    have hsp : sp = none := by simpa [Addr.add] using World.cell?_spot h0
    subst hsp
    refine ⟨b, o, rfl, ?_, fun j u hu => ?_⟩
    · have := World.block_lt_of_cell? w _ h0
      simpa [Addr.add] using this
    · have hj : j < len := by
        have := (List.getElem?_eq_some_iff.1 hu).1
        simp [bvs] at this
        omega
      have hc := hcell j (by omega)
      rw [Addr.add_lit] at hc
      rw [hc]
      have hr : 0 ≤ zs[j]'(by omega) ∧ zs[j]'(by omega) ≤ 255 := by
        have := hwf zs[j] (List.getElem_mem _)
        simp [Lit.wf, IntKind.min, IntKind.max, IntKind.bits, IntKind.signed] at this
        omega
      simp only [bvs, bv, List.getElem?_map, List.getElem?_take, if_pos hj, List.getElem?_eq_getElem (show j < zs.length by omega), Option.map_some, Option.some.injEq] at hu
      subst hu
      simp only [List.getD, List.getElem?_eq_getElem (show j < zs.length by omega), Option.getD_some]
      congr 2
      simp
      omega

end Go.Proofs.Ytmfkdaannjibfaa

namespace Go.Proofs.Ytmfkdaannjibfaa
open Go.RowKit

/-- Nothing has changed but the blocks of F, and new ones. -/
structure Step (F : Nat → Prop) (w w' : World) : Prop where
  os : w'.os = w.os
  tape : w'.tape = w.tape
  output : w'.output = w.output
  size : w.heap.size ≤ w'.heap.size
  block : ∀ k, k < w.heap.size → ¬ F k → w'.heap[k]? = w.heap[k]?

theorem Step.refl (F : Nat → Prop) (w : World) : Step F w w := ⟨rfl, rfl, rfl, Nat.le_refl _, fun _ _ _ => rfl⟩

theorem Step.mono {F G : Nat → Prop} {w w' : World} (h : Step F w w') (hFG : ∀ k, k < w.heap.size → F k → G k) : Step G w w' :=
  ⟨h.os, h.tape, h.output, h.size, fun k hk hG => h.block k hk (fun hF => hG (hFG k hk hF))⟩

theorem Step.trans {F : Nat → Prop} {a b c : World} (h : Step F a b) (k : Step F b c) : Step F a c :=
  ⟨k.os.trans h.os, k.tape.trans h.tape, k.output.trans h.output, Nat.le_trans h.size k.size, fun i hi hF => (k.block i (Nat.lt_of_lt_of_le hi h.size) hF).trans (h.block i hi hF)⟩

theorem Step.below {F : Nat → Prop} {w w' : World} {B : Nat} (h : Step F w w') (hB : B ≤ w.heap.size) (hF : ∀ k, F k → B ≤ k) : Below B w w' :=
  ⟨h.os, h.tape, h.output, h.size, fun k hk => h.block k (by omega) (fun hf => by have := hF k hf; omega)⟩

theorem Step.of_below {w w' : World} (h : Below w.heap.size w w') (F : Nat → Prop) : Step F w w' :=
  ⟨h.os, h.tape, h.output, h.size, fun k hk _ => h.block k hk⟩

theorem Step.drewN {F : Nat → Prop} {w w' : World} (h : Step F w w') (n : Nat) : Step F w (w'.drewN n) := ⟨h.os, h.tape, h.output, h.size, h.block⟩

theorem Step.alloc {F : Nat → Prop} {a w : World} (h : Step F a w) (o : Obj) : Step F a (w.alloc o) :=
  h.trans ⟨rfl, rfl, rfl, by simp, fun k hk _ => Below.heap_alloc _ _ _ hk⟩

theorem Step.setCell {F : Nat → Prop} {a w : World} (h : Step F a w) {p : Addr} (hp : F p.block ∨ a.heap.size ≤ p.block) (u : Value) : Step F a (w.setCell p u) :=
  ⟨h.os, h.tape, h.output, by have := h.size; simpa [World.setCell] using this, fun k hk hF => (Below.heap_setCell _ _ _ _ (fun e => by subst e; rcases hp with hp | hp; exact hF hp; omega)).trans (h.block k hk hF)⟩

theorem Step.grown {F : Nat → Prop} {a w w' : World} {row : Option Nat} (h : Step F a w) (hg : w.grownBy w' row) (hr : ∀ k, row = some k → F k ∨ a.heap.size ≤ k) : Step F a w' :=
  ⟨hg.os.trans h.os, hg.tape.trans h.tape, hg.output.trans h.output, Nat.le_trans h.size hg.size, fun k hk hF => (hg.block k (Nat.lt_of_lt_of_le hk h.size) (fun e => by rcases hr k e.symm with h | h; exact hF h; omega)).trans (h.block k hk hF)⟩

/-- The thing's blocks, behind the call. -/
structure Grow (F : Nat → Prop) (w w' : World) (F' : Nat → Prop) : Prop where
  step : Step F w w'
  new : ∀ k, F' k → F k ∨ w.heap.size ≤ k

theorem Grow.refl (F : Nat → Prop) (w : World) : Grow F w w F := ⟨Step.refl _ _, fun _ h => .inl h⟩

theorem Grow.trans {F F' F'' : Nat → Prop} {a b c : World} (h : Grow F a b F') (k : Grow F' b c F'') : Grow F a c F'' :=
  ⟨⟨k.step.os.trans h.step.os, k.step.tape.trans h.step.tape, k.step.output.trans h.step.output, Nat.le_trans h.step.size k.step.size,
    fun i hi hF => (k.step.block i (Nat.lt_of_lt_of_le hi h.step.size) (fun hF' => by rcases h.new i hF' with h' | h'; exact hF h'; omega)).trans (h.step.block i hi hF)⟩,
   fun i hi => by
    rcases k.new i hi with h' | h'
    · exact h.new i h'
    · exact .inr (Nat.le_trans h.step.size h')⟩

/-- All of F lies from B on, and below B nothing has changed since w0. -/
structure Keeps (B : Nat) (w0 w : World) (F : Nat → Prop) : Prop where
  low : B ≤ w0.heap.size
  below : Below B w0 w
  own : ∀ k, F k → B ≤ k

theorem Keeps.next {B : Nat} {w0 w w' : World} {F F' : Nat → Prop} (h : Keeps B w0 w F) (g : Grow F w w' F') : Keeps B w0 w' F' :=
  ⟨h.low, h.below.trans (g.step.below (Nat.le_trans h.low h.below.size) h.own), fun k hk => by
    rcases g.new k hk with h' | h'
    · exact h.own k h'
    · exact Nat.le_trans (Nat.le_trans h.low h.below.size) h'⟩

theorem Keeps.drewN {B : Nat} {w0 w : World} {F : Nat → Prop} (h : Keeps B w0 w F) (n : Nat) : Keeps B w0 (w.drewN n) F := ⟨h.low, below_drewN h.below n, h.own⟩

theorem Keeps.of_below {B : Nat} {w0 w w' : World} {F : Nat → Prop} (h : Keeps B w0 w F) (g : Below w.heap.size w w') : Keeps B w0 w' F :=
  h.next ⟨Step.of_below g F, fun _ h => .inl h⟩

/-- A row of one's own that is none of F's. -/
theorem own_step {w w' : World} {F : Nat → Prop} {base : Nat} {e : TypeId} {size : Nat} {v : Value} {n : Nat} {xs : List Value} (h : w.ownsRow base e size v n xs) (hs : Step F w w') (hF : ∀ k, v.ownBlock = some k → ¬ F k) : w'.ownsRow base e size v n xs := by
  refine ⟨h.1, ?_⟩
  rcases h.2 with hn | ⟨g, cap, cur, rfl, hbg, hgg, rest⟩
  · exact .inl hn
  · exact .inr ⟨g, cap, cur, rfl, hbg, (hs.block g (Array.getElem?_eq_some_iff.1 hgg).1 (hF g rfl)).trans hgg, rest⟩

theorem own_lt {w : World} {base : Nat} {e : TypeId} {size : Nat} {v : Value} {n : Nat} {xs : List Value} (h : w.ownsRow base e size v n xs) {k : Nat} (hk : v.ownBlock = some k) : k < w.heap.size := by
  rcases h.2 with ⟨rfl, _⟩ | ⟨g, cap, cur, rfl, _, hgg, _⟩
  · cases hk
  · have : g = k := by simpa [Value.ownBlock] using hk
    subst this
    exact (Array.getElem?_eq_some_iff.1 hgg).1

theorem own_base {w : World} {base : Nat} {e : TypeId} {size : Nat} {v : Value} {n : Nat} {xs : List Value} (h : w.ownsRow base e size v n xs) {k : Nat} (hk : v.ownBlock = some k) : base ≤ k := by
  rcases h.2 with ⟨rfl, _⟩ | ⟨g, cap, cur, rfl, hb, _⟩
  · cases hk
  · have : g = k := by simpa [Value.ownBlock] using hk
    subst this
    exact hb

theorem own_slice {w : World} {base : Nat} {e : TypeId} {size : Nat} {A : Option Addr} {n m c : Nat} {xs : List Value} (h : w.ownsRow base e size (.slice A n c) m xs) :
    n = m ∧ m ≤ c ∧ c ≤ maxLen ∧ (0 < m → ∃ g, A = some ⟨g, 0, none⟩ ∧ base ≤ g ∧ g < w.heap.size) := by
  obtain ⟨A', c', hv, h1, h2, h3, h4⟩ := own_shape h
  simp only [Value.slice.injEq] at hv
  obtain ⟨rfl, rfl, rfl⟩ := hv
  refine ⟨rfl, h1, h2, fun hn => ?_⟩
  cases A with
  | none => have := (h3 rfl).1; omega
  | some ad => obtain ⟨g, rfl, h5, h6⟩ := h4 ad rfl; exact ⟨g, rfl, h5, h6⟩

theorem heap_alloc_get (w : World) (o : Obj) (k : Nat) : (w.alloc o).heap[k]? = if k = w.heap.size then some o else w.heap[k]? := by
  show (w.heap.push o)[k]? = _
  rw [Array.getElem?_push]

/-! ### A row of one's own beside a thing of blocks F -/
theorem grown_step {w w' : World} {row : Option Nat} (hg : w.grownBy w' row) : Step (fun k => row = some k) w w' :=
  ⟨hg.os, hg.tape, hg.output, hg.size, fun k hk hF => hg.block k hk (fun e => hF e.symm)⟩

theorem Keeps.row {B : Nat} {w0 w w' : World} {F : Nat → Prop} {row : Option Nat} (h : Keeps B w0 w F) (hg : w.grownBy w' row) (hb : ∀ k, row = some k → B ≤ k) : Keeps B w0 w' F :=
  ⟨h.low, h.below.grown hg (Nat.le_trans h.low h.below.size) hb, h.own⟩

/-- The row 'v' is none of the blocks F. -/
def Off (v : Value) (F : Nat → Prop) : Prop := ∀ k, v.ownBlock = some k → ¬ F k

theorem Off.grow {v : Value} {F F' : Nat → Prop} {w w' : World} (h : Off v F) (hg : Grow F w w' F') (hl : ∀ k, v.ownBlock = some k → k < w.heap.size) : Off v F' := by
  intro k hk hF
  rcases hg.new k hF with h' | h'
  · exact h k hk h'
  · have := hl k hk
    omega

theorem Off.at {v v' : Value} {F : Nat → Prop} {n : Nat} (h : Off v F) (hl : ∀ k, F k → k < n) (hat : v'.ownBlock = v.ownBlock ∨ v'.ownBlock = some n) : Off v' F := by
  intro k hk hF
  rcases hat with e | e
  · exact h k (by rw [← e]; exact hk) hF
  · rw [e] at hk
    injection hk with hk
    have := hl k hF
    omega

theorem Off.nil_ (F : Nat → Prop) : Off (.slice none 0 0) F := fun _ h => by cases h

/-- Two rows in blocks apart. -/
def Apart (v u : Value) : Prop := ∀ k, v.ownBlock = some k → u.ownBlock ≠ some k

theorem Apart.symm {v u : Value} (h : Apart v u) : Apart u v := fun k h1 h2 => h k h2 h1

theorem Apart.at {v v' u : Value} {n : Nat} (h : Apart v u) (hl : ∀ k, u.ownBlock = some k → k < n) (hat : v'.ownBlock = v.ownBlock ∨ v'.ownBlock = some n) : Apart v' u := by
  intro k hk hu
  rcases hat with e | e
  · exact h k (by rw [← e]; exact hk) hu
  · rw [e] at hk
    injection hk with hk
    have := hl k hu
    omega

theorem Apart.kept {w w' : World} {base : Nat} {t : TypeId} {size : Nat} {v u : Value} {n : Nat} {xs : List Value} (h : w.ownsRow base t size u n xs) (ha : Apart u v) (hg : w.grownBy w' v.ownBlock) : w'.ownsRow base t size u n xs :=
  own_step h (grown_step hg) fun k hk e => ha k hk e

/-- A slice of whole numbers that came in, as its row's proof tells it. -/
theorem ints_of_row {w : World} {k : IntKind} {a : Option Addr} {len cap : Nat} {zs : List Int}
    (h : (a = none ∧ len = 0 ∧ cap = 0 ∧ zs = []) ∨
      ∃ x, a = some x ∧ len ≤ cap ∧ cap ≤ maxLen ∧ zs.length = cap ∧ (∀ i, i < zs.length → w.cell? (x.add i) = some (.int k (zs.getD i 0))) ∧ ∀ n ∈ zs, (Lit.int k n).wf = true) :
    ∃ l : List Int, Sees w w.heap.size 1 a len (l.map (Value.int k)) ∧ l.length = len ∧ len ≤ cap ∧ cap ≤ maxLen ∧ ∀ n ∈ l, (Lit.int k n).wf = true := by
  rcases h with ⟨rfl, rfl, rfl, rfl⟩ | ⟨x, rfl, hl, hm, hz, hcell, hwf⟩
  · exact ⟨[], Sees.nil_ _ _ _ _, rfl, Nat.le_refl _, Nat.zero_le _, fun _ h => by cases h⟩
  · refine ⟨zs.take len, ⟨by simp; omega, fun hn => ?_⟩, by simp; omega, hl, hm, fun n hn => hwf n (List.mem_of_mem_take hn)⟩
    have h0 := hcell 0 (by omega)
    obtain ⟨b, o, sp⟩ := x
    have hsp : sp = none := by simpa [Addr.add] using World.cell?_spot h0
    subst hsp
    refine ⟨b, o, rfl, ?_, fun j u hu => ?_⟩
    · have := World.block_lt_of_cell? w _ h0
      simpa [Addr.add] using this
    · have hj : j < len := by
        have := (List.getElem?_eq_some_iff.1 hu).1
        simp at this
        omega
      have hc := hcell j (by omega)
      rw [Addr.add_lit] at hc
      rw [hc]
      simp only [List.getElem?_map, List.getElem?_take, if_pos hj, List.getElem?_eq_getElem (show j < zs.length by omega), Option.map_some, Option.some.injEq] at hu
      subst hu
      simp only [List.getD, List.getElem?_eq_getElem (show j < zs.length by omega), Option.getD_some]

/-- Numbers as cells. -/
def ints (l : List Nat) : List Value := l.map fun (i : Nat) => Value.int .i64 (i : Int)
theorem ints_length (l : List Nat) : (ints l).length = l.length := by simp [ints]
theorem ints_append (l m : List Nat) : ints (l ++ m) = ints l ++ ints m := by simp [ints]
theorem ints_get {l : List Nat} {j : Nat} (h : j < l.length) : (ints l)[j]? = some (.int .i64 ((l[j] : Nat) : Int)) := by simp [ints, h]
theorem ints_one (l : List Nat) : ∀ u ∈ ints l, u.oneCell' = true := by
  intro u hu
  obtain ⟨_, _, rfl⟩ := List.mem_map.1 hu
  rfl

end Go.Proofs.Ytmfkdaannjibfaa

namespace Go.Proofs.Ytmfkdaannjibfaa
open Go.RowKit

/-- A field that is a slice: the elements' type, cells an element, the slice's value, its length, its cells. -/
structure RowD where
  e : TypeId
  size : Nat
  v : Value
  n : Nat
  xs : List Value

structure StAt (w : World) (g : Nat) (T : TypeId) (rs : List RowD) : Prop where
  blk : w.heap[g]? = some (.cells (rs.map (·.v)).toArray T (0, 0))
  own : ∀ (j : Nat) (r : RowD), rs[j]? = some r → w.ownsRow 0 r.e r.size r.v r.n r.xs
  nd : ∀ (i j : Nat) (r r' : RowD), i ≠ j → rs[i]? = some r → rs[j]? = some r' → r.e ≠ r'.e
  nt : ∀ (j : Nat) (r : RowD), rs[j]? = some r → r.e ≠ T

/-- .. of the blocks F. -/
def StF (w : World) (F : Nat → Prop) (g : Nat) (T : TypeId) (rs : List RowD) : Prop :=
  StAt w g T rs ∧ F g ∧ (∀ (j : Nat) (r : RowD), rs[j]? = some r → ∀ k, r.v.ownBlock = some k → F k) ∧ ∀ k, F k → k < w.heap.size

section
variable {w w' w1 : World} {F : Nat → Prop} {g : Nat} {T : TypeId} {rs : List RowD}

theorem own_row_blk {base : Nat} {e t : TypeId} {size n : Nat} {v : Value} {xs : List Value} {cs : Array Value} (h : w.ownsRow base e size v n xs) (hg : w.heap[g]? = some (.cells cs t (0, 0))) (hne : e ≠ t) : v.ownBlock ≠ some g := by
  rcases h.2 with ⟨rfl, _⟩ | ⟨g', cap, cur, rfl, _, hh, _⟩
  · simp [Value.ownBlock]
  · intro he
    have : g' = g := by simpa [Value.ownBlock] using he
    subst this
    rw [hh] at hg
    injection hg with hg
    injection hg with _ ht
    exact hne ht

theorem own_row_row {base base' : Nat} {e e' : TypeId} {size size' n n' : Nat} {v v' : Value} {xs xs' : List Value} (h : w.ownsRow base e size v n xs) (h' : w.ownsRow base' e' size' v' n' xs') (hne : e ≠ e') : v.ownBlock = none ∨ v.ownBlock ≠ v'.ownBlock := by
  rcases h.2 with ⟨rfl, _⟩ | ⟨g, cap, cur, rfl, _, hh, _⟩
  · exact .inl rfl
  · refine .inr fun he => ?_
    rcases h'.2 with ⟨rfl, _⟩ | ⟨g', cap', cur', rfl, _, hh', _⟩
    · simp [Value.ownBlock] at he
    · have : g = g' := by simpa [Value.ownBlock] using he
      subst this
      rw [hh] at hh'
      injection hh' with hh'
      injection hh' with _ ht
      exact hne ht

theorem StAt.lt (h : StAt w g T rs) : g < w.heap.size := (Array.getElem?_eq_some_iff.1 h.blk).1

theorem StAt.cell (h : StAt w g T rs) {j : Nat} {r : RowD} (hj : rs[j]? = some r) : w.cell? ⟨g, j, none⟩ = some r.v := by
  rw [cell_of_row w g j _ _ _ h.blk]
  simp [hj]

theorem StF.cell (h : StF w F g T rs) {j : Nat} {r : RowD} (hj : rs[j]? = some r) : w.cell? ⟨g, j, none⟩ = some r.v := h.1.cell hj
theorem StF.lt (h : StF w F g T rs) : ∀ k, F k → k < w.heap.size := h.2.2.2
theorem StF.row (h : StF w F g T rs) {j : Nat} {r : RowD} (hj : rs[j]? = some r) : w.ownsRow 0 r.e r.size r.v r.n r.xs := h.1.own j r hj
theorem StF.frozen (h : StF w F g T rs) (j : Nat) : w.frozen? ⟨g, j, none⟩ = false := frozen_of_row w g j _ _ h.1.blk

theorem StF.drewN (h : StF w F g T rs) (n : Nat) : StF (w.drewN n) F g T rs :=
  ⟨⟨h.1.blk, fun j r hj => own_drewN (h.1.own j r hj) n, h.1.nd, h.1.nt⟩, h.2⟩
theorem StF.drew (h : StF w F g T rs) : StF w.drew F g T rs := h.drewN 1

/-- Where none of its blocks has changed it is what it was. -/
theorem StF.step {G : Nat → Prop} (h : StF w F g T rs) (hs : Step G w w') (hG : ∀ k, F k → ¬ G k) : StF w' F g T rs :=
  ⟨⟨(hs.block g h.1.lt (hG g h.2.1)).trans h.1.blk, fun j r hj => own_step (h.1.own j r hj) hs (fun k hk => hG k (h.2.2.1 j r hj k hk)), h.1.nd, h.1.nt⟩, h.2.1, h.2.2.1, fun k hk => Nat.lt_of_lt_of_le (h.2.2.2 k hk) hs.size⟩
theorem StF.below (h : StF w F g T rs) (hs : Below w.heap.size w w') : StF w' F g T rs := h.step (Step.of_below hs fun _ => False) (fun _ _ h => h)

/-- A cell of a row is written. -/
theorem StF.store (h : StF w F g T rs) {i : Nat} {r : RowD} (hi : rs[i]? = some r) {b c : Nat} (hv : r.v = .slice (some ⟨b, 0, none⟩) r.n c) (k : Nat) (u : Value) :
    StF (w.setCell ⟨b, k, none⟩ u) F g T (rs.set i { r with xs := r.xs.set k u }) ∧ Grow F w (w.setCell ⟨b, k, none⟩ u) F := by
  obtain ⟨hil, hie⟩ := List.getElem?_eq_some_iff.1 hi
  have ho := h.1.own i r hi
  have hob : r.v.ownBlock = some b := by rw [hv]; rfl
  rw [hv] at ho
  have hst := ho.stored k u
  have hFb : F b := h.2.2.1 i r hi b hob
  have hgr : w.grownBy (w.setCell ⟨b, k, none⟩ u) (some b) := hst.2
  have hstep : Step F w (w.setCell ⟨b, k, none⟩ u) := (Step.refl F w).grown hgr (fun j e => by cases e; exact .inl hFb)
  have hmap : (rs.set i { r with xs := r.xs.set k u }).map (·.v) = rs.map (·.v) := by
    rw [List.map_set]
    apply List.ext_getElem?
    intro j
    rw [List.getElem?_set]
    split
    · next e => subst e; simp [hil, hie]
    · rfl
  have hget : ∀ (j : Nat) (r' : RowD), (rs.set i { r with xs := r.xs.set k u })[j]? = some r' → (j = i ∧ r' = { r with xs := r.xs.set k u }) ∨ (j ≠ i ∧ rs[j]? = some r') := by
    intro j r' hj
    rw [List.getElem?_set] at hj
    split at hj
    · next e => subst e; exact .inl ⟨rfl, (Option.some.inj hj).symm⟩
    · next e => exact .inr ⟨fun e' => e e'.symm, hj⟩
  have hty : ∀ (j : Nat) (r' : RowD), (rs.set i { r with xs := r.xs.set k u })[j]? = some r' → ∃ r0, rs[j]? = some r0 ∧ r0.e = r'.e ∧ r0.v = r'.v := by
    intro j r' hj
    rcases hget j r' hj with ⟨rfl, rfl⟩ | ⟨_, hj⟩
    · exact ⟨r, hi, rfl, rfl⟩
    · exact ⟨r', hj, rfl, rfl⟩
  refine ⟨⟨⟨?_, fun j r' hj => ?_, fun a b' ra rb hne ha hb => ?_, fun j r' hj => ?_⟩, h.2.1, fun j r' hj k' hk' => ?_, fun k' hk' => ?_⟩, hstep, fun _ h => .inl h⟩
  · rw [hmap, hgr.block g h.1.lt (fun e => own_row_blk (h.1.own i r hi) h.1.blk (h.1.nt i r hi) (by rw [hob, ← e]))]
    exact h.1.blk
  · rcases hget j r' hj with ⟨rfl, rfl⟩ | ⟨hne, hj⟩
    · show World.ownsRow _ 0 r.e r.size r.v r.n (r.xs.set k u)
      rw [hv]
      exact hst.1
    · refine (h.1.own j r' hj).kept hgr ?_
      rcases own_row_row (h.1.own j r' hj) (h.1.own i r hi) (h.1.nd j i r' r hne hj hi) with e | e
      · exact .inl e
      · exact .inr (by rw [← hob]; exact e)
  · obtain ⟨r0, h0, e0, _⟩ := hty _ _ ha
    obtain ⟨r1, h1, e1, _⟩ := hty _ _ hb
    rw [← e0, ← e1]
    exact h.1.nd a b' r0 r1 hne h0 h1
  · obtain ⟨r0, h0, e0, _⟩ := hty _ _ hj
    rw [← e0]
    exact h.1.nt j r0 h0
  · obtain ⟨r0, h0, _, e0⟩ := hty _ _ hj
    exact h.2.2.1 j r0 h0 k' (by rw [e0]; exact hk')
  · exact Nat.lt_of_lt_of_le (h.2.2.2 k' hk') hstep.size

/-- A row is appended to (w to w1); its new slice is laid in its field. -/
theorem StF.renew (h : StF w F g T rs) {i : Nat} {r : RowD} (hi : rs[i]? = some r) {v' : Value} {n' : Nat} {xs' : List Value} (hg : w.grownBy w1 r.v.ownBlock) (hown : w1.ownsRow 0 r.e r.size v' n' xs')
    (hat : ∀ k, v'.ownBlock = some k → r.v.ownBlock = some k ∨ w.heap.size ≤ k) :
    (w1.cell? ⟨g, i, none⟩ = some r.v ∧ w1.frozen? ⟨g, i, none⟩ = false) ∧
    StF (w1.setCell ⟨g, i, none⟩ v') (fun k => F k ∨ v'.ownBlock = some k) g T (rs.set i { r with v := v', n := n', xs := xs' }) ∧ Grow F w (w1.setCell ⟨g, i, none⟩ v') (fun k => F k ∨ v'.ownBlock = some k) := by
  obtain ⟨hil, hie⟩ := List.getElem?_eq_some_iff.1 hi
  have hb1 : w1.heap[g]? = some (.cells (rs.map (·.v)).toArray T (0, 0)) := by
    rw [hg.block g h.1.lt (fun e => own_row_blk (h.1.own i r hi) h.1.blk (h.1.nt i r hi) e.symm)]
    exact h.1.blk
  have hgs : w1.grownBy (w1.setCell ⟨g, i, none⟩ v') (some g) := ⟨rfl, rfl, rfl, by simp [World.setCell], fun k _ hk => heap_setCell_other w1 ⟨g, i, none⟩ k v' (fun e => hk (by simp [e]))⟩
  have hsame := heap_setCell_same w1 g i _ _ v' hb1
  have hs1 : Step F w w1 := (Step.refl F w).grown hg (fun k e => .inl (h.2.2.1 i r hi k e))
  have hstep : Step F w (w1.setCell ⟨g, i, none⟩ v') := hs1.setCell (.inl h.2.1) v'
  have hget : ∀ (j : Nat) (r' : RowD), (rs.set i { r with v := v', n := n', xs := xs' })[j]? = some r' → (j = i ∧ r' = { r with v := v', n := n', xs := xs' }) ∨ (j ≠ i ∧ rs[j]? = some r') := by
    intro j r' hj
    rw [List.getElem?_set] at hj
    split at hj
    · next e => subst e; exact .inl ⟨rfl, (Option.some.inj hj).symm⟩
    · next e => exact .inr ⟨fun e' => e e'.symm, hj⟩
  have hty : ∀ (j : Nat) (r' : RowD), (rs.set i { r with v := v', n := n', xs := xs' })[j]? = some r' → ∃ r0, rs[j]? = some r0 ∧ r0.e = r'.e := by
    intro j r' hj
    rcases hget j r' hj with ⟨rfl, rfl⟩ | ⟨_, hj⟩
    · exact ⟨r, hi, rfl⟩
    · exact ⟨r', hj, rfl⟩
  have hvlt : ∀ k, v'.ownBlock = some k → k < w1.heap.size := fun k hk => own_lt hown hk
  refine ⟨⟨by rw [cell_of_row w1 g i _ _ _ hb1]; simp [hi], frozen_of_row w1 g i _ _ hb1⟩, ⟨⟨?_, fun j r' hj => ?_, fun a b' ra rb hne ha hb => ?_, fun j r' hj => ?_⟩, .inl h.2.1, fun j r' hj k' hk' => ?_, fun k' hk' => ?_⟩, hstep, fun k hk => ?_⟩
  · rw [hsame]
    simp [List.map_set]
  · rcases hget j r' hj with ⟨rfl, rfl⟩ | ⟨hne, hj⟩
    · exact hown.kept hgs (.inr (own_row_blk hown hb1 (h.1.nt j r hi)))
    · have h1 := (h.1.own j r' hj).kept hg (own_row_row (h.1.own j r' hj) (h.1.own i r hi) (h.1.nd j i r' r hne hj hi))
      exact h1.kept hgs (.inr (own_row_blk h1 hb1 (h.1.nt j r' hj)))
  · obtain ⟨r0, h0, e0⟩ := hty _ _ ha
    obtain ⟨r1, h1, e1⟩ := hty _ _ hb
    rw [← e0, ← e1]
    exact h.1.nd a b' r0 r1 hne h0 h1
  · obtain ⟨r0, h0, e0⟩ := hty _ _ hj
    rw [← e0]
    exact h.1.nt j r0 h0
  · rcases hget j r' hj with ⟨rfl, rfl⟩ | ⟨hne, hj⟩
    · exact .inr hk'
    · exact .inl (h.2.2.1 j r' hj k' hk')
  · have hz : (w1.setCell ⟨g, i, none⟩ v').heap.size = w1.heap.size := by simp [World.setCell]
    rcases hk' with hk' | hk'
    · exact Nat.lt_of_lt_of_le (h.2.2.2 k' hk') hstep.size
    · rw [hz]; exact hvlt k' hk'
  · rcases hk with hk | hk
    · exact .inl hk
    · rcases hat k hk with e | e
      · exact .inl (h.2.2.1 i r hi k e)
      · exact .inr e
end

end Go.Proofs.Ytmfkdaannjibfaa

namespace Go.Proofs.Ytmfkdaannjibfaa
open Go.RowKit

/-- A list with some elements, from the o-th on, written over. -/
def setMany : List Value → Nat → List Value → List Value
  | xs, _, [] => xs
  | xs, o, v :: r => setMany (xs.set o v) (o + 1) r

theorem setMany_len : ∀ (vs xs : List Value) (o : Nat), (setMany xs o vs).length = xs.length
  | [], _, _ => rfl
  | v :: r, xs, o => by rw [setMany, setMany_len r, List.length_set]

theorem setMany_get : ∀ (vs xs : List Value) (o i : Nat), o + vs.length ≤ xs.length → (setMany xs o vs)[i]? = if o ≤ i ∧ i < o + vs.length then vs[i - o]? else xs[i]?
  | [], xs, o, i, _ => by rw [setMany, if_neg (by rw [List.length_nil]; omega)]
  | v :: r, xs, o, i, h => by
    rw [List.length_cons] at h
    rw [setMany, setMany_get r (xs.set o v) (o + 1) i (by rw [List.length_set]; omega), List.length_cons]
    by_cases h1 : o + 1 ≤ i ∧ i < o + 1 + r.length
    · rw [if_pos h1, if_pos (by omega), show i - o = (i - (o + 1)) + 1 by omega, List.getElem?_cons_succ]
    · rw [if_neg h1]
      by_cases h2 : i = o
      · subst h2
        rw [if_pos (by omega), Nat.sub_self, List.getElem?_set_self (by omega)]
        rfl
      · rw [if_neg (by omega), List.getElem?_set_ne (by omega)]

section
variable {α : Type}

theorem flat_len (f : α → List Value) (K : Nat) (hf : ∀ x, (f x).length = K) (s : List α) : (s.flatMap f).length = s.length * K := by
  induction s with
  | nil => simp
  | cons o s ih => rw [List.flatMap_cons, List.length_append, ih, hf, List.length_cons, Nat.succ_mul]; omega

theorem flat_get (f : α → List Value) (K : Nat) (hf : ∀ x, (f x).length = K) : ∀ (s : List α) (k j : Nat), j < K → (s.flatMap f)[k * K + j]? = (s[k]?).bind fun o => (f o)[j]? := by
  intro s
  induction s with
  | nil => intro k j _; simp
  | cons o s ih =>
    intro k j hj
    rw [List.flatMap_cons]
    cases k with
    | zero => rw [Nat.zero_mul, Nat.zero_add, List.getElem?_append_left (by rw [hf]; exact hj)]; rfl
    | succ k =>
      rw [Nat.succ_mul, List.getElem?_append_right (by rw [hf]; omega), hf, show k * K + K + j - K = k * K + j by omega, ih k j hj]
      rfl

theorem flat_ext (f : α → List Value) (K : Nat) (hf : ∀ x, (f x).length = K) (xs : List Value) (s : List α) (hl : xs.length = s.length * K) (h : ∀ k j, j < K → xs[k * K + j]? = (s[k]?).bind fun o => (f o)[j]?) : xs = s.flatMap f := by
  apply List.ext_getElem?
  intro i
  by_cases hK : K = 0
  · subst hK
    rw [List.getElem?_eq_none (by omega), List.getElem?_eq_none (by rw [flat_len f 0 hf]; omega)]
  · have hi : i = i / K * K + i % K := by rw [Nat.mul_comm]; exact (Nat.div_add_mod i K).symm
    have hm : i % K < K := Nat.mod_lt _ (by omega)
    rw [hi, h _ _ hm, flat_get f K hf _ _ _ hm]

theorem div_of {k j K a b : Nat} (hj : j < K) (hb : b < K) (h : k * K + j = a * K + b) : k = a ∧ j = b := by
  have h1 : (k * K + j) / K = k := by rw [Nat.mul_comm, Nat.mul_add_div (by omega), Nat.div_eq_of_lt hj]; omega
  have h2 : (a * K + b) / K = a := by rw [Nat.mul_comm, Nat.mul_add_div (by omega), Nat.div_eq_of_lt hb]; omega
  have h3 : k = a := by rw [← h1, h, h2]
  subst h3
  exact ⟨rfl, by omega⟩

/-- The first cells of the k-th element are written over. -/
theorem setMany_flat (f : α → List Value) (K : Nat) (hf : ∀ x, (f x).length = K) (s : List α) (k : Nat) (o : α) (hk : k < s.length) (vs : List Value) (hv : vs.length ≤ K) (h1 : ∀ j, j < vs.length → (f o)[j]? = vs[j]?) (h2 : ∀ j, vs.length ≤ j → j < K → (f o)[j]? = (f s[k])[j]?) :
    setMany (s.flatMap f) (k * K) vs = (s.set k o).flatMap f := by
  have hle : (k + 1) * K ≤ s.length * K := Nat.mul_le_mul_right _ (by omega)
  rw [Nat.succ_mul] at hle
  have hlen : k * K + vs.length ≤ (s.flatMap f).length := by rw [flat_len f K hf]; omega
  refine flat_ext f K hf _ _ (by rw [setMany_len, flat_len f K hf, List.length_set]) fun a j hj => ?_
  rw [setMany_get _ _ _ _ hlen, flat_get f K hf _ _ _ hj, List.getElem?_set]
  by_cases ha : k = a
  · subst ha
    rw [if_pos rfl, if_pos hk]
    by_cases hjv : j < vs.length
    · rw [if_pos (by omega), show k * K + j - k * K = j by omega, ← h1 j hjv]
      rfl
    · rw [if_neg (by omega), List.getElem?_eq_getElem hk]
      exact (h2 j (by omega) hj).symm
  · rw [if_neg ha, if_neg]
    rintro ⟨h3, h4⟩
    have h5 : a * K + j - k * K < K := by omega
    have := (div_of hj h5 (show a * K + j = k * K + (a * K + j - k * K) by omega)).1
    exact ha this.symm
end

section
variable {w w' w1 : World} {F : Nat → Prop} {g : Nat} {T : TypeId} {rs : List RowD}

/-- Cells of a row are written, from the o-th on. -/
theorem StF.stores : ∀ (vs : List Value) {w : World} {rs : List RowD} (_ : StF w F g T rs) {i : Nat} {r : RowD} (_ : rs[i]? = some r) {b c : Nat} (_ : r.v = .slice (some ⟨b, 0, none⟩) r.n c) (o : Nat),
    StF (w.setCells b o vs) F g T (rs.set i { r with xs := setMany r.xs o vs }) ∧ Grow F w (w.setCells b o vs) F
  | [], w, rs, h, i, r, hi, b, c, _, o => by
    obtain ⟨hil, hie⟩ := List.getElem?_eq_some_iff.1 hi
    refine ⟨?_, Grow.refl _ _⟩
    have e : rs.set i { r with xs := setMany r.xs o [] } = rs := by
      apply List.ext_getElem?
      intro j
      rw [List.getElem?_set]
      split
      · next e => subst e; rw [hi]; rfl
      · rfl
    rw [e]
    exact h
  | v :: vs, w, rs, h, i, r, hi, b, c, hv, o => by
    obtain ⟨hil, hie⟩ := List.getElem?_eq_some_iff.1 hi
    have h1 := h.store hi hv o v
    have h2 := StF.stores vs h1.1 (i := i) (r := { r with xs := r.xs.set o v }) (by rw [List.getElem?_set_self hil]) hv (o + 1)
    refine ⟨?_, h1.2.trans h2.2⟩
    have h3 := h2.1
    rw [List.set_set] at h3
    exact h3

/-- The k-th element's cells, of a row of elements of K cells. -/
theorem row_range {α : Type} {base : Nat} {e : TypeId} {v : Value} {n : Nat} (f : α → List Value) {K : Nat} (hf : ∀ x, (f x).length = K) {s : List α} (h : w.ownsRow base e K v n (s.flatMap f)) (hn : n = s.length) {k : Nat} (hk : k < s.length) :
    ∃ b c, v = .slice (some ⟨b, 0, none⟩) n c ∧ n ≤ c ∧ base ≤ b ∧ b < w.heap.size ∧ w.rangeAt b (k * K) (f s[k]) ∧ w.there b (k * K) K := by
  obtain ⟨A, c, rfl, hc, _, hn0, hs⟩ := own_shape h
  cases A with
  | none => have := (hn0 rfl).1; omega
  | some ad =>
    obtain ⟨b, rfl, hb, hbl⟩ := hs ad rfl
    have hle : (k + 1) * K ≤ n * K := Nat.mul_le_mul_right _ (by omega)
    rw [Nat.succ_mul] at hle
    have hcell : ∀ j, j < K → w.cell? ⟨b, k * K + j, none⟩ = (f s[k])[j]? := fun j hj => by
      rw [h.cellAt (k * K + j) (by omega), flat_get f K hf _ _ _ hj, List.getElem?_eq_getElem hk]
      rfl
    refine ⟨b, c, rfl, hc, hb, hbl, fun j u hu => ?_, fun j hj => ⟨?_, h.frozenAt _⟩⟩
    · have hj := (List.getElem?_eq_some_iff.1 hu).1
      rw [hf] at hj
      rw [hcell j hj]
      exact hu
    · rw [hcell j hj, List.getElem?_eq_getElem (by rw [hf]; exact hj)]
      rfl
end

section
variable {P : Program} {fn : Func}

theorem results_c {p : Tmp} {ty : TypeId} (h : fn.results = #[.cell p ty]) (tmps : Array Value) (w : World) (g : Nat) (t : TypeId) (cs : Array Value) (fr : Nat × Nat) (d : TypeDesc)
    (hp : tmps.getD p undef = .pointer (some ⟨g, 0, none⟩)) (hg : w.heap[g]? = some (.cells cs t fr))
    (hu : P.underlying ty = some d) (hd : (match d with | .struct _ | .array _ _ => true | _ => false) = true) (hi : (P.info? ty).map (·.size) = some cs.size) :
    (results fn tmps).run P w = .ok (.agg cs) w := by
  have hp' : tmps[p]?.getD undef = .pointer (some ⟨g, 0, none⟩) := by simpa using hp
  simp [results, h, hp', asAddr, run_loadVar_row w g t ty cs fr d hg hu hd hi]

theorem results_ct {p q : Tmp} {ty : TypeId} (h : fn.results = #[.cell p ty, .tmp q]) (tmps : Array Value) (w : World) (g : Nat) (t : TypeId) (cs : Array Value) (fr : Nat × Nat) (d : TypeDesc) (x : Value)
    (hp : tmps.getD p undef = .pointer (some ⟨g, 0, none⟩)) (hq : tmps.getD q undef = x) (hg : w.heap[g]? = some (.cells cs t fr))
    (hu : P.underlying ty = some d) (hd : (match d with | .struct _ | .array _ _ => true | _ => false) = true) (hi : (P.info? ty).map (·.size) = some cs.size) :
    (results fn tmps).run P w = .ok (.tuple #[.agg cs, x]) w := by
  have hp' : tmps[p]?.getD undef = .pointer (some ⟨g, 0, none⟩) := by simpa using hp
  have hq' : tmps[q]?.getD undef = x := by simpa using hq
  simp [results, h, hp', hq', asAddr, run_loadVar_row w g t ty cs fr d hg hu hd hi]
end

theorem alloc_setRow (w : World) (old cells : Array Value) (t : TypeId) : (w.alloc (.cells old t)).setRow w.heap.size cells = w.alloc (.cells cells t) := by
  show { w with heap := (w.heap.push (.cells old t)).modify w.heap.size _ } = { w with heap := w.heap.push (.cells cells t) }
  congr 1
  apply Array.ext_getElem?
  intro i
  rw [Array.getElem?_modify, Array.getElem?_push, Array.getElem?_push]
  by_cases h : i = w.heap.size
  · subst h
    rw [if_pos rfl, if_pos rfl, if_pos rfl]; rfl
  · rw [if_neg (fun e => h e.symm), if_neg h, if_neg h]

theorem range_below {w w' : World} {b o : Nat} {cs : List Value} (h : w.rangeAt b o cs) (hb : b < w.heap.size) (hs : Below w.heap.size w w') : w'.rangeAt b o cs := fun j v hv => (hs.cell (p := ⟨b, o + j, none⟩) hb).trans (h j v hv)

/-- A whole block as a range. -/
theorem range_row {w : World} {b : Nat} {cs : List Value} {t : TypeId} (h : w.heap[b]? = some (.cells cs.toArray t (0, 0))) : w.rangeAt b 0 cs := fun j v hv => by
  rw [Nat.zero_add, cell_of_row w b j _ _ _ h]
  simpa using hv

theorem exec_load_row {P : Program} {o : Oper} {ev : Operand → Value} {w : World} (ty : TypeId) (x : Operand) (ho : o.op = .load ty x)
    (g : Nat) (hx : ev x = .pointer (some ⟨g, 0, none⟩)) (t : TypeId) (cs : Array Value) (fr : Nat × Nat) (d : TypeDesc) (hg : w.heap[g]? = some (.cells cs t fr))
    (hu : P.underlying ty = some d) (hd : (match d with | .struct _ | .array _ _ => true | _ => false) = true) (hi : (P.info? ty).map (·.size) = some cs.size) : (execOp ev o).run P w = .ok (.value (.agg cs)) w := by
  unfold execOp
  simp only [ho, hx, Instr.loadAt, Instr.sureAddr, Sem.run_bind, Sem.run_pure, Result.andThen_ok, run_loadVar_row w g t ty cs fr d hg hu hd hi]

theorem Grow.of_below {F : Nat → Prop} {w w' : World} (h : Below w.heap.size w w') : Grow F w w' F := ⟨Step.of_below h F, fun _ h => .inl h⟩

/-- Where a row of one cell an element is not empty: its block, its cells. -/
theorem row_at {w : World} {base : Nat} {e : TypeId} {v : Value} {n : Nat} {xs : List Value} (h : w.ownsRow base e 1 v n xs) {k : Nat} (hk : k < n) :
    ∃ b c, v = .slice (some ⟨b, 0, none⟩) n c ∧ n ≤ c ∧ base ≤ b ∧ (∀ j u, xs[j]? = some u → w.cell? ⟨b, j, none⟩ = some u) ∧ (∀ j, w.frozen? ⟨b, j, none⟩ = false) := by
  obtain ⟨A, c, rfl, hc, _, hn, hs⟩ := own_shape h
  cases A with
  | none => have := (hn rfl).1; omega
  | some ad =>
    obtain ⟨b, rfl, hb, _⟩ := hs ad rfl
    refine ⟨b, c, rfl, hc, hb, fun j u hu => ?_, fun j => h.frozenAt j⟩
    have hl := h.1
    have hj := (List.getElem?_eq_some_iff.1 hu).1
    rw [h.cellAt j (by omega)]
    exact hu

theorem below_setRow {w w' : World} {b g : Nat} (h : Below b w w') (hw : b ≤ w'.heap.size) (hg : b ≤ g) (cs : Array Value) : Below b w (w'.setRow g cs) :=
  h.grown ⟨rfl, rfl, rfl, by simp [World.setRow], fun k _ hk => setRow_other w' g k _ (fun e => hk (by rw [e]))⟩ hw (fun k e => by cases e; exact hg)

theorem exec_load_mid {P : Program} {o : Oper} {ev : Operand → Value} {w : World} (ty : TypeId) (x : Operand) (ho : o.op = .load ty x)
    (b off : Nat) (hx : ev x = .pointer (some ⟨b, off, none⟩)) (cs : List Value) (d : TypeDesc) (hc : w.rangeAt b off cs)
    (hu : P.underlying ty = some d) (hd : d.isRow = true) (hi : (P.info? ty).map (·.size) = some cs.length) : (execOp ev o).run P w = .ok (.value (.agg cs.toArray)) w := by
  unfold execOp
  simp only [ho, hx, Instr.loadAt, Instr.sureAddr, Sem.run_bind, Sem.run_pure, Result.andThen_ok, run_loadVar_mid w b off ty cs d hc hu hd hi]

theorem setCells_get (b : Nat) (t : TypeId) : ∀ (vs : List Value) (o : Nat) (w : World) (cs : List Value), w.heap[b]? = some (.cells cs.toArray t (0, 0)) → (w.setCells b o vs).heap[b]? = some (.cells (setMany cs o vs).toArray t (0, 0))
  | [], _, _, _, h => h
  | v :: r, o, w, cs, h => by
    rw [World.setCells, setMany]
    refine setCells_get b t r (o + 1) _ _ ?_
    rw [heap_setCell_same w b o _ _ v h, List.setIfInBounds_toArray]

theorem setMany_all : ∀ (vs cs : List Value), cs.length = vs.length → setMany cs 0 vs = vs := by
  intro vs cs h
  apply List.ext_getElem?
  intro i
  rw [setMany_get vs cs 0 i (by omega)]
  by_cases hi : i < vs.length
  · rw [if_pos (by omega), Nat.sub_zero]
  · rw [if_neg (by omega), List.getElem?_eq_none (by omega), List.getElem?_eq_none (by omega)]

theorem setCells_row {w : World} {b : Nat} {t : TypeId} {cs vs : List Value} (h : w.heap[b]? = some (.cells cs.toArray t (0, 0))) (hl : cs.length = vs.length) : (w.setCells b 0 vs).heap[b]? = some (.cells vs.toArray t (0, 0)) := by
  rw [setCells_get b t vs 0 w cs h, setMany_all vs cs hl]

theorem setCells_other {b : Nat} : ∀ (vs : List Value) (o : Nat) (w : World) (k : Nat), k ≠ b → (w.setCells b o vs).heap[k]? = w.heap[k]?
  | [], _, _, _, _ => rfl
  | v :: r, o, w, k, h => by
    rw [World.setCells, setCells_other r (o + 1) _ k h]
    exact heap_setCell_other _ _ _ _ h

theorem below_setCells {b g : Nat} {w : World} (hg : b ≤ g) : ∀ (vs : List Value) (o : Nat) (w' : World), Below b w w' → Below b w (w'.setCells g o vs)
  | [], _, _, h => h
  | v :: r, o, _, h => below_setCells hg r (o + 1) _ (h.setCell (p := ⟨g, o, none⟩) hg v)

theorem heap_later {w w' : World} {g : Nat} {o : Obj} (h : w.heap[g]? = some o) (hb : Below w.heap.size w w') : w'.heap[g]? = some o := (hb.block g (Array.getElem?_eq_some_iff.1 h).1).trans h

end Go.Proofs.Ytmfkdaannjibfaa

namespace Go.Proofs.Ytmfkdaannjibfaa
open Go.RowKit
variable {α : Type}

/-- The free places are those that are free, each once. -/
structure ArOk (s : List (Option α)) (fr : List Nat) : Prop where
  nodup : fr.Nodup
  iff : ∀ i, i ∈ fr ↔ s[i]? = some none

theorem ArOk.nil_ : ArOk ([] : List (Option α)) [] := ⟨by simp, fun i => by simp⟩

theorem ArOk.len {s : List (Option α)} {fr : List Nat} (h : ArOk s fr) : fr.length ≤ s.length := by
  have h1 : ∀ i ∈ fr, i ∈ List.range s.length := fun i hi => List.mem_range.2 (List.getElem?_eq_some_iff.1 ((h.iff i).1 hi)).1
  have := h.nodup.length_le_of_subset h1
  simpa using this

/-- What stands at a place, if it is taken. -/
def look (s : List (Option α)) (i : Int) : Option α := if 0 ≤ i then (s[i.toNat]?).join else none

theorem look_nat (s : List (Option α)) (k : Nat) : look s (k : Int) = (s[k]?).join := by simp [look]

theorem look_some {s : List (Option α)} {i : Int} {x : α} (h : look s i = some x) : ∃ k : Nat, i = k ∧ ∃ hk : k < s.length, s[k] = some x := by
  unfold look at h
  split at h
  · refine ⟨i.toNat, by omega, ?_⟩
    cases hq : s[i.toNat]? with
    | none => rw [hq] at h; cases h
    | some o =>
      rw [hq] at h
      obtain ⟨hk, he⟩ := List.getElem?_eq_some_iff.1 hq
      exact ⟨hk, by rw [he]; exact h⟩
  · cases h

theorem look_none {s : List (Option α)} {i : Int} (h : look s i = none) : i < 0 ∨ (s.length : Int) ≤ i ∨ ∃ (hk : i.toNat < s.length), s[i.toNat] = none := by
  unfold look at h
  split at h
  · rcases Nat.lt_or_ge i.toNat s.length with hk | hk
    · rw [List.getElem?_eq_getElem hk] at h
      exact .inr (.inr ⟨hk, h⟩)
    · exact .inr (.inl (by omega))
  · exact .inl (by omega)

/-- The number that the next one gets, and the places behind it. -/
def nextOf (s : List (Option α)) (fr : List Nat) : Nat := fr.getLast?.getD s.length
def takeS (s : List (Option α)) (fr : List Nat) (x : α) : List (Option α) := if fr = [] then s ++ [some x] else s.set (nextOf s fr) (some x)

theorem ArOk.take {s : List (Option α)} {fr : List Nat} (h : ArOk s fr) (x : α) : ArOk (takeS s fr x) fr.dropLast := by
  rcases List.eq_nil_or_concat fr with rfl | ⟨fr, i, rfl⟩
  · refine ⟨by simp, fun i => ?_⟩
    have h0 : ¬ s[i]? = some none := fun e => by have := (h.iff i).2 e; simp at this
    simp only [takeS, if_pos, List.dropLast_nil]
    rw [List.getElem?_append]
    split
    · simpa using h0
    · rename_i hl
      cases hq : i - s.length with
      | zero => simp
      | succ j => simp
  · have h1 := h.nodup
    rw [List.concat_eq_append] at h1
    rw [List.nodup_append] at h1
    have hi : i ∉ fr := fun hm => h1.2.2 i hm i (by simp) rfl
    have hs : s[i]? = some none := (h.iff i).1 (by simp)
    have hl := (List.getElem?_eq_some_iff.1 hs).1
    simp only [List.concat_eq_append, List.dropLast_concat]
    refine ⟨h1.1, fun j => ?_⟩
    have hj := h.iff j
    simp only [takeS, nextOf, List.append_eq_nil_iff, List.cons_ne_nil, and_false, if_false, List.getLast?_append, List.getLast?_singleton, Option.some_or, Option.getD_some]
    rw [List.getElem?_set]
    by_cases hij : i = j
    · subst hij
      simp [hi, hl]
    · rw [if_neg hij, ← hj]
      simp [Ne.symm hij]

theorem ArOk.put {s : List (Option α)} {fr : List Nat} (h : ArOk s fr) {k : Nat} {y : α} (hk : s[k]? = some (some y)) (x : α) : ArOk (s.set k (some x)) fr := by
  refine ⟨h.nodup, fun i => ?_⟩
  rw [h.iff i, List.getElem?_set]
  by_cases hik : k = i
  · subst hik
    rw [if_pos rfl, if_pos (List.getElem?_eq_some_iff.1 hk).1, hk]
    simp
  · rw [if_neg hik]

theorem ArOk.free {s : List (Option α)} {fr : List Nat} (h : ArOk s fr) {k : Nat} {y : α} (hk : s[k]? = some (some y)) : ArOk (s.set k none) (fr ++ [k]) := by
  have hn : k ∉ fr := fun hm => by rw [(h.iff k).1 hm] at hk; cases hk
  refine ⟨by rw [List.nodup_append]; exact ⟨h.nodup, by simp, fun a ha b hb e => by simp at hb; subst hb; subst e; exact hn ha⟩, fun i => ?_⟩
  rw [List.mem_append, h.iff i, List.getElem?_set]
  by_cases hik : k = i
  · subst hik
    rw [if_pos rfl, if_pos (List.getElem?_eq_some_iff.1 hk).1]
    simp
  · rw [if_neg hik]
    simp [Ne.symm hik]

/-- The thing at a place. -/
def gt (s : List (Option α)) (i : Nat) : Option α := (s[i]?).join

theorem gt_some {s : List (Option α)} {i : Nat} {x : α} : gt s i = some x ↔ s[i]? = some (some x) := by
  unfold gt
  cases h : s[i]? with
  | none => simp
  | some o => simp

theorem gt_set {s : List (Option α)} {k : Nat} (hk : k < s.length) (o : Option α) (i : Nat) : gt (s.set k o) i = if i = k then o else gt s i := by
  unfold gt
  rw [List.getElem?_set]
  by_cases h : k = i
  · subst h; rw [if_pos rfl, if_pos hk, if_pos rfl]; rfl
  · rw [if_neg h, if_neg (fun e => h e.symm)]

theorem gt_lt {s : List (Option α)} {i : Nat} {x : α} (h : gt s i = some x) : i < s.length := (List.getElem?_eq_some_iff.1 (gt_some.1 h)).1

theorem gt_takeS {s : List (Option α)} {fr : List Nat} (h : ArOk s fr) (x : α) (i : Nat) : gt (takeS s fr x) i = if i = nextOf s fr then some x else gt s i := by
  rcases List.eq_nil_or_concat fr with rfl | ⟨fr, j, rfl⟩
  · have e1 : takeS s [] x = s ++ [some x] := by simp [takeS]
    have e2 : nextOf s [] = s.length := by simp [nextOf]
    rw [e1, e2]
    unfold gt
    by_cases hi : i = s.length
    · subst hi; rw [if_pos rfl, List.getElem?_append_right (Nat.le_refl _), Nat.sub_self]; rfl
    · rw [if_neg hi]
      by_cases hl : i < s.length
      · rw [List.getElem?_append_left hl]
      · rw [List.getElem?_eq_none (by simp; omega), List.getElem?_eq_none (by omega)]
  · rw [List.concat_eq_append] at h ⊢
    have hj : s[j]? = some none := (h.iff j).1 (by simp)
    have e1 : takeS s (fr ++ [j]) x = s.set j (some x) := by simp [takeS, nextOf]
    have e2 : nextOf s (fr ++ [j]) = j := by simp [nextOf]
    rw [e1, e2, gt_set (List.getElem?_eq_some_iff.1 hj).1]

theorem gt_next {s : List (Option α)} {fr : List Nat} (h : ArOk s fr) : gt s (nextOf s fr) = none := by
  rcases List.eq_nil_or_concat fr with rfl | ⟨fr, j, rfl⟩
  · have e2 : nextOf s [] = s.length := by simp [nextOf]
    rw [e2]
    unfold gt
    rw [List.getElem?_eq_none (Nat.le_refl _)]
    rfl
  · rw [List.concat_eq_append] at h ⊢
    have hj : s[j]? = some none := (h.iff j).1 (by simp)
    have e2 : nextOf s (fr ++ [j]) = j := by simp [nextOf]
    rw [e2]
    unfold gt
    rw [hj]
    rfl

theorem takeS_le {s : List (Option α)} {fr : List Nat} (x : α) : (takeS s fr x).length ≤ s.length + 1 := by
  unfold takeS
  split
  · rw [List.length_append, List.length_singleton]; exact Nat.le_refl _
  · rw [List.length_set]; omega

end Go.Proofs.Ytmfkdaannjibfaa
