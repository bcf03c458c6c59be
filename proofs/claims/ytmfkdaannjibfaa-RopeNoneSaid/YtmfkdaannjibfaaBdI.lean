/-
  Several texts in one: RoW, RoX.
-/
import Derived.Deep.RegionLaw
import Derived.Deep.DeepCutAuto
import Derived.Deep.CutRange
import Derived.Test.YtmfkdaannjibfaaBdH

namespace Go.Proofs.Ytmfkdaannjibfaa
open Go.RowKit

set_option maxRecDepth 100000 in
set_option maxHeartbeats 1000000 in
theorem split_nil {w : World} {F : Nat → Prop} {gT gA : Nat} {root : Int} {s : List (Option Nd)} {fr : List Nat} (h : TreeW w F gT gA root s fr) (p : Nat) (a : Int) :
    Calls Try.prog 54 #[.pointer (some ⟨gT, 0, none⟩), .int .i64 (-1), .int .i64 a] w fun e w' => ∃ v, e = .returned v ∧ PostS w F gT gA root s p [] a v w' := by
  have HW := Lib.hid h
  clear h
  go_enter Try.func54, Try.ntmps54
  go_wp2_with fail
  go_ret2
  exact ⟨.tuple #[.int .i64 (-1), .int .i64 (-1)], rfl, F, fr, s, .nil, .nil, rfl, HW.out, trivial, trivial, rfl, rfl, fun _ _ _ => rfl, by omega, Grow.refl _ _⟩

theorem split_any {F : Nat → Prop} {gT gA : Nat} {root : Int} {s : List (Option Nd)} {fr : List Nat} : ∀ (T : Tr) (w : World), TreeW w F gT gA root s fr → Holds s T → OkL T.nodes → s.length < 90000 → ∀ (a : Int), -1000000000000 ≤ a → a ≤ 1000000000000 →
    Calls Try.prog 54 #[.pointer (some ⟨gT, 0, none⟩), .int .i64 T.rt, .int .i64 a] w fun e w' => ∃ v, e = .returned v ∧ PostS w F gT gA root s (nextOf s fr) T.nodes a v w'
  | .nil, w, h, _, _, _, a, _, _ => split_nil h _ a
  | .nd k u L R, w, h, hT, ho, hl, a, h1, h2 => by
    have hp := gt_next h.ok
    by_cases ha : a ≤ L.z
    · exact split_left h hT ho hp hl a h1 h2 ha (fun w h a h1 h2 => split_any L w h hT.2.1 ho.left hl a h1 h2)
    · by_cases hb : L.z + sizeT u ≤ a
      · exact split_right h hT ho hp hl a h1 h2 (by omega) hb (fun w h a h1 h2 => split_any R w h hT.2.2 ho.right.tail hl a h1 h2)
      · exact split_mid h hT ho hp hl a h1 h2 (by omega) (by omega) rfl

def sumT : List Th → Int
  | [] => 0
  | x :: l => sizeT x + sumT l
theorem sumT_append (A B : List Th) : sumT (A ++ B) = sumT A + sumT B := by
  induction A with
  | nil => simp [sumT]
  | cons p A ih => rw [List.cons_append, sumT, sumT, ih]; omega
theorem sumT_nonneg {l : List Th} (h : ∀ x ∈ l, okT x) : 0 ≤ sumT l := by
  induction l with
  | nil => exact Int.le_refl 0
  | cons x l ih =>
    have h1 := ih (fun y hy => h y (by simp [hy]))
    have h2 := sizeT_ok (h x (by simp))
    rw [sumT]
    omega
theorem sumT_of (L : List (Nat × Th)) : sumZ L = sumT (L.map (·.2)) := by
  induction L with
  | nil => rfl
  | cons p L ih => rw [sumZ, List.map_cons, sumT, ih]

/-- A thing is put behind a list, melded with its last one where it may be. -/
def meldStep (O : List Th) (x : Th) : List Th :=
  if sizeT x = 0 then O else
  match O.getLast? with
  | none => O ++ [x]
  | some y => if meldB y x then O.dropLast ++ [meldT y x] else O ++ [x]
def meldL (l : List Th) : List Th := l.foldl meldStep []

theorem meldL_take {l : List Th} {j : Nat} {x : Th} (h : l[j]? = some x) : meldL (l.take (j + 1)) = meldStep (meldL (l.take j)) x := by
  rw [List.take_add_one, h]
  simp [meldL]

theorem meldStep_ok {O : List Th} {x : Th} (hO : ∀ y ∈ O, okT y) (hx : okT x) (hs : sumT O + sizeT x ≤ 1000000000) :
    (∀ y ∈ meldStep O x, okT y) ∧ sumT (meldStep O x) = sumT O + sizeT x ∧ (meldStep O x).length ≤ O.length + 1 := by
  unfold meldStep
  split
  · next h => exact ⟨hO, by omega, by omega⟩
  · have happ : (∀ y ∈ O ++ [x], okT y) ∧ sumT (O ++ [x]) = sumT O + sizeT x ∧ (O ++ [x]).length ≤ O.length + 1 :=
      ⟨fun y hy => by rcases List.mem_append.1 hy with h | h; exact hO y h; rw [List.mem_singleton] at h; exact h ▸ hx, by rw [sumT_append, sumT, sumT]; omega, by simp⟩
    rcases List.eq_nil_or_concat O with rfl | ⟨P, y, rfl⟩
    · exact happ
    · rw [List.concat_eq_append] at *
      rw [List.getLast?_append, List.getLast?_singleton]
      simp only [Option.some_or]
      split
      · next hm =>
        have h1 := sumT_nonneg (l := P) (fun z hz => hO z (by simp [hz]))
        rw [sumT_append, sumT, sumT] at hs
        have hok := meld_ok (hO y (by simp)) hx (by omega) hm
        rw [List.dropLast_concat]
        refine ⟨fun z hz => ?_, ?_, by simp⟩
        · rcases List.mem_append.1 hz with h | h
          · exact hO z (by simp [h])
          · rw [List.mem_singleton] at h; exact h ▸ hok.1
        · rw [sumT_append, sumT_append, sumT, sumT, sumT, sumT, hok.2]; omega
      · exact happ

theorem meldF_ok : ∀ (l O : List Th), (∀ y ∈ O, okT y) → (∀ y ∈ l, okT y) → sumT O + sumT l ≤ 1000000000 →
    (∀ y ∈ l.foldl meldStep O, okT y) ∧ sumT (l.foldl meldStep O) = sumT O + sumT l ∧ (l.foldl meldStep O).length ≤ O.length + l.length
  | [], O, hO, _, _ => ⟨hO, by rw [sumT, List.foldl_nil]; omega, by simp⟩
  | x :: l, O, hO, hl, hs => by
    have hn := sumT_nonneg (l := l) (fun y hy => hl y (by simp [hy]))
    rw [sumT] at hs
    obtain ⟨a1, a2, a3⟩ := meldStep_ok hO (hl x (by simp)) (by omega)
    obtain ⟨b1, b2, b3⟩ := meldF_ok l (meldStep O x) a1 (fun y hy => hl y (by simp [hy])) (by omega)
    rw [List.foldl_cons]
    exact ⟨b1, by rw [b2, a2, sumT]; omega, by rw [List.length_cons]; omega⟩
theorem meldL_ok {l : List Th} (h : ∀ y ∈ l, okT y) (hs : sumT l ≤ 1000000000) : (∀ y ∈ meldL l, okT y) ∧ sumT (meldL l) = sumT l ∧ (meldL l).length ≤ l.length := by
  have := meldF_ok l [] (fun _ h => by cases h) h (by rw [sumT]; omega)
  simpa [sumT, meldL] using this

/-- Things as a row's cells. -/
def rowT (l : List Th) : List Value := l.flatMap encT
theorem rowT_len (l : List Th) : (rowT l).length = l.length * 33 := flat_len encT 33 encT_len l
theorem rowT_append (a b : List Th) : rowT (a ++ b) = rowT a ++ rowT b := List.flatMap_append
theorem rowT_one (x : Th) : rowT [x] = encT x := by simp [rowT]
theorem rowT_oneCell (l : List Th) : ∀ v ∈ rowT l, v.oneCell' = true := fun v hv => by
  obtain ⟨x, _, hx⟩ := List.mem_flatMap.1 hv
  exact encT_one x v hx
/-- A row of things of one's own. -/
def OwnT (w : World) (base : Nat) (v : Value) (l : List Th) : Prop := w.ownsRow base 58 33 v l.length (rowT l)

theorem own_later {w w' : World} {base : Nat} {e : TypeId} {size : Nat} {v : Value} {n : Nat} {xs : List Value} (h : w.ownsRow base e size v n xs) (hb : Below w.heap.size w w') : w'.ownsRow base e size v n xs :=
  own_below h hb (fun g hg => (h.lt g hg).2)
theorem OwnT.later {w w' : World} {base : Nat} {v : Value} {l : List Th} (h : OwnT w base v l) (hb : Below w.heap.size w w') : OwnT w' base v l := own_later h hb

theorem own_stores {base : Nat} {e : TypeId} {size g n cap : Nat} : ∀ (vs : List Value) (w : World) (xs : List Value) (o : Nat), w.ownsRow base e size (.slice (some ⟨g, 0, none⟩) n cap) n xs →
    (w.setCells g o vs).ownsRow base e size (.slice (some ⟨g, 0, none⟩) n cap) n (setMany xs o vs)
  | [], _, _, _, h => h
  | v :: vs, w, xs, o, h => by
    rw [World.setCells, setMany]
    exact own_stores vs _ _ (o + 1) (h.stored o v).1

/-- An element is written. -/
theorem OwnT.set {w : World} {base g cap : Nat} {l : List Th} (h : OwnT w base (.slice (some ⟨g, 0, none⟩) l.length cap) l) {k : Nat} (hk : k < l.length) (x : Th) :
    OwnT (w.setCells g (k * 33) (encT x)) base (.slice (some ⟨g, 0, none⟩) l.length cap) (l.set k x) := by
  have h1 := own_stores (encT x) w (rowT l) (k * 33) h
  rw [rowT, setMany_flat encT 33 encT_len l k x hk (encT x) (by rw [encT_len]; exact Nat.le_refl _) (fun _ _ => rfl) (fun j h1 h2 => by rw [encT_len] at h1; omega)] at h1
  unfold OwnT
  rw [List.length_set]
  exact h1

theorem thing_info4 : (Try.prog.info? 58).map (fun i => (i.zero, i.size, i.bytes)) = some (some (.agg #[.int .i32 0, .int .i32 0, .int .i32 0, .int .i32 0, .int .i32 0, .int .i32 0, .int .i32 0, .int .i32 0, .int .i32 0, .int .i32 0, .int .i32 0, .int .i32 0, .int .i32 0, .int .i32 0, .int .i32 0, .int .i32 0, .int .i32 0, .int .i32 0, .int .i32 0, .int .i32 0, .int .i32 0, .int .i32 0, .int .i32 0, .int .i32 0, .int .i32 0, .int .i32 0, .int .i32 0, .int .i32 0, .int .i32 0, .int .i32 0, .int .i32 0, .int .i32 0, .int .i64 0]), 33, 136) := by kernel_rfl

/-- A slice of one thing. -/
theorem run_things (x : Th) (w : World) : (Instr.buildSlice 60 1 #[(0, .agg (encT x).toArray)]).run Try.prog w = .ok (.slice (some ⟨w.heap.size, 0, none⟩) 1 1) (w.alloc (.cells (encT x).toArray 58)) := by
  obtain ⟨a0, a1, a2, a3, a4, a5, a6, a7, a8, a9, a10, a11, a12, a13, a14, a15, a16, a17, a18, a19, a20, a21, a22, a23, a24, a25, a26, a27, a28, a29, a30, a31, a32, e⟩ := list_K (encT x) (encT_len x)
  rw [e]
  kernel_rfl

theorem exec_slice1 {P : Program} {o : Oper} {ev : Operand → Value} {w w' : World} {v : Value} (t : TypeId) (x : Operand) (ho : o.op = .buildSlice t 1 #[(0, x)]) (u : Value) (hx : ev x = u)
    (h : (Instr.buildSlice t 1 #[(0, u)]).run P w = .ok v w') : (execOp ev o).run P w = .ok (.value v) w' := by
  subst hx
  unfold execOp
  simp only [ho, Sem.run_bind, List.map_toArray, List.map_cons, List.map_nil, h, Result.andThen_ok, Sem.run_pure]

theorem Sees.things {w : World} {b : Nat} {l : List Th} (h : w.heap[b]? = some (.cells (rowT l).toArray 58)) : Sees w (b + 1) 33 (some ⟨b, 0, none⟩) l.length (rowT l) :=
  ⟨rowT_len l, fun _ => ⟨b, 0, rfl, by omega, fun j u hu => by rw [cell_of_row w b _ _ _ _ h, Nat.zero_add]; simpa using hu⟩⟩

/-- A thing of a slice of things. -/
theorem Sees.thing {w : World} {B n : Nat} {A : Option Addr} {l : List Th} (h : Sees w B 33 A n (rowT l)) {k : Nat} {x : Th} (hx : l[k]? = some x) :
    n = l.length ∧ ∃ b o, A = some ⟨b, o, none⟩ ∧ b < B ∧ w.rangeAt b (o + k * 33) (encT x) := by
  have hn : n = l.length := by have h1 := h.1; rw [rowT_len] at h1; omega
  have hk := (List.getElem?_eq_some_iff.1 hx).1
  obtain ⟨b, o, hA, hb, hc⟩ := h.2 (by omega)
  refine ⟨hn, b, o, hA, hb, fun j v hv => ?_⟩
  have hj : j < 33 := by have := (List.getElem?_eq_some_iff.1 hv).1; rw [encT_len] at this; exact this
  rw [Nat.add_assoc]
  refine hc _ v ?_
  rw [rowT, flat_get encT 33 encT_len l k j hj, hx]
  exact hv

theorem OwnT.shape {w : World} {base : Nat} {v : Value} {l : List Th} (h : OwnT w base v l) : ∃ A c, v = .slice A l.length c ∧ l.length ≤ c ∧ c ≤ maxLen := by
  obtain ⟨A, c, hv, h1, h2, _⟩ := own_shape h
  exact ⟨A, c, hv, h1, h2⟩

theorem OwnT.thing {w : World} {base : Nat} {A : Option Addr} {n c : Nat} {l : List Th} (h : OwnT w base (.slice A n c) l) {k : Nat} {x : Th} (hx : l[k]? = some x) :
    n = l.length ∧ ∃ b, A = some ⟨b, 0, none⟩ ∧ base ≤ b ∧ b < w.heap.size ∧ w.rangeAt b (k * 33) (encT x) ∧ w.there b (k * 33) 33 := by
  obtain ⟨hk, he⟩ := List.getElem?_eq_some_iff.1 hx
  obtain ⟨b, c', hv, _, h1, h2, h3, h4⟩ := row_range encT encT_len (show w.ownsRow base 58 33 (.slice A n c) l.length (l.flatMap encT) from h) rfl hk
  simp only [Value.slice.injEq] at hv
  rw [he] at h3
  exact ⟨hv.2.1, b, hv.1, h1, h2, h3, h4⟩

end Go.Proofs.Ytmfkdaannjibfaa

namespace Go.Proofs.Ytmfkdaannjibfaa
open Go.RowKit

theorem encT_size (t : Th) : (encT t).toArray.size = 33 := by rw [List.size_toArray, encT_len]

set_option maxRecDepth 100000 in
set_option maxHeartbeats 8000000 in
theorem melded_any {w : World} {F : Nat → Prop} {gT gA : Nat} {root : Int} {s : List (Option Nd)} {fr : List Nat} (h : TreeW w F gT gA root s fr) {B c : Nat} {A : Option Addr} {l : List Th} (hl : Sees w B 33 A l.length (rowT l)) (hB : B ≤ w.heap.size) (hc : l.length ≤ c) (ho : ∀ x ∈ l, okT x) (hs : sumT l ≤ 1000000000) (hn : l.length ≤ 200000) :
    Calls Try.prog 59 #[.pointer (some ⟨gT, 0, none⟩), .slice A l.length c] w fun e w' => ∃ v, e = .returned v ∧ OwnT w' w.heap.size v (meldL l) ∧ Below w.heap.size w w' := by
  obtain ⟨i0, ii0, iz0, iz1, iz2⟩ := info_parts thing_info4
  have HW := Lib.hid (fun (w1 : World) (hb : Below w.heap.size w w1) => h.below hb)
  have HL := Lib.hid (fun (w1 : World) (hb : Below w.heap.size w w1) => hl.below hb hB)
  have HO := Lib.hid (And.intro ho hs)
  obtain ⟨nl, hnl⟩ : ∃ n, l.length = n := ⟨_, rfl⟩
  have HN := Lib.hid hnl
  rw [hnl] at HL hn hc ⊢
  have h0 : (nl : Int) ≤ 200000 := by omega
  clear h hl ho hs hnl
  go_enter Try.func59, Try.ntmps59
  go_wp2_with fail
  go_loopw [4, 14] (fun v4 v14 wr => ∃ (k : Nat) (v : Value), k ≤ nl ∧ v = v4 ∧ v14 = .int .i64 k ∧ OwnT wr w.heap.size v (meldL (l.take k)) ∧ Below w.heap.size w wr) (fun _ v14 _ => nl - (intOf v14).toNat)
  case atStart => exact ⟨0, _, Nat.zero_le _, rfl, rfl, ⟨rfl, .inl ⟨rfl, rfl⟩⟩, Below.refl _ _⟩
  case round =>
    obtain ⟨k, v4, hk, rfl, rfl, hown, hbel⟩ := hrel
    by_cases hlt : k < nl
    · have hkI : (k : Int) < nl := by omega
      obtain ⟨x, hx⟩ : ∃ x, l[k]? = some x := ⟨_, List.getElem?_eq_getElem (by rw [HN.out]; exact hlt)⟩
      have hmem : x ∈ l := List.mem_of_getElem? hx
      have hokx := HO.out.1 x hmem
      obtain ⟨-, b, o, rfl, hbB, hr⟩ := (HL.out wr hbel).thing hx
      have HTK := Lib.hid (meldL_take hx)
      obtain ⟨O, hO⟩ : ∃ O, meldL (l.take k) = O := ⟨_, rfl⟩
      have hsum := HO.out.2
      have hsplit : l = l.take k ++ x :: l.drop (k + 1) := by
        have h1 := (List.getElem?_eq_some_iff.1 hx)
        rw [← h1.2, ← List.drop_eq_getElem_cons h1.1, List.take_append_drop]
      have hsn := sumT_nonneg (l := l.drop (k + 1)) (fun y hy => HO.out.1 y (List.mem_of_mem_drop hy))
      rw [hsplit, sumT_append, sumT] at hsum
      have hmo := meldL_ok (l := l.take k) (fun y hy => HO.out.1 y (List.mem_of_mem_take hy)) (by have := sizeT_ok hokx; omega)
      rw [hO] at HTK hown hmo
      have hOl : O.length ≤ 200000 := by have h1 := hmo.2.2; rw [List.length_take] at h1; omega
      have HMO := Lib.hid (show (∀ y ∈ O, okT y) ∧ okT x ∧ sumT O + sizeT x ≤ 1000000000 from ⟨hmo.1, hokx, by rw [hmo.2.1]; omega⟩)
      have HRx := Lib.hid (show wr.drew.rangeAt b (o + k * 33) (encT x) from hr)
      have HRx0 := Lib.hid hr
      have HM := Lib.hid (fun w1 => measure_any x w1)
      obtain ⟨zx, hzx⟩ : ∃ z, sizeT x = z := ⟨_, rfl⟩
      have HZ := Lib.hid hzx
      rw [hzx] at HM
      obtain ⟨bx, hbx⟩ : ∃ v, wr.heap.size = v := ⟨_, rfl⟩
      obtain ⟨w2, hw2⟩ : ∃ v, wr.alloc (.cells (encT x).toArray 58) = v := ⟨_, rfl⟩
      have B2 : Below wr.heap.size wr w2 := by rw [← hw2]; exact (Below.refl _ _).alloc (Nat.le_refl _) _
      have K2 := Lib.hid (hbel.trans (B2.mono hbel.size))
      have F2 := Lib.hid (show w2.heap[bx]? = some (.cells (encT x).toArray 58) by rw [← hw2, ← hbx]; exact heap_alloc_new wr _)
      have O2 := Lib.hid (OwnT.later hown B2)
      have HE := Lib.hid (And.intro hw2 hbx)
      clear hx hmem hokx hr hO hsum hsplit hsn hmo hzx hbx hw2 B2 hown hbel
      go_upto_region 4 with (first
        | (refine wpList_load_mid rfl 58 (.tmp 16) rfl b (o + k * 33) rfl (encT x) _ HRx0.out Try.underlying58 rfl (thing_info x) ?_)
        | (refine wpList_store_row rfl 58 (.tmp 6) (.tmp 17) rfl wr.heap.size (encT x).toArray rfl rfl 58 _ (heap_alloc_new wr _) (by rw [List.size_toArray]; exact thing_info _) ((by rfl : _ = 33).trans (encT_size _).symm) (all_oneCell_toArray (encT_one _)) ?_; rw [alloc_setRow, HE.out.1, HE.out.2]))
      refine wp_region_held_drew (S := fun w' => w'.cell? ⟨gT, 0, none⟩ = some (.func (.func 46) #[] #[]) ∧ w'.heap[bx]? = some (.cells (encT x).toArray 58)) (by kernel_rfl) ⟨(HW.out w2 K2.out).cM, F2.out⟩ (fun hHeld => ?_)
      try dsimp only at hHeld
      refine take_at (i := 0) (v := ?_) (some 19) rfl rfl (by kernel_rfl) (by kernel_rfl) (by kernel_rfl) (fun _ _ _ h => h) hHeld (by rfl) (fun wS hSw => ?_) ?_
      rotate_left
      · try dsimp only at hSw
        go_simp
        try with_reducible rfl
      try simp only [Act.put, List.setIfInBounds_toArray, List.set_cons_zero, List.set_cons_succ]
      refine take_at (i := 1) (v := ?_) (some 20) rfl rfl (by kernel_rfl) (by kernel_rfl) (by kernel_rfl) (fun _ _ _ h => h) hHeld (by rfl) (fun wS hSw => ?_) ?_
      rotate_left
      · try dsimp only at hSw
        go_simp
        try with_reducible rfl
      try simp only [Act.put, List.setIfInBounds_toArray, List.set_cons_zero, List.set_cons_succ]
      refine take_at (i := 2) (v := ?_) (some 21) rfl rfl (by kernel_rfl) (by kernel_rfl) (by kernel_rfl) (fun _ _ _ h => h) hHeld (by rfl) (fun wS hSw => ?_) ?_
      rotate_left
      · try dsimp only at hSw
        go_simp
        try with_reducible rfl
      try simp only [Act.put, List.setIfInBounds_toArray, List.set_cons_zero, List.set_cons_succ]
      refine take_at (i := 3) (v := ?_) (some 22) rfl rfl (by kernel_rfl) (by kernel_rfl) (by kernel_rfl) (fun _ _ _ h => h) hHeld (by rfl) (fun wS hSw => ?_) ?_
      rotate_left
      · try dsimp only at hSw
        go_simp
        try with_reducible rfl
      try simp only [Act.put, List.setIfInBounds_toArray, List.set_cons_zero, List.set_cons_succ]
      refine take_at (i := 4) (v := ?_) (some 23) rfl rfl (by kernel_rfl) (by kernel_rfl) (by kernel_rfl) (fun _ _ _ h => h) hHeld (by rfl) (fun wS hSw => ?_) ?_
      rotate_left
      · have hS1 := hSw.1
        try dsimp only at hSw
        go_simp
        try with_reducible rfl
      try simp only [Act.put, List.setIfInBounds_toArray, List.set_cons_zero, List.set_cons_succ]
      refine take_at (i := 5) (v := ?_) (some 24) rfl rfl (by kernel_rfl) (by kernel_rfl) (by kernel_rfl) (fun _ _ _ h => h) hHeld (by rfl) (fun wS hSw => ?_) ?_
      rotate_left
      · refine exec_load_row 58 (.tmp 6) ?_ bx ?_ 58 (encT x).toArray (0, 0) _ hSw.2 Try.underlying58 rfl (by rw [List.size_toArray]; exact thing_info _) <;> rfl
      try simp only [Act.put, List.setIfInBounds_toArray, List.set_cons_zero, List.set_cons_succ]
      refine wpAnyH_ready (rs := [6]) (by kernel_rfl) (by simp) ?_
      refine AllReadyH.cons rfl (fun K hK => ?_) AllReadyH.nil
      simp only [List.getElem_toArray, List.getElem_cons_succ, List.getElem_cons_zero]
      go_simp
      refine (HM.out _).mono ?_
      rintro e w3 ⟨rfl, hb3⟩
      have hH3 : w3.cell? ⟨gT, 0, none⟩ = some (.func (.func 46) #[] #[]) ∧ w3.heap[bx]? = some (.cells (encT x).toArray 58) := ⟨cell_later hHeld.1 hb3, heap_later hHeld.2 hb3⟩
      have K3 := Lib.hid (K2.out.drew.trans (hb3.mono K2.out.size))
      have F3 := Lib.hid hH3.2
      have O3 := Lib.hid (show OwnT w3 w.heap.size v4 O from OwnT.later (show OwnT w2.drew w.heap.size v4 O from O2.out) hb3)
      clear hb3
      try dsimp only
      have hOld := hHeld
      refine hK.out _ _ hH3 (fun _ => ?_)
      clear hK K
      refine wpAnyH_mono (S2 := fun w' => w'.cell? ⟨gT, 0, none⟩ = some (.func (.func 46) #[] #[]) ∧ w'.heap[bx]? = some (.cells (encT x).toArray 58)) (fun _ h => h) _ _ _ _ ?_
      clear hHeld
      have hHeld := hH3
      clear hOld
      try simp only [Act.put, List.setIfInBounds_toArray, List.set_cons_zero, List.set_cons_succ]
      refine take_at (i := 7) (v := ?_) (some 18) rfl rfl (by kernel_rfl) (by kernel_rfl) (by kernel_rfl) (fun _ _ _ h => h) hHeld (by rfl) (fun wS hSw => ?_) ?_
      rotate_left
      · try dsimp only at hSw
        go_simp
        try with_reducible rfl
      try simp only [Act.put, List.setIfInBounds_toArray, List.set_cons_zero, List.set_cons_succ]
      refine take_at (i := 8) (v := ?_) (some 26) rfl rfl (by kernel_rfl) (by kernel_rfl) (by kernel_rfl) (fun _ _ _ h => h) hHeld (by rfl) (fun wS hSw => ?_) ?_
      rotate_left
      · try dsimp only at hSw
        go_simp
        try with_reducible rfl
      try simp only [Act.put, List.setIfInBounds_toArray, List.set_cons_zero, List.set_cons_succ]
      refine take_at (i := 9) (v := ?_) (some 27) rfl rfl (by kernel_rfl) (by kernel_rfl) (by kernel_rfl) (fun _ _ _ h => h) hHeld (by rfl) (fun wS hSw => ?_) ?_
      rotate_left
      · try dsimp only at hSw
        go_simp
        try with_reducible rfl
      try simp only [Act.put, List.setIfInBounds_toArray, List.set_cons_zero, List.set_cons_succ]
      refine take_at (i := 10) (v := ?_) (some 7) rfl rfl (by kernel_rfl) (by kernel_rfl) (by kernel_rfl) (fun _ _ _ h => h) hHeld (by rfl) (fun wS hSw => ?_) ?_
      rotate_left
      · try dsimp only at hSw
        go_simp
        try with_reducible rfl
      try simp only [Act.put, List.setIfInBounds_toArray, List.set_cons_zero, List.set_cons_succ]
      refine take_at (i := 11) (v := ?_) (some 8) rfl rfl (by kernel_rfl) (by kernel_rfl) (by kernel_rfl) (fun _ _ _ h => h) hHeld (by rfl) (fun wS hSw => ?_) ?_
      rotate_left
      · try dsimp only at hSw
        go_simp
        try with_reducible rfl
      try simp only [Act.put, List.setIfInBounds_toArray, List.set_cons_zero, List.set_cons_succ]
      refine wpAnyH_done (by kernel_rfl) ?_ _
      clear hHeld hH3
      by_cases hz : zx = 0
      · have hz1 : (zx == 0) = true := by simpa using hz
        have HSA := Lib.hid (show meldStep O x = O by unfold meldStep; rw [HZ.out, if_pos hz])
        clear hz
        go_wp2_with fail
        go_roundw
        case rel => exact ⟨k + 1, _, by omega, rfl, by go_num, by rw [HTK.out, HSA.out]; exact O3.out, K3.out⟩
        case measure => simp [intOf]; omega
      · have hz1 : (zx == 0) = false := by simpa using hz
        obtain ⟨A4, c4, rfl, hc4, hm4⟩ := O3.out.shape
        obtain ⟨nO, hnO⟩ : ∃ n, O.length = n := ⟨_, rfl⟩
        have HNO := Lib.hid hnO
        have O3' := O3.out
        rw [hnO] at O3' hc4 hOl ⊢
        have O3 := Lib.hid O3'
        clear O3' hnO O2
        rcases Nat.eq_zero_or_pos nO with rfl | hpos
        · have HSA := Lib.hid (show meldStep O x = O ++ [x] by have e : O = [] := List.eq_nil_of_length_eq_zero HNO.out; unfold meldStep; rw [HZ.out, if_neg hz, e]; rfl)
          clear hz
          go_upto_region 11 with fail
          obtain ⟨bz, hbz⟩ : ∃ v, w3.heap.size = v := ⟨_, rfl⟩
          obtain ⟨wa, hwa⟩ : ∃ v, w3.alloc (.cells (encT x).toArray 58) = v := ⟨_, rfl⟩
          have Ba : Below w3.heap.size w3 wa := by rw [← hwa]; exact (Below.refl _ _).alloc (Nat.le_refl _) _
          have Ka := Lib.hid (K3.out.trans (Ba.mono K3.out.size))
          have Oa := Lib.hid (OwnT.later O3.out Ba)
          have Sa := Lib.hid (show Sees wa (bz + 1) 33 (some ⟨bz, 0, none⟩) 1 (rowT [x]) from Sees.things (by rw [rowT_one, ← hwa, ← hbz]; exact heap_alloc_new _ _))
          have HR := Lib.hid (run_things x w3)
          rw [hwa, hbz] at HR
          clear hwa hbz Ba
          go_wp2_with (first
            | (refine wpList_load_row rfl 58 (.tmp 6) rfl bx rfl 58 (encT x).toArray (0, 0) _ F3.out Try.underlying58 rfl (by rw [List.size_toArray]; exact thing_info _) ?_)
            | (refine wpList_known _ rfl (v := .slice (some ⟨bz, 0, none⟩) 1 1) (w' := wa) (exec_slice1 60 (.tmp 55) rfl (.agg (encT x).toArray) rfl HR.out) ?_)
            | (at_builtin
               refine wpList_append_sees _ rfl _ _ _ rfl w.heap.size 58 i0 _ 33 136 Try.underlying60 ii0 iz0 iz1 iz2 rfl (by omega) _ 0 (rowT O) rfl (by have h1 := Oa.out; unfold OwnT at h1; rw [HNO.out] at h1; exact h1)  (bz + 1) _ 1 1 (rowT [x]) rfl Sa.out (rowT_oneCell _) (by simp only [maxLen]; omega) (by omega) Ka.out.size ?_
               intro v5 w5 hown5 hg5 hat5 hnil5
               have K5 := Lib.hid (Ka.out.grown hg5 Ka.out.size (fun g hg => own_base Oa.out hg))
               have O5 := Lib.hid (show OwnT w5 w.heap.size v5 (O ++ [x]) by unfold OwnT; rw [rowT_append, List.length_append, HNO.out]; exact hown5)
               clear hown5 hg5 hat5 hnil5))
          go_roundw
          case rel => exact ⟨k + 1, _, by omega, rfl, by go_num, by rw [HTK.out, HSA.out]; exact O5.out, K5.out⟩
          case measure => simp [intOf]; omega
        · obtain ⟨m, rfl⟩ : ∃ m, nO = m + 1 := ⟨nO - 1, by omega⟩
          obtain ⟨y, hy⟩ : ∃ y, O[m]? = some y := ⟨_, List.getElem?_eq_getElem (by rw [HNO.out]; omega)⟩
          have HSY := Lib.hid (show meldStep O x = if meldB y x then O.set m (meldT y x) else O ++ [x] by
            have hOy : O = O.take m ++ [y] := by
              have h1 := List.getElem?_eq_some_iff.1 hy
              have h2 := HNO.out
              rw [← h1.2, List.take_append_getElem, List.take_of_length_le (by omega)]
            have hl1 : (O.take m).length = m := by rw [List.length_take, HNO.out]; omega
            unfold meldStep
            rw [HZ.out, if_neg hz]
            generalize hP : O.take m = P at hOy hl1
            subst hOy
            rw [List.getLast?_append, List.getLast?_singleton]
            simp only [Option.some_or]
            rw [List.dropLast_concat, List.set_append_right _ _ (by omega), hl1, Nat.sub_self, List.set_cons_zero])
          obtain ⟨-, b4, rfl, hb4, hb4l, hr4, -⟩ := O3.out.thing hy
          have R3 := Lib.hid hr4
          have HB4 := Lib.hid (And.intro hb4 hb4l)
          have HYOK := Lib.hid (HMO.out.1 y (List.mem_of_getElem? hy))
          have HD := Lib.hid (fun w1 => meld_any y x w1 HYOK.out HMO.out.2.1)
          have hmI : (m : Int) ≤ 200000 := by omega
          have hmm : (m : Int) < (m : Int) + 1 := by omega
          have HMN := Lib.hid hy
          clear hz hy hr4 hb4 hb4l hpos
          go_upto_region 8 with fail
          go_cut [10, 11] from 35 to 48 (fun v10 v11 wz => ∃ by_ : Nat, v10 = .pointer (some ⟨by_, 0, none⟩) ∧ v11 = .bool (meldB y x) ∧ w3.heap.size ≤ by_ ∧ wz.heap[by_]? = some (.cells (encT (meldT y x)).toArray 58) ∧ Below w3.heap.size w3 wz)
          case first =>
            refine wp_region_held_drew (S := fun w' => w'.cell? ⟨gT, 2, none⟩ = some (.func (.func 51) #[] #[]) ∧ w'.heap[bx]? = some (.cells (encT x).toArray 58) ∧ w'.rangeAt b4 (m * 33) (encT y)) (by kernel_rfl) ⟨(HW.out w3 K3.out).cD, F3.out, R3.out⟩ (fun hHeld => ?_)
            try dsimp only at hHeld
            refine take_at (i := 0) (v := ?_) (some 36) rfl rfl (by kernel_rfl) (by kernel_rfl) (by kernel_rfl) (fun _ _ _ h => h) hHeld (by rfl) (fun wS hSw => ?_) ?_
            rotate_left
            · try dsimp only at hSw
              go_simp
              try with_reducible rfl
            try simp only [Act.put, List.setIfInBounds_toArray, List.set_cons_zero, List.set_cons_succ]
            refine take_at (i := 1) (v := ?_) (some 37) rfl rfl (by kernel_rfl) (by kernel_rfl) (by kernel_rfl) (fun _ _ _ h => h) hHeld (by rfl) (fun wS hSw => ?_) ?_
            rotate_left
            · try dsimp only at hSw
              go_simp
              try with_reducible rfl
            try simp only [Act.put, List.setIfInBounds_toArray, List.set_cons_zero, List.set_cons_succ]
            refine take_at (i := 2) (v := ?_) (some 38) rfl rfl (by kernel_rfl) (by kernel_rfl) (by kernel_rfl) (fun _ _ _ h => h) hHeld (by rfl) (fun wS hSw => ?_) ?_
            rotate_left
            · try dsimp only at hSw
              go_simp
              try with_reducible rfl
            try simp only [Act.put, List.setIfInBounds_toArray, List.set_cons_zero, List.set_cons_succ]
            refine take_at (i := 3) (v := ?_) (some 39) rfl rfl (by kernel_rfl) (by kernel_rfl) (by kernel_rfl) (fun _ _ _ h => h) hHeld (by rfl) (fun wS hSw => ?_) ?_
            rotate_left
            · try dsimp only at hSw
              go_simp
              try with_reducible rfl
            try simp only [Act.put, List.setIfInBounds_toArray, List.set_cons_zero, List.set_cons_succ]
            refine take_at (i := 4) (v := ?_) (some 40) rfl rfl (by kernel_rfl) (by kernel_rfl) (by kernel_rfl) (fun _ _ _ h => h) hHeld (by rfl) (fun wS hSw => ?_) ?_
            rotate_left
            · have hS1 := hSw.1
              try dsimp only at hSw
              go_simp
              try with_reducible rfl
            try simp only [Act.put, List.setIfInBounds_toArray, List.set_cons_zero, List.set_cons_succ]
            refine take_at (i := 5) (v := ?_) (some 41) rfl rfl (by kernel_rfl) (by kernel_rfl) (by kernel_rfl) (fun _ _ _ h => h) hHeld (by rfl) (fun wS hSw => ?_) ?_
            rotate_left
            · try dsimp only at hSw
              go_simp
              try with_reducible rfl
            try simp only [Act.put, List.setIfInBounds_toArray, List.set_cons_zero, List.set_cons_succ]
            refine take_at (i := 6) (v := ?_) (some 42) rfl rfl (by kernel_rfl) (by kernel_rfl) (by kernel_rfl) (fun _ _ _ h => h) hHeld (by rfl) (fun wS hSw => ?_) ?_
            rotate_left
            · try dsimp only at hSw
              go_simp
              try with_reducible rfl
            try simp only [Act.put, List.setIfInBounds_toArray, List.set_cons_zero, List.set_cons_succ]
            refine take_at (i := 7) (v := ?_) (some 43) rfl rfl (by kernel_rfl) (by kernel_rfl) (by kernel_rfl) (fun _ _ _ h => h) hHeld (by rfl) (fun wS hSw => ?_) ?_
            rotate_left
            · try dsimp only at hSw
              go_simp
              try with_reducible rfl
            try simp only [Act.put, List.setIfInBounds_toArray, List.set_cons_zero, List.set_cons_succ]
            refine take_at (i := 8) (v := ?_) (some 44) rfl rfl (by kernel_rfl) (by kernel_rfl) (by kernel_rfl) (fun _ _ _ h => h) hHeld (by rfl) (fun wS hSw => ?_) ?_
            rotate_left
            · refine exec_load_mid 58 (.tmp 43) ?_ b4 (m * 33) ?_ (encT y) _ hSw.2.2 Try.underlying58 rfl (thing_info _) <;> rfl
            try simp only [Act.put, List.setIfInBounds_toArray, List.set_cons_zero, List.set_cons_succ]
            refine take_at (i := 9) (v := ?_) (some 45) rfl rfl (by kernel_rfl) (by kernel_rfl) (by kernel_rfl) (fun _ _ _ h => h) hHeld (by rfl) (fun wS hSw => ?_) ?_
            rotate_left
            · refine exec_load_row 58 (.tmp 6) ?_ bx ?_ 58 (encT x).toArray (0, 0) _ hSw.2.1 Try.underlying58 rfl (by rw [List.size_toArray]; exact thing_info _) <;> rfl
            try simp only [Act.put, List.setIfInBounds_toArray, List.set_cons_zero, List.set_cons_succ]
            obtain ⟨wd, hwd⟩ : ∃ v, w3.drew = v := ⟨_, rfl⟩
            have hW0 := Lib.hid (show Below w3.heap.size w3 wd by rw [← hwd]; exact (Below.refl w3.heap.size w3).drew)
            rw [hwd] at hHeld
            rw [hwd]
            clear hwd
            refine wpAnyH_ready (rs := [10, 14]) (by kernel_rfl) (by simp) ?_
            refine AllReadyH.cons rfl (fun K hK => ?_) (AllReadyH.cons rfl (fun K hK => ?_) (AllReadyH.nil))
            · simp only [List.getElem_toArray, List.getElem_cons_succ, List.getElem_cons_zero]
              go_simp
              refine (HD.out _).mono ?_
              rintro e x1 ⟨rfl, hb1⟩
              have hW1 := Lib.hid (hW0.out.trans (hb1.mono hW0.out.size))
              clear hb1
              try dsimp only
              have hS1 : (fun w' => w'.cell? ⟨gT, 2, none⟩ = some (.func (.func 51) #[] #[]) ∧ w'.heap[bx]? = some (.cells (encT x).toArray 58) ∧ w'.rangeAt b4 (m * 33) (encT y)) x1 := ⟨(HW.out x1 (K3.out.trans (hW1.out.mono K3.out.size))).cD, heap_later F3.out hW1.out, range_below R3.out HB4.out.2 hW1.out⟩
              refine hK.out _ _ hS1 (fun hHeld => ?_)
              clear hK K
              try simp only [Act.put, List.setIfInBounds_toArray, List.set_cons_zero, List.set_cons_succ]
              refine take_at (i := 11) (v := ?_) (some 35) rfl rfl (by kernel_rfl) (by kernel_rfl) (by kernel_rfl) (fun _ _ _ h => h) hHeld (by rfl) (fun wS hSw => ?_) ?_
              rotate_left
              · try dsimp only at hSw
                go_simp
                try with_reducible rfl
              try simp only [Act.put, List.setIfInBounds_toArray, List.set_cons_zero, List.set_cons_succ]
              refine take_at (i := 12) (v := ?_) (some 47) rfl rfl (by kernel_rfl) (by kernel_rfl) (by kernel_rfl) (fun _ _ _ h => h) hHeld (by rfl) (fun wS hSw => ?_) ?_
              rotate_left
              · try dsimp only at hSw
                go_simp
                try with_reducible rfl
              try simp only [Act.put, List.setIfInBounds_toArray, List.set_cons_zero, List.set_cons_succ]
              refine take_at (i := 13) (v := ?_) (some 48) rfl rfl (by kernel_rfl) (by kernel_rfl) (by kernel_rfl) (fun _ _ _ h => h) hHeld (by rfl) (fun wS hSw => ?_) ?_
              rotate_left
              · try dsimp only at hSw
                go_simp
                try with_reducible rfl
              try simp only [Act.put, List.setIfInBounds_toArray, List.set_cons_zero, List.set_cons_succ]
              refine wpAnyH_ready (rs := [14]) (by kernel_rfl) (by simp) ?_
              refine AllReadyH.cons rfl (fun K hK => ?_) (AllReadyH.nil)
              · simp only [List.getElem_toArray, List.getElem_cons_succ, List.getElem_cons_zero]
                go_simp
                try dsimp only
                obtain ⟨x2, hw2⟩ : ∃ v, (x1).alloc (.cells #[.int .i32 0, .int .i32 0, .int .i32 0, .int .i32 0, .int .i32 0, .int .i32 0, .int .i32 0, .int .i32 0, .int .i32 0, .int .i32 0, .int .i32 0, .int .i32 0, .int .i32 0, .int .i32 0, .int .i32 0, .int .i32 0, .int .i32 0, .int .i32 0, .int .i32 0, .int .i32 0, .int .i32 0, .int .i32 0, .int .i32 0, .int .i32 0, .int .i32 0, .int .i32 0, .int .i32 0, .int .i32 0, .int .i32 0, .int .i32 0, .int .i32 0, .int .i32 0, .int .i64 0] 58) = v := ⟨_, rfl⟩
                obtain ⟨by_, hby⟩ : ∃ v, (x1).heap.size = v := ⟨_, rfl⟩
                have hb2 : Below (x1).heap.size (x1) x2 := by rw [← hw2]; exact (Below.refl _ _).alloc (Nat.le_refl _) _
                have fy2 : x2.heap[by_]? = some (.cells ([.int .i32 0, .int .i32 0, .int .i32 0, .int .i32 0, .int .i32 0, .int .i32 0, .int .i32 0, .int .i32 0, .int .i32 0, .int .i32 0, .int .i32 0, .int .i32 0, .int .i32 0, .int .i32 0, .int .i32 0, .int .i32 0, .int .i32 0, .int .i32 0, .int .i32 0, .int .i32 0, .int .i32 0, .int .i32 0, .int .i32 0, .int .i32 0, .int .i32 0, .int .i32 0, .int .i32 0, .int .i32 0, .int .i32 0, .int .i32 0, .int .i32 0, .int .i32 0, .int .i64 0] : List Value).toArray 58) := by rw [← hw2, ← hby]; exact heap_alloc_new _ _
                have hW2 := Lib.hid (hW1.out.trans (hb2.mono hW1.out.size))
                have lby := Lib.hid (show w3.heap.size ≤ by_ by rw [← hby]; exact hW1.out.size)
                rw [hw2, hby]
                clear hw2 hby hb2
                have hS2 : (fun w' => w'.cell? ⟨gT, 2, none⟩ = some (.func (.func 51) #[] #[]) ∧ w'.heap[bx]? = some (.cells (encT x).toArray 58) ∧ w'.rangeAt b4 (m * 33) (encT y)) x2 := ⟨(HW.out x2 (K3.out.trans (hW2.out.mono K3.out.size))).cD, heap_later F3.out hW2.out, range_below R3.out HB4.out.2 hW2.out⟩
                refine hK.out _ _ hS2 (fun hHeld => ?_)
                clear hK K
                try simp only [Act.put, List.setIfInBounds_toArray, List.set_cons_zero, List.set_cons_succ]
                refine wpAnyH_ready (rs := [15]) (by kernel_rfl) (by simp) ?_
                refine AllReadyH.cons rfl (fun K hK => ?_) (AllReadyH.nil)
                · simp only [List.getElem_toArray, List.getElem_cons_succ, List.getElem_cons_zero]
                  refine of_if (by rfl) ?_
                  refine wp_store_mid 58 (.tmp 10) (.tmp 47) rfl by_ 0 (encT (meldT y x)).toArray rfl rfl (there_row fy2 (by rw [List.size_toArray, encT_len]; exact Nat.le_refl _)) (by rw [List.size_toArray]; exact thing_info _) (all_oneCell_toArray (encT_one _)) ?_
                  rw [List.toList_toArray]
                  obtain ⟨x3, hw3⟩ : ∃ v, (x2).setCells by_ 0 (encT (meldT y x)) = v := ⟨_, rfl⟩
                  have fy3 : x3.heap[by_]? = some (.cells (encT (meldT y x)).toArray 58) := by rw [← hw3]; exact setCells_row fy2 (by rw [encT_len]; rfl)
                  have hW3 := Lib.hid (show Below w3.heap.size w3 x3 by rw [← hw3]; exact below_setCells lby.out _ _ _ hW2.out)
                  rw [hw3]
                  clear hw3
                  have hS3 : (fun w' => w'.cell? ⟨gT, 2, none⟩ = some (.func (.func 51) #[] #[]) ∧ w'.heap[bx]? = some (.cells (encT x).toArray 58) ∧ w'.rangeAt b4 (m * 33) (encT y)) x3 := ⟨(HW.out x3 (K3.out.trans (hW3.out.mono K3.out.size))).cD, heap_later F3.out hW3.out, range_below R3.out HB4.out.2 hW3.out⟩
                  refine hK.out _ _ hS3 (fun hHeld => ?_)
                  clear hK K
                  try simp only [Act.put]
                  refine take_at (i := 16) (v := ?_) (some 11) rfl rfl (by kernel_rfl) (by kernel_rfl) (by kernel_rfl) (fun _ _ _ h => h) hHeld (by rfl) (fun wS hSw => ?_) ?_
                  rotate_left
                  · try dsimp only at hSw
                    go_simp
                    try with_reducible rfl
                  try simp only [Act.put, List.setIfInBounds_toArray, List.set_cons_zero, List.set_cons_succ]
                  refine wpAnyH_done (by kernel_rfl) ?_ _
                  go_wp2_with fail
                  go_meet
                  case rel => exact ⟨by_, rfl, rfl, lby.out, fy3, hW3.out⟩
            · simp only [List.getElem_toArray, List.getElem_cons_succ, List.getElem_cons_zero]
              go_simp
              try dsimp only
              obtain ⟨x4, hw4⟩ : ∃ v, (wd).alloc (.cells #[.int .i32 0, .int .i32 0, .int .i32 0, .int .i32 0, .int .i32 0, .int .i32 0, .int .i32 0, .int .i32 0, .int .i32 0, .int .i32 0, .int .i32 0, .int .i32 0, .int .i32 0, .int .i32 0, .int .i32 0, .int .i32 0, .int .i32 0, .int .i32 0, .int .i32 0, .int .i32 0, .int .i32 0, .int .i32 0, .int .i32 0, .int .i32 0, .int .i32 0, .int .i32 0, .int .i32 0, .int .i32 0, .int .i32 0, .int .i32 0, .int .i32 0, .int .i32 0, .int .i64 0] 58) = v := ⟨_, rfl⟩
              obtain ⟨by_, hby⟩ : ∃ v, (wd).heap.size = v := ⟨_, rfl⟩
              have hb4 : Below (wd).heap.size (wd) x4 := by rw [← hw4]; exact (Below.refl _ _).alloc (Nat.le_refl _) _
              have fy4 : x4.heap[by_]? = some (.cells ([.int .i32 0, .int .i32 0, .int .i32 0, .int .i32 0, .int .i32 0, .int .i32 0, .int .i32 0, .int .i32 0, .int .i32 0, .int .i32 0, .int .i32 0, .int .i32 0, .int .i32 0, .int .i32 0, .int .i32 0, .int .i32 0, .int .i32 0, .int .i32 0, .int .i32 0, .int .i32 0, .int .i32 0, .int .i32 0, .int .i32 0, .int .i32 0, .int .i32 0, .int .i32 0, .int .i32 0, .int .i32 0, .int .i32 0, .int .i32 0, .int .i32 0, .int .i32 0, .int .i64 0] : List Value).toArray 58) := by rw [← hw4, ← hby]; exact heap_alloc_new _ _
              have hW4 := Lib.hid (hW0.out.trans (hb4.mono hW0.out.size))
              have lby := Lib.hid (show w3.heap.size ≤ by_ by rw [← hby]; exact hW0.out.size)
              rw [hw4, hby]
              clear hw4 hby hb4
              have hS4 : (fun w' => w'.cell? ⟨gT, 2, none⟩ = some (.func (.func 51) #[] #[]) ∧ w'.heap[bx]? = some (.cells (encT x).toArray 58) ∧ w'.rangeAt b4 (m * 33) (encT y)) x4 := ⟨(HW.out x4 (K3.out.trans (hW4.out.mono K3.out.size))).cD, heap_later F3.out hW4.out, range_below R3.out HB4.out.2 hW4.out⟩
              refine hK.out _ _ hS4 (fun hHeld => ?_)
              clear hK K
              try simp only [Act.put, List.setIfInBounds_toArray, List.set_cons_zero, List.set_cons_succ]
              refine wpAnyH_ready (rs := [10]) (by kernel_rfl) (by simp) ?_
              refine AllReadyH.cons rfl (fun K hK => ?_) (AllReadyH.nil)
              · simp only [List.getElem_toArray, List.getElem_cons_succ, List.getElem_cons_zero]
                go_simp
                refine (HD.out _).mono ?_
                rintro e x5 ⟨rfl, hb5⟩
                have hW5 := Lib.hid (hW4.out.trans (hb5.mono hW4.out.size))
                have fy5 := heap_later fy4 hb5
                clear hb5
                try dsimp only
                have hS5 : (fun w' => w'.cell? ⟨gT, 2, none⟩ = some (.func (.func 51) #[] #[]) ∧ w'.heap[bx]? = some (.cells (encT x).toArray 58) ∧ w'.rangeAt b4 (m * 33) (encT y)) x5 := ⟨(HW.out x5 (K3.out.trans (hW5.out.mono K3.out.size))).cD, heap_later F3.out hW5.out, range_below R3.out HB4.out.2 hW5.out⟩
                refine hK.out _ _ hS5 (fun hHeld => ?_)
                clear hK K
                try simp only [Act.put, List.setIfInBounds_toArray, List.set_cons_zero, List.set_cons_succ]
                refine take_at (i := 11) (v := ?_) (some 35) rfl rfl (by kernel_rfl) (by kernel_rfl) (by kernel_rfl) (fun _ _ _ h => h) hHeld (by rfl) (fun wS hSw => ?_) ?_
                rotate_left
                · try dsimp only at hSw
                  go_simp
                  try with_reducible rfl
                try simp only [Act.put, List.setIfInBounds_toArray, List.set_cons_zero, List.set_cons_succ]
                refine take_at (i := 12) (v := ?_) (some 47) rfl rfl (by kernel_rfl) (by kernel_rfl) (by kernel_rfl) (fun _ _ _ h => h) hHeld (by rfl) (fun wS hSw => ?_) ?_
                rotate_left
                · try dsimp only at hSw
                  go_simp
                  try with_reducible rfl
                try simp only [Act.put, List.setIfInBounds_toArray, List.set_cons_zero, List.set_cons_succ]
                refine take_at (i := 13) (v := ?_) (some 48) rfl rfl (by kernel_rfl) (by kernel_rfl) (by kernel_rfl) (fun _ _ _ h => h) hHeld (by rfl) (fun wS hSw => ?_) ?_
                rotate_left
                · try dsimp only at hSw
                  go_simp
                  try with_reducible rfl
                try simp only [Act.put, List.setIfInBounds_toArray, List.set_cons_zero, List.set_cons_succ]
                refine wpAnyH_ready (rs := [15]) (by kernel_rfl) (by simp) ?_
                refine AllReadyH.cons rfl (fun K hK => ?_) (AllReadyH.nil)
                · simp only [List.getElem_toArray, List.getElem_cons_succ, List.getElem_cons_zero]
                  refine of_if (by rfl) ?_
                  refine wp_store_mid 58 (.tmp 10) (.tmp 47) rfl by_ 0 (encT (meldT y x)).toArray rfl rfl (there_row fy5 (by rw [List.size_toArray, encT_len]; exact Nat.le_refl _)) (by rw [List.size_toArray]; exact thing_info _) (all_oneCell_toArray (encT_one _)) ?_
                  rw [List.toList_toArray]
                  obtain ⟨x6, hw6⟩ : ∃ v, (x5).setCells by_ 0 (encT (meldT y x)) = v := ⟨_, rfl⟩
                  have fy6 : x6.heap[by_]? = some (.cells (encT (meldT y x)).toArray 58) := by rw [← hw6]; exact setCells_row fy5 (by rw [encT_len]; rfl)
                  have hW6 := Lib.hid (show Below w3.heap.size w3 x6 by rw [← hw6]; exact below_setCells lby.out _ _ _ hW5.out)
                  rw [hw6]
                  clear hw6
                  have hS6 : (fun w' => w'.cell? ⟨gT, 2, none⟩ = some (.func (.func 51) #[] #[]) ∧ w'.heap[bx]? = some (.cells (encT x).toArray 58) ∧ w'.rangeAt b4 (m * 33) (encT y)) x6 := ⟨(HW.out x6 (K3.out.trans (hW6.out.mono K3.out.size))).cD, heap_later F3.out hW6.out, range_below R3.out HB4.out.2 hW6.out⟩
                  refine hK.out _ _ hS6 (fun hHeld => ?_)
                  clear hK K
                  try simp only [Act.put]
                  refine take_at (i := 16) (v := ?_) (some 11) rfl rfl (by kernel_rfl) (by kernel_rfl) (by kernel_rfl) (fun _ _ _ h => h) hHeld (by rfl) (fun wS hSw => ?_) ?_
                  rotate_left
                  · try dsimp only at hSw
                    go_simp
                    try with_reducible rfl
                  try simp only [Act.put, List.setIfInBounds_toArray, List.set_cons_zero, List.set_cons_succ]
                  refine wpAnyH_done (by kernel_rfl) ?_ _
                  go_wp2_with fail
                  go_meet
                  case rel => exact ⟨by_, rfl, rfl, lby.out, fy6, hW6.out⟩
          case rest =>
            clear HD
            obtain ⟨by_, rfl, rfl, hby, hfy, hbc⟩ := hcut
            have Kc := Lib.hid (K3.out.trans (hbc.mono K3.out.size))
            have Oc := Lib.hid (OwnT.later O3.out hbc)
            have Fc := Lib.hid (heap_later F3.out hbc)
            have FY := Lib.hid hfy
            clear hby hfy hbc
            by_cases hm : meldB y x = true
            · have HSA := Lib.hid (show meldStep O x = O.set m (meldT y x) by rw [HSY.out, if_pos hm])
              obtain ⟨-, _, hA, -, -, -, ht⟩ := Oc.out.thing HMN.out
              injection hA with hA
              injection hA with hA
              subst hA
              have HT := Lib.hid ht
              clear ht
              rw [hm]
              clear hm
              go_wp2_with (first
                | (refine wpList_load_row rfl 58 (.tmp 10) rfl by_ rfl 58 (encT (meldT y x)).toArray (0, 0) _ FY.out Try.underlying58 rfl (by rw [List.size_toArray]; exact thing_info _) ?_)
                | (refine wpList_store_mid rfl 58 (.tmp 53) (.tmp 52) rfl b4 (m * 33) (encT (meldT y x)).toArray rfl rfl (by rw [List.size_toArray, encT_len]; exact HT.out) (by rw [List.size_toArray]; exact thing_info _) (all_oneCell_toArray (encT_one _)) ?_; rw [List.toList_toArray]))
              go_roundw
              case rel => exact ⟨k + 1, _, by omega, rfl, by go_num, by rw [HTK.out, HSA.out]; have h1 := OwnT.set (show OwnT wc w.heap.size (.slice (some ⟨b4, 0, none⟩) O.length c4) O by rw [HNO.out]; exact Oc.out) (k := m) (by rw [HNO.out]; omega) (meldT y x); rw [HNO.out] at h1; exact h1, below_setCells HB4.out.1 _ _ _ Kc.out⟩
              case measure => simp [intOf]; omega
            · have hm0 : meldB y x = false := by simpa using hm
              have HSA := Lib.hid (show meldStep O x = O ++ [x] by rw [HSY.out, if_neg hm])
              rw [hm0]
              clear hm hm0
              go_upto_region 11 with fail
              obtain ⟨bz, hbz⟩ : ∃ v, wc.heap.size = v := ⟨_, rfl⟩
              obtain ⟨wa, hwa⟩ : ∃ v, wc.alloc (.cells (encT x).toArray 58) = v := ⟨_, rfl⟩
              have Ba : Below wc.heap.size wc wa := by rw [← hwa]; exact (Below.refl _ _).alloc (Nat.le_refl _) _
              have Ka := Lib.hid (Kc.out.trans (Ba.mono Kc.out.size))
              have Oa := Lib.hid (OwnT.later Oc.out Ba)
              have Sa := Lib.hid (show Sees wa (bz + 1) 33 (some ⟨bz, 0, none⟩) 1 (rowT [x]) from Sees.things (by rw [rowT_one, ← hwa, ← hbz]; exact heap_alloc_new _ _))
              have HR := Lib.hid (run_things x wc)
              rw [hwa, hbz] at HR
              clear hwa hbz Ba
              go_wp2_with (first
                | (refine wpList_load_row rfl 58 (.tmp 6) rfl bx rfl 58 (encT x).toArray (0, 0) _ Fc.out Try.underlying58 rfl (by rw [List.size_toArray]; exact thing_info _) ?_)
                | (refine wpList_known _ rfl (v := .slice (some ⟨bz, 0, none⟩) 1 1) (w' := wa) (exec_slice1 60 (.tmp 55) rfl (.agg (encT x).toArray) rfl HR.out) ?_)
                | (at_builtin
                   refine wpList_append_sees _ rfl _ _ _ rfl w.heap.size 58 i0 _ 33 136 Try.underlying60 ii0 iz0 iz1 iz2 rfl (by omega) _ (m + 1) (rowT O) rfl (by have h1 := Oa.out; unfold OwnT at h1; rw [HNO.out] at h1; exact h1)  (bz + 1) _ 1 1 (rowT [x]) rfl Sa.out (rowT_oneCell _) (by simp only [maxLen]; omega) (by omega) Ka.out.size ?_
                   intro v5 w5 hown5 hg5 hat5 hnil5
                   have K5 := Lib.hid (Ka.out.grown hg5 Ka.out.size (fun g hg => own_base Oa.out hg))
                   have O5 := Lib.hid (show OwnT w5 w.heap.size v5 (O ++ [x]) by unfold OwnT; rw [rowT_append, List.length_append, HNO.out]; exact hown5)
                   clear hown5 hg5 hat5 hnil5))
              go_roundw
              case rel => exact ⟨k + 1, _, by omega, rfl, by go_num, by rw [HTK.out, HSA.out]; exact O5.out, K5.out⟩
              case measure => simp [intOf]; omega
    · obtain rfl : k = nl := by omega
      have HTA := Lib.hid (show l.take k = l by rw [List.take_of_length_le (by rw [HN.out]; exact Nat.le_refl _)])
      have HOW := Lib.hid (And.intro hown hbel)
      clear hown hbel
      go_wp2_with fail
      go_ret
      exact ⟨_, rfl, by have h1 := HOW.out.1; rw [HTA.out] at h1; exact h1, HOW.out.2⟩

end Go.Proofs.Ytmfkdaannjibfaa
