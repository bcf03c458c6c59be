/-
  The walk of rubriclaw11.SpansOne.
-/
import Derived.Test.YtbioomilnjikpaaSpMq
import Derived.Test.YtbioomilnjikpaaSpWb
namespace Go.Proofs.Ytbioomilnjikpaa
open Go.RowKit
attribute [local go_sem] Oper.semAt_some

set_option maxRecDepth 100000 in
theorem map_range169 (f : Nat → Value) : (List.range 169).map f = [f 0, f 1, f 2, f 3, f 4, f 5, f 6, f 7, f 8, f 9, f 10, f 11, f 12, f 13, f 14, f 15, f 16, f 17, f 18, f 19, f 20, f 21, f 22, f 23, f 24, f 25, f 26, f 27, f 28, f 29, f 30, f 31, f 32, f 33, f 34, f 35, f 36, f 37, f 38, f 39, f 40, f 41, f 42, f 43, f 44, f 45, f 46, f 47, f 48, f 49, f 50, f 51, f 52, f 53, f 54, f 55, f 56, f 57, f 58, f 59, f 60, f 61, f 62, f 63, f 64, f 65, f 66, f 67, f 68, f 69, f 70, f 71, f 72, f 73, f 74, f 75, f 76, f 77, f 78, f 79, f 80, f 81, f 82, f 83, f 84, f 85, f 86, f 87, f 88, f 89, f 90, f 91, f 92, f 93, f 94, f 95, f 96, f 97, f 98, f 99, f 100, f 101, f 102, f 103, f 104, f 105, f 106, f 107, f 108, f 109, f 110, f 111, f 112, f 113, f 114, f 115, f 116, f 117, f 118, f 119, f 120, f 121, f 122, f 123, f 124, f 125, f 126, f 127, f 128, f 129, f 130, f 131, f 132, f 133, f 134, f 135, f 136, f 137, f 138, f 139, f 140, f 141, f 142, f 143, f 144, f 145, f 146, f 147, f 148, f 149, f 150, f 151, f 152, f 153, f 154, f 155, f 156, f 157, f 158, f 159, f 160, f 161, f 162, f 163, f 164, f 165, f 166, f 167, f 168] := by
  simp [List.range, List.range.loop]

theorem lit169 (t : Array Value) (h : t.size = 169) : ∃ u : Nat → Value, t = #[u 0, u 1, u 2, u 3, u 4, u 5, u 6, u 7, u 8, u 9, u 10, u 11, u 12, u 13, u 14, u 15, u 16, u 17, u 18, u 19, u 20, u 21, u 22, u 23, u 24, u 25, u 26, u 27, u 28, u 29, u 30, u 31, u 32, u 33, u 34, u 35, u 36, u 37, u 38, u 39, u 40, u 41, u 42, u 43, u 44, u 45, u 46, u 47, u 48, u 49, u 50, u 51, u 52, u 53, u 54, u 55, u 56, u 57, u 58, u 59, u 60, u 61, u 62, u 63, u 64, u 65, u 66, u 67, u 68, u 69, u 70, u 71, u 72, u 73, u 74, u 75, u 76, u 77, u 78, u 79, u 80, u 81, u 82, u 83, u 84, u 85, u 86, u 87, u 88, u 89, u 90, u 91, u 92, u 93, u 94, u 95, u 96, u 97, u 98, u 99, u 100, u 101, u 102, u 103, u 104, u 105, u 106, u 107, u 108, u 109, u 110, u 111, u 112, u 113, u 114, u 115, u 116, u 117, u 118, u 119, u 120, u 121, u 122, u 123, u 124, u 125, u 126, u 127, u 128, u 129, u 130, u 131, u 132, u 133, u 134, u 135, u 136, u 137, u 138, u 139, u 140, u 141, u 142, u 143, u 144, u 145, u 146, u 147, u 148, u 149, u 150, u 151, u 152, u 153, u 154, u 155, u 156, u 157, u 158, u 159, u 160, u 161, u 162, u 163, u 164, u 165, u 166, u 167, u 168] ∧ ∀ i, u i = t.getD i undef := by
  refine ⟨fun i => t.getD i undef, ?_, fun _ => rfl⟩
  have e : t = ((List.range 169).map fun i => t.getD i undef).toArray := by
    apply Array.ext
    · simp [h]
    · intro i h1 h2
      simp [Array.getD, h1]
  exact e.trans (by rw [map_range169])

/-- A call of the script: its cells. -/
theorem op_range {w : World} {A : Option Addr} {n : Nat} {ops : List OpS} (hs : Sees w w.heap.size 6 A n (ops.flatMap OpS.cells)) {k : Nat} {o : OpS} (ho : ops[k]? = some o) :
    ∃ b f, A = some ⟨b, f, none⟩ ∧ b < w.heap.size ∧ w.rangeAt b (f + k * 6) o.cells := by
  have hk := (List.getElem?_eq_some_iff.1 ho).1
  have hn : n = ops.length := by have h1 := hs.1; rw [flat_len OpS.cells 6 (fun _ => rfl)] at h1; omega
  obtain ⟨b, f, hA, hb, hc⟩ := hs.2 (by omega)
  refine ⟨b, f, hA, hb, fun j v hv => ?_⟩
  have hj : j < 6 := (List.getElem?_eq_some_iff.1 hv).1
  rw [Nat.add_assoc]
  refine hc _ v ?_
  rw [flat_get OpS.cells 6 (fun _ => rfl) ops k j hj, ho]
  exact hv
theorem op_infoL (o : OpS) : (Try.prog.info? 28).map (·.size) = some o.cells.length := by show _ = some 6; kernel_rfl
theorem op_infoA (o : OpS) : (Try.prog.info? 28).map (·.size) = some o.cells.toArray.size := by show _ = some 6; kernel_rfl
theorem op_one (o : OpS) : ∀ v ∈ o.cells, v.oneCell' = true := by intro v hv; simp [OpS.cells] at hv; rcases hv with rfl | rfl | rfl | rfl | rfl | rfl <;> rfl

/-- A call adds at most two spans more than it puts in than it takes out. -/
theorem spX_len2 {X l : List Th} {i j : Int} (hX : Can X) (hoX : ∀ x ∈ X, okT x) (h : spE X i j l = 0) : (spX X i j l).length + (overT X i j).length ≤ X.length + l.length + 2 := by
  have hr : spX X i j l = replT X i j l := by unfold spX; rw [if_pos h]
  rw [hr]
  unfold spE at h
  by_cases hb : badL l = true
  · rw [if_pos hb] at h; cases h
  rw [if_neg hb] at h
  by_cases he : betE X i j = 0
  rotate_left
  · rw [if_neg he] at h; cases h
  rw [if_pos he] at h
  obtain ⟨i0, i1, i2⟩ := betE_zero he
  have h3 := sumT_nonneg hoX
  by_cases hs : sumT l ≤ 536870912 - sumT X + j - i
  · have hp := not_bad (l := l) (by simpa using hb)
    exact repl_len hX hoX (l := l) (fun x hx => by
      have h1 := hp x hx
      have h2 := sumT_mem (fun y hy => (hp y hy).1) hx
      exact ⟨h1.1, by omega⟩) i0 i1 i2 (by omega)
  · rw [if_neg hs] at h; cases h
theorem mpX_len2 {F : Int → Int} {X : List Th} {i j : Int} (hX : Can X) (hoX : ∀ x ∈ X, okT x) (_ : sumT X ≤ 536870912) : (mpX F X i j).length ≤ X.length + 2 := by
  have h3 : (mpL F X i j).length = (overT X i j).length := List.length_map _
  unfold mpX
  split
  · by_cases h : spE X i j (mpL F X i j) = 0
    · have := spX_len2 hX hoX h
      omega
    · rw [spX_no h]; omega
  · omega

set_option maxRecDepth 100000 in
set_option maxHeartbeats 16000000 in
theorem one_law (A : Option Addr) (n c : Nat) (ops : List OpS) (w : World) (hs : Sees w w.heap.size 6 A n (ops.flatMap OpS.cells)) (hl : ops.length = n) (hm : n ≤ maxLen) (hok : ∀ o ∈ ops, o.Ok w) :
    Calls Try.prog 6 #[.slice A n c] w fun e w' => e = .returned (.bool true) ∧ Below w.heap.size w w' := by
  obtain ⟨i0, ii0, iz0, iz1, iz2⟩ := info_parts thing_info4
  unfold maxLen at hm
  have HS := Lib.hid hs
  have HO := Lib.hid (And.intro hl hok)
  clear hs hok hl
  obtain ⟨b2, hb2⟩ : ∃ v, w.heap.size = v := ⟨_, rfl⟩
  obtain ⟨wb, hwb⟩ : ∃ v, w.alloc (.cells #[.bool false] 4) = v := ⟨_, rfl⟩
  have HB0 := Lib.hid (show Star w [boxI b2 (.cells #[.bool false] 4)] wb from Star.add (Star.nil_ w) (by rw [← hwb]; exact (Below.refl _ _).alloc (Nat.le_refl _) _) (show wb.heap[b2]? = _ by rw [← hwb, ← hb2]; exact heap_alloc_new w _) (fun k hk => by have hk : k = b2 := hk; omega))
  refine (callsIn_wide (n := 9)).1 ?_
  refine callsIn_of_wp_marks Try.func6 rfl trivial ?_ rfl
  refine (wpIn_wide (n := 9)).2 ?_
  refine wp_mono ?_ outM_le
  simp only [Try.ntmps6, List.size_toArray, List.length_cons, List.length_nil, Nat.reduceAdd, Nat.reduceSub, Array.replicate_succ, Array.replicate_zero, List.push_toArray, List.append_toArray, List.nil_append, List.cons_append]
  go_wp2_with fail
  try rw [hwb]
  try rw [hb2]
  clear hwb hb2
  refine (newS_star HB0.out).mono ?_
  rintro e w1 ⟨gs, rfl, hS1⟩
  have HS1 := Lib.hid hS1
  clear hS1
  go_wp2_with fail
  refine (newS_star HS1.out).mono ?_
  rintro e w2 ⟨gt, rfl, hS2⟩
  have HS2 := Lib.hid hS2
  clear hS2
  by_cases hn : 60 < n
  · have hnI : (60 : Int) < n := by omega
    go_wp2_with fail
    refine (known_any _).mono ?_
    rintro e wz ⟨rfl, hbz⟩
    have SZ := Lib.hid (HS2.out.later hbz)
    clear hbz
    have hq4 : wz.heap[b2]? = some (.cells #[.bool false] 4) := SZ.out.all (boxI b2 (.cells #[.bool false] 4)) (by simp)
    have c4 : wz.cell? ⟨b2, 0, none⟩ = some (.bool false) := by rw [cell_of_row wz b2 0 _ _ _ hq4]; rfl
    have f4 : wz.frozen? ⟨b2, 0, none⟩ = false := frozen_of_row wz b2 0 _ _ hq4
    have SE := Lib.hid (show Star w ([spI (fun k => k = gt) gt [] 0, spI (fun k => k = gs) gs [] 0] ++ boxI b2 (.cells #[.bool true] 4) :: []) (wz.setCell ⟨b2, 0, none⟩ (.bool true)) from Star.update (A := [spI (fun k => k = gt) gt [] 0, spI (fun k => k = gs) gs [] 0]) (I := boxI b2 (.cells #[.bool false] 4)) SZ.out (boxI.set hq4 0 (.bool true)).1 (boxI.set hq4 0 (.bool true)).2)
    clear hq4 
    go_wp2_with fail
    refine leaves_marks (B := w.heap.size) _ _ (Marks.nil_ _ _) (fun w' hs => ?_)
    have hc := hs.cells.2 b2 _ (SE.out.all (boxI b2 (.cells #[.bool true] 4)) (by simp)) rfl (fun h => h)
    have hc4 : w'.cell? ⟨b2, 0, none⟩ = some (.bool true) := by rw [cell_of_row w' b2 0 _ _ _ hc]; rfl
    refine ⟨.bool true, ?_, rfl, SE.out.below.trans hs.below⟩
    simp [results, Try.f6, go_sem, hc4]
  · have hnI : (n : Int) ≤ 60 := by omega
    have P0 := Lib.hid (show Star w (markI [] :: spI (fun k => k = gt) gt [] 0 :: spI (fun k => k = gs) gs [] (102 * 0) :: [boxI b2 (.cells #[.bool false] 4)]) w2 from HS2.out.add' (markI.nil_ w2) (fun k hk => by obtain ⟨d, hd, _⟩ := hk; cases hd) (fun J hJ k hk _ => by obtain ⟨d, hd, _⟩ := hk; cases hd))
    go_wp2_with fail
    refine wp_loop (fun a' wr => ∃ (k : Nat) (X : List Th) (Hs : Nat → Prop), k ≤ n ∧ Star w (markI a'.defers :: spI (fun k => k = gt) gt [] 0 :: spI Hs gs X (102 * k) :: [boxI b2 (.cells #[.bool false] 4)]) wr ∧ X.length ≤ 102 * k ∧ a'.tmps.size = 169 ∧ (a'.tmps.getD 0 undef = .slice A n c ∧ a'.tmps.getD 2 undef = .pointer (some ⟨b2, 0, none⟩) ∧ a'.tmps.getD 3 undef = .pointer (some ⟨gs, 0, none⟩) ∧ a'.tmps.getD 4 undef = .pointer (some ⟨gt, 0, none⟩) ∧ a'.tmps.getD 38 undef = .slice A n c ∧ a'.tmps.getD 39 undef = .int .i64 n ∧ a'.tmps.getD 40 undef = .int .i64 k)) (fun a' _ => n - (intOf (a'.tmps.getD 40 undef)).toNat) ?_ ?_
    · exact ⟨0, [], _, Nat.zero_le _, P0.out, Nat.zero_le _, rfl, rfl, rfl, rfl, rfl, rfl, rfl, rfl⟩
    clear P0
    rintro ⟨ts, ds⟩ wr ⟨k, X, Hs, hk, hX, hXl, hsz, hf⟩
    dsimp only at hX hsz hf
    obtain ⟨u, rfl, hu⟩ := lit169 ts hsz
    simp only [← hu] at hf
    obtain ⟨f0, f2, f3, f4, f38, f39, f40⟩ := hf
    rw [f0, f2, f3, f4, f38, f39, f40]
    have HU := Lib.hid f40
    clear hu hsz f0 f2 f3 f4 f38 f39 f40
    by_cases hlt : k < n
    · have hkI : (k : Int) < n := by omega
      obtain ⟨p, hp⟩ : ∃ p, ops[k]? = some p := ⟨_, List.getElem?_eq_getElem (by rw [HO.out.1]; exact hlt)⟩
      have HOk := Lib.hid (HO.out.2 p (List.mem_of_getElem? hp))
      obtain ⟨b0, f, rfl, hbl, hr⟩ := op_range HS.out hp
      have hr1 : wr.rangeAt b0 (f + k * 6) p.cells := fun j v hv => (hX.below.cell (p := ⟨b0, f + k * 6 + j, none⟩) hbl).trans (hr j v hv)
      obtain ⟨bx, hbx⟩ : ∃ v, wr.heap.size = v := ⟨_, rfl⟩
      obtain ⟨w6, hw6⟩ : ∃ v, wr.alloc (.cells p.cells.toArray 28) = v := ⟨_, rfl⟩
      have S6 := Lib.hid (show Star w ([boxI bx (.cells #[.int .i64 p.kind, .int .i64 p.i, .int .i64 p.j, .slice p.A p.len p.cap, .int .i64 p.by_, .int .i64 p.plus] 28), markI ds, spI (fun k => k = gt) gt [] 0] ++ spI Hs gs X (102 * k) :: [boxI b2 (.cells #[.bool false] 4)]) w6 from hX.add (by rw [← hw6]; exact (Below.refl _ _).alloc (Nat.le_refl _) _) (show w6.heap[bx]? = _ by rw [← hw6, ← hbx]; exact heap_alloc_new wr _) (fun k hk => by have hk : k = bx := hk; omega))
      have hq6 : w6.heap[bx]? = some (.cells #[.int .i64 p.kind, .int .i64 p.i, .int .i64 p.j, .slice p.A p.len p.cap, .int .i64 p.by_, .int .i64 p.plus] 28) := S6.out.all (boxI bx (.cells #[.int .i64 p.kind, .int .i64 p.i, .int .i64 p.j, .slice p.A p.len p.cap, .int .i64 p.by_, .int .i64 p.plus] 28)) (by simp)
      have HQ6 := Lib.hid hq6
      have HXF := Lib.hid (show Can X ∧ (∀ x ∈ X, okT x) ∧ sumT X ≤ 536870912 from by
        have h : SpS w6 Hs gs X (102 * k) := S6.out.get
        exact ⟨h.can, h.ob.okX.1, h.le⟩)
      obtain ⟨e1, e2, e3⟩ := op_box hq6
      have e0 : w6.cell? ⟨bx, 0, none⟩ = some (.int .i64 p.kind) := by rw [cell_of_row w6 bx 0 _ _ _ hq6]; rfl
      have e4 : w6.cell? ⟨bx, 4, none⟩ = some (.int .i64 p.by_) := by rw [cell_of_row w6 bx 4 _ _ _ hq6]; rfl
      have e5 : w6.cell? ⟨bx, 5, none⟩ = some (.int .i64 p.plus) := by rw [cell_of_row w6 bx 5 _ _ _ hq6]; rfl
      have HE := Lib.hid (And.intro hw6 hbx)
      have HR1 := Lib.hid hr1
      clear hp hX hr hr1 hw6 hbx hq6
      by_cases hle : p.len ≤ 100
      · have hleI : (p.len : Int) ≤ 100 := by omega
        go_upto_region 7 with (first
          | (refine wpList_load_mid rfl 28 (.tmp 42) rfl b0 (f + k * 6) rfl p.cells _ HR1.out Try.underlying28 rfl (op_infoL p) ?_)
          | (refine wpList_store_row rfl 28 (.tmp 6) (.tmp 43) rfl wr.heap.size p.cells.toArray rfl rfl 28 _ (heap_alloc_new wr _) (op_infoA p) (by rfl) (all_oneCell_toArray (op_one p)) ?_; rw [alloc_setRow, HE.out.1, HE.out.2]))
        go_upto_if 50 with fail
        go_cut [] from 49 to 66 (fun wq => ∃ X9 H9, Star w (markI ds :: spI (fun k => k = gt) gt [] 0 :: spI H9 gs X9 (102 * (k + 1)) :: [boxI b2 (.cells #[.bool false] 4)]) wq ∧ X9.length ≤ 102 * (k + 1))
        case first =>
          by_cases hkd : p.kind = 2
          · rw [hkd] at e0
            have hkb : (p.kind == 2) = true := by simp [hkd]
            have HM := Lib.hid (map_any (o := p) (A := [boxI bx (.cells #[.int .i64 p.kind, .int .i64 p.i, .int .i64 p.j, .slice p.A p.len p.cap, .int .i64 p.by_, .int .i64 p.plus] 28), markI ds, spI (fun k => k = gt) gt [] 0]) S6.out p.i p.j (by omega) (by omega))
            obtain ⟨X9, hX9⟩ : ∃ v, mpX (mapF p.by_ p.plus) X p.i p.j = v := ⟨_, rfl⟩
            have hl9 : X9.length ≤ 102 * (k + 1) := by
              have h := mpX_len2 (F := mapF p.by_ p.plus) (i := p.i) (j := p.j) HXF.out.1 HXF.out.2.1 HXF.out.2.2
              rw [hX9] at h
              omega
            rw [hX9, show opV p = .agg #[.int .i64 2, .int .i64 p.i, .int .i64 p.j, .slice p.A p.len p.cap, .int .i64 p.by_, .int .i64 p.plus] by unfold opV; rw [hkd]] at HM
            clear hX9 hkd
            go_wp2_with fail
            refine HM.out.mono ?_
            clear HM
            rintro e w9 ⟨H9, rfl, hO⟩
            have S9 := Lib.hid (show Star w (markI ds :: spI (fun k => k = gt) gt [] 0 :: spI H9 gs X9 (102 * (k + 1)) :: [boxI b2 (.cells #[.bool false] 4)]) w9 from by
              have h : Star w ([boxI bx (.cells #[.int .i64 p.kind, .int .i64 p.i, .int .i64 p.j, .slice p.A p.len p.cap, .int .i64 p.by_, .int .i64 p.plus] 28), markI ds, spI (fun k => k = gt) gt [] 0] ++ spI H9 gs X9 (max (102 * k + 2) X9.length) :: [boxI b2 (.cells #[.bool false] 4)]) w9 := hO
              exact Star.drop (A := []) (h.update (I' := spI H9 gs X9 (102 * (k + 1))) ((show SpS w9 H9 gs X9 _ from h.get).more (by omega)) (Grow.refl _ _)))
            clear hO
            go_wp2_with fail
            go_meet
            case rel => exact ⟨X9, H9, S9.out, by omega⟩
          · have hkb : (p.kind == 2) = false := by simp [hkd]
            have HSp := Lib.hid (spliceO_star (A := [boxI bx (.cells #[.int .i64 p.kind, .int .i64 p.i, .int .i64 p.j, .slice p.A p.len p.cap, .int .i64 p.by_, .int .i64 p.plus] 28), markI ds, spI (fun k => k = gt) gt [] 0]) S6.out hXl HOk.out hle (by omega))
            obtain ⟨X9, hX9⟩ : ∃ v, spX X p.i p.j p.l = v := ⟨_, rfl⟩
            rw [hX9] at HSp
            clear hX9
            go_wp2_with fail
            refine HSp.out.mono ?_
            clear HSp
            rintro e w9 ⟨H9, rfl, hO, hl9⟩
            have S9 := Lib.hid (show Star w (markI ds :: spI (fun k => k = gt) gt [] 0 :: spI H9 gs X9 (102 * (k + 1)) :: [boxI b2 (.cells #[.bool false] 4)]) w9 from by
              have h : Star w ([boxI bx (.cells #[.int .i64 p.kind, .int .i64 p.i, .int .i64 p.j, .slice p.A p.len p.cap, .int .i64 p.by_, .int .i64 p.plus] 28), markI ds, spI (fun k => k = gt) gt [] 0] ++ spI H9 gs X9 (102 * k + 102) :: [boxI b2 (.cells #[.bool false] 4)]) w9 := hO
              exact Star.drop (A := []) (h.update (I' := spI H9 gs X9 (102 * (k + 1))) ((show SpS w9 H9 gs X9 _ from h.get).more (by omega)) (Grow.refl _ _)))
            clear hO
            go_wp2_with fail
            go_meet
            case rel => exact ⟨X9, H9, S9.out, by omega⟩
        case rest =>
          obtain ⟨X9, H9, h9, hl9⟩ := hcut
          have S9 := Lib.hid h9
          rename World => w9
          clear h9 e0 e1 e2 e3 e4 e5
          go_upto_region 12 with fail
          obtain ⟨b7, hb7⟩ : ∃ v, w9.heap.size = v := ⟨_, rfl⟩
          obtain ⟨wp, hwp⟩ : ∃ v, (w9.alloc (.cells #[.int .i64 0] 3)).alloc (.cells #[.int .i64 (-1)] 3) = v := ⟨_, rfl⟩
          have SP := Lib.hid (show Star w (pairI b7 (b7 + 1) (.cells #[.int .i64 0] 3) (.cells #[.int .i64 (-1)] 3) :: markI ds :: spI (fun k => k = gt) gt [] 0 :: spI H9 gs X9 (102 * (k + 1)) :: [boxI b2 (.cells #[.bool false] 4)]) wp from by
            refine S9.out.add (by rw [← hwp]; exact ((Below.refl _ _).alloc (Nat.le_refl _) _).alloc (by simp) _) ⟨?_, ?_⟩ (fun q hq => ?_)
            · rw [← hwp, ← hb7]
              exact (heap_later (heap_alloc_new w9 _) ((Below.refl _ _).alloc (Nat.le_refl _) _))
            · rw [← hwp, show b7 + 1 = (w9.alloc (.cells #[.int .i64 0] 3)).heap.size by rw [← hb7]; simp]; exact heap_alloc_new _ _
            · rcases hq with e | e <;> omega)
          have HB7 := Lib.hid (And.intro hb7 hwp)
          have HA := Lib.hid (all_star (A := [pairI b7 (b7 + 1) (.cells #[.int .i64 0] 3) (.cells #[.int .i64 (-1)] 3), markI ds, spI (fun k => k = gt) gt [] 0]) (B := [boxI b2 (.cells #[.bool false] 4)]) SP.out)
          clear hb7 hwp
          go_wp2_with fail
          rw [HB7.out.2, HB7.out.1]
          refine HA.out.mono ?_
          clear HA HB7 SP
          rintro e w11 ⟨H11, ba, v11, base11, rfl, hS11⟩
          have S11 := Lib.hid hS11
          have hov : OwnT w11 base11 v11 X9 := hS11.all (thI v11 base11 X9) (by simp)
          have hpr : w11.heap[b7]? = some (.cells #[.int .i64 0] 3) ∧ w11.heap[(b7 + 1)]? = some (.cells #[.int .i64 (-1)] 3) := hS11.all (pairI b7 (b7 + 1) (.cells #[.int .i64 0] 3) (.cells #[.int .i64 (-1)] 3)) (by simp)
          have hbo : w11.heap[b2]? = some (.cells #[.bool false] 4) := hS11.all (boxI b2 (.cells #[.bool false] 4)) (by simp)
          have hS : SpS w11 H11 gs X9 (102 * (k + 1)) := hS11.all (spI H11 gs X9 (102 * (k + 1))) (by simp)
          have HXC := Lib.hid (show Can X9 ∧ (∀ x ∈ X9, okT x) ∧ sumT X9 ≤ 536870912 from ⟨hS.can, hS.ob.okX.1, hS.le⟩)
          have hb2 : b2 ≠ b7 ∧ b2 ≠ (b7 + 1) := ⟨fun e => hS11.apart.2.2.1 (boxI b2 (.cells #[.bool false] 4)) (by simp) b7 (.inl rfl) e.symm, fun e => hS11.apart.2.2.1 (boxI b2 (.cells #[.bool false] 4)) (by simp) (b7 + 1) (.inr rfl) e.symm⟩
          have BQ := Lib.hid hpr
          have B2 := Lib.hid (And.intro hbo hb2)
          have BL := Lib.hid (show b7 < w11.heap.size ∧ (b7 + 1) < w11.heap.size from ⟨(Array.getElem?_eq_some_iff.1 hpr.1).1, (Array.getElem?_eq_some_iff.1 hpr.2).1⟩)
          have SQ := Lib.hid (all_stops (n := 8) hov (hS11.all (boxI ba (.cells #[v11] 26)) (by simp)) (by omega) (fun q _ => q = b7 ∨ q = (b7 + 1)) (fun q hq o e => hS11.apart.2.1 (pairI b7 (b7 + 1) (.cells #[.int .i64 0] 3) (.cells #[.int .i64 (-1)] 3)) (by simp) q hq e))
          clear hS11 hov hpr hbo hS hb2
          go_wp2_with fail
          obtain ⟨fF, hfF⟩ : ∃ x : Value, .func (.func 30) #[] #[.pointer (some ⟨ba, 0, none⟩)] = x := ⟨_, rfl⟩
          unfold allF
          rw [hfF]
          refine (wpIn_wide (n := 9)).1 ?_
          refine wpIn_rangeFunc_ownH rfl (by omega) (gf := 30) (lb := #[.pointer (some ⟨ba, 0, none⟩)]) hfF.symm trivial (enters_of Try.func30 (by kernel_rfl) rfl)
            SQ.out KeepsO.trans KeepsO.put (Below.refl _ _) (fun _ => rfl) (SumI w11 b7 (b7 + 1)) (fun c pre _ => c = .ret ∧ BadS pre) (SumI.own BL.out.1 BL.out.2) (fun _ _ _ _ _ h _ _ => h) (SumI.start BQ.out.1 BQ.out.2)
            (fun x a' W => a'.defers = [] ∧ a'.tmps.size = 169 ∧ a'.tmps.getD 2 undef = .pointer (some ⟨b2, 0, none⟩) ∧ a'.tmps.getD 7 undef = .pointer (some ⟨b7, 0, none⟩) ∧ a'.tmps.getD 8 undef = .pointer (some ⟨(b7 + 1), 0, none⟩) ∧ ∃ bx, a'.tmps.getD 9 undef = .pointer (some ⟨bx, 0, none⟩) ∧ w11.heap.size ≤ bx ∧ W.heap[bx]? = some (.cells (encT x).toArray 34))
            ?ax ?assign ?body ?done ?stop
          case ax =>
            rintro x a' _ W W' row ⟨h1, h2, h3, h4, h5, bx, h6, h7, h8⟩ hg hr
            refine ⟨h1, h2, h3, h4, h5, bx, h6, h7, (hg.block bx (Array.getElem?_eq_some_iff.1 h8).1 (fun e => ?_)).trans h8⟩
            obtain ⟨_, o, ho, hn⟩ := hr bx e.symm
            rw [h8] at ho
            cases ho
            cases hn
          case assign =>
            intro l pre x W K hI hK
            rw [thV_cells]
            obtain ⟨bx, hbx⟩ : ∃ v, W.heap.size = v := ⟨_, rfl⟩
            obtain ⟨w2, hw2⟩ : ∃ v, W.alloc (.cells (encT x).toArray 34) = v := ⟨_, rfl⟩
            have B2' : Below W.heap.size W w2 := by rw [← hw2]; exact (Below.refl _ _).alloc (Nat.le_refl _) _
            have HR := Lib.hid (show KeepsFrom w11.heap.size W w2 ∧ KeepsO (fun q _ => q = b7 ∨ q = (b7 + 1)) W w2 ∧ SumI w11 b7 (b7 + 1) pre w2 ∧ w11.heap.size ≤ bx ∧ w2.heap[bx]? = some (.cells (encT x).toArray 34) from
              ⟨KeepsFrom.of_step (Step.of_below B2' (fun _ => False)) (fun _ _ _ h => h.elim), KeepsO.of_below B2', hI.later B2', by rw [← hbx]; exact hI.2.2.size, by rw [← hw2, ← hbx]; exact heap_alloc_new W _⟩)
            have HE := Lib.hid (And.intro hw2 hbx)
            clear hI hbx hw2 B2'
            gi_wp2_with (refine wpListIn_skipped rfl rfl (by intro c e; cases e) (exec_store_row 34 (.tmp 9) (.tmp 69) rfl W.heap.size (encT x).toArray rfl rfl 34 _ (heap_alloc_new W _) (by rw [List.size_toArray]; exact thing_info _) (by rfl) (all_oneCell_toArray (encT_one _))) ?_; rw [alloc_setRow, HE.out.1, HE.out.2])
            exact hK _ _ HR.out.1 HR.out.2.1 HR.out.2.2.1 ⟨rfl, rfl, rfl, rfl, rfl, bx, rfl, HR.out.2.2.2.1, HR.out.2.2.2.2⟩
          case body =>
            rintro l pre x ⟨ts, ds'⟩ W hl - hI ⟨h1, h2, h3, h4, h5, bx, h6, h7, h8⟩ hlt
            dsimp only at h1 h2 h3 h4 h5 h6
            subst h1
            obtain ⟨u', rfl, hu'⟩ := lit169 ts h2
            rw [← hu'] at h3 h4 h5 h6
            rw [h3, h4, h5, h6]
            have c70 : W.cell? ⟨b7, 0, none⟩ = some (.int .i64 (sumW pre)) := by rw [cell_of_row W b7 0 _ _ _ hI.1]; rfl
            have c80 : W.cell? ⟨(b7 + 1), 0, none⟩ = some (.int .i64 (lastW pre)) := by rw [cell_of_row W (b7 + 1) 0 _ _ _ hI.2.1]; rfl
            have c90 : W.cell? ⟨bx, 0, none⟩ = some (.int .i64 x.n) := by rw [cell_of_row W bx 0 _ _ _ h8]; rfl
            have c91 : W.cell? ⟨bx, 1, none⟩ = some (.int .i64 x.id) := by rw [cell_of_row W bx 1 _ _ _ h8]; rfl
            have f70 : W.frozen? ⟨b7, 0, none⟩ = false := frozen_of_row W b7 0 _ _ hI.1
            have f80 : W.frozen? ⟨(b7 + 1), 0, none⟩ = false := frozen_of_row W (b7 + 1) 0 _ _ hI.2.1
            have hq2 : W.heap[b2]? = some (.cells #[.bool false] 4) := (hI.2.2.block b2 (Array.getElem?_eq_some_iff.1 B2.out.1).1 (fun e => by rcases e with e | e; exact B2.out.2.1 e; exact B2.out.2.2 e)).trans B2.out.1
            have c20 : W.cell? ⟨b2, 0, none⟩ = some (.bool false) := by rw [cell_of_row W b2 0 _ _ _ hq2]; rfl
            have f20 : W.frozen? ⟨b2, 0, none⟩ = false := frozen_of_row W b2 0 _ _ hq2
            have HI := Lib.hid hI
            have HQ2 := Lib.hid hq2
            have HBX := Lib.hid (show bx ≠ b7 ∧ bx ≠ (b7 + 1) from ⟨by have := BL.out.1; omega, by have := BL.out.2; omega⟩)
            obtain ⟨sp, hsp⟩ : ∃ v, sumW pre = v := ⟨_, rfl⟩
            obtain ⟨lp, hlp⟩ : ∃ v, lastW pre = v := ⟨_, rfl⟩
            have HSP := Lib.hid (And.intro hsp hlp)
            rw [hsp] at c70
            rw [hlp] at c80
            clear hu' h2 h3 h4 h5 h6 h7 h8 hlt hI hq2 hsp hlp
            by_cases hbad : x.n < 1 ∨ x.id = lp ∨ x.id < 0
            · have HBAD := Lib.hid (show BadS (pre ++ [x]) from ⟨pre, x, rfl, by rw [HSP.out.2]; exact hbad⟩)
              have HKF := Lib.hid (show KeepsFrom w11.heap.size W (W.setCell ⟨b2, 0, none⟩ (.bool false)) from KeepsFrom.of_step (G := fun q => q = b2) ((Step.refl (fun q => q = b2) W).setCell (p := ⟨b2, 0, none⟩) (.inl rfl) _) (fun q o ho hq => by rw [hq, HQ2.out] at ho; cases ho; rfl))
              have hcase : (x.n < 1) ∨ (¬ x.n < 1 ∧ x.id = lp) ∨ (¬ x.n < 1 ∧ x.id ≠ lp ∧ x.id < 0) := by omega
              clear hbad
              rcases hcase with hc | ⟨hc, hc2⟩ | ⟨hc, hc2, hc3⟩
              · gi_wp2_with fail
                exact ⟨HKF.out, rfl, HBAD.out⟩
              · have e1 : (x.id == lp) = true := by simp [hc2]
                clear hc2
                gi_wp2_with fail
                exact ⟨HKF.out, rfl, HBAD.out⟩
              · have e1 : (x.id == lp) = false := by simp [hc2]
                clear hc2
                gi_wp2_with fail
                exact ⟨HKF.out, rfl, HBAD.out⟩
            · have hc : ¬ x.n < 1 := by omega
              have hc3 : ¬ x.id < 0 := by omega
              have e1 : (x.id == lp) = false := by have : x.id ≠ lp := by omega
                                                   simp [this]
              clear hbad c20 f20
              have HN1 := Lib.hid (SumI.next (x := x) HI.out (W2 := ((W.setCell ⟨b7, 0, none⟩ (.int .i64 (IntKind.i64.wrap (sp + x.n)))).setCell ⟨b7 + 1, 0, none⟩ (.int .i64 x.id)).drew)
                (((((Step.refl (fun q => q = b7 ∨ q = b7 + 1) W).setCell (p := ⟨b7, 0, none⟩) (.inl (.inl rfl)) _).setCell (p := ⟨b7 + 1, 0, none⟩) (.inl (.inr rfl)) _)).drewN 1)
                (by rw [HSP.out.1]; exact (heap_setCell_other _ ⟨b7 + 1, 0, none⟩ b7 _ (by show b7 ≠ b7 + 1; omega)).trans (heap_setCell_same W b7 0 _ _ _ HI.out.1))
                (heap_setCell_same _ (b7 + 1) 0 _ _ _ ((heap_setCell_other W ⟨b7, 0, none⟩ (b7 + 1) _ (by show b7 + 1 ≠ b7; omega)).trans HI.out.2.1)))
              have HN2 := Lib.hid (SumI.next (x := x) HI.out (W2 := ((W.setCell ⟨b7 + 1, 0, none⟩ (.int .i64 x.id)).setCell ⟨b7, 0, none⟩ (.int .i64 (IntKind.i64.wrap (sp + x.n)))).drew)
                (((((Step.refl (fun q => q = b7 ∨ q = b7 + 1) W).setCell (p := ⟨b7 + 1, 0, none⟩) (.inl (.inr rfl)) _).setCell (p := ⟨b7, 0, none⟩) (.inl (.inl rfl)) _)).drewN 1)
                (by rw [HSP.out.1]; exact heap_setCell_same _ b7 0 _ _ _ ((heap_setCell_other W ⟨b7 + 1, 0, none⟩ b7 _ (by show b7 ≠ b7 + 1; omega)).trans HI.out.1))
                ((heap_setCell_other _ ⟨b7, 0, none⟩ (b7 + 1) _ (by show b7 + 1 ≠ b7; omega)).trans (heap_setCell_same W (b7 + 1) 0 _ _ _ HI.out.2.1)))
              gi_wp2_with fail
              gi_region
              all_goals
                first
                  | exact ⟨HN1.out.1, HN1.out.2.1, HN1.out.2.2⟩
                  | exact ⟨HN2.out.1, HN2.out.2.1, HN2.out.2.2⟩
          case stop => exact fun D c pre W hD hSp ⟨hc, hb⟩ _ => absurd hb (not_badS HXC.out.1 hSp)
          case done =>
            rintro D ys W hD hys hI hK
            have hys : X9 = ys := hys.symm
            subst hys
            have SD0 := Star.looped (A := [boxI ba (.cells #[v11] 26), thI v11 base11 X9]) (I := pairI b7 (b7 + 1) (.cells #[.int .i64 0] 3) (.cells #[.int .i64 (-1)] 3)) (I' := pairI b7 (b7 + 1) (.cells #[.int .i64 (sumW X9)] 3) (.cells #[.int .i64 (lastW X9)] 3)) (B := [markI ds, spI (fun k => k = gt) gt [] 0, spI H11 gs X9 (102 * (k + 1)), boxI b2 (.cells #[.bool false] 4)]) S11.out rfl ⟨hI.1, hI.2.1⟩ hI.2.2 hD hK
            rw [sumW_eq HXC.out.2.1 HXC.out.2.2] at SD0
            obtain ⟨z, hz⟩ : ∃ v, sumT X9 = v := ⟨_, rfl⟩
            rw [hz] at SD0
            have SD := Lib.hid (show Star w ([boxI D (.deferred (some [])), pairI b7 (b7 + 1) (.cells #[.int .i64 z] 3) (.cells #[.int .i64 (lastW X9)] 3), markI ds, spI (fun k => k = gt) gt [] 0] ++ spI H11 gs X9 (102 * (k + 1)) :: [boxI b2 (.cells #[.bool false] 4)]) W.drew from (Star.later (Star.drop (A := [boxI D (.deferred (some []))]) (Star.drop (A := [boxI D (.deferred (some []))]) SD0)) ((Below.refl _ W).drew)))
            have HL := Lib.hid (star_same SD.out (len_any SD.out.get))
            rw [hz] at HL
            have hp7 : W.heap[b7]? = some (.cells #[.int .i64 z] 3) ∧ W.heap[b7 + 1]? = some (.cells #[.int .i64 (lastW X9)] 3) := SD0.all (pairI b7 (b7 + 1) (.cells #[.int .i64 z] 3) (.cells #[.int .i64 (lastW X9)] 3)) (by simp)
            have c7 : W.cell? ⟨b7, 0, none⟩ = some (.int .i64 z) := by rw [cell_of_row W b7 0 _ _ _ hp7.1]; rfl
            clear SD0 hI hK hD hz hp7 SQ BQ B2 BL S11 hfF HXC
            go_wp2_with fail
            refine wp_region_held_drew (S := fun w' => w'.cell? ⟨b7, 0, none⟩ = some (.int .i64 z)) (by kernel_rfl) c7 (fun hHeld => ?_)
            try dsimp only at hHeld
            refine take_at (i := 0) (v := ?_) (some 90) rfl rfl (by kernel_rfl) (by kernel_rfl) (by kernel_rfl) (fun _ _ _ h => h) hHeld (by rfl) (fun wS hSw => ?_) ?_
            rotate_left
            · try dsimp only at hSw
              go_simp
              try with_reducible rfl
            try simp only [Act.put, List.setIfInBounds_toArray, List.set_cons_zero, List.set_cons_succ]
            refine take_at (i := 1) (v := ?_) (some 91) rfl rfl (by kernel_rfl) (by kernel_rfl) (by kernel_rfl) (fun _ _ _ h => h) hHeld (by rfl) (fun wS hSw => ?_) ?_
            rotate_left
            · try dsimp only at hSw
              go_simp
              try with_reducible rfl
            try simp only [Act.put, List.setIfInBounds_toArray, List.set_cons_zero, List.set_cons_succ]
            refine wpAnyH_ready (rs := [2]) (by kernel_rfl) (by simp) ?_
            refine AllReadyH.cons rfl (fun K hK => ?_) AllReadyH.nil
            simp only [List.getElem_toArray, List.getElem_cons_succ, List.getElem_cons_zero]
            go_simp
            refine HL.out.mono ?_
            rintro e w13 ⟨H13, rfl, h13⟩
            have hp13 : w13.heap[b7]? = some (.cells #[.int .i64 z] 3) ∧ w13.heap[b7 + 1]? = some (.cells #[.int .i64 (lastW X9)] 3) := h13.all (pairI b7 (b7 + 1) (.cells #[.int .i64 z] 3) (.cells #[.int .i64 (lastW X9)] 3)) (by simp)
            have hH2 : w13.cell? ⟨b7, 0, none⟩ = some (.int .i64 z) := by rw [cell_of_row w13 b7 0 _ _ _ hp13.1]; rfl
            have S13 := Lib.hid (show Star w ([boxI D (.deferred (some [])), pairI b7 (b7 + 1) (.cells #[.int .i64 z] 3) (.cells #[.int .i64 (lastW X9)] 3), markI ds, spI (fun k => k = gt) gt [] 0] ++ spI H13 gs X9 (102 * (k + 1)) :: [boxI b2 (.cells #[.bool false] 4)]) w13 from h13)
            clear h13 hp13 HL
            try dsimp only
            have hOld := hHeld
            refine hK.out _ _ hH2 (fun _ => ?_)
            clear hK K
            refine wpAnyH_mono (S2 := fun w' => w'.cell? ⟨b7, 0, none⟩ = some (.int .i64 z)) (fun _ h => h) _ _ _ _ ?_
            clear hHeld
            have hHeld := hH2
            clear hOld
            try simp only [Act.put, List.setIfInBounds_toArray, List.set_cons_zero, List.set_cons_succ]
            refine take_at (i := 3) (v := ?_) (some 93) rfl rfl (by kernel_rfl) (by kernel_rfl) (by kernel_rfl) (fun _ _ _ h => h) hHeld (by rfl) (fun wS hSw => ?_) ?_
            rotate_left
            · try dsimp only at hSw
              go_simp
              try with_reducible rfl
            try simp only [Act.put, List.setIfInBounds_toArray, List.set_cons_zero, List.set_cons_succ]
            refine wpAnyH_done (by kernel_rfl) ?_ _
            clear hHeld
            go_wp2_with fail
            refine ⟨⟨k + 1, X9, _, by omega, (Star.mark (Star.drop (A := [boxI D (.deferred (some []))]) S13.out)), by omega, rfl, rfl, rfl, rfl, rfl, rfl, rfl, by show _ = Value.int _ _; go_num⟩, ?_⟩
            show n - (intOf (.int .i64 _)).toNat < n - (intOf (.int .i64 k)).toNat
            simp [intOf]
            omega
      · have hleI : (100 : Int) < p.len := by omega
        go_upto_region 7 with (first
          | (refine wpList_load_mid rfl 28 (.tmp 42) rfl b0 (f + k * 6) rfl p.cells _ HR1.out Try.underlying28 rfl (op_infoL p) ?_)
          | (refine wpList_store_row rfl 28 (.tmp 6) (.tmp 43) rfl wr.heap.size p.cells.toArray rfl rfl 28 _ (heap_alloc_new wr _) (op_infoA p) (by rfl) (all_oneCell_toArray (op_one p)) ?_; rw [alloc_setRow, HE.out.1, HE.out.2]))
        go_wp2_with fail
        refine ⟨⟨k + 1, _, _, by omega, (show Star w (markI ds :: spI (fun k => k = gt) gt [] 0 :: spI Hs gs X (102 * (k + 1)) :: [boxI b2 (.cells #[.bool false] 4)]) w6 from Star.drop (A := []) (S6.out.update (I' := spI Hs gs X (102 * (k + 1))) ((show SpS w6 Hs gs X (102 * k) from S6.out.get).more (by omega)) (Grow.refl _ _))), by omega, rfl, rfl, rfl, rfl, rfl, rfl, rfl, by show _ = Value.int _ _; go_num⟩, ?_⟩
        show n - (intOf (.int .i64 _)).toNat < n - (intOf (.int .i64 k)).toNat
        simp [intOf]
        omega
    · obtain rfl : k = n := by omega
      have HXn := Lib.hid hX
      clear hX
      go_wp2_with fail
      obtain ⟨b10, hb10⟩ : ∃ v, wr.heap.size = v := ⟨_, rfl⟩
      obtain ⟨wq, hwq⟩ : ∃ v, wr.alloc (.cells #[.slice none 0 0] 26) = v := ⟨_, rfl⟩
      have SQ0 := Lib.hid (show Star w (boxI b10 (.cells #[.slice none 0 0] 26) :: markI ds :: spI (fun k => k = gt) gt [] 0 :: spI Hs gs X (102 * k) :: [boxI b2 (.cells #[.bool false] 4)]) wq from HXn.out.add (by rw [← hwq]; exact (Below.refl _ _).alloc (Nat.le_refl _) _) (show wq.heap[b10]? = _ by rw [← hwq, ← hb10]; exact heap_alloc_new wr _) (fun q hq => by have hq : q = b10 := hq; omega))
      have HB10 := Lib.hid (And.intro hb10 hwq)
      have HA := Lib.hid (all_star (A := [boxI b10 (.cells #[.slice none 0 0] 26), markI ds, spI (fun k => k = gt) gt [] 0]) (B := [boxI b2 (.cells #[.bool false] 4)]) SQ0.out)
      clear hb10 hwq
      go_wp2_with fail
      rw [HB10.out.2, HB10.out.1]
      refine HA.out.mono ?_
      clear HA HB10 SQ0
      rintro e w20 ⟨H20, ba, v20, base20, rfl, hS20⟩
      have S20 := Lib.hid hS20
      have hov : OwnT w20 base20 v20 X := hS20.all (thI v20 base20 X) (by simp)
      have BQ2 := Lib.hid (show w20.heap[b10]? = some (.cells #[.slice none 0 0] 26) from hS20.all (boxI b10 (.cells #[.slice none 0 0] 26)) (by simp))
      have BL2 := Lib.hid (show b10 < w20.heap.size from (Array.getElem?_eq_some_iff.1 BQ2.out).1)
      have hS : SpS w20 H20 gs X (102 * k) := hS20.all (spI H20 gs X (102 * k)) (by simp)
      have HXC := Lib.hid (show Can X ∧ (∀ x ∈ X, okT x) ∧ sumT X ≤ 536870912 from ⟨hS.can, hS.ob.okX.1, hS.le⟩)
      have hXl2 : X.length ≤ 100000 := by omega
      have SQ2 := Lib.hid (all_stops (n := 8) hov (hS20.all (boxI ba (.cells #[v20] 26)) (by simp)) hXl2 (fun q o => q = b10 ∨ (w20.heap.size ≤ q ∧ ∃ cs fr, o = .cells cs 34 fr)) (fun q hq o e => by
        rcases e with e | e
        · exact hS20.apart.2.1 (boxI b10 (.cells #[.slice none 0 0] 26)) (by simp) q hq e
        · have := own_lt hov hq; omega))
      clear hS20 hov hS hXl2
      go_wp2_with fail
      obtain ⟨fF2, hfF2⟩ : ∃ x : Value, .func (.func 30) #[] #[.pointer (some ⟨ba, 0, none⟩)] = x := ⟨_, rfl⟩
      unfold allF
      rw [hfF2]
      refine (wpIn_wide (n := 9)).1 ?_
      refine wpIn_rangeFunc_ownH rfl (by omega) (gf := 30) (lb := #[.pointer (some ⟨ba, 0, none⟩)]) hfF2.symm trivial (enters_of Try.func30 (by kernel_rfl) rfl)
        SQ2.out KeepsO.trans KeepsO.put (Below.refl _ _) (fun _ => rfl) (WasI w20 b10) (fun _ _ _ => False) (WasI.own BL2.out) (fun _ _ _ _ _ h _ _ => h.elim) (WasI.start BQ2.out)
        (fun x a' W => a'.defers = [] ∧ a'.tmps.size = 169 ∧ a'.tmps.getD 10 undef = .pointer (some ⟨b10, 0, none⟩) ∧ ∃ bx, a'.tmps.getD 11 undef = .pointer (some ⟨bx, 0, none⟩) ∧ W.heap[bx]? = some (.cells (encT x).toArray 34))
        ?ax2 ?assign2 ?body2 ?done2 ?stop2
      case ax2 =>
        rintro x a' _ W W' row ⟨h1, h2, h3, bx, h4, h5⟩ hg hr
        refine ⟨h1, h2, h3, bx, h4, (hg.block bx (Array.getElem?_eq_some_iff.1 h5).1 (fun e => ?_)).trans h5⟩
        obtain ⟨_, o, ho, hn⟩ := hr bx e.symm
        rw [h5] at ho
        cases ho
        cases hn
      case assign2 =>
        intro l pre x W K hI hK
        rw [thV_cells]
        obtain ⟨v, hq, ho, hst⟩ := hI
        obtain ⟨bx, hbx⟩ : ∃ v, W.heap.size = v := ⟨_, rfl⟩
        obtain ⟨w2, hw2⟩ : ∃ v, W.alloc (.cells (encT x).toArray 34) = v := ⟨_, rfl⟩
        have B2 : Below W.heap.size W w2 := by rw [← hw2]; exact (Below.refl _ _).alloc (Nat.le_refl _) _
        have HR := Lib.hid (show KeepsFrom w20.heap.size W w2 ∧ KeepsO (fun k o => k = b10 ∨ (w20.heap.size ≤ k ∧ ∃ cs fr, o = .cells cs 34 fr)) W w2 ∧ WasI w20 b10 pre w2 ∧ w2.heap[bx]? = some (.cells (encT x).toArray 34) from
          ⟨KeepsFrom.of_step (Step.of_below B2 (fun _ => False)) (fun _ _ _ h => h.elim), KeepsO.of_below B2, ⟨v, heap_later hq B2, OwnT.later ho B2, hst.trans (Step.of_below B2 _)⟩, by rw [← hw2, ← hbx]; exact heap_alloc_new W _⟩)
        have HE := Lib.hid (And.intro hw2 hbx)
        clear hq ho hst hbx hw2 B2
        gi_wp2_with (refine wpListIn_skipped rfl rfl (by intro c e; cases e) (exec_store_row 34 (.tmp 11) (.tmp 97) rfl W.heap.size (encT x).toArray rfl rfl 34 _ (heap_alloc_new W _) (by rw [List.size_toArray]; exact thing_info _) (by rfl) (all_oneCell_toArray (encT_one _))) ?_; rw [alloc_setRow, HE.out.1, HE.out.2])
        exact hK _ _ HR.out.1 HR.out.2.1 HR.out.2.2.1 ⟨rfl, rfl, rfl, bx, rfl, HR.out.2.2.2⟩
      case stop2 => exact fun _ _ _ _ _ _ h => h.elim
      case body2 =>
        rintro l pre x ⟨ts, ds⟩ W hl - ⟨v, hq, ho, hst⟩ ⟨h1, h2, h3, bx, h4, h5⟩ hlt
        dsimp only at h1 h2 h3 h4
        subst h1
        obtain ⟨u, rfl, hu⟩ := lit169 ts h2
        rw [← hu] at h3 h4
        rw [h3, h4]
        have hpl : pre.length ≤ 100000 := by omega
        have hcb : W.cell? ⟨b10, 0, none⟩ = some v := by rw [cell_of_row W b10 0 _ _ _ hq]; rfl
        obtain ⟨bz, hbz⟩ : ∃ v, W.heap.size = v := ⟨_, rfl⟩
        obtain ⟨wa, hwa⟩ : ∃ v, W.alloc (.cells (encT x).toArray 34) = v := ⟨_, rfl⟩
        have Ba := Lib.hid (show Below W.heap.size W wa by rw [← hwa]; exact (Below.refl _ _).alloc (Nat.le_refl _) _)
        have Sa := Lib.hid (show Sees wa (bz + 1) 2 (some ⟨bz, 0, none⟩) 1 (rowT [x]) from Sees.things (by rw [rowT_one, ← hwa, ← hbz]; exact heap_alloc_new _ _))
        have HR := Lib.hid (run_things x W)
        rw [hwa, hbz] at HR
        obtain ⟨np, hnp⟩ : ∃ n, pre.length = n := ⟨_, rfl⟩
        have Oa := Lib.hid (show wa.ownsRow w20.heap.size 34 2 v np (rowT pre) from by have h := own_later ho Ba.out; rw [hnp] at h; exact h)
        have HF := Lib.hid h5
        have HQ := Lib.hid (And.intro hq (And.intro ho (And.intro hst hnp)))
        have hbsz : w20.heap.size ≤ wa.heap.size := Nat.le_trans hst.size Ba.out.size
        rw [hnp] at hpl
        have hca : wa.cell? ⟨b10, 0, none⟩ = some v := cell_later hcb Ba.out
        clear hu hq ho hst hbz hwa hnp h5 hlt h2 h3 h4
        gi_wp2_with (first
          | (refine wpListIn_known rfl rfl (by intro c e; cases e) (exec_load_row 34 (.tmp 11) rfl bx rfl 34 (encT x).toArray (0, 0) _ HF.out Try.underlying34 rfl (by rw [List.size_toArray]; exact thing_info _)) ?_)
          | (refine wpListIn_known rfl rfl (by intro c e; cases e) (exec_slice1 26 (.tmp 99) rfl (.agg (encT x).toArray) rfl HR.out) ?_)
          | (gi_at_builtin
             refine wpListIn_append_sees _ rfl _ _ _ rfl w20.heap.size 34 i0 _ 2 16 Try.underlying26 ii0 iz0 iz1 iz2 rfl (by omega) _ np (rowT pre) rfl Oa.out (bz + 1) _ 1 1 (rowT [x]) rfl Sa.out (rowT_oneCell _) (by simp only [maxLen]; omega) (by omega) hbsz ?_
             intro v5 w5 hown5 hg5 hat5 hnil5
             have P5 := Lib.hid (WasI.round HQ.out.1 HQ.out.2.1 HQ.out.2.2.1 BL2.out HQ.out.2.2.2 Ba.out hown5 hg5)
             have hc5 := P5.out.2.2.2.1
             have hf5 := P5.out.2.2.2.2
             obtain ⟨A5, c5, rfl, hx5⟩ := own_shape hown5
             clear hown5 hg5 hat5 hnil5 hca hx5))
        exact ⟨P5.out.1, P5.out.2.1, P5.out.2.2.1⟩
      case done2 =>
        rintro D2 ys W2 hD2 hys hI hK
        have hys : X = ys := hys.symm
        subst hys
        obtain ⟨v12, hS12⟩ := WasI.marked (A := [boxI ba (.cells #[v20] 26), thI v20 base20 X]) (bw := b10) S20.out hI hD2 hK
        obtain ⟨m12, hm12⟩ : ∃ v, w20.heap.size = v := ⟨_, rfl⟩
        rw [hm12] at hS12
        have hS12 : Star w (boxI D2 (.deferred (some [])) :: ([thI v12 m12 X, boxI b10 (.cells #[v12] 26)] ++ markI ds :: [spI (fun k => k = gt) gt [] 0, spI H20 gs X (102 * k), boxI b2 (.cells #[.bool false] 4)])) W2 := (hS12.drop (A := [boxI D2 (.deferred (some [])), thI v12 m12 X])).drop (A := [boxI D2 (.deferred (some [])), thI v12 m12 X])
        obtain ⟨ds2, hds2⟩ : ∃ v, { target := .collected D2, args := #[] } :: ds = v := ⟨_, rfl⟩
        have hS12 := Star.mark (hS12.perm (List.Perm.cons _ List.perm_middle))
        rw [hds2] at hS12 ⊢
        obtain ⟨A12, c12, hv12, -, -⟩ := OwnT.shape (show OwnT W2 m12 v12 X from hS12.all (thI v12 m12 X) (by simp))
        obtain ⟨nX, hnX⟩ : ∃ v, X.length = v := ⟨_, rfl⟩
        have HNX := Lib.hid hnX
        rw [hnX] at hv12 hXl
        subst hv12
        have S12 := Lib.hid (show Star w (markI ds2 :: thI (.slice A12 nX c12) m12 X :: boxI b10 (.cells #[(.slice A12 nX c12)] 26) :: spI (fun k => k = gt) gt [] 0 :: spI H20 gs X (102 * k) :: [boxI b2 (.cells #[.bool false] 4)]) W2 from hS12)
        have c10 : W2.cell? ⟨b10, 0, none⟩ = some (.slice A12 nX c12) := by rw [cell_of_row W2 b10 0 _ _ _ (show W2.heap[b10]? = some (.cells #[.slice A12 nX c12] 26) from S12.out.all (boxI b10 _) (by simp))]; rfl
        have g1 : IntKind.i64.wrap ((nX : Int) - 1) = (nX : Int) - 1 := IntWalk.i64_in _ (by omega)
        clear hS12 hI hK hD2 SQ2 BL2 BQ2 S20 hnX hds2 hm12 hfF2
        go_wp2_with fail
        clear c10 g1
        go_loopw [12] (fun vi wy => ∃ (j : Nat) (H : Nat → Prop), j ≤ nX ∧ vi = .int .i64 ((nX : Int) - 1 - (j : Int)) ∧ Star w (markI ds2 :: thI (.slice A12 nX c12) m12 X :: boxI b10 (.cells #[(.slice A12 nX c12)] 26) :: spI H gt (X.drop (nX - j)) (4 * j + 5) :: spI H20 gs X (102 * k) :: [boxI b2 (.cells #[.bool false] 4)]) wy) (fun vi _ => (intOf vi + 1).toNat)
        case atStart => exact ⟨0, _, Nat.zero_le _, by simp, by rw [Nat.sub_zero, List.drop_of_length_le (by have := HNX.out; omega)]; exact Star.update (A := [markI ds2, thI (.slice A12 nX c12) m12 X, boxI b10 (.cells #[(.slice A12 nX c12)] 26)]) (I' := spI (fun k => k = gt) gt [] (4 * 0 + 5)) S12.out ((show SpS W2 (fun k => k = gt) gt [] 0 from S12.out.all (spI (fun k => k = gt) gt [] 0) (by simp)).more (by omega)) (Grow.refl _ _)⟩
        case round =>
          rename World => wy
          obtain ⟨j, H, hj, rfl, hS⟩ := hrel
          by_cases hjl : j < nX
          · obtain ⟨i, hi⟩ : ∃ i, i + j + 1 = nX := ⟨nX - j - 1, by omega⟩
            have hie : (nX : Int) - 1 - (j : Int) = (i : Int) := by omega
            obtain ⟨x, hx⟩ : ∃ x, X[i]? = some x := ⟨_, List.getElem?_eq_getElem (by have := HNX.out; omega)⟩
            have HY := Lib.hid (show X.drop (nX - (j + 1)) = x :: X.drop (nX - j) from by
              obtain ⟨hil, hxe⟩ := List.getElem?_eq_some_iff.1 hx
              rw [show nX - (j + 1) = i by omega, show nX - j = i + 1 by omega, List.drop_eq_getElem_cons hil, hxe])
            obtain ⟨Y, hY⟩ : ∃ Y, X.drop (nX - j) = Y := ⟨_, rfl⟩
            have hYl : Y.length ≤ nX := by rw [← hY, List.length_drop, HNX.out]; omega
            have hYj : Y.length ≤ j := by rw [← hY, List.length_drop, HNX.out]; omega
            rw [hY] at hS HY
            have HXY := Lib.hid (show Can (x :: Y) ∧ (∀ y ∈ x :: Y, okT y) ∧ sumT (x :: Y) ≤ 536870912 from by
              rw [← HY.out]
              have hsplit := List.take_append_drop (nX - (j + 1)) X
              refine ⟨Can.right (A := X.take (nX - (j + 1))) (by rw [hsplit]; exact HXC.out.1), fun y hy => HXC.out.2.1 y (List.mem_of_mem_drop hy), ?_⟩
              have h1 := sumT_append (X.take (nX - (j + 1))) (X.drop (nX - (j + 1)))
              rw [hsplit] at h1
              have h2 := sumT_nonneg (l := X.take (nX - (j + 1))) (fun y hy => HXC.out.2.1 y (List.mem_of_mem_take hy))
              have h3 := HXC.out.2.2
              omega)
            obtain ⟨-, p, hAp, -, -, hr, -⟩ := OwnT.thing (show OwnT wy m12 (.slice A12 nX c12) X from hS.all (thI (.slice A12 nX c12) m12 X) (by simp)) hx
            have HRx := Lib.hid hr
            have c10 : wy.cell? ⟨b10, 0, none⟩ = some (.slice A12 nX c12) := by rw [cell_of_row wy b10 0 _ _ _ (show wy.heap[b10]? = some (.cells #[.slice A12 nX c12] 26) from hS.all (boxI b10 _) (by simp))]; rfl
            obtain ⟨bx, hbx⟩ : ∃ v, wy.heap.size = v := ⟨_, rfl⟩
            obtain ⟨w2, hw2⟩ : ∃ v, wy.alloc (.cells (encT x).toArray 34) = v := ⟨_, rfl⟩
            have S2 := Lib.hid (show Star w (boxI bx (.cells (encT x).toArray 34) :: markI ds2 :: thI (.slice A12 nX c12) m12 X :: boxI b10 (.cells #[(.slice A12 nX c12)] 26) :: spI H gt Y (4 * j + 5) :: spI H20 gs X (102 * k) :: [boxI b2 (.cells #[.bool false] 4)]) w2 from hS.add (by rw [← hw2]; exact (Below.refl _ _).alloc (Nat.le_refl _) _) (show w2.heap[bx]? = _ by rw [← hw2, ← hbx]; exact heap_alloc_new wy _) (fun q hq => by have hq : q = bx := hq; omega))
            have hq2 : w2.heap[bx]? = some (.cells (encT x).toArray 34) := S2.out.all (boxI bx _) (by simp)
            have e0 : w2.cell? ⟨bx, 0, none⟩ = some (.int .i64 x.n) := by rw [cell_of_row w2 bx 0 _ _ _ hq2]; rfl
            have e1 : w2.cell? ⟨bx, 1, none⟩ = some (.int .i64 x.id) := by rw [cell_of_row w2 bx 1 _ _ _ hq2]; rfl
            have HE := Lib.hid (And.intro hw2 hbx)
            have hiI : (i : Int) < (nX : Int) := by omega
            have hi0 : (0 : Int) ≤ (i : Int) := by omega
            rw [hie]
            rw [hAp] at c10
            clear hx hY hS hr hbx hw2 hq2 hie hAp
            go_upto_region 28 with (first
              | (refine wpList_load_mid rfl 34 (.tmp 111) rfl p (i * 2) rfl (encT x) _ HRx.out Try.underlying34 rfl (thing_info x) ?_)
              | (refine wpList_store_row rfl 34 (.tmp 13) (.tmp 112) rfl wy.heap.size (encT x).toArray rfl rfl 34 _ (heap_alloc_new wy _) (by rw [List.size_toArray]; exact thing_info _) (by rfl) (all_oneCell_toArray (encT_one _)) ?_; rw [alloc_setRow, HE.out.1, HE.out.2]))
            obtain ⟨q, hq⟩ : ∃ q, x.n.tdiv 2 = q := ⟨_, rfl⟩
            have hxn := HXY.out.1.pos x (by simp)
            have hxn2 := (HXY.out.2.1 x (by simp)).2
            have hxq : x.n.tdiv 2 = x.n / 2 := Int.tdiv_eq_ediv_of_nonneg (by omega)
            have gq0 : IntKind.i64.wrap q = q := IntWalk.i64_in _ (by omega)
            have gr : IntKind.i64.wrap (x.n - q) = x.n - q := IntWalk.i64_in _ (by omega)
            have hYok : ∀ y ∈ Y, okT y := fun y hy => HXY.out.2.1 y (List.mem_cons_of_mem _ hy)
            have hYs : sumT (x :: Y) = x.n + sumT Y := by rw [show x :: Y = [x] ++ Y from rfl, sumT_append]; simp [sumT, sizeT]
            have HF1 := Lib.hid (spX_front (m := q) (id := x.id) HXY.out.1.tail hYok (by omega) (by omega) (by have := HXY.out.2.2; omega))
            have HQ := Lib.hid hq
            have hYl2 := spX_len (l := [⟨q, x.id⟩]) (i := 0) (j := 0) HXY.out.1.tail hYok
            rw [List.length_singleton] at hYl2
            have HYj := Lib.hid (show Y.length ≤ j from hYj)
            clear hxn hxn2 hxq hYok hYs
            obtain ⟨bz, hbz⟩ : ∃ v, w2.heap.size = v := ⟨_, rfl⟩
            obtain ⟨w3, hw3⟩ : ∃ v, w2.alloc (.cells #[.int .i64 q, .int .i64 x.id] 34) = v := ⟨_, rfl⟩
            have S3 := Lib.hid (show Star w (boxI bz (.cells (rowT [⟨q, x.id⟩]).toArray 34) :: boxI bx (.cells (encT x).toArray 34) :: markI ds2 :: thI (.slice A12 nX c12) m12 X :: boxI b10 (.cells #[(.slice A12 nX c12)] 26) :: spI H gt Y (4 * j + 5) :: spI H20 gs X (102 * k) :: [boxI b2 (.cells #[.bool false] 4)]) w3 from S2.out.add (by rw [← hw3]; exact (Below.refl _ _).alloc (Nat.le_refl _) _) (show w3.heap[bz]? = _ by rw [← hw3, ← hbz]; exact heap_alloc_new w2 _) (fun q hq => by have hq : q = bz := hq; omega))
            have HSp := Lib.hid (splice_star (A := boxI bz (.cells (rowT [⟨q, x.id⟩]).toArray 34) :: [boxI bx (.cells (encT x).toArray 34), markI ds2, thI (.slice A12 nX c12) m12 X, boxI b10 (.cells #[(.slice A12 nX c12)] 26)]) (B := [spI H20 gs X (102 * k), boxI b2 (.cells #[.bool false] 4)]) S3.out (Aa := some ⟨bz, 0, none⟩) (c := 1) (l := [⟨q, x.id⟩]) (Sees.things (S3.out.all (boxI bz _) (by simp))) (by have := (Array.getElem?_eq_some_iff.1 (show w3.heap[bz]? = some (.cells (rowT [⟨q, x.id⟩]).toArray 34) from S3.out.all (boxI bz _) (by simp))).1; omega) (fun _ b0 o0 e0 hb0 => by
              simp only [Option.some.injEq, Addr.mk.injEq] at e0
              exact S3.out.apart.1 (spI H gt Y (4 * j + 5)) (by simp) bz rfl (e0.1 ▸ hb0)) (Nat.le_refl _) 0 0 (by simp) (by omega) (by simp only [List.length_singleton]; omega))
            obtain ⟨Y1, hY1⟩ : ∃ Y1, spX Y 0 0 [⟨q, x.id⟩] = Y1 := ⟨_, rfl⟩
            rw [HF1.out.1, hY1] at HSp
            have HYY := Lib.hid hY1
            rw [hY1] at hYl2
            clear hY1
            go_wp2_with fail
            refine HSp.out.mono ?_
            clear HSp hbz hw3 e0 e1 hq
            rintro e w4 ⟨H4, rfl, h4⟩
            have S4 := Lib.hid (show Star w (boxI bz (.cells (rowT [⟨q, x.id⟩]).toArray 34) :: boxI bx (.cells (encT x).toArray 34) :: markI ds2 :: thI (.slice A12 nX c12) m12 X :: boxI b10 (.cells #[(.slice A12 nX c12)] 26) :: spI H4 gt Y1 (max (4 * j + 5 + 2) Y1.length) :: spI H20 gs X (102 * k) :: [boxI b2 (.cells #[.bool false] 4)]) w4 from h4)
            have hq4 : w4.heap[bx]? = some (.cells (encT x).toArray 34) := S4.out.all (boxI bx _) (by simp)
            have e0 : w4.cell? ⟨bx, 0, none⟩ = some (.int .i64 x.n) := by rw [cell_of_row w4 bx 0 _ _ _ hq4]; rfl
            have e1 : w4.cell? ⟨bx, 1, none⟩ = some (.int .i64 x.id) := by rw [cell_of_row w4 bx 1 _ _ _ hq4]; rfl
            have hS4 : SpS w4 H4 gt Y1 (max (4 * j + 5 + 2) Y1.length) := S4.out.all (spI H4 gt Y1 _) (by simp)
            have HTW := Lib.hid (spX_twice HXY.out.1 HXY.out.2.1 HXY.out.2.2 (by rw [HQ.out, HYY.out]; exact hS4.ob.okX.1))
            rw [HQ.out, HYY.out] at HTW
            have hq := HQ.out
            clear h4 hq4 hS4
            obtain ⟨bv, hbv⟩ : ∃ v, w4.heap.size = v := ⟨_, rfl⟩
            obtain ⟨w5, hw5⟩ : ∃ v, w4.alloc (.cells #[.int .i64 (x.n - q), .int .i64 x.id] 34) = v := ⟨_, rfl⟩
            have S5 := Lib.hid (show Star w (boxI bv (.cells (rowT [⟨(x.n - q), x.id⟩]).toArray 34) :: boxI bz (.cells (rowT [⟨q, x.id⟩]).toArray 34) :: boxI bx (.cells (encT x).toArray 34) :: markI ds2 :: thI (.slice A12 nX c12) m12 X :: boxI b10 (.cells #[(.slice A12 nX c12)] 26) :: spI H4 gt Y1 (max (4 * j + 5 + 2) Y1.length) :: spI H20 gs X (102 * k) :: [boxI b2 (.cells #[.bool false] 4)]) w5 from S4.out.add (by rw [← hw5]; exact (Below.refl _ _).alloc (Nat.le_refl _) _) (show w5.heap[bv]? = _ by rw [← hw5, ← hbv]; exact heap_alloc_new w4 _) (fun q hq => by have hq : q = bv := hq; omega))
            have HSp := Lib.hid (splice_star (A := boxI bv (.cells (rowT [⟨(x.n - q), x.id⟩]).toArray 34) :: [boxI bz (.cells (rowT [⟨q, x.id⟩]).toArray 34), boxI bx (.cells (encT x).toArray 34), markI ds2, thI (.slice A12 nX c12) m12 X, boxI b10 (.cells #[(.slice A12 nX c12)] 26)]) (B := [spI H20 gs X (102 * k), boxI b2 (.cells #[.bool false] 4)]) S5.out (Aa := some ⟨bv, 0, none⟩) (c := 1) (l := [⟨(x.n - q), x.id⟩]) (Sees.things (S5.out.all (boxI bv _) (by simp))) (by have := (Array.getElem?_eq_some_iff.1 (show w5.heap[bv]? = some (.cells (rowT [⟨(x.n - q), x.id⟩]).toArray 34) from S5.out.all (boxI bv _) (by simp))).1; omega) (fun _ b0 o0 e0 hb0 => by
              simp only [Option.some.injEq, Addr.mk.injEq] at e0
              exact S5.out.apart.1 (spI H4 gt Y1 (max (4 * j + 5 + 2) Y1.length)) (by simp) bv rfl (e0.1 ▸ hb0)) (Nat.le_refl _) 0 0 (by simp) (by omega) (by simp only [List.length_singleton]; omega))
            rw [HTW.out.2.1, HTW.out.2.2] at HSp
            have g3 : IntKind.i64.wrap ((i : Int) - 1) = (i : Int) - 1 := IntWalk.i64_in _ (by omega)
            go_wp2_with fail
            refine HSp.out.mono ?_
            clear HSp hbv hw5 e0 e1 hq
            rintro e w6 ⟨H6, rfl, h6⟩
            have S6 := Lib.hid (show Star w (markI ds2 :: thI (.slice A12 nX c12) m12 X :: boxI b10 (.cells #[(.slice A12 nX c12)] 26) :: spI H6 gt (x :: Y) (4 * (j + 1) + 5) :: spI H20 gs X (102 * k) :: [boxI b2 (.cells #[.bool false] 4)]) w6 from by
              have h7 : Star w (markI ds2 :: thI (.slice A12 nX c12) m12 X :: boxI b10 (.cells #[(.slice A12 nX c12)] 26) :: spI H6 gt (x :: Y) (max (max (4 * j + 5 + 2) Y1.length + 2) (x :: Y).length) :: spI H20 gs X (102 * k) :: [boxI b2 (.cells #[.bool false] 4)]) w6 := Star.drop (A := []) (Star.drop (A := []) (Star.drop (A := []) h6))
              exact Star.update (A := [markI ds2, thI (.slice A12 nX c12) m12 X, boxI b10 (.cells #[(.slice A12 nX c12)] 26)]) (I' := spI H6 gt (x :: Y) (4 * (j + 1) + 5)) h7 ((show SpS w6 H6 gt (x :: Y) (max (max (4 * j + 5 + 2) Y1.length + 2) (x :: Y).length) from h7.all (spI H6 gt (x :: Y) (max (max (4 * j + 5 + 2) Y1.length + 2) (x :: Y).length)) (by simp)).more (by have := HYj.out; rw [List.length_cons]; omega)) (Grow.refl _ _))
            clear h6
            go_wp2_with fail
            go_roundw
            case rel => exact ⟨j + 1, H6, by omega, by congr 1; omega, by rw [HY.out]; exact S6.out⟩
            case measure => first | (simp [intOf]; done) | (simp [intOf]; omega)
          · obtain rfl : nX = j := by omega
            rw [Nat.sub_self, List.drop_zero] at hS
            obtain ⟨b14, hb14⟩ : ∃ v, wy.heap.size = v := ⟨_, rfl⟩
            obtain ⟨wv, hwv⟩ : ∃ v, wy.alloc (.cells #[.int .i64 0] 3) = v := ⟨_, rfl⟩
            have S5 := Lib.hid (show Star w (boxI b14 (.cells #[.int .i64 0] 3) :: markI ds2 :: thI (.slice A12 nX c12) m12 X :: boxI b10 (.cells #[(.slice A12 nX c12)] 26) :: spI H gt X (4 * nX + 5) :: spI H20 gs X (102 * k) :: [boxI b2 (.cells #[.bool false] 4)]) wv from hS.add (by rw [← hwv]; exact (Below.refl _ _).alloc (Nat.le_refl _) _) (show wv.heap[b14]? = _ by rw [← hwv, ← hb14]; exact heap_alloc_new wy _) (fun q hq => by have hq : q = b14 := hq; omega))
            have HB14 := Lib.hid (And.intro hb14 hwv)
            have HA := Lib.hid (all_star (A := [boxI b14 (.cells #[.int .i64 0] 3), markI ds2, thI (.slice A12 nX c12) m12 X, boxI b10 (.cells #[(.slice A12 nX c12)] 26)]) (B := [spI H20 gs X (102 * k), boxI b2 (.cells #[.bool false] 4)]) S5.out)
            clear hS hb14 hwv
            go_wp2_with fail
            rw [HB14.out.2, HB14.out.1]
            refine HA.out.mono ?_
            clear HA HB14 S5
            rintro e w30 ⟨H30, ba3, v3, base3, rfl, hS30⟩
            have S30 := Lib.hid (show Star w ([boxI ba3 (.cells #[v3] 26), thI v3 base3 X] ++ boxI b14 (.cells #[.int .i64 0] 3) :: [markI ds2, thI (.slice A12 nX c12) m12 X, boxI b10 (.cells #[(.slice A12 nX c12)] 26), spI H30 gt X (4 * nX + 5), spI H20 gs X (102 * k), boxI b2 (.cells #[.bool false] 4)]) w30 from hS30)
            have hov : OwnT w30 base3 v3 X := hS30.all (thI v3 base3 X) (by simp)
            have BQ3 := Lib.hid (show w30.heap[b14]? = some (.cells #[.int .i64 0] 3) from hS30.all (boxI b14 (.cells #[.int .i64 0] 3)) (by simp))
            have BL3 := Lib.hid (show b14 < w30.heap.size from (Array.getElem?_eq_some_iff.1 BQ3.out).1)
            have B23 := Lib.hid (show w30.heap[b2]? = some (.cells #[.bool false] 4) ∧ b2 ≠ b14 from ⟨hS30.all (boxI b2 (.cells #[.bool false] 4)) (by simp), fun e => hS30.apart.2.2.1 (boxI b2 (.cells #[.bool false] 4)) (by simp) b14 rfl e.symm⟩)
            have B10 := Lib.hid (show w30.heap[b10]? = some (.cells #[.slice A12 nX c12] 26) ∧ b10 ≠ b14 from ⟨hS30.all (boxI b10 (.cells #[(.slice A12 nX c12)] 26)) (by simp), fun e => hS30.apart.2.2.1 (boxI b10 (.cells #[(.slice A12 nX c12)] 26)) (by simp) b14 rfl e.symm⟩)
            have HT12 := Lib.hid (show OwnT w30 m12 (.slice A12 nX c12) X ∧ ∀ q, (Value.slice A12 nX c12).ownBlock = some q → q ≠ b14 from ⟨hS30.all (thI (.slice A12 nX c12) m12 X) (by simp), fun q hq e => hS30.apart.2.2.1 (thI (.slice A12 nX c12) m12 X) (by simp) b14 rfl (e ▸ hq)⟩)
            have hXl2 : X.length ≤ 100000 := by have := HNX.out; omega
            have SQ3 := Lib.hid (all_stops (n := 8) hov (hS30.all (boxI ba3 (.cells #[v3] 26)) (by simp)) hXl2 (fun q _ => q = b14) (fun q hq o e => hS30.apart.2.1 (boxI b14 (.cells #[.int .i64 0] 3)) (by simp) q hq e))
            clear hS30 hov hXl2
            go_wp2_with fail
            obtain ⟨fF3, hfF3⟩ : ∃ x : Value, .func (.func 30) #[] #[.pointer (some ⟨ba3, 0, none⟩)] = x := ⟨_, rfl⟩
            unfold allF
            rw [hfF3]
            refine (wpIn_wide (n := 9)).1 ?_
            refine wpIn_rangeFunc_ownH rfl (by omega) (gf := 30) (lb := #[.pointer (some ⟨ba3, 0, none⟩)]) hfF3.symm trivial (enters_of Try.func30 (by kernel_rfl) rfl)
              SQ3.out KeepsO.trans KeepsO.put (Below.refl _ _) (fun _ => rfl) (LenI w30 b14) (fun c pre _ => c = .ret ∧ BadAt X pre) (LenI.own BL3.out) (fun _ _ _ _ _ h _ _ => h) (LenI.start BQ3.out)
              (fun x a' W => a'.defers = [] ∧ a'.tmps.size = 169 ∧ a'.tmps.getD 2 undef = .pointer (some ⟨b2, 0, none⟩) ∧ a'.tmps.getD 10 undef = .pointer (some ⟨b10, 0, none⟩) ∧ a'.tmps.getD 14 undef = .pointer (some ⟨b14, 0, none⟩) ∧ ∃ bx, a'.tmps.getD 15 undef = .pointer (some ⟨bx, 0, none⟩) ∧ w30.heap.size ≤ bx ∧ W.heap[bx]? = some (.cells (encT x).toArray 34))
              ?ax3 ?assign3 ?body3 ?done3 ?stop3
            case ax3 =>
              rintro x a' _ W W' row ⟨h1, h2, h3, h4, h5, bx, h6, h7, h8⟩ hg hr
              refine ⟨h1, h2, h3, h4, h5, bx, h6, h7, (hg.block bx (Array.getElem?_eq_some_iff.1 h8).1 (fun e => ?_)).trans h8⟩
              obtain ⟨_, o, ho, hn⟩ := hr bx e.symm
              rw [h8] at ho
              cases ho
              cases hn
            case assign3 =>
              intro l pre x W K hI hK
              rw [thV_cells]
              obtain ⟨bx, hbx⟩ : ∃ v, W.heap.size = v := ⟨_, rfl⟩
              obtain ⟨w2, hw2⟩ : ∃ v, W.alloc (.cells (encT x).toArray 34) = v := ⟨_, rfl⟩
              have B2' : Below W.heap.size W w2 := by rw [← hw2]; exact (Below.refl _ _).alloc (Nat.le_refl _) _
              have HR := Lib.hid (show KeepsFrom w30.heap.size W w2 ∧ KeepsO (fun q _ => q = b14) W w2 ∧ LenI w30 b14 pre w2 ∧ w30.heap.size ≤ bx ∧ w2.heap[bx]? = some (.cells (encT x).toArray 34) from
                ⟨KeepsFrom.of_step (Step.of_below B2' (fun _ => False)) (fun _ _ _ h => h.elim), KeepsO.of_below B2', hI.later B2', by rw [← hbx]; exact hI.2.size, by rw [← hw2, ← hbx]; exact heap_alloc_new W _⟩)
              have HE := Lib.hid (And.intro hw2 hbx)
              clear hI hbx hw2 B2'
              gi_wp2_with (refine wpListIn_skipped rfl rfl (by intro c e; cases e) (exec_store_row 34 (.tmp 15) (.tmp 140) rfl W.heap.size (encT x).toArray rfl rfl 34 _ (heap_alloc_new W _) (by rw [List.size_toArray]; exact thing_info _) (by rfl) (all_oneCell_toArray (encT_one _))) ?_; rw [alloc_setRow, HE.out.1, HE.out.2])
              exact hK _ _ HR.out.1 HR.out.2.1 HR.out.2.2.1 ⟨rfl, rfl, rfl, rfl, rfl, bx, rfl, HR.out.2.2.2.1, HR.out.2.2.2.2⟩
            case body3 =>
              rintro l pre x ⟨ts, ds'⟩ W hl - hI ⟨h1, h2, h3, h4, h5, bx, h6, h7, h8⟩ hlt
              dsimp only at h1 h2 h3 h4 h5 h6
              subst h1
              obtain ⟨u', rfl, hu'⟩ := lit169 ts h2
              rw [← hu'] at h3 h4 h5 h6
              rw [h3, h4, h5, h6]
              obtain ⟨m, hm⟩ : ∃ m, pre.length = m := ⟨_, rfl⟩
              obtain ⟨y, hy⟩ : ∃ y, X[m]? = some y := ⟨_, List.getElem?_eq_getElem (by omega)⟩
              have hmI : (m : Int) < (nX : Int) := by have := HNX.out; omega
              have hmN : m < nX := by omega
              have c14 : W.drew.cell? ⟨b14, 0, none⟩ = some (.int .i64 (m : Int)) := by rw [← hm]; show W.cell? _ = _; rw [cell_of_row W b14 0 _ _ _ hI.1]; rfl
              have hq10 : W.heap[b10]? = some (.cells #[.slice A12 nX c12] 26) := (hI.2.block b10 (Array.getElem?_eq_some_iff.1 B10.out.1).1 B10.out.2).trans B10.out.1
              have hq2 : W.heap[b2]? = some (.cells #[.bool false] 4) := (hI.2.block b2 (Array.getElem?_eq_some_iff.1 B23.out.1).1 B23.out.2).trans B23.out.1
              have c10 : W.drew.cell? ⟨b10, 0, none⟩ = some (.slice A12 nX c12) := by show W.cell? _ = _; rw [cell_of_row W b10 0 _ _ _ hq10]; rfl
              have c20 : W.cell? ⟨b2, 0, none⟩ = some (.bool false) := by rw [cell_of_row W b2 0 _ _ _ hq2]; rfl
              have f20 : W.frozen? ⟨b2, 0, none⟩ = false := frozen_of_row W b2 0 _ _ hq2
              have f14 : W.frozen? ⟨b14, 0, none⟩ = false := frozen_of_row W b14 0 _ _ hI.1
              obtain ⟨-, p, hAp, -, -, hr, -⟩ := OwnT.thing (own_step HT12.out.1 hI.2 HT12.out.2) hy
              subst hAp
              have HR3 := Lib.hid (show W.drew.cell? ⟨b14, 0, none⟩ = some (.int .i64 (m : Int)) ∧ W.drew.cell? ⟨b10, 0, none⟩ = some (.slice (some ⟨p, 0, none⟩) nX c12) ∧ W.drew.heap[bx]? = some (.cells (encT x).toArray 34) ∧ W.drew.rangeAt p (m * 2) (encT y) from ⟨c14, c10, h8, hr⟩)
              have HI := Lib.hid hI
              have HQ2 := Lib.hid hq2
              have HM := Lib.hid hm
              have HY := Lib.hid hy
              have g1 : IntKind.i64.wrap ((m : Int) + 1) = (m : Int) + 1 := IntWalk.i64_in _ (by omega)
              clear hu' h2 h3 h4 h5 h6 h7 h8 hlt hI hq10 hq2 hm hy hr c14 c10
              by_cases hxy : x = y
              · have HNE := Lib.hid (show decide (x ≠ y) = false by simp [hxy])
                have HN := Lib.hid (LenI.next (x := x) HI.out (W2 := W.drew.setCell ⟨b14, 0, none⟩ (.int .i64 ((m : Int) + 1))) ((((Step.refl (fun q => q = b14) W).drewN 1)).setCell (p := ⟨b14, 0, none⟩) (.inl rfl) _) (by rw [HM.out]; exact heap_setCell_same W.drew b14 0 _ _ _ HI.out.1))
                have c14 := HR3.out.1
                have f14' : W.drew.frozen? ⟨b14, 0, none⟩ = false := f14
                clear hxy
                gi_wp2_with fail
                refine wpIn_region_held_drew (S := fun w' => w'.cell? ⟨b14, 0, none⟩ = some (.int .i64 (m : Int)) ∧ w'.cell? ⟨b10, 0, none⟩ = some (.slice (some ⟨p, 0, none⟩) nX c12) ∧ w'.heap[bx]? = some (.cells (encT x).toArray 34) ∧ w'.rangeAt p (m * 2) (encT y)) (by kernel_rfl) (by kernel_rfl) (fun _ _ h => h) HR3.out (fun hHeld => ?_)
                try dsimp only at hHeld
                refine take_at (i := 0) (v := ?_) (some 141) rfl rfl (by kernel_rfl) (by kernel_rfl) (by kernel_rfl) (fun _ _ _ h => h) hHeld (by rfl) (fun wS hSw => ?_) ?_
                rotate_left
                · have hS1 := hSw.1
                  have hS2 := hSw.2.1
                  try dsimp only at hSw
                  go_simp
                  try with_reducible rfl
                try simp only [Act.put, List.setIfInBounds_toArray, List.set_cons_zero, List.set_cons_succ]
                refine take_at (i := 1) (v := ?_) (some 142) rfl rfl (by kernel_rfl) (by kernel_rfl) (by kernel_rfl) (fun _ _ _ h => h) hHeld (by rfl) (fun wS hSw => ?_) ?_
                rotate_left
                · have hS1 := hSw.1
                  have hS2 := hSw.2.1
                  try dsimp only at hSw
                  go_simp
                  try with_reducible rfl
                try simp only [Act.put, List.setIfInBounds_toArray, List.set_cons_zero, List.set_cons_succ]
                refine take_at (i := 2) (v := ?_) (some 143) rfl rfl (by kernel_rfl) (by kernel_rfl) (by kernel_rfl) (fun _ _ _ h => h) hHeld (by rfl) (fun wS hSw => ?_) ?_
                rotate_left
                · try dsimp only at hSw
                  go_simp
                  try with_reducible rfl
                try simp only [Act.put, List.setIfInBounds_toArray, List.set_cons_zero, List.set_cons_succ]
                refine take_at (i := 3) (v := .bool false) (some 144) rfl rfl (by kernel_rfl) (by kernel_rfl) (by kernel_rfl) (fun _ _ _ h => h) hHeld (by rfl) (fun wS hSw => ?_) ?_
                · try dsimp only at hSw
                  go_simp
                  try with_reducible rfl
                try simp only [Act.put, List.setIfInBounds_toArray, List.set_cons_zero, List.set_cons_succ]
                refine take_at (i := 4) (v := .bool false) (some 145) rfl rfl (by kernel_rfl) (by kernel_rfl) (by kernel_rfl) (fun _ _ _ h => h) hHeld (by rfl) (fun wS hSw => ?_) ?_
                · try dsimp only at hSw
                  go_simp
                  try with_reducible rfl
                try simp only [Act.put, List.setIfInBounds_toArray, List.set_cons_zero, List.set_cons_succ]
                refine take_at (i := 5) (v := ?_) (some 146) rfl rfl (by kernel_rfl) (by kernel_rfl) (by kernel_rfl) (fun _ _ _ h => h) hHeld (by rfl) (fun wS hSw => ?_) ?_
                rotate_left
                · refine exec_load_row 34 (.tmp 15) ?_ bx ?_ 34 (encT x).toArray (0, 0) _ hSw.2.2.1 Try.underlying34 rfl (by rw [List.size_toArray]; exact thing_info _) <;> rfl
                try simp only [Act.put, List.setIfInBounds_toArray, List.set_cons_zero, List.set_cons_succ]
                refine take_at (i := 6) (v := ?_) (some 147) rfl rfl (by kernel_rfl) (by kernel_rfl) (by kernel_rfl) (fun _ _ _ h => h) hHeld (by rfl) (fun wS hSw => ?_) ?_
                rotate_left
                · have hS1 := hSw.1
                  have hS2 := hSw.2.1
                  try dsimp only at hSw
                  go_simp
                  try with_reducible rfl
                try simp only [Act.put, List.setIfInBounds_toArray, List.set_cons_zero, List.set_cons_succ]
                refine take_at (i := 7) (v := ?_) (some 148) rfl rfl (by kernel_rfl) (by kernel_rfl) (by kernel_rfl) (fun _ _ _ h => h) hHeld (by rfl) (fun wS hSw => ?_) ?_
                rotate_left
                · have hS1 := hSw.1
                  have hS2 := hSw.2.1
                  try dsimp only at hSw
                  go_simp
                  try with_reducible rfl
                try simp only [Act.put, List.setIfInBounds_toArray, List.set_cons_zero, List.set_cons_succ]
                refine take_at (i := 8) (v := ?_) (some 149) rfl rfl (by kernel_rfl) (by kernel_rfl) (by kernel_rfl) (fun _ _ _ h => h) hHeld (by rfl) (fun wS hSw => ?_) ?_
                rotate_left
                · try dsimp only at hSw
                  go_simp
                  try with_reducible rfl
                try simp only [Act.put, List.setIfInBounds_toArray, List.set_cons_zero, List.set_cons_succ]
                refine take_at (i := 9) (v := ?_) (some 150) rfl rfl (by kernel_rfl) (by kernel_rfl) (by kernel_rfl) (fun _ _ _ h => h) hHeld (by rfl) (fun wS hSw => ?_) ?_
                rotate_left
                · refine exec_load_mid 34 (.tmp 149) ?_ p (m * 2) ?_ (encT y) _ hSw.2.2.2 Try.underlying34 rfl (thing_info y) <;> rfl
                try simp only [Act.put, List.setIfInBounds_toArray, List.set_cons_zero, List.set_cons_succ]
                refine take_at (i := 10) (v := ?_) (some 151) rfl rfl (by kernel_rfl) (by kernel_rfl) (by kernel_rfl) (fun _ _ _ h => h) hHeld (by rfl) (fun wS hSw => ?_) ?_
                rotate_left
                · refine exec_ne_span (.tmp 146) (.tmp 150) ?_ x y ?_ ?_ false HNE.out <;> rfl
                try simp only [Act.put, List.setIfInBounds_toArray, List.set_cons_zero, List.set_cons_succ]
                refine take_at (i := 11) (v := ?_) (some 152) rfl rfl (by kernel_rfl) (by kernel_rfl) (by kernel_rfl) (fun _ _ _ h => h) hHeld (by rfl) (fun wS hSw => ?_) ?_
                rotate_left
                · try dsimp only at hSw
                  go_simp
                  try with_reducible rfl
                try simp only [Act.put, List.setIfInBounds_toArray, List.set_cons_zero, List.set_cons_succ]
                refine wpAnyH_done (by kernel_rfl) ?_ _
                clear hHeld
                gi_wp2_with fail
                exact ⟨HN.out.1, HN.out.2.1, HN.out.2.2⟩
              · have HNE := Lib.hid (show decide (x ≠ y) = true by simp [hxy])
                have HBAD := Lib.hid (show BadAt X (pre ++ [x]) from ⟨pre, x, rfl, by rw [HM.out, HY.out]; exact fun e => hxy (Option.some.inj e).symm⟩)
                have HKF := Lib.hid (show KeepsFrom w30.heap.size W (W.drew.setCell ⟨b2, 0, none⟩ (.bool false)) from KeepsFrom.of_step (G := fun q => q = b2) (((Step.refl (fun q => q = b2) W).drewN 1).setCell (p := ⟨b2, 0, none⟩) (.inl rfl) _) (fun q o ho hq => by rw [hq, HQ2.out] at ho; cases ho; rfl))
                have c20' : W.drew.cell? ⟨b2, 0, none⟩ = some (.bool false) := c20
                have f20' : W.drew.frozen? ⟨b2, 0, none⟩ = false := f20
                clear hxy
                gi_wp2_with fail
                refine wpIn_region_held_drew (S := fun w' => w'.cell? ⟨b14, 0, none⟩ = some (.int .i64 (m : Int)) ∧ w'.cell? ⟨b10, 0, none⟩ = some (.slice (some ⟨p, 0, none⟩) nX c12) ∧ w'.heap[bx]? = some (.cells (encT x).toArray 34) ∧ w'.rangeAt p (m * 2) (encT y)) (by kernel_rfl) (by kernel_rfl) (fun _ _ h => h) HR3.out (fun hHeld => ?_)
                try dsimp only at hHeld
                refine take_at (i := 0) (v := ?_) (some 141) rfl rfl (by kernel_rfl) (by kernel_rfl) (by kernel_rfl) (fun _ _ _ h => h) hHeld (by rfl) (fun wS hSw => ?_) ?_
                rotate_left
                · have hS1 := hSw.1
                  have hS2 := hSw.2.1
                  try dsimp only at hSw
                  go_simp
                  try with_reducible rfl
                try simp only [Act.put, List.setIfInBounds_toArray, List.set_cons_zero, List.set_cons_succ]
                refine take_at (i := 1) (v := ?_) (some 142) rfl rfl (by kernel_rfl) (by kernel_rfl) (by kernel_rfl) (fun _ _ _ h => h) hHeld (by rfl) (fun wS hSw => ?_) ?_
                rotate_left
                · have hS1 := hSw.1
                  have hS2 := hSw.2.1
                  try dsimp only at hSw
                  go_simp
                  try with_reducible rfl
                try simp only [Act.put, List.setIfInBounds_toArray, List.set_cons_zero, List.set_cons_succ]
                refine take_at (i := 2) (v := ?_) (some 143) rfl rfl (by kernel_rfl) (by kernel_rfl) (by kernel_rfl) (fun _ _ _ h => h) hHeld (by rfl) (fun wS hSw => ?_) ?_
                rotate_left
                · try dsimp only at hSw
                  go_simp
                  try with_reducible rfl
                try simp only [Act.put, List.setIfInBounds_toArray, List.set_cons_zero, List.set_cons_succ]
                refine take_at (i := 3) (v := .bool false) (some 144) rfl rfl (by kernel_rfl) (by kernel_rfl) (by kernel_rfl) (fun _ _ _ h => h) hHeld (by rfl) (fun wS hSw => ?_) ?_
                · try dsimp only at hSw
                  go_simp
                  try with_reducible rfl
                try simp only [Act.put, List.setIfInBounds_toArray, List.set_cons_zero, List.set_cons_succ]
                refine take_at (i := 4) (v := .bool false) (some 145) rfl rfl (by kernel_rfl) (by kernel_rfl) (by kernel_rfl) (fun _ _ _ h => h) hHeld (by rfl) (fun wS hSw => ?_) ?_
                · try dsimp only at hSw
                  go_simp
                  try with_reducible rfl
                try simp only [Act.put, List.setIfInBounds_toArray, List.set_cons_zero, List.set_cons_succ]
                refine take_at (i := 5) (v := ?_) (some 146) rfl rfl (by kernel_rfl) (by kernel_rfl) (by kernel_rfl) (fun _ _ _ h => h) hHeld (by rfl) (fun wS hSw => ?_) ?_
                rotate_left
                · refine exec_load_row 34 (.tmp 15) ?_ bx ?_ 34 (encT x).toArray (0, 0) _ hSw.2.2.1 Try.underlying34 rfl (by rw [List.size_toArray]; exact thing_info _) <;> rfl
                try simp only [Act.put, List.setIfInBounds_toArray, List.set_cons_zero, List.set_cons_succ]
                refine take_at (i := 6) (v := ?_) (some 147) rfl rfl (by kernel_rfl) (by kernel_rfl) (by kernel_rfl) (fun _ _ _ h => h) hHeld (by rfl) (fun wS hSw => ?_) ?_
                rotate_left
                · have hS1 := hSw.1
                  have hS2 := hSw.2.1
                  try dsimp only at hSw
                  go_simp
                  try with_reducible rfl
                try simp only [Act.put, List.setIfInBounds_toArray, List.set_cons_zero, List.set_cons_succ]
                refine take_at (i := 7) (v := ?_) (some 148) rfl rfl (by kernel_rfl) (by kernel_rfl) (by kernel_rfl) (fun _ _ _ h => h) hHeld (by rfl) (fun wS hSw => ?_) ?_
                rotate_left
                · have hS1 := hSw.1
                  have hS2 := hSw.2.1
                  try dsimp only at hSw
                  go_simp
                  try with_reducible rfl
                try simp only [Act.put, List.setIfInBounds_toArray, List.set_cons_zero, List.set_cons_succ]
                refine take_at (i := 8) (v := ?_) (some 149) rfl rfl (by kernel_rfl) (by kernel_rfl) (by kernel_rfl) (fun _ _ _ h => h) hHeld (by rfl) (fun wS hSw => ?_) ?_
                rotate_left
                · try dsimp only at hSw
                  go_simp
                  try with_reducible rfl
                try simp only [Act.put, List.setIfInBounds_toArray, List.set_cons_zero, List.set_cons_succ]
                refine take_at (i := 9) (v := ?_) (some 150) rfl rfl (by kernel_rfl) (by kernel_rfl) (by kernel_rfl) (fun _ _ _ h => h) hHeld (by rfl) (fun wS hSw => ?_) ?_
                rotate_left
                · refine exec_load_mid 34 (.tmp 149) ?_ p (m * 2) ?_ (encT y) _ hSw.2.2.2 Try.underlying34 rfl (thing_info y) <;> rfl
                try simp only [Act.put, List.setIfInBounds_toArray, List.set_cons_zero, List.set_cons_succ]
                refine take_at (i := 10) (v := ?_) (some 151) rfl rfl (by kernel_rfl) (by kernel_rfl) (by kernel_rfl) (fun _ _ _ h => h) hHeld (by rfl) (fun wS hSw => ?_) ?_
                rotate_left
                · refine exec_ne_span (.tmp 146) (.tmp 150) ?_ x y ?_ ?_ true HNE.out <;> rfl
                try simp only [Act.put, List.setIfInBounds_toArray, List.set_cons_zero, List.set_cons_succ]
                refine take_at (i := 11) (v := ?_) (some 152) rfl rfl (by kernel_rfl) (by kernel_rfl) (by kernel_rfl) (fun _ _ _ h => h) hHeld (by rfl) (fun wS hSw => ?_) ?_
                rotate_left
                · try dsimp only at hSw
                  go_simp
                  try with_reducible rfl
                try simp only [Act.put, List.setIfInBounds_toArray, List.set_cons_zero, List.set_cons_succ]
                refine wpAnyH_done (by kernel_rfl) ?_ _
                clear hHeld
                gi_wp2_with fail
                exact ⟨HKF.out, rfl, HBAD.out⟩
            case stop3 => exact fun D c pre W hD hSp ⟨hc, hb⟩ _ => absurd hb (not_badAt hSp)
            case done3 =>
              rintro D3 ys W3 hD3 hys hI hK
              have hys : X = ys := hys.symm
              subst hys
              have SD0 := Star.looped (I' := boxI b14 (.cells #[.int .i64 (X.length : Int)] 3)) S30.out rfl hI.1 hI.2 hD3 hK
              rw [HNX.out] at SD0
              have SD0 : Star w (boxI D3 (.deferred (some [])) :: ([boxI b14 (.cells #[.int .i64 (nX : Int)] 3)] ++ markI ds2 :: [thI (.slice A12 nX c12) m12 X, boxI b10 (.cells #[(.slice A12 nX c12)] 26), spI H30 gt X (4 * nX + 5), spI H20 gs X (102 * k), boxI b2 (.cells #[.bool false] 4)])) W3 := Star.drop (A := [boxI D3 (.deferred (some []))]) (Star.drop (A := [boxI D3 (.deferred (some []))]) SD0)
              have SD1 := Star.mark (SD0.perm (List.Perm.cons _ List.perm_middle))
              obtain ⟨ds3, hds3⟩ : ∃ v, { target := .collected D3, args := #[] } :: ds2 = v := ⟨_, rfl⟩
              rw [hds3] at SD1 ⊢
              have S31 := Lib.hid (show Star w (markI ds3 :: boxI b14 (.cells #[.int .i64 (nX : Int)] 3) :: thI (.slice A12 nX c12) m12 X :: boxI b10 (.cells #[(.slice A12 nX c12)] 26) :: spI H30 gt X (4 * nX + 5) :: spI H20 gs X (102 * k) :: [boxI b2 (.cells #[.bool false] 4)]) W3 from SD1)
              have c14 : W3.cell? ⟨b14, 0, none⟩ = some (.int .i64 (nX : Int)) := by rw [cell_of_row W3 b14 0 _ _ _ (show W3.heap[b14]? = some (.cells #[.int .i64 (nX : Int)] 3) from S31.out.all (boxI b14 _) (by simp))]; rfl
              have c10 : W3.cell? ⟨b10, 0, none⟩ = some (.slice A12 nX c12) := by rw [cell_of_row W3 b10 0 _ _ _ (show W3.heap[b10]? = some (.cells #[.slice A12 nX c12] 26) from S31.out.all (boxI b10 _) (by simp))]; rfl
              have HC1 := Lib.hid (star_same (A := [markI ds3, boxI b14 (.cells #[.int .i64 (nX : Int)] 3), thI (.slice A12 nX c12) m12 X, boxI b10 (.cells #[(.slice A12 nX c12)] 26)]) (B := [spI H20 gs X (102 * k), boxI b2 (.cells #[.bool false] 4)]) S31.out (countS_any (S31.out.all (spI H30 gt X (4 * nX + 5)) (by simp))))
              rw [HNX.out] at HC1
              clear SD0 SD1 hI hK hD3 hds3 SQ3 BQ3 BL3 B23 B10 HT12 S30 hfF3
              go_wp2_with fail
              refine HC1.out.mono ?_
              clear HC1 c14 c10
              rintro e w40 ⟨H40, rfl, h40⟩
              have S40 := Lib.hid (show Star w (markI ds3 :: boxI b14 (.cells #[.int .i64 (nX : Int)] 3) :: thI (.slice A12 nX c12) m12 X :: boxI b10 (.cells #[(.slice A12 nX c12)] 26) :: spI H40 gt X (4 * nX + 5) :: spI H20 gs X (102 * k) :: [boxI b2 (.cells #[.bool false] 4)]) w40 from h40)
              have HC2 := Lib.hid (star_same (A := [markI ds3, boxI b14 (.cells #[.int .i64 (nX : Int)] 3), thI (.slice A12 nX c12) m12 X, boxI b10 (.cells #[(.slice A12 nX c12)] 26), spI H40 gt X (4 * nX + 5)]) (B := [boxI b2 (.cells #[.bool false] 4)]) S40.out (countS_any (S40.out.all (spI H20 gs X (102 * k)) (by simp))))
              rw [HNX.out] at HC2
              clear h40 S31
              go_wp2_with fail
              refine HC2.out.mono ?_
              clear HC2
              rintro e w41 ⟨H41, rfl, h41⟩
              have S41 := Lib.hid h41
              clear h41 S40
              go_wp2_with fail
              refine (known_any _).mono ?_
              rintro e w42 ⟨rfl, hb42⟩
              have S42 := Lib.hid (show Star w ([markI ds3, boxI b14 (.cells #[.int .i64 (nX : Int)] 3), thI (.slice A12 nX c12) m12 X, boxI b10 (.cells #[(.slice A12 nX c12)] 26), spI H40 gt X (4 * nX + 5), spI H41 gs X (102 * k)] ++ boxI b2 (.cells #[.bool false] 4) :: []) w42 from S41.out.later hb42)
              clear hb42 S41
              have hq4 : w42.heap[b2]? = some (.cells #[.bool false] 4) := S42.out.all (boxI b2 (.cells #[.bool false] 4)) (by simp)
              have c4 : w42.cell? ⟨b2, 0, none⟩ = some (.bool false) := by rw [cell_of_row w42 b2 0 _ _ _ hq4]; rfl
              have f4 : w42.frozen? ⟨b2, 0, none⟩ = false := frozen_of_row w42 b2 0 _ _ hq4
              have SE := Lib.hid (show Star w ([markI ds3, boxI b14 (.cells #[.int .i64 (nX : Int)] 3), thI (.slice A12 nX c12) m12 X, boxI b10 (.cells #[(.slice A12 nX c12)] 26), spI H40 gt X (4 * nX + 5), spI H41 gs X (102 * k)] ++ boxI b2 (.cells #[.bool true] 4) :: []) (w42.setCell ⟨b2, 0, none⟩ (.bool true)) from Star.update (A := [markI ds3, boxI b14 (.cells #[.int .i64 (nX : Int)] 3), thI (.slice A12 nX c12) m12 X, boxI b10 (.cells #[(.slice A12 nX c12)] 26), spI H40 gt X (4 * nX + 5), spI H41 gs X (102 * k)]) (I := boxI b2 (.cells #[.bool false] 4)) S42.out (boxI.set hq4 0 (.bool true)).1 (boxI.set hq4 0 (.bool true)).2)
              clear hq4 
              go_wp2_with fail
              refine leaves_marks (B := w.heap.size) _ _ (Star.marks (A := []) SE.out) (fun w' hs => ?_)
              have hc := hs.cells.2 b2 _ (SE.out.all (boxI b2 (.cells #[.bool true] 4)) (by simp)) rfl (fun h => h)
              have hc4 : w'.cell? ⟨b2, 0, none⟩ = some (.bool true) := by rw [cell_of_row w' b2 0 _ _ _ hc]; rfl
              refine ⟨.bool true, ?_, rfl, SE.out.below.trans hs.below⟩
              simp [results, Try.f6, go_sem, hc4]

end Go.Proofs.Ytbioomilnjikpaa
