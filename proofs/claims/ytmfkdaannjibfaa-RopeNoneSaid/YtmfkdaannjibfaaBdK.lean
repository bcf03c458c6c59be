/-
  Several texts in one: RoY5, RoY6.
-/
import Derived.Test.YtmfkdaannjibfaaBdJ

namespace Go.Proofs.Ytmfkdaannjibfaa
open Go.RowKit

/-- The thing that has a place, and the place within it. -/
def findT : List Th → Int → Option (Th × Int)
  | [], _ => none
  | t :: L, a => if a < 0 then none else if a < sizeT t then some (t, a) else findT L (a - sizeT t)
def findV (X : List Th) (a : Int) : Value :=
  match findT X a with
  | some p => .tuple #[thV p.1, .int .i64 p.2, .bool true]
  | none => .tuple #[.agg #[.int .i32 0, .int .i32 0, .int .i32 0, .int .i32 0, .int .i32 0, .int .i32 0, .int .i32 0, .int .i32 0, .int .i32 0, .int .i32 0, .int .i32 0, .int .i32 0, .int .i32 0, .int .i32 0, .int .i32 0, .int .i32 0, .int .i32 0, .int .i32 0, .int .i32 0, .int .i32 0, .int .i32 0, .int .i32 0, .int .i32 0, .int .i32 0, .int .i32 0, .int .i32 0, .int .i32 0, .int .i32 0, .int .i32 0, .int .i32 0, .int .i32 0, .int .i32 0, .int .i64 0], .int .i64 0, .bool false]

theorem findT_neg {X : List Th} {a : Int} (h : a < 0) : findT X a = none := by
  cases X with
  | nil => rfl
  | cons t L => rw [findT, if_pos h]
theorem findT_app : ∀ (A B : List Th) (a : Int), (∀ x ∈ A, okT x) → 0 ≤ a → findT (A ++ B) a = if a < sumT A then findT A a else findT B (a - sumT A)
  | [], B, a, _, h0 => by rw [List.nil_append, sumT, if_neg (by omega), Int.sub_zero]
  | t :: A, B, a, h, h0 => by
    have hn := sumT_nonneg (l := A) (fun x hx => h x (by simp [hx]))
    have hz := sizeT_ok (h t (by simp))
    rw [List.cons_append, findT, findT, if_neg (show ¬ a < 0 by omega), if_neg (show ¬ a < 0 by omega), sumT]
    by_cases h1 : a < sizeT t
    · rw [if_pos h1, if_pos h1, if_pos (by omega)]
    · rw [if_neg h1, if_neg h1, findT_app A B (a - sizeT t) (fun x hx => h x (by simp [hx])) (by omega)]
      by_cases h2 : a - sizeT t < sumT A
      · rw [if_pos h2, if_pos (by omega)]
      · rw [if_neg h2, if_neg (by omega), show a - sizeT t - sumT A = a - (sizeT t + sumT A) by omega]

theorem OkL.things {T : Tr} (h : OkL T.nodes) : ∀ x ∈ T.things, okT x := fun x hx => by obtain ⟨q, hq, e⟩ := List.mem_map.1 hx; exact e ▸ h.ok q hq

theorem results_ctt {P : Program} {fn : Func} {p q r : Tmp} {ty : TypeId} (h : fn.results = #[.cell p ty, .tmp q, .tmp r]) (tmps : Array Value) (w : World) (g : Nat) (t : TypeId) (cs : Array Value) (fr : Nat × Nat) (d : TypeDesc) (x y : Value)
    (hp : tmps.getD p undef = .pointer (some ⟨g, 0, none⟩)) (hq : tmps.getD q undef = x) (hr : tmps.getD r undef = y) (hg : w.heap[g]? = some (.cells cs t fr))
    (hu : P.underlying ty = some d) (hd : (match d with | .struct _ | .array _ _ => true | _ => false) = true) (hi : (P.info? ty).map (·.size) = some cs.size) :
    (results fn tmps).run P w = .ok (.tuple #[.agg cs, x, y]) w := by
  have hp' : tmps[p]?.getD undef = .pointer (some ⟨g, 0, none⟩) := by simpa using hp
  have hq' : tmps[q]?.getD undef = x := by simpa using hq
  have hr' : tmps[r]?.getD undef = y := by simpa using hr
  simp [results, h, hp', hq', hr', asAddr, run_loadVar_row w g t ty cs fr d hg hu hd hi]

theorem zero_info : (Try.prog.info? 58).map (·.size) = some (#[.int .i32 0, .int .i32 0, .int .i32 0, .int .i32 0, .int .i32 0, .int .i32 0, .int .i32 0, .int .i32 0, .int .i32 0, .int .i32 0, .int .i32 0, .int .i32 0, .int .i32 0, .int .i32 0, .int .i32 0, .int .i32 0, .int .i32 0, .int .i32 0, .int .i32 0, .int .i32 0, .int .i32 0, .int .i32 0, .int .i32 0, .int .i32 0, .int .i32 0, .int .i32 0, .int .i32 0, .int .i32 0, .int .i32 0, .int .i32 0, .int .i32 0, .int .i32 0, .int .i64 0] : Array Value).size := by kernel_rfl

theorem zero_one : (#[.int .i32 0, .int .i32 0, .int .i32 0, .int .i32 0, .int .i32 0, .int .i32 0, .int .i32 0, .int .i32 0, .int .i32 0, .int .i32 0, .int .i32 0, .int .i32 0, .int .i32 0, .int .i32 0, .int .i32 0, .int .i32 0, .int .i32 0, .int .i32 0, .int .i32 0, .int .i32 0, .int .i32 0, .int .i32 0, .int .i32 0, .int .i32 0, .int .i32 0, .int .i32 0, .int .i32 0, .int .i32 0, .int .i32 0, .int .i32 0, .int .i32 0, .int .i32 0, .int .i64 0] : Array Value).all (·.oneCell') = true := all_oneCell_toArray (cs := [.int .i32 0, .int .i32 0, .int .i32 0, .int .i32 0, .int .i32 0, .int .i32 0, .int .i32 0, .int .i32 0, .int .i32 0, .int .i32 0, .int .i32 0, .int .i32 0, .int .i32 0, .int .i32 0, .int .i32 0, .int .i32 0, .int .i32 0, .int .i32 0, .int .i32 0, .int .i32 0, .int .i32 0, .int .i32 0, .int .i32 0, .int .i32 0, .int .i32 0, .int .i32 0, .int .i32 0, .int .i32 0, .int .i32 0, .int .i32 0, .int .i32 0, .int .i32 0, .int .i64 0]) (by decide)

set_option maxRecDepth 100000 in
set_option maxHeartbeats 4000000 in
theorem find_any {w : World} {G : Nat → Prop} {gT N : Nat} {X : List Th} (h : TreeX w G gT X N) (a0 : Int) (hb : -9223372036854775808 ≤ a0 ∧ a0 ≤ 9223372036854775807) :
    Calls Try.prog 37 #[.pointer (some ⟨gT, 0, none⟩), .int .i64 a0] w fun e w' => e = .returned (findV X a0) ∧ Below w.heap.size w w' := by
  obtain ⟨F, gA, T, s, fr, hG, hS, rfl, hsN⟩ := h
  have HW := Lib.hid (fun (w1 : World) (hb : Below w.heap.size w w1) => hS.tw.below hb)
  have HST := Lib.hid (And.intro hS.holds (And.intro hS.ok hb))
  have hcR := fun o => cell_later hS.tw.cR ((Below.refl w.heap.size w).alloc (Nat.le_refl _) o)
  obtain ⟨X, hX⟩ : ∃ x, T.things = x := ⟨_, rfl⟩
  have HX0 := Lib.hid hX
  rw [hX]
  clear hG hS hsN hX hb
  go_enter Try.func37, Try.ntmps37
  go_wp2_with fail
  obtain ⟨bz, hbz⟩ : ∃ v, w.heap.size = v := ⟨_, rfl⟩
  obtain ⟨w0, hw0⟩ : ∃ v, w.alloc (.cells #[.int .i32 0, .int .i32 0, .int .i32 0, .int .i32 0, .int .i32 0, .int .i32 0, .int .i32 0, .int .i32 0, .int .i32 0, .int .i32 0, .int .i32 0, .int .i32 0, .int .i32 0, .int .i32 0, .int .i32 0, .int .i32 0, .int .i32 0, .int .i32 0, .int .i32 0, .int .i32 0, .int .i32 0, .int .i32 0, .int .i32 0, .int .i32 0, .int .i32 0, .int .i32 0, .int .i32 0, .int .i32 0, .int .i32 0, .int .i32 0, .int .i32 0, .int .i32 0, .int .i64 0] 58) = v := ⟨_, rfl⟩
  have B0 := Lib.hid (show Below w.heap.size w w0 by rw [← hw0]; exact (Below.refl _ _).alloc (Nat.le_refl _) _)
  have Z0 := Lib.hid (show w0.heap[bz]? = some (.cells #[.int .i32 0, .int .i32 0, .int .i32 0, .int .i32 0, .int .i32 0, .int .i32 0, .int .i32 0, .int .i32 0, .int .i32 0, .int .i32 0, .int .i32 0, .int .i32 0, .int .i32 0, .int .i32 0, .int .i32 0, .int .i32 0, .int .i32 0, .int .i32 0, .int .i32 0, .int .i32 0, .int .i32 0, .int .i32 0, .int .i32 0, .int .i32 0, .int .i32 0, .int .i32 0, .int .i32 0, .int .i32 0, .int .i32 0, .int .i32 0, .int .i32 0, .int .i32 0, .int .i64 0] 58) by rw [← hw0, ← hbz]; exact heap_alloc_new w _)
  have HBZ := Lib.hid hbz
  rw [hw0, hbz]
  clear hw0 hbz hcR
  go_loopw [1, 7] (fun v1 v7 wr => ∃ (T' : Tr) (a : Int), v7 = .int .i64 T'.rt ∧ v1 = .int .i64 a ∧ Holds s T' ∧ OkL T'.nodes ∧ findT T'.things a = findT X a0 ∧ (-9223372036854775808 ≤ a ∧ a ≤ 9223372036854775807) ∧ Below w.heap.size w wr ∧ wr.heap[bz]? = some (.cells #[.int .i32 0, .int .i32 0, .int .i32 0, .int .i32 0, .int .i32 0, .int .i32 0, .int .i32 0, .int .i32 0, .int .i32 0, .int .i32 0, .int .i32 0, .int .i32 0, .int .i32 0, .int .i32 0, .int .i32 0, .int .i32 0, .int .i32 0, .int .i32 0, .int .i32 0, .int .i32 0, .int .i32 0, .int .i32 0, .int .i32 0, .int .i32 0, .int .i32 0, .int .i32 0, .int .i32 0, .int .i32 0, .int .i32 0, .int .i32 0, .int .i32 0, .int .i32 0, .int .i64 0] 58)) (fun _ v7 _ => (hS s (intOf v7)).toNat)
  case atStart => exact ⟨T, a0, rfl, rfl, HST.out.1, HST.out.2.1, by rw [HX0.out], HST.out.2.2, B0.out, Z0.out⟩
  case round =>
    obtain ⟨T', a, rfl, rfl, hT, ho, hf, hba, hK, hZ⟩ := hrel
    have HB := Lib.hid hba
    by_cases hend : a < 0 ∨ T' = .nil
    · have HF := Lib.hid (show findV X a0 = .tuple #[.agg #[.int .i32 0, .int .i32 0, .int .i32 0, .int .i32 0, .int .i32 0, .int .i32 0, .int .i32 0, .int .i32 0, .int .i32 0, .int .i32 0, .int .i32 0, .int .i32 0, .int .i32 0, .int .i32 0, .int .i32 0, .int .i32 0, .int .i32 0, .int .i32 0, .int .i32 0, .int .i32 0, .int .i32 0, .int .i32 0, .int .i32 0, .int .i32 0, .int .i32 0, .int .i32 0, .int .i32 0, .int .i32 0, .int .i32 0, .int .i32 0, .int .i32 0, .int .i32 0, .int .i64 0], .int .i64 0, .bool false] by
        unfold findV
        rw [← hf]
        rcases hend with h1 | h1
        · rw [findT_neg h1]
        · rw [h1]; rfl)
      have HK := Lib.hid hK
      have HZ := Lib.hid hZ
      have HBK := Lib.hid (show Below w.heap.size w (wr.setRow bz #[.int .i32 0, .int .i32 0, .int .i32 0, .int .i32 0, .int .i32 0, .int .i32 0, .int .i32 0, .int .i32 0, .int .i32 0, .int .i32 0, .int .i32 0, .int .i32 0, .int .i32 0, .int .i32 0, .int .i32 0, .int .i32 0, .int .i32 0, .int .i32 0, .int .i32 0, .int .i32 0, .int .i32 0, .int .i32 0, .int .i32 0, .int .i32 0, .int .i32 0, .int .i32 0, .int .i32 0, .int .i32 0, .int .i32 0, .int .i32 0, .int .i32 0, .int .i32 0, .int .i64 0]) from below_setRow hK hK.size (by rw [← HBZ.out]; exact Nat.le_refl _) _)
      by_cases h1 : a < 0
      · have e1 : decide (0 ≤ a) = false := by simpa using h1
        have e2 : ¬ 0 ≤ a := by omega
        clear hend hf hK hZ hba hT ho
        go_wp2_with (first
          | (refine wpList_load_row rfl 58 (.tmp 4) rfl bz rfl 58 #[.int .i32 0, .int .i32 0, .int .i32 0, .int .i32 0, .int .i32 0, .int .i32 0, .int .i32 0, .int .i32 0, .int .i32 0, .int .i32 0, .int .i32 0, .int .i32 0, .int .i32 0, .int .i32 0, .int .i32 0, .int .i32 0, .int .i32 0, .int .i32 0, .int .i32 0, .int .i32 0, .int .i32 0, .int .i32 0, .int .i32 0, .int .i32 0, .int .i32 0, .int .i32 0, .int .i32 0, .int .i32 0, .int .i32 0, .int .i32 0, .int .i32 0, .int .i32 0, .int .i64 0] (0, 0) _ HZ.out Try.underlying58 rfl zero_info ?_)
          | (refine wpList_store_row rfl 58 (.tmp 4) (.tmp 70) rfl bz #[.int .i32 0, .int .i32 0, .int .i32 0, .int .i32 0, .int .i32 0, .int .i32 0, .int .i32 0, .int .i32 0, .int .i32 0, .int .i32 0, .int .i32 0, .int .i32 0, .int .i32 0, .int .i32 0, .int .i32 0, .int .i32 0, .int .i32 0, .int .i32 0, .int .i32 0, .int .i32 0, .int .i32 0, .int .i32 0, .int .i32 0, .int .i32 0, .int .i32 0, .int .i32 0, .int .i32 0, .int .i32 0, .int .i32 0, .int .i32 0, .int .i32 0, .int .i32 0, .int .i64 0] rfl rfl 58 _ HZ.out zero_info rfl zero_one ?_))
        exact bodyPost_ret (v := .tuple #[.agg #[.int .i32 0, .int .i32 0, .int .i32 0, .int .i32 0, .int .i32 0, .int .i32 0, .int .i32 0, .int .i32 0, .int .i32 0, .int .i32 0, .int .i32 0, .int .i32 0, .int .i32 0, .int .i32 0, .int .i32 0, .int .i32 0, .int .i32 0, .int .i32 0, .int .i32 0, .int .i32 0, .int .i32 0, .int .i32 0, .int .i32 0, .int .i32 0, .int .i32 0, .int .i32 0, .int .i32 0, .int .i32 0, .int .i32 0, .int .i32 0, .int .i32 0, .int .i32 0, .int .i64 0], .int .i64 0, .bool false]) (results_ctt rfl _ _ bz _ #[.int .i32 0, .int .i32 0, .int .i32 0, .int .i32 0, .int .i32 0, .int .i32 0, .int .i32 0, .int .i32 0, .int .i32 0, .int .i32 0, .int .i32 0, .int .i32 0, .int .i32 0, .int .i32 0, .int .i32 0, .int .i32 0, .int .i32 0, .int .i32 0, .int .i32 0, .int .i32 0, .int .i32 0, .int .i32 0, .int .i32 0, .int .i32 0, .int .i32 0, .int .i32 0, .int .i32 0, .int .i32 0, .int .i32 0, .int .i32 0, .int .i32 0, .int .i32 0, .int .i64 0] (0, 0) _ (.int .i64 0) (.bool false) rfl rfl rfl (setRow_heap _ _ _ _ _ _ HZ.out) Try.underlying58 rfl zero_info) rfl ⟨by rw [HF.out], HBK.out⟩
      · obtain rfl : T' = .nil := by rcases hend with e | e; exact absurd e h1; exact e
        have e1 : decide (0 ≤ a) = true := by simpa using h1
        have e2 : 0 ≤ a := by omega
        have e3 : Tr.nil.rt = -1 := rfl
        rw [e3]
        clear hend hf hK hZ hba hT ho h1 e3
        go_wp2_with (first
          | (refine wpList_load_row rfl 58 (.tmp 4) rfl bz rfl 58 #[.int .i32 0, .int .i32 0, .int .i32 0, .int .i32 0, .int .i32 0, .int .i32 0, .int .i32 0, .int .i32 0, .int .i32 0, .int .i32 0, .int .i32 0, .int .i32 0, .int .i32 0, .int .i32 0, .int .i32 0, .int .i32 0, .int .i32 0, .int .i32 0, .int .i32 0, .int .i32 0, .int .i32 0, .int .i32 0, .int .i32 0, .int .i32 0, .int .i32 0, .int .i32 0, .int .i32 0, .int .i32 0, .int .i32 0, .int .i32 0, .int .i32 0, .int .i32 0, .int .i64 0] (0, 0) _ HZ.out Try.underlying58 rfl zero_info ?_)
          | (refine wpList_store_row rfl 58 (.tmp 4) (.tmp 70) rfl bz #[.int .i32 0, .int .i32 0, .int .i32 0, .int .i32 0, .int .i32 0, .int .i32 0, .int .i32 0, .int .i32 0, .int .i32 0, .int .i32 0, .int .i32 0, .int .i32 0, .int .i32 0, .int .i32 0, .int .i32 0, .int .i32 0, .int .i32 0, .int .i32 0, .int .i32 0, .int .i32 0, .int .i32 0, .int .i32 0, .int .i32 0, .int .i32 0, .int .i32 0, .int .i32 0, .int .i32 0, .int .i32 0, .int .i32 0, .int .i32 0, .int .i32 0, .int .i32 0, .int .i64 0] rfl rfl 58 _ HZ.out zero_info rfl zero_one ?_))
        exact bodyPost_ret (v := .tuple #[.agg #[.int .i32 0, .int .i32 0, .int .i32 0, .int .i32 0, .int .i32 0, .int .i32 0, .int .i32 0, .int .i32 0, .int .i32 0, .int .i32 0, .int .i32 0, .int .i32 0, .int .i32 0, .int .i32 0, .int .i32 0, .int .i32 0, .int .i32 0, .int .i32 0, .int .i32 0, .int .i32 0, .int .i32 0, .int .i32 0, .int .i32 0, .int .i32 0, .int .i32 0, .int .i32 0, .int .i32 0, .int .i32 0, .int .i32 0, .int .i32 0, .int .i32 0, .int .i32 0, .int .i64 0], .int .i64 0, .bool false]) (results_ctt rfl _ _ bz _ #[.int .i32 0, .int .i32 0, .int .i32 0, .int .i32 0, .int .i32 0, .int .i32 0, .int .i32 0, .int .i32 0, .int .i32 0, .int .i32 0, .int .i32 0, .int .i32 0, .int .i32 0, .int .i32 0, .int .i32 0, .int .i32 0, .int .i32 0, .int .i32 0, .int .i32 0, .int .i32 0, .int .i32 0, .int .i32 0, .int .i32 0, .int .i32 0, .int .i32 0, .int .i32 0, .int .i32 0, .int .i32 0, .int .i32 0, .int .i32 0, .int .i32 0, .int .i32 0, .int .i64 0] (0, 0) _ (.int .i64 0) (.bool false) rfl rfl rfl (setRow_heap _ _ _ _ _ _ HZ.out) Try.underlying58 rfl zero_info) rfl ⟨by rw [HF.out], HBK.out⟩
    · obtain ⟨h0, k, u, L, R, rfl⟩ : 0 ≤ a ∧ ∃ k u L R, T' = .nd k u L R := by
        refine ⟨by omega, ?_⟩
        cases T' with
        | nil => exact absurd (.inr rfl) hend
        | nd k u L R => exact ⟨k, u, L, R, rfl⟩
      have hLs := Tr.sm (T := L) ho.left
      have hz := hLs.2.1
      have hzt : Sm (sizeT u) := by
        have h3 := sizeT_ok (ho.ok (k, u) (by simp [Tr.nodes]))
        have h5 := ho.sum
        have h6 := sumZ_nonneg ho.left.ok
        have h7 := sumZ_nonneg (L := R.nodes) (ho.right.tail.ok)
        have e : sumZ (Tr.nd k u L R).nodes = sumZ L.nodes + (sizeT u + sumZ R.nodes) := by rw [Tr.nodes, sumZ_append, sumZ]
        dsimp only at h3
        exact ⟨h3, by omega⟩
      have hth : (Tr.nd k u L R).things = L.things ++ u :: R.things := by simp [Tr.things, Tr.nodes]
      have hokL := OkL.things (T := L) ho.left
      have hfa := findT_app L.things (u :: R.things) a hokL h0
      rw [← hth, hf, ← Tr.z_things] at hfa
      have HAt := Lib.hid (at_any (HW.out wr hK) hT.1)
      have HTa := Lib.hid (fun (w1 : World) (hb : Below w.heap.size w w1) => totals_any (HW.out w1 hb) hT.2.1.okR)
      rw [hT.2.1.tot.2.1] at HTa
      have HM := Lib.hid (fun w1 => measure_any u w1)
      have HH := Lib.hid (show (hS s L.rt).toNat < (hS s (k : Int)).toNat ∧ (hS s R.rt).toNat < (hS s (k : Int)).toNat by
        have e1 := hT.tot.1
        have e2 := hT.2.1.tot.1
        have e3 := hT.2.2.tot.1
        have e1 : hS s (k : Int) = 1 + max L.h R.h := e1
        have a1 := L.h_le
        have a2 := R.h_le
        rw [e1, e2, e3]
        omega)
      obtain ⟨zl, hzl⟩ : ∃ x, L.z = x := ⟨_, rfl⟩
      obtain ⟨zt, hzt'⟩ : ∃ x, sizeT u = x := ⟨_, rfl⟩
      rw [hzl] at HTa hz hfa
      rw [hzt'] at HM hzt
      obtain ⟨z1, z2⟩ := hz
      obtain ⟨z3, z4⟩ := hzt
      obtain ⟨n, hn⟩ : ∃ x, topN u L R = x := ⟨_, rfl⟩
      have hnl : n.l = L.rt := by rw [← hn]; rfl
      have hnr : n.r = R.rt := by rw [← hn]; rfl
      have HX := Lib.hid (show n.x = encT u by rw [← hn]; rfl)
      rw [hn] at HAt
      unfold Nd.V at HAt
      have HT := Lib.hid (And.intro hT ho)
      have HFA := Lib.hid hfa
      have HZT := Lib.hid hzt'
      have hk1 : ((k : Int) == -1) = false := by simp
      have hk2 : ((k : Int) != -1) = true := by simp
      have e1 : decide (0 ≤ a) = true := by simpa using h0
      have g1 : IntKind.i64.wrap (zl + zt) = zl + zt := IntWalk.i64_in _ (by omega)
      have g2 : IntKind.i64.wrap (a - (zl + zt)) = a - (zl + zt) := IntWalk.i64_in _ (by omega)
      have g3 : IntKind.i64.wrap (a - zl) = a - zl := IntWalk.i64_in _ (by omega)
      have K1' := Lib.hid hK
      have Z1' := Lib.hid hZ
      have hrt : (Tr.nd k u L R).rt = (k : Int) := rfl
      rw [hrt]
      clear hend hf hT ho hLs hn hzl hzt' hth hokL hfa hba hK hZ hrt
      go_wp2_with fail
      refine HAt.out.mono ?_
      rintro e w1 ⟨rfl, hb1⟩
      obtain ⟨b, hb⟩ : ∃ b, w1.heap.size = b := ⟨_, rfl⟩
      obtain ⟨w2, hw2⟩ : ∃ v, w1.alloc (.cells n.C.toArray 103) = v := ⟨_, rfl⟩
      have hk1 := K1'.out.trans (hb1.mono K1'.out.size)
      have N2 := Lib.hid (show NdAt w2 b n by rw [← hw2, ← hb]; exact NdAt.new w1 n)
      have K2 := Lib.hid (show Below w.heap.size w w2 by rw [← hw2]; exact hk1.alloc hk1.size _)
      have Z2 := Lib.hid (show w2.heap[bz]? = some (.cells #[.int .i32 0, .int .i32 0, .int .i32 0, .int .i32 0, .int .i32 0, .int .i32 0, .int .i32 0, .int .i32 0, .int .i32 0, .int .i32 0, .int .i32 0, .int .i32 0, .int .i32 0, .int .i32 0, .int .i32 0, .int .i32 0, .int .i32 0, .int .i32 0, .int .i32 0, .int .i32 0, .int .i32 0, .int .i32 0, .int .i32 0, .int .i32 0, .int .i32 0, .int .i32 0, .int .i32 0, .int .i32 0, .int .i32 0, .int .i32 0, .int .i32 0, .int .i32 0, .int .i64 0] 58) from heap_later (heap_later Z1'.out hb1) (by rw [← hw2]; exact (Below.refl _ _).alloc (Nat.le_refl _) _))
      have HE := Lib.hid (And.intro hw2 hb)
      have hc := N2.out.cL
      rw [hnl] at hc
      clear hb1 hw2 hb HAt hk1
      go_wp2_with (refine wpList_store_row rfl 103 (.tmp 8) (.tmp 26) rfl w1.heap.size n.C.toArray rfl rfl 103 _ (heap_alloc_new w1 _) (nd_info n) (by simp [Nd.C_len]) (all_oneCell_toArray n.C_one) ?_; rw [alloc_setRow, HE.out.1, HE.out.2])
      clear hc
      refine (HTa.out w2 K2.out).mono ?_
      rintro e w3 ⟨rfl, hb3⟩
      have K3 := Lib.hid (K2.out.trans (hb3.mono K2.out.size))
      have N3 := Lib.hid (N2.out.below hb3)
      have Z3 := Lib.hid (heap_later Z2.out hb3)
      clear hb3 HTa
      go_wp2_with fail
      refine wp_region_held_drew (S := fun w' => w'.cell? ⟨gT, 0, none⟩ = some (.func (.func 46) #[] #[]) ∧ NdAt w' b n) (by kernel_rfl) ⟨(HW.out w3 K3.out).cM, ⟨N3.out.blk⟩⟩ (fun hHeld => ?_)
      try dsimp only at hHeld
      refine take_at (i := 0) (v := ?_) (some 36) rfl rfl (by kernel_rfl) (by kernel_rfl) (by kernel_rfl) (fun _ _ _ h => h) hHeld (by rfl) (fun wS hSw => ?_) ?_
      rotate_left
      · try dsimp only at hSw
        go_simp
        try with_reducible rfl
      try simp only [Act.put, List.setIfInBounds_toArray, List.set_cons_zero, List.set_cons_succ]
      refine take_at (i := 1) (v := ?_) (some 37) rfl rfl (by kernel_rfl) (by kernel_rfl) (by kernel_rfl) (fun _ _ _ h => h) hHeld (by rfl) (fun wS hSw => ?_) ?_
      rotate_left
      · try dsimp only at hSw
        go_simp
        try with_reducible rfl
      try simp only [Act.put, List.setIfInBounds_toArray, List.set_cons_zero, List.set_cons_succ]
      refine take_at (i := 2) (v := ?_) (some 38) rfl rfl (by kernel_rfl) (by kernel_rfl) (by kernel_rfl) (fun _ _ _ h => h) hHeld (by rfl) (fun wS hSw => ?_) ?_
      rotate_left
      · try dsimp only at hSw
        go_simp
        try with_reducible rfl
      try simp only [Act.put, List.setIfInBounds_toArray, List.set_cons_zero, List.set_cons_succ]
      refine take_at (i := 3) (v := ?_) (some 39) rfl rfl (by kernel_rfl) (by kernel_rfl) (by kernel_rfl) (fun _ _ _ h => h) hHeld (by rfl) (fun wS hSw => ?_) ?_
      rotate_left
      · try dsimp only at hSw
        go_simp
        try with_reducible rfl
      try simp only [Act.put, List.setIfInBounds_toArray, List.set_cons_zero, List.set_cons_succ]
      refine take_at (i := 4) (v := ?_) (some 40) rfl rfl (by kernel_rfl) (by kernel_rfl) (by kernel_rfl) (fun _ _ _ h => h) hHeld (by rfl) (fun wS hSw => ?_) ?_
      rotate_left
      · have hS1 := hSw.1
        try dsimp only at hSw
        go_simp
        try with_reducible rfl
      try simp only [Act.put, List.setIfInBounds_toArray, List.set_cons_zero, List.set_cons_succ]
      refine take_at (i := 5) (v := ?_) (some 41) rfl rfl (by kernel_rfl) (by kernel_rfl) (by kernel_rfl) (fun _ _ _ h => h) hHeld (by rfl) (fun wS hSw => ?_) ?_
      rotate_left
      · try dsimp only at hSw
        go_simp
        try with_reducible rfl
      try simp only [Act.put, List.setIfInBounds_toArray, List.set_cons_zero, List.set_cons_succ]
      refine take_at (i := 6) (v := ?_) (some 42) rfl rfl (by kernel_rfl) (by kernel_rfl) (by kernel_rfl) (fun _ _ _ h => h) hHeld (by rfl) (fun wS hSw => ?_) ?_
      rotate_left
      · refine exec_load_mid 58 (.tmp 41) ?_ b 0 ?_ (encT u) _ (HX.out ▸ hSw.2.x) Try.underlying58 rfl (thing_info u) <;> rfl
      try simp only [Act.put, List.setIfInBounds_toArray, List.set_cons_zero, List.set_cons_succ]
      refine wpAnyH_ready (rs := [7]) (by kernel_rfl) (by simp) ?_
      refine AllReadyH.cons rfl (fun K hK => ?_) AllReadyH.nil
      simp only [List.getElem_toArray, List.getElem_cons_succ, List.getElem_cons_zero]
      go_simp
      refine (HM.out _).mono ?_
      rintro e w4 ⟨rfl, hb4⟩
      have hH4 : w4.cell? ⟨gT, 0, none⟩ = some (.func (.func 46) #[] #[]) ∧ NdAt w4 b n := ⟨cell_later hHeld.1 hb4, hHeld.2.below hb4⟩
      have K4 := Lib.hid (K3.out.drew.trans (hb4.mono K3.out.size))
      have Z4 := Lib.hid (heap_later (w := w3.drew) Z3.out hb4)
      clear hb4
      try dsimp only
      have hOld := hHeld
      refine hK.out _ _ hH4 (fun _ => ?_)
      clear hK K
      refine wpAnyH_mono (S2 := fun w' => w'.cell? ⟨gT, 0, none⟩ = some (.func (.func 46) #[] #[]) ∧ NdAt w' b n) (fun _ h => h) _ _ _ _ ?_
      clear hHeld
      have hHeld := hH4
      clear hOld
      try simp only [Act.put, List.setIfInBounds_toArray, List.set_cons_zero, List.set_cons_succ]
      refine take_at (i := 8) (v := ?_) (some 35) rfl rfl (by kernel_rfl) (by kernel_rfl) (by kernel_rfl) (fun _ _ _ h => h) hHeld (by rfl) (fun wS hSw => ?_) ?_
      rotate_left
      · try dsimp only at hSw
        go_simp
        try with_reducible rfl
      try simp only [Act.put, List.setIfInBounds_toArray, List.set_cons_zero, List.set_cons_succ]
      refine take_at (i := 9) (v := ?_) (some 44) rfl rfl (by kernel_rfl) (by kernel_rfl) (by kernel_rfl) (fun _ _ _ h => h) hHeld (by rfl) (fun wS hSw => ?_) ?_
      rotate_left
      · try dsimp only at hSw
        go_simp
        try with_reducible rfl
      try simp only [Act.put, List.setIfInBounds_toArray, List.set_cons_zero, List.set_cons_succ]
      refine take_at (i := 10) (v := ?_) (some 45) rfl rfl (by kernel_rfl) (by kernel_rfl) (by kernel_rfl) (fun _ _ _ h => h) hHeld (by rfl) (fun wS hSw => ?_) ?_
      rotate_left
      · try dsimp only at hSw
        go_simp
        try with_reducible rfl
      try simp only [Act.put, List.setIfInBounds_toArray, List.set_cons_zero, List.set_cons_succ]
      refine take_at (i := 11) (v := ?_) (some 12) rfl rfl (by kernel_rfl) (by kernel_rfl) (by kernel_rfl) (fun _ _ _ h => h) hHeld (by rfl) (fun wS hSw => ?_) ?_
      rotate_left
      · try dsimp only at hSw
        go_simp
        try with_reducible rfl
      try simp only [Act.put, List.setIfInBounds_toArray, List.set_cons_zero, List.set_cons_succ]
      refine take_at (i := 12) (v := ?_) (some 13) rfl rfl (by kernel_rfl) (by kernel_rfl) (by kernel_rfl) (fun _ _ _ h => h) hHeld (by rfl) (fun wS hSw => ?_) ?_
      rotate_left
      · try dsimp only at hSw
        go_simp
        try with_reducible rfl
      try simp only [Act.put, List.setIfInBounds_toArray, List.set_cons_zero, List.set_cons_succ]
      refine wpAnyH_done (by kernel_rfl) ?_ _
      have N4 := Lib.hid hH4.2
      clear hHeld hH4 HM
      by_cases ha : a < zl
      · have hc := N4.out.cL
        rw [hnl] at hc
        have HF2 := Lib.hid (show findT L.things a = findT X a0 by rw [HFA.out, if_pos ha])
        go_wp2_with fail
        go_roundw
        case rel => exact ⟨L, a, rfl, rfl, HT.out.1.2.1, HT.out.2.left, HF2.out, HB.out, K4.out, Z4.out⟩
        case measure => exact HH.out.1
      · have ha' : zl ≤ a := by omega
        by_cases hb : a < zl + zt
        · have HFV := Lib.hid (show findV X a0 = .tuple #[.agg (encT u).toArray, .int .i64 (a - zl), .bool true] by
            unfold findV
            rw [HFA.out, if_neg ha, findT, if_neg (show ¬ a - zl < 0 by omega), if_pos (show a - zl < sizeT u by rw [HZT.out]; omega)]
            rfl)
          have HBK := Lib.hid (show Below w.heap.size w (w4.setRow bz (encT u).toArray) from below_setRow K4.out K4.out.size (by rw [← HBZ.out]; exact Nat.le_refl _) _)
          go_wp2_with (first
            | (refine wpList_load_mid rfl 58 (.tmp 65) rfl b 0 rfl (encT u) _ (HX.out ▸ N4.out.x) Try.underlying58 rfl (thing_info u) ?_)
            | (refine wpList_store_row rfl 58 (.tmp 4) (.tmp 66) rfl bz (encT u).toArray rfl rfl 58 _ Z4.out (by rw [List.size_toArray]; exact thing_info _) ((by rfl : _ = 33).trans (encT_size _).symm) (all_oneCell_toArray (encT_one _)) ?_))
          exact bodyPost_ret (v := .tuple #[.agg (encT u).toArray, .int .i64 (a - zl), .bool true]) (results_ctt rfl _ _ bz _ (encT u).toArray (0, 0) _ (.int .i64 (a - zl)) (.bool true) rfl rfl rfl (setRow_heap _ _ _ _ _ _ Z4.out) Try.underlying58 rfl (by rw [List.size_toArray]; exact thing_info _)) rfl ⟨by rw [HFV.out], HBK.out⟩
        · have hc := N4.out.cR
          rw [hnr] at hc
          have HF2 := Lib.hid (show findT R.things (a - (zl + zt)) = findT X a0 by
            rw [HFA.out, if_neg ha, findT, if_neg (show ¬ a - zl < 0 by omega), if_neg (show ¬ a - zl < sizeT u by rw [HZT.out]; omega), HZT.out, show a - zl - zt = a - (zl + zt) by omega])
          have HB2 := Lib.hid (show -9223372036854775808 ≤ a - (zl + zt) ∧ a - (zl + zt) ≤ 9223372036854775807 by have := HB.out; omega)
          go_wp2_with fail
          go_roundw
          case rel => exact ⟨R, a - (zl + zt), rfl, rfl, HT.out.1.2.2, HT.out.2.right.tail, HF2.out, HB2.out, K4.out, Z4.out⟩
          case measure => exact HH.out.2

end Go.Proofs.Ytmfkdaannjibfaa

namespace Go.Proofs.Ytmfkdaannjibfaa
open Go.RowKit

/-- The part of a thing. -/
def partA (t : Th) (j : Int) : Th := if min j (sizeT t) < sizeT t then cutA t (min j (sizeT t)) else t
def partT (t : Th) (i j : Int) : Th := if 0 < max i 0 then cutB (partA t j) (max i 0) else partA t j
/-- The parts of things from i to j. -/
def overT : List Th → Int → Int → List Th
  | [], _, _ => []
  | t :: L, i, j => (if max i 0 < min j (sizeT t) then [partT t i j] else []) ++ overT L (i - sizeT t) (j - sizeT t)

theorem overT_app : ∀ (A B : List Th) (i j : Int), overT (A ++ B) i j = overT A i j ++ overT B (i - sumT A) (j - sumT A)
  | [], B, i, j => by rw [List.nil_append, sumT, overT, Int.sub_zero, Int.sub_zero, List.nil_append]
  | t :: A, B, i, j => by
    rw [List.cons_append, overT, overT, overT_app A B, sumT, List.append_assoc, show i - sizeT t - sumT A = i - (sizeT t + sumT A) by omega, show j - sizeT t - sumT A = j - (sizeT t + sumT A) by omega]
/-- Nothing ahead of the first, nothing behind the last. -/
theorem overT_none : ∀ (L : List Th) (i j : Int), (∀ x ∈ L, okT x) → (j ≤ 0 ∨ sumT L ≤ i ∨ j ≤ i) → overT L i j = []
  | [], _, _, _, _ => rfl
  | t :: L, i, j, h, hh => by
    have hn := sumT_nonneg (l := L) (fun x hx => h x (by simp [hx]))
    have hz := sizeT_ok (h t (by simp))
    rw [sumT] at hh
    rw [overT, if_neg (by omega), List.nil_append, overT_none L _ _ (fun x hx => h x (by simp [hx]))]
    omega
theorem overT_congr : ∀ (L : List Th) (i j i' j' : Int), (∀ x ∈ L, okT x) → max i 0 = max i' 0 → min j (sumT L) = min j' (sumT L) → overT L i j = overT L i' j'
  | [], _, _, _, _, _, _, _ => rfl
  | t :: L, i, j, i', j', h, h1, h2 => by
    have hn := sumT_nonneg (l := L) (fun x hx => h x (by simp [hx]))
    have hz := sizeT_ok (h t (by simp))
    rw [sumT] at h2
    have e1 : min j (sizeT t) = min j' (sizeT t) := by omega
    rw [overT, overT, overT_congr L (i - sizeT t) (j - sizeT t) (i' - sizeT t) (j' - sizeT t) (fun x hx => h x (by simp [hx])) (by omega) (by omega)]
    unfold partT partA
    rw [h1, e1]

theorem partA_ok {t : Th} {i j : Int} (h : okT t) (h0 : max i 0 < min j (sizeT t)) : okT (partA t j) ∧ sizeT (partA t j) = min j (sizeT t) := by
  unfold partA
  split
  · next h1 => exact ⟨(cut_ok h (by omega) h1).1, cutA_size h (by omega) h1⟩
  · next h1 => exact ⟨h, by omega⟩
theorem partT_ok {t : Th} {i j : Int} (h : okT t) (h0 : max i 0 < min j (sizeT t)) : okT (partT t i j) ∧ sizeT (partT t i j) = min j (sizeT t) - max i 0 := by
  have hA := partA_ok h h0
  unfold partT
  split
  · next h1 =>
    have hc := cut_ok hA.1 h1 (by omega)
    have hs := cutA_size hA.1 h1 (by omega)
    exact ⟨hc.2.1, by omega⟩
  · next h1 => exact ⟨hA.1, by omega⟩
theorem overT_ok : ∀ (L : List Th) (i j : Int), (∀ x ∈ L, okT x) → (∀ x ∈ overT L i j, okT x ∧ 0 < sizeT x) ∧ (overT L i j).length ≤ L.length
  | [], _, _, _ => ⟨(fun _ h => nomatch h), Nat.le_refl _⟩
  | t :: L, i, j, h => by
    have ih := overT_ok L (i - sizeT t) (j - sizeT t) (fun x hx => h x (by simp [hx]))
    rw [overT]
    split
    · next h1 =>
      have hp := partT_ok (h t (by simp)) h1
      refine ⟨fun x hx => ?_, by rw [List.length_append, List.length_cons, List.length_nil, List.length_cons]; omega⟩
      rcases List.mem_append.1 hx with e | e
      · rw [List.mem_singleton] at e; subst e; exact ⟨hp.1, by omega⟩
      · exact ih.1 x e
    · exact ⟨by rw [List.nil_append]; exact ih.1, by rw [List.nil_append, List.length_cons]; omega⟩
/-- The parts add up. -/
theorem overT_sum : ∀ (L : List Th) (i j : Int), (∀ x ∈ L, okT x) → max i 0 ≤ max (min j (sumT L)) 0 → sumT (overT L i j) = max (min j (sumT L)) 0 - min (max i 0) (sumT L)
  | [], i, j, _, hh => by rw [overT, sumT] at *; omega
  | t :: L, i, j, h, hh => by
    have hn := sumT_nonneg (l := L) (fun x hx => h x (by simp [hx]))
    have hz := sizeT_ok (h t (by simp))
    rw [sumT] at hh
    by_cases hc : max (i - sizeT t) 0 ≤ max (min (j - sizeT t) (sumT L)) 0
    · have ih := overT_sum L (i - sizeT t) (j - sizeT t) (fun x hx => h x (by simp [hx])) hc
      rw [overT, sumT_append, ih, sumT]
      split
      · next h1 =>
        have hp := partT_ok (h t (by simp)) h1
        rw [sumT, sumT, hp.2]
        omega
      · rw [sumT]; omega
    · rw [overT, overT_none L _ _ (fun x hx => h x (by simp [hx])) (by omega), sumT]
      split
      · next h1 =>
        have hp := partT_ok (h t (by simp)) h1
        rw [List.append_nil, sumT, sumT, hp.2]
        omega
      · rw [List.append_nil, sumT]; omega

theorem TreeW.keepsO {Bad : Nat → Obj → Prop} {W W' : World} {F : Nat → Prop} {gT gA : Nat} {root : Int} {s : List (Option Nd)} {fr : List Nat} (h : TreeW W F gT gA root s fr) (hk : KeepsO Bad W W') (hF : ∀ k, F k → ∀ o, ¬ Bad k o) (hT : ∀ o, ¬ Bad gT o) : TreeW W' F gT gA root s fr :=
  ⟨hk.row h.blk hT, by obtain ⟨vp, vf, ha⟩ := h.ar; exact ⟨vp, vf, hk.stF ha hF⟩, h.ok, h.oF, h.len⟩
theorem NdAt.keepsO {Bad : Nat → Obj → Prop} {W W' : World} {b : Nat} {n : Nd} (h : NdAt W b n) (hk : KeepsO Bad W W') (hb : ∀ cs fr, ¬ Bad b (.cells cs 103 fr)) : NdAt W' b n := ⟨hk.2 b _ h.blk rfl (hb _ _)⟩

/-- What 'over' leaves: all parts have come, or somebody has said 'no more'. -/
def OverP (J Jx : List Th → World → Prop) (Bad : Nat → Obj → Prop) (W : World) (pre P : List Th) (e : Ending) (W' : World) : Prop :=
  (e = .returned (.bool true) ∧ J (pre ++ P) W' ∧ KeepsO Bad W W') ∨ (e = .returned (.bool false) ∧ ∃ q, q <+: P ∧ Jx (pre ++ q) W')

end Go.Proofs.Ytmfkdaannjibfaa
