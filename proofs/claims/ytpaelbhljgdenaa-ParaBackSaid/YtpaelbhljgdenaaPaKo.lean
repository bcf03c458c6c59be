/-
  rubriclaw13: level, levels, known.
-/
import Derived.Test.YtpaelbhljgdenaaPaKn
namespace Go.Proofs.Ytpaelbhljgdenaa
open Go.RowKit

def lv (n : Int) : At := ⟨14, ⟨2, n, 0, ⟨#[]⟩⟩⟩
def lvC (n : Int) : Ch := ⟨14, false, ⟨2, n, 0, ⟨#[]⟩⟩⟩

theorem own_new {w : World} {b : Nat} {cs : List Value} {t : TypeId} {n : Nat} {size : Nat} (h : w.heap[b]? = some (.cells cs.toArray t)) (hl : cs.length = n * size) (hm : n ≤ maxLen) {base : Nat} (hb : base ≤ b) : w.ownsRow base t size (.slice (some ⟨b, 0, none⟩) n n) n cs :=
  ⟨hl, .inr ⟨b, n, cs.toArray, rfl, hb, h, Nat.le_refl _, hm, by simp [hl], by simp [← hl]⟩⟩

set_option maxRecDepth 100000 in
set_option maxHeartbeats 1000000 in
theorem level_any (n : Int) (w : World) : Calls Try.prog 22 #[.int .i64 n] w fun e w' => ∃ v, e = .returned v ∧ OwnA w' w.heap.size v [lv n] ∧ Below w.heap.size w w' := by
  obtain ⟨b, hb⟩ : ∃ b, w.heap.size = b := ⟨_, rfl⟩
  obtain ⟨w1, hw1⟩ : ∃ v, w.alloc (.cells #[.int .i64 14, .int .u8 2, .int .i64 n, .int .u64 0, .string ⟨#[]⟩] 72) = v := ⟨_, rfl⟩
  have HR := Lib.hid (show OwnA w1 w.heap.size (.slice (some ⟨b, 0, none⟩) 1 1) [lv n] ∧ Below w.heap.size w w1 from
    ⟨own_new (cs := rowA [lv n]) (by rw [← hw1, ← hb]; exact heap_alloc_new w _) rfl (by decide) (by omega), by rw [← hw1]; exact (Below.refl _ _).alloc (Nat.le_refl _) _⟩)
  go_enter Try.func22, Try.ntmps22
  go_wp2_with fail
  go_ret
  exact ⟨_, rfl, HR.out.1, HR.out.2⟩

set_option maxRecDepth 100000 in
set_option maxHeartbeats 1000000 in
theorem levels_any (n : Int) (w : World) : Calls Try.prog 23 #[.int .i64 n] w fun e w' => ∃ b, e = .returned (.slice (some ⟨b, 0, none⟩) 1 1) ∧ Sees w' (b + 1) 6 (some ⟨b, 0, none⟩) [lvC n].length (rowC [lvC n]) ∧ b < w'.heap.size ∧ w.heap.size ≤ b ∧ Below w.heap.size w w' := by
  obtain ⟨b, hb⟩ : ∃ b, w.heap.size = b := ⟨_, rfl⟩
  obtain ⟨w1, hw1⟩ : ∃ v, w.alloc (.cells #[.int .i64 14, .bool false, .int .u8 2, .int .i64 n, .int .u64 0, .string ⟨#[]⟩] 46) = v := ⟨_, rfl⟩
  have HR := Lib.hid (show Sees w1 (b + 1) 6 (some ⟨b, 0, none⟩) [lvC n].length (rowC [lvC n]) ∧ b < w1.heap.size ∧ w.heap.size ≤ b ∧ Below w.heap.size w w1 from
    ⟨Sees.one_blk Ch.cells 6 (fun _ => rfl) (by rw [← hw1, ← hb]; exact heap_alloc_new w _), by rw [← hw1, ← hb]; simp, by omega, by rw [← hw1]; exact (Below.refl _ _).alloc (Nat.le_refl _) _⟩)
  go_enter Try.func23, Try.ntmps23
  go_wp2_with fail
  go_ret
  exact ⟨b, rfl, HR.out⟩

set_option maxRecDepth 100000 in
set_option maxHeartbeats 4000000 in
theorem known_any (w : World) : Calls Try.prog 9 #[] w fun e w' => e = .returned (.bool true) ∧ Below w.heap.size w w' := by
  go_enter Try.func9, Try.ntmps9
  go_wp2_with fail
  refine (newP_star (Star.nil_ w)).mono ?_
  rintro e w1 ⟨g, rfl, h1⟩
  have H1 := Lib.hid h1
  clear h1
  go_wp2_with fail
  refine (level_any 1 w1).mono ?_
  rintro e w2 ⟨v, rfl, ho, hb2⟩
  obtain ⟨A2, c2, rfl, hs2⟩ := SetAt.of_own (D := fun k => w1.heap.size ≤ k) (n := 1) ho rfl (fun k hk => own_base ho hk)
  have h2 := H1.out.later hb2
  have hKl : ∀ k, k = g → k < w1.heap.size := (show ParS w1 (fun k => k = g) g [] 0 0 from H1.out.get (A := []) (B := [])).lt
  obtain ⟨b3, hb3⟩ : ∃ v, w2.heap.size = v := ⟨_, rfl⟩
  obtain ⟨w3, hw3⟩ : ∃ v, w2.alloc (.cells #[.slice none 0 0, .slice A2 1 c2] 38) = v := ⟨_, rfl⟩
  have B3 : Below w2.heap.size w2 w3 := by rw [← hw3]; exact (Below.refl _ _).alloc (Nat.le_refl _) _
  have hq3 : w3.heap[b3]? = some (.cells (rowT [⟨none, 0, 0⟩, ⟨A2, 1, c2⟩]).toArray 38) := by rw [← hw3, ← hb3]; exact heap_alloc_new w2 _
  have hS3 : SetsAt w3 (fun k => w1.heap.size ≤ k) [⟨none, 0, 0⟩, ⟨A2, 1, c2⟩] [[], [lv 1]] := by
    refine SetsAt.below ⟨rfl, fun i t a e1 e2 => ?_⟩ B3
    rcases i with _ | _ | i
    · simp at e1 e2
      subst e1 e2
      exact ⟨rfl, Nat.le_refl _, fun _ => rfl, fun h => absurd h (by decide)⟩
    · simp at e1 e2
      subst e1 e2
      exact hs2
    · simp at e1
  have HI := Lib.hid (pa_star (A := []) (B := []) (h2.later B3) (insertP_any (c := 2) (((show ParS w2 (fun k => k = g) g [] 0 0 from h2.get (A := []) (B := [])).below B3).more (Nat.le_refl 0) (Nat.zero_le 1)) (Sees.things hq3) (by have := (Array.getElem?_eq_some_iff.1 hq3).1; omega) (fun e => by cases e) hS3 (fun _ b o e hk => by
    simp only [Option.some.injEq, Addr.mk.injEq] at e
    have hk : b = g := hk
    have h4 := hKl g rfl
    have h5 := hb2.size
    omega) (fun k hk e => by have e : k = g := e; have h4 := hKl g rfl; omega) (by decide) (fun a ha => by simp at ha; rcases ha with e | e <;> subst e <;> simp) (by decide) (by decide) 0))
  clear ho hb2 hs2 h2 hKl B3 hq3 hS3
  go_wp2_with fail
  refine HI.out.mono ?_
  clear HI
  rintro e w4 ⟨K4, rfl, h4⟩
  have h4 : Star w [paI K4 g [[], [lv 1]] 2 1] w4 := h4
  rw [show betP [] 0 0 = 0 by decide]
  have HL := Lib.hid (len_star (A := []) (B := []) h4)
  clear h4
  go_wp2_with fail
  refine HL.out.mono ?_
  clear HL
  rintro e w5 ⟨K5, rfl, h5⟩
  have H5 := Lib.hid h5
  clear h5
  go_wp2_with fail
  refine (levels_any 2 w5).mono ?_
  rintro e w6 ⟨b6, rfl, hs6, hb6, hb6', B6⟩
  have h6 := H5.out.later B6
  have hK5 : ∀ k, K5 k → k < w5.heap.size := (show ParS w5 K5 g [[], [lv 1]] 2 1 from H5.out.get (A := []) (B := [])).lt
  have HP := Lib.hid (pa_star (A := []) (B := []) h6 (patchP_any (c := 1) h6.get hs6 hb6 (fun _ b o e hk => by
    simp only [Option.some.injEq, Addr.mk.injEq] at e
    have := hK5 b hk
    omega) (by decide) (by decide) (by decide) (by decide) 0 2))
  clear hs6 hb6 hb6' B6 h6 hK5
  go_wp2_with fail
  refine HP.out.mono ?_
  clear HP
  rintro e w7 ⟨K7, rfl, h7⟩
  have e7 : patX [[], [lv 1]] 0 2 [lvC 2] = [[lv 2], [lv 2]] := by
    unfold patX
    rw [if_pos (by decide)]
    rfl
  rw [e7] at h7
  rw [show betP [[], [lv 1]] 0 2 = 0 by decide]
  have HA := Lib.hid (at_star (A := []) (B := []) h7 (by decide) 0 (by decide))
  rw [show atE [[lv 2], [lv 2]] 0 = 0 by rfl, show atA [[lv 2], [lv 2]] 0 = [lv 2] by rfl] at HA
  clear h7 e7
  go_wp2_with fail
  refine HA.out.mono ?_
  clear HA
  rintro e w8 ⟨K8, v8, rfl, h8⟩
  obtain ⟨A8, c8, rfl, -, -⟩ := own_shape (show w8.ownsRow _ 72 5 v8 [lv 2].length (rowA [lv 2]) from h8.all _ (List.mem_cons_self))
  have HA := Lib.hid (at_star (A := [setI (.slice A8 [lv 2].length c8) w7.heap.size [lv 2]]) (B := []) h8 (by decide) 2 (by decide))
  rw [show atE [[lv 2], [lv 2]] 2 = 5 by rfl] at HA
  clear h8
  go_wp2_with fail
  refine HA.out.mono ?_
  clear HA
  rintro e w9 ⟨K9, v9, rfl, h9⟩
  have H9 := Lib.hid h9
  clear h9
  go_wp2_with fail
  refine (level_any 2 w9).mono ?_
  rintro e w10 ⟨v10, rfl, ho10, hb10⟩
  have h10 := H9.out.later hb10
  have HSm := Lib.hid (same_star h10 (show w10.ownsRow w7.heap.size 72 5 (.slice A8 [lv 2].length c8) [lv 2].length (rowA [lv 2]) from h10.all (setI _ w7.heap.size [lv 2]) (by simp)) ho10 (by decide) (by decide))
  rw [show decide ([lv 2] = [lv 2]) = true by simp] at HSm
  obtain ⟨A10, c10, rfl, -, -⟩ := own_shape ho10
  clear ho10 hb10 h10
  go_wp2_with fail
  refine HSm.out.mono ?_
  clear HSm
  rintro e w11 ⟨rfl, h11⟩
  have HD := Lib.hid (del_star (A := [setI v9 w8.heap.size (atA [[lv 2], [lv 2]] 2), setI (.slice A8 [lv 2].length c8) w7.heap.size [lv 2]]) (B := []) h11 (by decide) (by decide) 0 1)
  rw [show betP [[lv 2], [lv 2]] 0 1 = 0 by decide, show delX [[lv 2], [lv 2]] 0 1 = [[lv 2]] by rfl] at HD
  clear h11
  go_wp2_with fail
  refine HD.out.mono ?_
  clear HD
  rintro e w12 ⟨K12, rfl, h12⟩
  have HL := Lib.hid (len_star (A := [setI v9 w8.heap.size (atA [[lv 2], [lv 2]] 2), setI (.slice A8 [lv 2].length c8) w7.heap.size [lv 2]]) (B := []) h12)
  clear h12
  go_wp2_with fail
  refine HL.out.mono ?_
  clear HL
  rintro e w13 ⟨K13, rfl, h13⟩
  have HB := Lib.hid h13.below
  clear h13
  go_wp2_with fail
  go_ret
  exact ⟨rfl, HB.out⟩

end Go.Proofs.Ytpaelbhljgdenaa
