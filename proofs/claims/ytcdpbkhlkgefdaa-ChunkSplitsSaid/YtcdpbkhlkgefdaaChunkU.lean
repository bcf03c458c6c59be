/-
  The walk of rubriclaw09.ChunkIs.
-/
import Derived.Test.YtcdpbkhlkgefdaaChunkT
namespace Go.Proofs.Ytcdpbkhlkgefdaa
open Go.RowKit

set_option maxHeartbeats 1000000 in
theorem chunkIs_out (A : Option Addr) (n c : Nat) (w : World) (h : 1000 < n) (hn : (n : Int) ≤ 9223372036854775807) :
    Calls Try.prog 4 #[.slice A n c] w fun e w' => e = .returned (.bool true) ∧ Below w.heap.size w w' := by
  have hh : (1000 : Int) < n := by omega
  go_enter Try.func4, Try.ntmps4
  go_wp2_with fail
  refine (known_any _).mono ?_
  rintro e w' ⟨rfl, hb⟩
  go_wp2_with fail
  go_ret
  exact ⟨rfl, hb⟩

set_option maxRecDepth 100000 in
set_option maxHeartbeats 4000000 in
theorem chunkIs_any (A : Option Addr) (n c : Nat) (l : List Int) (w : World) (hs : Sees w w.heap.size 1 A n (l.map r32)) (hn : n ≤ 1000) :
    Calls Try.prog 4 #[.slice A n c] w fun e w' => e = .returned (.bool true) ∧ Below w.heap.size w w' := by
  have hl : l.length = n := by have := hs.1; simp at this; omega
  obtain ⟨i0, ii0, iz0, iz1, iz2⟩ := info_parts r32_info
  have hnI : (n : Int) ≤ 1000 := by omega
  have HL := Lib.hid hl
  clear hl
  obtain ⟨ca, hca⟩ : ∃ x, ofC l = x := ⟨_, rfl⟩
  obtain ⟨ea, hea⟩ : ∃ x, ofE l = x := ⟨_, rfl⟩
  have lh : ca.length ≤ 32 := by rw [← hca]; exact ofC_len l
  have HOK := Lib.hid (show ea = 0 → ca = l ∧ l.length ≤ 32 by rw [← hea, ← hca]; exact ofE_ok)
  have HNI := Lib.hid (show ea ≠ 0 → ca = [] by
    rw [← hea, ← hca]
    unfold ofE ofC
    split
    · intro _; rfl
    · split
      · intro _; rfl
      · intro h; exact absurd rfl h)
  have HOf := Lib.hid (fun (A : Option Addr) (c B : Nat) (w : World) (h : Sees w B 1 A n (l.map r32)) (hB : B ≤ w.heap.size) => of_any A n c B l w h hB hn)
  have HRe := Lib.hid (fun (w1 : World) (h : Below w.heap.size w w1) => refOf_any A n c w.heap.size l w1 (hs.below h (Nat.le_refl _)) hn)
  have HS := Lib.hid hs
  rw [hca, hea] at HOf
  rw [hea] at HRe
  clear hca hea
  go_enter Try.func4, Try.ntmps4
  go_wp2_with (
    at_builtin
    refine wpList_append_sees _ rfl _ _ _ rfl w.heap.size 21 i0 _ 1 4 Try.underlying22 ii0 iz0 iz1 iz2 rfl (by omega) _ 0 [] rfl
      (own_none w 21) w.heap.size _ n _ _ rfl (HS.out.alloc (Nat.le_refl _) _) (r32_one l) (by simp only [maxLen]; omega) (by omega) (by simp) ?_
    intro v1 w1 hown1 hg1 hat1 hnil1
    rw [Nat.zero_add, List.nil_append] at hown1
    have O1 := Lib.hid hown1
    have K1 := Lib.hid (below_zero hg1)
    obtain ⟨A3, c3, rfl, _⟩ := own_shape hown1
    clear hg1 hat1 hnil1 hown1)
  refine (HOf.out A3 c3 w1.heap.size w1 (Sees.of_own O1.out) (Nat.le_refl _)).mono ?_
  rintro e w2 ⟨rfl, hb2⟩
  have O2 := Lib.hid (own_below O1.out hb2 (fun _ hk => own_lt O1.out hk))
  have K2 := Lib.hid (K1.out.trans (hb2.mono K1.out.size))
  clear hb2
  obtain ⟨g, hg⟩ : ∃ g, w2.heap.size = g := ⟨_, rfl⟩
  obtain ⟨w3, hw3⟩ : ∃ v, w2.alloc (.cells (chC ca).toArray 26) = v := ⟨_, rfl⟩
  have G3 := Lib.hid (show w3.heap[g]? = some (.cells (chC ca).toArray 26) by rw [← hw3, ← hg]; exact heap_alloc_new w2 _)
  have b3 : Below w2.heap.size w2 w3 := by rw [← hw3]; exact (Below.refl _ w2).alloc (Nat.le_refl _) _
  have O3 := Lib.hid (own_below O2.out b3 (fun _ hk => own_lt O2.out hk))
  have K3 := Lib.hid (K2.out.trans (b3.mono K2.out.size))
  have HE := Lib.hid (And.intro hw3 hg)
  clear b3 hw3 hg
  go_wp2_with (refine wpList_store_row rfl 26 (.tmp 4) (.tmp 17) rfl w2.heap.size (chC ca).toArray rfl rfl 26 (chC []).toArray (heap_alloc_new w2 _) (ch_info ca lh) (ch_size ca lh) (all_one ca) ?_; rw [alloc_setRow, HE.out.1, HE.out.2])
  refine (HRe.out w3 K3.out).mono ?_
  rintro e w3' ⟨rfl, rfl⟩
  have e0 : (ea != ea) = false := by simp
  go_wp2_with fail
  refine (same_any A3 A n n c3 c w3.heap.size w.heap.size l l w3 (Sees.of_own O3.out) (HS.out.below K3.out (Nat.le_refl _)) (by omega) (by omega)).mono ?_
  rintro e w4' ⟨rfl, k4, rfl⟩
  rw [show (l == l) = true from beq_self_eq_true l]
  obtain ⟨w4, hw4⟩ : ∃ v, w3.drewN k4 = v := ⟨_, rfl⟩
  have G4 := Lib.hid (show w4.heap[g]? = some (.cells (chC ca).toArray 26) by rw [← hw4]; exact G3.out)
  have O4 := Lib.hid (show w4.ownsRow w.heap.size 21 1 (.slice A3 n c3) n (l.map r32) by rw [← hw4]; exact O3.out)
  have K4 := Lib.hid (show Below w.heap.size w w4 by rw [← hw4]; exact below_drewN K3.out k4)
  rw [hw4]
  clear hw4
  by_cases hea : ea = 0
  · subst hea
    obtain ⟨rfl, hl32⟩ := HOK.out rfl
    have hn32 : n ≤ 32 := by have := HL.out; omega
    go_wp2_with fail
    go_loopw [39] (fun v39 wr => ∃ (j : Nat) (xs : List Value), j ≤ n ∧ v39 = .int .i64 j ∧ wr.ownsRow w.heap.size 21 1 (.slice A3 n c3) n xs ∧ wr.heap[g]? = some (.cells (chC ca).toArray 26) ∧ Below w.heap.size w wr) (fun v39 _ => n - (intOf v39).toNat)
    case atStart => exact ⟨0, _, Nat.zero_le _, rfl, O4.out, G4.out, K4.out⟩
    case round =>
      obtain ⟨j, xs, hj, rfl, ho, hgr, hbr⟩ := hrel
      have HO := Lib.hid (And.intro ho (And.intro hgr hbr))
      by_cases hlt : j < n
      · obtain ⟨g6, rfl, hlow⟩ := own_addr ho (by omega)
        have hlt6 : g6 < g := by rw [← HE.out.2]; exact own_lt O2.out rfl
        obtain ⟨b6, o6, e6, hb6, hcell⟩ := (Sees.of_own ho).2 (by omega)
        cases e6
        obtain ⟨y, hy⟩ : ∃ y, xs[j]? = some y := ⟨_, List.getElem?_eq_getElem (by have := ho.1; omega)⟩
        have hcx := hcell j y hy
        have hfz := ho.frozenAt j
        rw [Nat.zero_add] at hcx
        have hjI : (j : Int) < n := by omega
        have HL6 := Lib.hid hlt6
        clear hcell hy ho hbr hgr hlt6
        go_wp2_with fail
        go_roundw
        case rel => exact ⟨j + 1, _, by omega, by go_num, (HO.out.1.stored j _).1, (heap_setCell_other _ _ _ _ (by have := HL6.out; simp; omega)).trans HO.out.2.1, HO.out.2.2.setCell hlow _⟩
        case measure => simp [intOf] <;> omega
      · obtain rfl : j = n := by omega
        have G7 := Lib.hid hgr
        have K7 := Lib.hid hbr
        clear ho hgr hbr
        go_wp2_with (refine load_rowG (by rfl) 26 (.tmp 4) rfl g rfl 26 (chC ca).toArray (0, 0) _ G7.out Try.underlying26 rfl (ch_info ca lh) ?_)
        refine (is_any A j c w.heap.size ca _ (HS.out.below K7.out (Nat.le_refl _)) K7.out.size hn32).mono ?_
        rintro e w8 ⟨rfl, hb8⟩
        have K8 := Lib.hid (K7.out.trans (hb8.mono K7.out.size))
        clear hb8
        go_wp2_with fail
        refine (known_any _).mono ?_
        rintro e w9 ⟨rfl, hb9⟩
        go_wp2_with fail
        go_ret
        exact ⟨rfl, K8.out.trans (hb9.mono K8.out.size)⟩
  · have e1 : (ea != 0) = true := by simp [hea]
    have HNE := Lib.hid (show (ca == []) = true by rw [HNI.out hea]; rfl)
    go_wp2_with (first | (refine load_rowG (by rfl) 26 (.tmp 4) rfl g rfl 26 (chC ca).toArray (0, 0) _ G4.out Try.underlying26 rfl (ch_info ca lh) ?_) | (refine wpList_eq_chunk (by rfl) (.tmp 31) (.tmp 32) rfl ca [] rfl (by with_unfolding_all rfl) lh (by decide) true HNE.out ?_))
    refine (known_any _).mono ?_
    rintro e w9 ⟨rfl, hb9⟩
    go_wp2_with fail
    go_ret
    exact ⟨rfl, K4.out.trans (hb9.mono K4.out.size)⟩

theorem chunkIs_law (A : Option Addr) (n c : Nat) (l : List Int) (w : World) (hs : Sees w w.heap.size 1 A n (l.map r32)) (hn : (n : Int) ≤ 9223372036854775807) :
    Calls Try.prog 4 #[.slice A n c] w fun e w' => e = .returned (.bool true) ∧ Below w.heap.size w w' := by
  by_cases h : 1000 < n
  · exact chunkIs_out A n c w h hn
  · exact chunkIs_any A n c l w hs (by omega)

end Go.Proofs.Ytcdpbkhlkgefdaa
