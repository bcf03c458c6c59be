/-
  The walk of rubriclaw09.ChunkSame.
-/
import Derived.Test.YtcdpbkhlkgefdaaChunkK
namespace Go.Proofs.Ytcdpbkhlkgefdaa
open Go.RowKit

/-- What Of answers. -/
def ofC (l : List Int) : List Int := if 0 ≤ badAt l 0 then [] else if 32 < l.length then [] else l
def ofE (l : List Int) : Int := if 0 ≤ badAt l 0 then 3 else if 32 < l.length then 8 else 0

theorem ofC_len (l : List Int) : (ofC l).length ≤ 32 := by
  unfold ofC
  split
  · decide
  · split
    · decide
    · omega
theorem ofE_ok {l : List Int} (h : ofE l = 0) : ofC l = l ∧ l.length ≤ 32 := by
  unfold ofE at h
  unfold ofC
  split at h
  · omega
  · split at h
    · omega
    · rename_i h1 h2
      exact ⟨by rw [if_neg h1, if_neg h2], by omega⟩

theorem of_any (A : Option Addr) (n c B : Nat) (l : List Int) (w : World) (hs : Sees w B 1 A n (l.map r32)) (hB : B ≤ w.heap.size) (hn : n ≤ 1000) :
    Calls Try.prog 10 #[.slice A n c] w fun e w' => e = .returned (.tuple #[chV (ofC l), .int .i64 (ofE l)]) ∧ Below w.heap.size w w' := by
  have hl : l.length = n := by have := hs.1; simp at this; omega
  by_cases h1 : 0 ≤ badAt l 0
  · unfold ofC ofE
    rw [if_pos h1, if_pos h1]
    exact of_bad A n c B l w hs hB (by omega) h1
  · by_cases h2 : 32 < l.length
    · unfold ofC ofE
      rw [if_neg h1, if_neg h1, if_pos h2, if_pos h2]
      exact of_long A n c B l w hs hB (by omega) (by omega) (by omega)
    · unfold ofC ofE
      rw [if_neg h1, if_neg h1, if_neg h2, if_neg h2]
      exact of_ok A n c B l w hs hB (by omega) (by omega)

def bOf (v : Value) : Nat := match v with | .bool true => 1 | _ => 0

set_option maxHeartbeats 1000000 in
theorem same_out (A A2 : Option Addr) (n n2 c c2 : Nat) (w : World) (h : 1000 < n ∨ 1000 < n2) (hn : (n : Int) ≤ 9223372036854775807) (hn2 : (n2 : Int) ≤ 9223372036854775807) :
    Calls Try.prog 3 #[.slice A n c, .slice A2 n2 c2] w fun e w' => e = .returned (.bool true) ∧ Below w.heap.size w w' := by
  have hh : (1000 : Int) < n ∨ (¬ (1000 : Int) < n ∧ (1000 : Int) < n2) := by omega
  clear h
  rcases hh with h | ⟨h, h2⟩
  all_goals
    go_enter Try.func3, Try.ntmps3
    go_wp2_with fail
    refine (known_any _).mono ?_
    rintro e w' ⟨rfl, hb⟩
    go_wp2_with fail
    go_ret
    exact ⟨rfl, hb⟩

set_option maxRecDepth 100000 in
set_option maxHeartbeats 4000000 in
theorem chunkSame_any (A A2 : Option Addr) (n n2 c c2 : Nat) (l m : List Int) (w : World) (hs : Sees w w.heap.size 1 A n (l.map r32)) (hs2 : Sees w w.heap.size 1 A2 n2 (m.map r32)) (hn : n ≤ 1000) (hn2 : n2 ≤ 1000) :
    Calls Try.prog 3 #[.slice A n c, .slice A2 n2 c2] w fun e w' => e = .returned (.bool true) ∧ Below w.heap.size w w' := by
  have hl : l.length = n := by have := hs.1; simp at this; omega
  have hm : m.length = n2 := by have := hs2.1; simp at this; omega
  have hnI : (n : Int) ≤ 1000 := by omega
  have hn2I : (n2 : Int) ≤ 1000 := by omega
  have HL := Lib.hid (And.intro hl hm)
  have HO1 := Lib.hid (of_any A n c w.heap.size l w hs (Nat.le_refl _) hn)
  have HO2 := fun (w1 : World) (hb : Below w.heap.size w w1) => of_any A2 n2 c2 w.heap.size m w1 (hs2.below hb (Nat.le_refl _)) hb.size hn2
  have HO2 := Lib.hid HO2
  have HS := Lib.hid (And.intro hs hs2)
  obtain ⟨ca, hca⟩ : ∃ x, ofC l = x := ⟨_, rfl⟩
  obtain ⟨cb, hcb⟩ : ∃ x, ofC m = x := ⟨_, rfl⟩
  obtain ⟨ea, hea⟩ : ∃ x, ofE l = x := ⟨_, rfl⟩
  obtain ⟨eb, heb⟩ : ∃ x, ofE m = x := ⟨_, rfl⟩
  have cah : ca.length ≤ 32 := by rw [← hca]; exact ofC_len l
  have cbh : cb.length ≤ 32 := by rw [← hcb]; exact ofC_len m
  rw [hca, hea] at HO1
  rw [hcb, heb] at HO2
  have HC := Lib.hid (And.intro hca (And.intro hcb (And.intro hea heb)))
  clear hca hcb hea heb hl hm hs hs2
  go_enter Try.func3, Try.ntmps3
  go_wp2_with fail
  refine HO1.out.mono ?_
  rintro e w1 ⟨rfl, hb1⟩
  have HB1 := Lib.hid hb1
  clear hb1
  go_wp2_with (refine wpList_store_row rfl 26 (.tmp 5) (.tmp 23) rfl w1.heap.size (chC ca).toArray rfl rfl 26 (chC []).toArray (heap_alloc_new w1 _) (ch_info ca cah) (ch_size ca cah) (all_one ca) ?_; rw [alloc_setRow])
  obtain ⟨ga, hga⟩ : ∃ g, w1.heap.size = g := ⟨_, rfl⟩
  obtain ⟨w2, hw2⟩ : ∃ v, w1.alloc (.cells (chC ca).toArray 26) = v := ⟨_, rfl⟩
  have H2 := Lib.hid (show w2.heap[ga]? = some (.cells (chC ca).toArray 26) by rw [← hw2, ← hga]; exact heap_alloc_new w1 _)
  have HB2 := Lib.hid (show Below w.heap.size w w2 by rw [← hw2]; exact HB1.out.alloc HB1.out.size _)
  rw [hw2, hga]
  clear hw2 hga
  refine (HO2.out w2 HB2.out).mono ?_
  rintro e w3 ⟨rfl, hb3⟩
  have H3 := Lib.hid (heap_later H2.out hb3)
  have HB3 := Lib.hid (HB2.out.trans (hb3.mono HB2.out.size))
  clear hb3
  by_cases hea : ea = 0
  · by_cases heb : eb = 0
    · obtain ⟨h1, h2, h3, h4⟩ := HC.out
      obtain ⟨h5, h6⟩ := ofE_ok (h3.trans hea)
      obtain ⟨h7, h8⟩ := ofE_ok (h4.trans heb)
      obtain rfl : ca = l := h1.symm.trans h5
      obtain rfl : cb = m := h2.symm.trans h7
      subst hea heb
      clear h1 h2 h3 h4 h5 h7 HC HO1 HO2
      by_cases hnn : n = n2
      · subst hnn
        have e0 : (((n : Nat) : Int) == (n : Int)) = true := by simp
        go_wp2_with (refine wpList_store_row rfl 26 (.tmp 7) (.tmp 28) rfl w3.heap.size (chC cb).toArray rfl rfl 26 (chC []).toArray (heap_alloc_new w3 _) (ch_info cb cbh) (ch_size cb cbh) (all_one cb) ?_; rw [alloc_setRow])
        obtain ⟨gb, hgb⟩ : ∃ g, w3.heap.size = g := ⟨_, rfl⟩
        obtain ⟨w4, hw4⟩ : ∃ v, w3.alloc (.cells (chC cb).toArray 26) = v := ⟨_, rfl⟩
        have H4 := Lib.hid (show w4.heap[gb]? = some (.cells (chC cb).toArray 26) by rw [← hw4, ← hgb]; exact heap_alloc_new w3 _)
        have H4a := Lib.hid (show w4.heap[ga]? = some (.cells (chC ca).toArray 26) by rw [← hw4]; exact heap_later H3.out ((Below.refl _ _).alloc (Nat.le_refl _) _))
        have HB4 := Lib.hid (show Below w.heap.size w w4 by rw [← hw4]; exact HB3.out.alloc HB3.out.size _)
        rw [hw4, hgb]
        clear hw4 hgb
        go_loopw [9, 10] (fun v9 v10 wr => ∃ (j k : Nat) (a : Bool), j ≤ n ∧ v9 = .bool a ∧ v10 = .int .i64 j ∧ (a = true → (ca.drop j == cb.drop j) = (ca == cb)) ∧ (a = false → (ca == cb) = false) ∧ wr = w4.drewN k) (fun v9 v10 _ => bOf v9 * (n + 1 - (intOf v10).toNat))
        case atStart => exact ⟨0, 0, true, Nat.zero_le _, rfl, rfl, fun _ => rfl, (fun h => by cases h), rfl⟩
        case round =>
          obtain ⟨j, k, a, hj, rfl, rfl, ht, hf, rfl⟩ := hrel
          cases a with
          | false =>
            have HQ := Lib.hid (hf rfl)
            clear ht hf
            go_wp2_with (first | (refine wpList_load_row rfl 26 (.tmp 5) rfl ga rfl 26 (chC ca).toArray (0, 0) _ H4a.out Try.underlying26 rfl (ch_info ca cah) ?_) | (refine wpList_load_row rfl 26 (.tmp 7) rfl gb rfl 26 (chC cb).toArray (0, 0) _ H4.out Try.underlying26 rfl (ch_info cb cbh) ?_) | (refine wpList_eq_chunk (by rfl) (.tmp 60) (.tmp 61) rfl ca cb rfl rfl cah cbh false HQ.out ?_))
            refine (known_any _).mono ?_
            rintro e w9 ⟨rfl, hb9⟩
            go_wp2_with fail
            go_ret
            exact ⟨rfl, (below_drewN HB4.out k).trans (hb9.mono HB4.out.size)⟩
          | true =>
            by_cases hlt : j < n
            · obtain ⟨b, o, rfl, hb, hcell⟩ := HS.out.1.2 (by omega)
              obtain ⟨b2, o2, rfl, hb2, hcell2⟩ := HS.out.2.2 (by omega)
              obtain ⟨x, hx⟩ : ∃ x, ca[j]? = some x := ⟨_, List.getElem?_eq_getElem (by have := HL.out.1; omega)⟩
              obtain ⟨y, hy⟩ : ∃ y, cb[j]? = some y := ⟨_, List.getElem?_eq_getElem (by have := HL.out.2; omega)⟩
              have hcx : w4.cell? ⟨b, o + j, none⟩ = some (.int .i32 x) := (HB4.out.cell (p := ⟨b, o + j, none⟩) hb).trans (hcell j (.int .i32 x) (by simp [hx, r32]))
              have hcy : w4.cell? ⟨b2, o2 + j, none⟩ = some (.int .i32 y) := (HB4.out.cell (p := ⟨b2, o2 + j, none⟩) hb2).trans (hcell2 j (.int .i32 y) (by simp [hy, r32]))
              have he := ht rfl
              rw [same_step ca cb j x y hx hy] at he
              have hjI : (j : Int) < n := by omega
              have HE := Lib.hid he
              obtain ⟨q, hq⟩ : ∃ q, (x == y) = q := ⟨_, rfl⟩
              have HQ := Lib.hid hq
              clear hcell hcell2 hx hy ht hf he hq
              go_wp2_with fail
              go_quiet (fail)
              go_wp2_with fail
              go_roundw
              case rel => exact ⟨j + 1, _, _, by omega, by rw [HQ.out], by go_num, fun h => by rw [← HE.out, HQ.out, h, Bool.true_and], fun h => by rw [← HE.out, HQ.out, h]; rfl, rfl⟩
              case measure =>
                rw [HQ.out]
                cases q <;> simp [intOf, bOf] <;> omega
            · obtain rfl : j = n := by omega
              have he := ht rfl
              rw [List.drop_of_length_le (by have := HL.out.1; omega), List.drop_of_length_le (by have := HL.out.2; omega)] at he
              have HQ := Lib.hid (show (ca == cb) = true from he.symm)
              clear ht hf he
              go_wp2_with (first | (refine wpList_load_row rfl 26 (.tmp 5) rfl ga rfl 26 (chC ca).toArray (0, 0) _ H4a.out Try.underlying26 rfl (ch_info ca cah) ?_) | (refine wpList_load_row rfl 26 (.tmp 7) rfl gb rfl 26 (chC cb).toArray (0, 0) _ H4.out Try.underlying26 rfl (ch_info cb cbh) ?_) | (refine wpList_eq_chunk (by rfl) (.tmp 60) (.tmp 61) rfl ca cb rfl rfl cah cbh true HQ.out ?_))
              refine (known_any _).mono ?_
              rintro e w9 ⟨rfl, hb9⟩
              go_wp2_with fail
              go_ret
              exact ⟨rfl, (below_drewN HB4.out k).trans (hb9.mono HB4.out.size)⟩
      · have e0 : (((n : Nat) : Int) == (n2 : Int)) = false := beq_eq_false_iff_ne.2 (by omega)
        have hne : (ca == cb) = false := by
          rw [beq_eq_false_iff_ne]
          intro e
          have := HL.out
          rw [e] at this
          omega
        have HQ := Lib.hid hne
        clear hne
        go_wp2_with (refine wpList_store_row rfl 26 (.tmp 7) (.tmp 28) rfl w3.heap.size (chC cb).toArray rfl rfl 26 (chC []).toArray (heap_alloc_new w3 _) (ch_info cb cbh) (ch_size cb cbh) (all_one cb) ?_; rw [alloc_setRow])
        obtain ⟨gb, hgb⟩ : ∃ g, w3.heap.size = g := ⟨_, rfl⟩
        obtain ⟨w4, hw4⟩ : ∃ v, w3.alloc (.cells (chC cb).toArray 26) = v := ⟨_, rfl⟩
        have H4 := Lib.hid (show w4.heap[gb]? = some (.cells (chC cb).toArray 26) by rw [← hw4, ← hgb]; exact heap_alloc_new w3 _)
        have H4a := Lib.hid (show w4.heap[ga]? = some (.cells (chC ca).toArray 26) by rw [← hw4]; exact heap_later H3.out ((Below.refl _ _).alloc (Nat.le_refl _) _))
        have HB4 := Lib.hid (show Below w.heap.size w w4 by rw [← hw4]; exact HB3.out.alloc HB3.out.size _)
        rw [hw4, hgb]
        clear hw4 hgb
        go_loopw [9] (fun v9 wr => v9 = .bool false ∧ wr = w4) (fun _ _ => 0)
        case atStart => exact ⟨rfl, rfl⟩
        case round =>
          obtain ⟨rfl, rfl⟩ := hrel
          go_wp2_with (first | (refine wpList_load_row rfl 26 (.tmp 5) rfl ga rfl 26 (chC ca).toArray (0, 0) _ H4a.out Try.underlying26 rfl (ch_info ca cah) ?_) | (refine wpList_load_row rfl 26 (.tmp 7) rfl gb rfl 26 (chC cb).toArray (0, 0) _ H4.out Try.underlying26 rfl (ch_info cb cbh) ?_) | (refine wpList_eq_chunk (by rfl) (.tmp 60) (.tmp 61) rfl ca cb rfl rfl cah cbh false HQ.out ?_))
          refine (known_any _).mono ?_
          rintro e w9 ⟨rfl, hb9⟩
          go_wp2_with fail
          go_ret
          exact ⟨rfl, HB4.out.trans (hb9.mono HB4.out.size)⟩
    · subst hea
      have e1 : (eb != 0) = true := by simp [heb]
      clear HC HL heb
      go_wp2_with (refine wpList_store_row rfl 26 (.tmp 7) (.tmp 28) rfl w3.heap.size (chC cb).toArray rfl rfl 26 (chC []).toArray (heap_alloc_new w3 _) (ch_info cb cbh) (ch_size cb cbh) (all_one cb) ?_; rw [alloc_setRow])
      refine (known_any _).mono ?_
      rintro e w9 ⟨rfl, hb9⟩
      go_wp2_with fail
      go_ret
      exact ⟨rfl, (HB3.out.alloc HB3.out.size _).trans (hb9.mono (by have := HB3.out.size; simp; omega))⟩
  · have e1 : (ea != 0) = true := by simp [hea]
    clear HC HL hea
    go_wp2_with (refine wpList_store_row rfl 26 (.tmp 7) (.tmp 28) rfl w3.heap.size (chC cb).toArray rfl rfl 26 (chC []).toArray (heap_alloc_new w3 _) (ch_info cb cbh) (ch_size cb cbh) (all_one cb) ?_; rw [alloc_setRow])
    refine (known_any _).mono ?_
    rintro e w9 ⟨rfl, hb9⟩
    go_wp2_with fail
    go_ret
    exact ⟨rfl, (HB3.out.alloc HB3.out.size _).trans (hb9.mono (by have := HB3.out.size; simp; omega))⟩

theorem chunkSame_law (A A2 : Option Addr) (n n2 c c2 : Nat) (l m : List Int) (w : World) (hs : Sees w w.heap.size 1 A n (l.map r32)) (hs2 : Sees w w.heap.size 1 A2 n2 (m.map r32)) (hn : (n : Int) ≤ 9223372036854775807) (hn2 : (n2 : Int) ≤ 9223372036854775807) :
    Calls Try.prog 3 #[.slice A n c, .slice A2 n2 c2] w fun e w' => e = .returned (.bool true) ∧ Below w.heap.size w w' := by
  by_cases h : 1000 < n ∨ 1000 < n2
  · exact same_out A A2 n n2 c c2 w h hn hn2
  · exact chunkSame_any A A2 n n2 c c2 l m w hs hs2 (by omega) (by omega)

end Go.Proofs.Ytcdpbkhlkgefdaa
