/-
  What Splice asks of its spans: Splice$1, slices.IndexFunc, slices.ContainsFunc.
-/
import Derived.Test.YtbioomilnjikpaaSpAa
namespace Go.Proofs.Ytbioomilnjikpaa
open Go.RowKit

/-- A span that may not be. -/
def badX (x : Th) : Bool := decide (x.n < 0) || decide (x.id < 0)
def badL (l : List Th) : Bool := l.any badX

set_option maxHeartbeats 1000000 in
theorem badX_any (x : Th) (w : World) : Calls Try.prog 23 #[thV x] w fun e w' => e = .returned (.bool (badX x)) ∧ Below w.heap.size w w' := by
  unfold thV
  obtain ⟨n, id⟩ := x
  dsimp only
  by_cases h1 : n < 0
  · have HE := Lib.hid (show badX ⟨n, id⟩ = true by simp [badX, h1])
    go_enter Try.func23, Try.ntmps23
    go_wp2
    go_ret
    exact ⟨by rw [HE.out]; rfl, (Below.refl _ _).alloc (Nat.le_refl _) _⟩
  · by_cases h2 : id < 0
    · have HE := Lib.hid (show badX ⟨n, id⟩ = true by simp [badX, h2])
      go_enter Try.func23, Try.ntmps23
      go_wp2
      go_ret
      exact ⟨by rw [HE.out]; rfl, (Below.refl _ _).alloc (Nat.le_refl _) _⟩
    · have HE := Lib.hid (show badX ⟨n, id⟩ = false by simp [badX]; omega)
      go_enter Try.func23, Try.ntmps23
      go_wp2
      go_ret
      exact ⟨by rw [HE.out]; rfl, (Below.refl _ _).alloc (Nat.le_refl _) _⟩

/-- The place of the first one that may not be. -/
def IndexR (w : World) (l : List Th) (e : Ending) (w' : World) : Prop := ∃ r : Int, e = .returned (.int .i64 r) ∧ (decide (0 ≤ r) = badL l) ∧ Below w.heap.size w w'

set_option maxRecDepth 100000 in
set_option maxHeartbeats 1000000 in
theorem index_any {w : World} {B c : Nat} {A : Option Addr} {l : List Th} (hl : Sees w B 2 A l.length (rowT l)) (hB : B ≤ w.heap.size) (hc : l.length ≤ c) (hn : l.length ≤ 1000000) :
    Calls Try.prog 35 #[.slice A l.length c, .func (.func 23) #[] #[]] w fun e w' => IndexR w l e w' := by
  have HL := Lib.hid (fun (w1 : World) (hb : Below w.heap.size w w1) => hl.below hb hB)
  obtain ⟨nl, hnl⟩ : ∃ n, l.length = n := ⟨_, rfl⟩
  have HN := Lib.hid hnl
  rw [hnl] at HL hc hn ⊢
  have h0 : (nl : Int) ≤ 1000000 := by omega
  clear hl hnl
  go_enter Try.func35, Try.ntmps35
  go_wp2_with fail
  go_loopw [8] (fun v8 wr => ∃ k : Nat, k ≤ nl ∧ v8 = .int .i64 k ∧ (∀ x ∈ l.take k, badX x = false) ∧ Below w.heap.size w wr) (fun v8 _ => nl - (intOf v8).toNat)
  case atStart => exact ⟨0, Nat.zero_le _, rfl, (fun _ h => nomatch h), Below.refl _ _⟩
  case round =>
    obtain ⟨k, hk, rfl, hno, hb⟩ := hrel
    by_cases hlt : k < nl
    · have hkI : (k : Int) < nl := by omega
      obtain ⟨x, hx⟩ : ∃ x, l[k]? = some x := ⟨_, List.getElem?_eq_getElem (by rw [HN.out]; exact hlt)⟩
      obtain ⟨-, b, o, rfl, hbB, hr⟩ := (HL.out wr hb).thing hx
      have HX := Lib.hid (And.intro hx hno)
      have HRx := Lib.hid hr
      have HBX := Lib.hid (badX_any x wr)
      have HK := Lib.hid hb
      clear hx hr hno hb
      go_wp2_with (refine wpList_load_mid rfl 34 (.tmp 14) rfl b (o + k * 2) rfl (encT x) _ HRx.out Try.underlying34 rfl (thing_info x) ?_)
      refine HBX.out.mono ?_
      rintro e w1 ⟨rfl, hb1⟩
      have HK1 := Lib.hid (HK.out.trans (hb1.mono HK.out.size))
      clear hb1 HBX
      cases hbx : badX x with
      | true =>
        have HR := Lib.hid (show badL l = true from by unfold badL; rw [List.any_eq_true]; exact ⟨x, List.mem_of_getElem? HX.out.1, hbx⟩)
        clear hbx
        go_wp2_with fail
        go_ret
        exact ⟨(k : Int), rfl, by rw [HR.out]; simp, HK1.out⟩
      | false =>
        have HR := Lib.hid (show ∀ y ∈ l.take (k + 1), badX y = false from fun y hy => by
          rw [List.take_add_one, HX.out.1] at hy
          rcases List.mem_append.1 hy with e | e
          · exact HX.out.2 y e
          · have e : y = x := by simpa using e
            rw [e]; exact hbx)
        clear hbx
        go_wp2_with fail
        go_roundw
        case rel => exact ⟨k + 1, by omega, by go_num, HR.out, HK1.out⟩
        case measure => simp [intOf]; omega
    · obtain rfl : k = nl := by omega
      have HR := Lib.hid (show badL l = false from by
        unfold badL
        rw [List.any_eq_false]
        intro x hx
        have h1 := hno x (by rw [List.take_of_length_le (by rw [HN.out]; exact Nat.le_refl _)]; exact hx)
        rw [h1]
        decide)
      have HK := Lib.hid hb
      clear hno hb
      go_wp2_with fail
      go_ret
      exact ⟨-1, rfl, by rw [HR.out]; rfl, HK.out⟩

set_option maxHeartbeats 1000000 in
theorem contains_any {w : World} {B c : Nat} {A : Option Addr} {l : List Th} (hl : Sees w B 2 A l.length (rowT l)) (hB : B ≤ w.heap.size) (hc : l.length ≤ c) (hn : l.length ≤ 1000000) :
    Calls Try.prog 22 #[.slice A l.length c, .func (.func 23) #[] #[]] w fun e w' => e = .returned (.bool (badL l)) ∧ Below w.heap.size w w' := by
  have HI := Lib.hid (index_any hl hB hc hn)
  clear hl hc hn
  go_enter Try.func22, Try.ntmps22
  go_wp2_with fail
  refine HI.out.mono ?_
  rintro e w1 ⟨r, rfl, hr, hb⟩
  have HR := Lib.hid (And.intro hr hb)
  clear hr hb
  go_wp2_with fail
  go_ret
  exact ⟨by rw [← HR.out.1]; rfl, HR.out.2⟩

end Go.Proofs.Ytbioomilnjikpaa
