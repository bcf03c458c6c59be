/-
  avl.Tree: pick.
-/
import Derived.Test.YtbioomilnjikpaaSpO
import Derived.Deep.DeepCutAuto
import Derived.Deep.CutRange
namespace Go.Proofs.Ytbioomilnjikpaa
open Go.RowKit

theorem thing_info2 (x : Th) : (Try.prog.info? 34).map (·.size) = some (#[.int .i64 x.n, .int .i64 x.id] : Array Value).size := thing_info x

set_option maxHeartbeats 2000000 in
theorem run_thing (x : Th) (l0 r0 h0 z0 m0 : Int) (w : World) : (Instr.field 80 (.agg #[.int .i64 x.n, .int .i64 x.id, .int .i64 l0, .int .i64 r0, .int .i64 h0, .int .i64 z0, .int .i64 m0]) 0).run Try.prog w = .ok (.agg #[.int .i64 x.n, .int .i64 x.id]) w := by kernel_rfl

set_option maxRecDepth 100000 in
theorem pick_any {w : World} {F : Nat → Prop} {gT gA : Nat} {root : Int} {s : List (Option Nd)} {fr : List Nat} (h : TreeW w F gT gA root s fr) {k : Nat} {x : Th} {l0 r0 h0 z0 m0 : Int} (hk : gt s k = some (mkN x l0 r0 h0 z0 m0)) :
    Calls Try.prog 43 #[.pointer (some ⟨gT, 0, none⟩), .int .i64 k] w fun e w' => e = .returned (thV x) ∧ ∃ F', TreeW w' F' gT gA root (s.set k none) (fr ++ [k]) ∧ Grow F w w' F' := by
  have HAt := Lib.hid (fun o => at_any (h.below ((Below.refl w.heap.size w).alloc (Nat.le_refl _) o)) hk)
  have HAt : RowKit.Hid (∀ o, Calls Try.prog 52 #[.pointer (some ⟨gT, 0, none⟩), .int .i64 k] (w.alloc o) fun e w' => e = .returned (.agg #[.int .i64 x.n, .int .i64 x.id, .int .i64 l0, .int .i64 r0, .int .i64 h0, .int .i64 z0, .int .i64 m0]) ∧ Below (w.alloc o).heap.size (w.alloc o) w') := HAt
  have HW := Lib.hid (fun (w1 : World) (hb : Below w.heap.size w w1) => h.below hb)
  have HL := Lib.hid (And.intro h.len (And.intro h.ok h.ar.lt))
  have HGT := Lib.hid h.lt
  have HK := Lib.hid (gt_some.1 hk)
  clear h hk
  go_enter Try.func43, Try.ntmps43
  go_wp2_with fail
  refine (HAt.out _).mono ?_
  rintro e w1 ⟨rfl, hb1⟩
  obtain ⟨b0, hb0⟩ : ∃ b, w.heap.size = b := ⟨_, rfl⟩
  have H0 := heap_later (heap_alloc_new w _) hb1
  have K1 : Below w.heap.size w w1 := ((Below.refl _ _).alloc (Nat.le_refl _) _).trans (hb1.mono (by simp))
  obtain ⟨b1, hb1'⟩ : ∃ b, w1.heap.size = b := ⟨_, rfl⟩
  obtain ⟨w2, hw2⟩ : ∃ v, w1.alloc (.cells #[.int .i64 x.n, .int .i64 x.id] 34) = v := ⟨_, rfl⟩
  have B2 : Below w1.heap.size w1 w2 := by rw [← hw2]; exact (Below.refl _ _).alloc (Nat.le_refl _) _
  have H1 := Lib.hid (show w2.heap[b1]? = some (.cells #[.int .i64 x.n, .int .i64 x.id] 34) by rw [← hw2, ← hb1']; exact heap_alloc_new w1 _)
  have H02 := Lib.hid (heap_later H0 B2)
  have K2 := Lib.hid (K1.trans (B2.mono K1.size))
  have T2 := Lib.hid (HW.out w2 K2.out)
  have hcN := T2.out.cN
  have HFr := Lib.hid (freeN_yes T2.out.ar (by have := HL.out.1; omega) (by have h1 := HL.out.2.1.len; have := HL.out.1; omega) HK.out)
  have HK5 := Lib.hid K1.size
  have HE := Lib.hid (And.intro hw2 (And.intro hb1' hb0))
  rw [hb0] at H02 ⊢
  clear hb1 H0 K1 hb1' hw2 B2 hb0 HAt
  have hfd := run_thing x l0 r0 h0 z0 m0
  go_upto_region 2 with fail
  rw [HE.out.1, HE.out.2.1]
  clear hfd
  go_wp2_with fail
  clear hcN
  refine HFr.out.mono ?_
  rintro e w3 ⟨F3, rfl, ha3, hg3⟩
  have hb0F : ¬ F b0 := fun hF => by have := HL.out.2.2 _ hF; have := HE.out.2.2; omega
  have hb1F : ¬ F b1 := fun hF => by have h1 := HL.out.2.2 _ hF; have h2 := (Array.getElem?_eq_some_iff.1 H02.out).1; have h3 := HE.out.2.2; have h4 := HE.out.2.1; have h5 := HK5.out; omega
  have H03 := Lib.hid ((hg3.step.block b0 (Array.getElem?_eq_some_iff.1 H02.out).1 hb0F).trans H02.out)
  have H13 := Lib.hid ((hg3.step.block b1 (Array.getElem?_eq_some_iff.1 H1.out).1 hb1F).trans H1.out)
  have HG3 := Lib.hid hg3
  have HT3 := Lib.hid (And.intro (T2.out.arena ha3 (HL.out.2.1.free HK.out) hg3 (by rw [List.length_set]; exact HL.out.1)) ((Grow.of_below K2.out).trans hg3))
  clear ha3 hg3 hb0F hb1F
  go_wp2_with (first
    | (refine wpList_load_row rfl 34 (.tmp 5) rfl b1 rfl 34 #[.int .i64 x.n, .int .i64 x.id] (0, 0) _ H13.out Try.underlying34 rfl (thing_info2 x) ?_)
    | (refine wpList_store_row rfl 34 (.tmp 4) (.tmp 16) rfl b0 #[.int .i64 x.n, .int .i64 x.id] rfl rfl 34 _ H03.out (thing_info2 x) rfl (all_oneCell_toArray (encT_one x)) ?_))

  refine bodyPost_ret (v := thV x) (results_c rfl _ _ b0 _ #[.int .i64 x.n, .int .i64 x.id] (0, 0) _ rfl (setRow_heap _ _ _ _ _ _ H03.out) Try.underlying34 rfl (thing_info2 x)) rfl ⟨rfl, F3, HT3.out.1.step (G := fun z => z = b0) ?_ (fun z hF e => ?_) (fun e => ?_), ?_, HT3.out.2.new⟩
  · exact ⟨rfl, rfl, rfl, by simp [World.setRow], fun z _ hz => setRow_other _ _ _ _ (fun e => hz e)⟩
  · have e : z = b0 := e
    have h1 := HE.out.2.2
    rcases HG3.out.new z hF with h | h
    · have := HL.out.2.2 _ h; omega
    · have := (Array.getElem?_eq_some_iff.1 H02.out).1; omega
  · have e : gT = b0 := e
    have := HGT.out
    have := HE.out.2.2
    omega
  · have hs := HT3.out.2.step
    have h1 := HE.out.2.2
    exact ⟨hs.os, hs.tape, hs.output, by simpa [World.setRow] using hs.size, fun z hz hF => (setRow_other _ _ _ _ (by omega)).trans (hs.block z hz hF)⟩

end Go.Proofs.Ytbioomilnjikpaa
