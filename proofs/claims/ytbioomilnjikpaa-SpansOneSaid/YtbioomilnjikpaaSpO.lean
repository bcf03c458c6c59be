/-
  avl.Tree: drop, pick.
-/
import Derived.Test.YtbioomilnjikpaaSpN
namespace Go.Proofs.Ytbioomilnjikpaa
open Go.RowKit

/-- What 'drop' leaves: the nodes are free; all else stays. -/
def PostD (w : World) (F : Nat → Prop) (gT gA : Nat) (root : Int) (s : List (Option Nd)) (L : List (Nat × Th)) (w' : World) : Prop :=
  ∃ (F' : Nat → Prop) (s' : List (Option Nd)) (fr' : List Nat), TreeW w' F' gT gA root s' fr' ∧ (∀ j, j ∈ ids L → gt s' j = none) ∧ (∀ j, j ∉ ids L → gt s' j = gt s j) ∧ s'.length = s.length ∧ Grow F w w' F'

set_option maxHeartbeats 2000000 in
theorem drop_step {w : World} {F : Nat → Prop} {gT gA : Nat} {root : Int} {s : List (Option Nd)} {fr : List Nat} (h : TreeW w F gT gA root s fr) {k : Nat} {u : Th} {A B : Tr} (hT : Holds s (.nd k u A B)) (ho : OkL (Tr.nd k u A B).nodes)
    (ih1 : ∀ (w : World) (F : Nat → Prop) (s : List (Option Nd)) (fr : List Nat), TreeW w F gT gA root s fr → Holds s A → OkL A.nodes → Calls Try.prog 41 #[.pointer (some ⟨gT, 0, none⟩), .int .i64 A.rt] w fun e w' => (∃ v, e = .returned v) ∧ PostD w F gT gA root s A.nodes w')
    (ih2 : ∀ (w : World) (F : Nat → Prop) (s : List (Option Nd)) (fr : List Nat), TreeW w F gT gA root s fr → Holds s B → OkL B.nodes → Calls Try.prog 41 #[.pointer (some ⟨gT, 0, none⟩), .int .i64 B.rt] w fun e w' => (∃ v, e = .returned v) ∧ PostD w F gT gA root s B.nodes w') :
    Calls Try.prog 41 #[.pointer (some ⟨gT, 0, none⟩), .int .i64 k] w fun e w' => (∃ v, e = .returned v) ∧ PostD w F gT gA root s (Tr.nd k u A B).nodes w' := by
  have HAt := Lib.hid (at_any h hT.1)
  obtain ⟨n, hn⟩ : ∃ x, topN u A B = x := ⟨_, rfl⟩
  have hnl : n.l = A.rt := by rw [← hn]; rfl
  have hnr : n.r = B.rt := by rw [← hn]; rfl
  rw [hn] at HAt
  unfold Nd.V at HAt
  have HW := Lib.hid (fun (w1 : World) (hb : Below w.heap.size w w1) => h.below hb)
  have HT := Lib.hid hT
  have HO := Lib.hid ho
  have HFL := Lib.hid h.ar.lt
  have hk1 : ((k : Int) == -1) = false := by simp
  clear h hT ho hn
  go_enter Try.func41, Try.ntmps41
  go_wp2_with fail
  refine HAt.out.mono ?_
  rintro e w1 ⟨rfl, hb1⟩
  obtain ⟨b, hb⟩ : ∃ b, w1.heap.size = b := ⟨_, rfl⟩
  obtain ⟨w2, hw2⟩ : ∃ v, w1.alloc (.cells n.C.toArray 80) = v := ⟨_, rfl⟩
  have N2 := Lib.hid (show NdAt w2 b n by rw [← hw2, ← hb]; exact NdAt.new w1 n)
  have K2 := Lib.hid (show Below w.heap.size w w2 by rw [← hw2]; exact hb1.alloc hb1.size _)
  have HE := Lib.hid (And.intro hw2 hb)
  have HBL := Lib.hid (show w.heap.size ≤ b by have := hb1.size; omega)
  have hc := N2.out.cL
  rw [hnl] at hc
  have HI1 := Lib.hid (ih1 w2 F s fr (HW.out w2 K2.out) HT.out.2.1 HO.out.left)
  clear hb1 hw2 hb HAt ih1
  go_wp2_with (refine wpList_store_row rfl 80 (.tmp 4) (.tmp 9) rfl w1.heap.size n.C.toArray rfl rfl 80 _ (heap_alloc_new w1 _) (nd_info n) (by simp [Nd.C_len]) (all_oneCell_toArray n.C_one) ?_; rw [alloc_setRow, HE.out.1, HE.out.2])
  clear hc
  refine HI1.out.mono ?_
  rintro e w3 ⟨⟨v3, rfl⟩, F3, s3, fr3, hT3, hn3, hk3, hl3, hg3⟩
  have hbF : ¬ F b := fun hF => by have := HFL.out _ hF; have := HBL.out; omega
  have hbF3 : ¬ F3 b := fun hF => by
    rcases hg3.new b hF with e | e
    · exact hbF e
    · have := N2.out.lt; omega
  have N3 := N2.out.step hg3.step hbF
  have hc := N3.cR
  rw [hnr] at hc
  have ha := HO.out.apart
  have HI2 := Lib.hid (ih2 w3 F3 s3 fr3 hT3 (HT.out.2.2.keep fun z hz => hk3 z (fun e => ha z e (by rw [ids, List.map_cons]; exact List.mem_cons.2 (.inr hz)))) HO.out.right.tail)
  have HG3 := Lib.hid ((Grow.of_below K2.out).trans hg3)
  have H3 := Lib.hid (And.intro hn3 (And.intro hk3 hl3))
  clear ih2 hT3 hn3 hk3 hl3 hg3 N3 hbF hbF3 HI1
  go_wp2_with fail
  clear hc
  refine HI2.out.mono ?_
  rintro e w4 ⟨⟨v4, rfl⟩, F4, s4, fr4, hT4, hn4, hk4, hl4, hg4⟩
  have hkB : k ∉ ids B.nodes := by have hn := HO.out.right.nodup; rw [ids, List.map_cons, List.nodup_cons] at hn; exact hn.1
  have hkA : k ∉ ids A.nodes := fun e => ha k e (by simp [ids])
  have hk4' : gt s4 k = some (topN u A B) := (hk4 k hkB).trans ((H3.out.2.1 k hkA).trans HT.out.1)
  have hcN := hT4.cN
  have HT4 := Lib.hid hT4
  have HFr := Lib.hid (freeN_yes hT4.ar (by have := hT4.len; omega) (by have h1 := hT4.ok.len; have := hT4.len; omega) (gt_some.1 hk4'))
  have HOK := Lib.hid (hT4.ok.free (gt_some.1 hk4'))
  have H4 := Lib.hid (And.intro hn4 (And.intro hk4 (And.intro hl4 (And.intro (HG3.out.trans hg4) (gt_lt hk4')))))
  have HKK := Lib.hid (And.intro hkA hkB)
  clear hT4 hn4 hk4 hl4 hg4 hk4' hkA hkB ha HI2
  go_wp2_with fail
  refine HFr.out.mono ?_
  rintro e w5 ⟨F5, rfl, ha5, hg5⟩
  have HD := Lib.hid (show PostD w F gT gA root s (Tr.nd k u A B).nodes w5 from by
    have hkl := H4.out.2.2.2.2
    refine ⟨F5, s4.set k none, fr4 ++ [k], HT4.out.arena ha5 HOK.out hg5 (by rw [List.length_set]; exact HT4.out.len), fun j hj => ?_, fun j hj => ?_, by rw [List.length_set]; exact H4.out.2.2.1.trans H3.out.2.2, H4.out.2.2.2.1.trans hg5⟩
    · by_cases hjk : j = k
      · subst hjk; exact gt_set_self hkl _
      · rw [gt_set_other hkl _ hjk]
        by_cases hjB : j ∈ ids B.nodes
        · exact H4.out.1 j hjB
        · rw [H4.out.2.1 j hjB]
          refine H3.out.1 j ?_
          rw [Tr.nodes, ids_append] at hj
          rcases List.mem_append.1 hj with e | e
          · exact e
          · rw [ids, List.map_cons] at e
            rcases List.mem_cons.1 e with e | e
            · exact absurd e hjk
            · exact absurd e hjB
    · have h1 : j ∉ ids A.nodes := fun e => hj (by rw [Tr.nodes, ids_append]; exact List.mem_append.2 (.inl e))
      have h2 : j ∉ ids B.nodes := fun e => hj (by rw [Tr.nodes, ids_append]; exact List.mem_append.2 (.inr (List.mem_cons.2 (.inr e))))
      rw [gt_set_other hkl _ (fun e => hj (by rw [e]; simp [Tr.nodes, ids])), H4.out.2.1 j h2, H3.out.2.1 j h1])
  clear ha5 hg5
  go_wp2_with fail
  go_end0
  exact ⟨⟨_, rfl⟩, HD.out⟩

set_option maxHeartbeats 400000 in
theorem drop_nil {w : World} {F : Nat → Prop} {gT gA : Nat} {root : Int} {s : List (Option Nd)} {fr : List Nat} (h : TreeW w F gT gA root s fr) :
    Calls Try.prog 41 #[.pointer (some ⟨gT, 0, none⟩), .int .i64 (-1)] w fun e w' => (∃ v, e = .returned v) ∧ PostD w F gT gA root s [] w' := by
  have HP := Lib.hid (show PostD w F gT gA root s [] w from ⟨F, s, fr, h, fun j hj => by simp [ids] at hj, fun _ _ => rfl, rfl, Grow.refl _ _⟩)
  clear h
  go_enter Try.func41, Try.ntmps41
  go_wp2_with fail
  exact bodyPost_ret (results_none rfl _ _ _) rfl ⟨⟨_, rfl⟩, HP.out⟩

theorem drop_any {gT gA : Nat} {root : Int} : ∀ (T : Tr) (w : World) (F : Nat → Prop) (s : List (Option Nd)) (fr : List Nat), TreeW w F gT gA root s fr → Holds s T → OkL T.nodes →
    Calls Try.prog 41 #[.pointer (some ⟨gT, 0, none⟩), .int .i64 T.rt] w fun e w' => (∃ v, e = .returned v) ∧ PostD w F gT gA root s T.nodes w'
  | .nil, _, _, _, _, h, _, _ => drop_nil h
  | .nd _ _ A B, _, _, _, _, h, hT, ho => drop_step h hT ho (fun w F s fr => drop_any A w F s fr) (fun w F s fr => drop_any B w F s fr)

end Go.Proofs.Ytbioomilnjikpaa
