/-
  The marks that loops over functions leave, as one of a law's own things; two blocks as one thing; a region that draws its order inside a round of such a loop: the held walk serves there too. No function of the program stands here.
-/
import Derived.Test.YtbioomilnjikpaaStar
import Derived.Test.YtbioomilnjikpaaRound
import Derived.Test.YtbioomilnjikpaaHeld
import Derived.OrdersIn
import Derived.RangeFuncCalls
namespace Go.Proofs.Ytbioomilnjikpaa
open Go.RowKit

/-- The marks of the loops that are over. -/
def markI (ds : List Deferred) : Item := ⟨fun k => ∃ d ∈ ds, d.target = .collected k, fun w => Marks 0 w ds,
  fun w w' G h hs hG => ⟨h.1, fun d hd => by
    obtain ⟨r, hr, hb, hh⟩ := h.2 d hd
    exact ⟨r, hr, hb, (hs.block r (Array.getElem?_eq_some_iff.1 hh).1 (hG r ⟨d, hd, hr⟩)).trans hh⟩⟩,
  fun w h k hk => by
    obtain ⟨d, hd, e⟩ := hk
    obtain ⟨r, hr, _, hh⟩ := h.2 d hd
    rw [e] at hr
    injection hr with hr
    subst hr
    exact (Array.getElem?_eq_some_iff.1 hh).1⟩
theorem markI.nil_ (w : World) : (markI []).P w := Marks.nil_ 0 w

theorem Star.mark {w0 w : World} {D : Nat} {ds : List Deferred} {L : List Item} (h : Star w0 (boxI D (.deferred (some [])) :: markI ds :: L) w) : Star w0 (markI ({ target := .collected D, args := #[] } :: ds) :: L) w := by
  have hD : w.heap[D]? = some (.deferred (some [])) := h.all (boxI D _) (by simp)
  have hm : Marks 0 w ds := h.all (markI ds) (by simp)
  refine ⟨fun J hJ => ?_, ⟨fun J hJ k hk hj => ?_, h.apart.2.2⟩, fun J hJ k hk => ?_, h.below⟩
  · rcases List.mem_cons.1 hJ with e | e
    · subst e
      refine ⟨?_, fun d hd => ?_⟩
      · rw [List.map_cons, List.nodup_cons]
        refine ⟨fun hin => ?_, hm.1⟩
        obtain ⟨d, hd, e⟩ := List.mem_map.1 hin
        exact h.apart.1 (markI ds) (by simp) D rfl ⟨d, hd, e⟩
      · rcases List.mem_cons.1 hd with e | e
        · subst e; exact ⟨D, rfl, Nat.zero_le _, hD⟩
        · exact hm.2 d e
    · exact h.all J (by simp [e])
  · obtain ⟨d, hd, e⟩ := hk
    rcases List.mem_cons.1 hd with q | q
    · subst q; injection e with e; subst e; exact h.apart.1 J (by simp [hJ]) D rfl hj
    · exact h.apart.2.1 J hJ k ⟨d, q, e⟩ hj
  · rcases List.mem_cons.1 hJ with e | e
    · subst e
      obtain ⟨d, hd, e⟩ := hk
      rcases List.mem_cons.1 hd with q | q
      · subst q; injection e with e; subst e; exact h.low (boxI D (.deferred (some []))) (by simp) D rfl
      · exact h.low (markI ds) (by simp) k ⟨d, q, e⟩
    · exact h.low J (by simp [e]) k hk
theorem Star.marks {w0 w : World} {ds : List Deferred} {A B : List Item} (h : Star w0 (A ++ markI ds :: B) w) : Marks w0.heap.size w ds := by
  have hm : Marks 0 w ds := h.all (markI ds) (by simp)
  refine ⟨hm.1, fun d hd => ?_⟩
  obtain ⟨r, hr, _, hh⟩ := hm.2 d hd
  exact ⟨r, hr, h.low (markI ds) (by simp) r ⟨d, hd, hr⟩, hh⟩

/-- Two blocks as one thing. -/
def pairI (b c : Nat) (o p : Obj) : Item := ⟨fun k => k = b ∨ k = c, fun w => w.heap[b]? = some o ∧ w.heap[c]? = some p,
  fun w w' G h hs hG => ⟨(hs.block b (Array.getElem?_eq_some_iff.1 h.1).1 (hG b (.inl rfl))).trans h.1, (hs.block c (Array.getElem?_eq_some_iff.1 h.2).1 (hG c (.inr rfl))).trans h.2⟩,
  fun w h k hk => by
    rcases hk with e | e
    · rw [e]; exact (Array.getElem?_eq_some_iff.1 h.1).1
    · rw [e]; exact (Array.getElem?_eq_some_iff.1 h.2).1⟩

theorem rows_inRound {l n : Nat} {P : Program} {row : String} {args : Array Value} {w : World} {R : Value → World → Prop} (h : Rows P row args w R) : RowsIn (Fence.wide.inRound l) n P row args w R :=
  fun c cs _ => let ⟨v, w', r, s⟩ := h c cs; ⟨v, w', r, stepsIn_wide.2 s⟩

theorem uponIn_of {l n : Nat} {P : Program} {o : Oper} {a : Act} {K : Act → World → Prop} {Q : Exit → Act → World → Prop} (r : Result Next) (h : o.upon P a K Q r) : o.uponIn (Fence.wide.inRound l) n P a K Q r := by
  cases r with
  | ok x w' =>
    cases x <;> simp only [Oper.upon, Oper.uponIn] at h ⊢ <;>
      first
        | exact h
        | exact ⟨fun e => (by cases e), CallsIn.inRound l (callsIn_wide.2 h)⟩
        | exact ⟨fun e => (by cases e), rows_inRound h⟩
        | exact h.elim
  | halt x w' => cases x <;> simp only [Oper.upon, Oper.uponIn] at h ⊢ <;> exact h

/-- An operation that defers nothing. -/
def noDefer (o : Oper) : Bool := match o.op with | .defer _ => false | _ => true

theorem wpIn_of_oper {l n : Nat} {P : Program} {o : Oper} {a : Act} {w : World} {K : Act → World → Prop} {Q : Exit → Act → World → Prop} (hd : noDefer o = true) (h : o.wp P a w K Q) : o.wpIn (Fence.wide.inRound l) n P a w K Q := by
  refine ⟨fun _ _ => trivial, ?_⟩
  rw [Oper.semAt_eq _ _ _ (fun c e => by unfold noDefer at hd; rw [e] at hd; cases hd)]
  exact uponIn_of _ h

theorem wpAnyIn_of_H {l n : Nat} {P : Program} {md : Region.Mode} {ops : Array Oper} {Q : Exit → Act → World → Prop} {S : World → Prop} (hd : ops.all noDefer = true) (hQ : ∀ a w, Q .outgrown a w → False) :
    ∀ (fuel : Nat) (listed : Array Bool) (a : Act) (w : World), wpAnyH P md ops Q S fuel listed a w → wpAnyIn (Fence.wide.inRound l) n P md ops Q fuel listed a w
  | 0, _, _, _, h => h
  | fuel + 1, listed, a, w, h => ⟨h.1, fun i hi => by
      have h2 := h.2 i hi
      unfold wpOp at h2
      unfold wpOpIn
      cases ho : ops[i]? with
      | none =>
        rw [ho] at h2
        exact wpAnyIn_of_H hd hQ fuel _ a w h2.2
      | some o =>
        rw [ho] at h2
        dsimp only at h2 ⊢
        have hod : noDefer o = true := by
          obtain ⟨hlt, e⟩ := Array.getElem?_eq_some_iff.1 ho
          rw [← e]
          exact (Array.all_eq_true.1 hd) i hlt
        split
        · next hw =>
          rw [if_pos hw] at h2
          rcases h2 with q | ⟨-, a', w', q⟩
          · exact wpIn_of_oper hod (Oper.wp_mono (fun a w hh => wpAnyIn_of_H hd hQ fuel _ a w hh.2) q)
          · exact (hQ _ _ q).elim
        · next hw =>
          rw [if_neg hw] at h2
          exact ⟨fun _ _ => trivial, wpAnyIn_of_H hd hQ fuel _ _ w h2.2⟩⟩

theorem wpIn_region_held_drew {l n id : Nat} {P : Program} {ops : Array Oper} {Q : Exit → Act → World → Prop} {S : World → Prop} {a : Act} {w : World} (hm : P.follows .mixedOrders = true) (hd : ops.all noDefer = true) (hQ : ∀ a w, Q .outgrown a w → False) (hS : S w.drew)
    (h : S w.drew → wpAnyH P .any ops Q S ops.size (Array.replicate ops.size false) a w.drew) : (Code.region id ops true).wpIn (Fence.wide.inRound l) n P Q a w :=
  wpIn_region_any hm (wpAnyIn_of_H hd hQ _ _ _ _ (h hS))

end Go.Proofs.Ytbioomilnjikpaa
