/-
  The walk of rubriclaw08.known: it answers true, and writes to memory of its own alone.
-/
import Derived.Test.YteelmlhknfbjdaaArenaG
namespace Go.Proofs.Yteelmlhknfbjdaa
open Go.RowKit

set_option maxRecDepth 100000 in
set_option maxHeartbeats 2000000 in
theorem known_any (w : World) : Calls Try.prog 7 #[] w fun e w' => e = .returned (.bool true) ∧ Below w.heap.size w w' := by
  go_enter Try.func7, Try.ntmps7
  go_wp2_with fail
  refine (newS_F _).mono ?_
  rintro e w1 ⟨F1, g, rfl, h1, hb1, hl1⟩
  have ok1 := Lib.hid (ArOk.nil_ (α := ByteArray))
  have k1 : Keeps w.heap.size w w1 F1 := ⟨Nat.le_refl _, hb1, hl1⟩
  clear hb1 hl1
  go_wp2_with fail
  refine (takeS_to h1 ok1.out (by decide) _ 0 [some ⟨#[97]⟩] [] rfl rfl rfl k1).mono ?_
  rintro e w2 ⟨F2, rfl, h2, ok2, k2⟩
  clear h1 ok1 k1
  go_wp2_with fail
  refine (takeS_to h2 ok2 (by decide) _ 1 [some ⟨#[97]⟩, some ⟨#[98]⟩] [] rfl rfl rfl k2).mono ?_
  rintro e w3 ⟨F3, rfl, h3, ok3, k3⟩
  clear h2 ok2 k2
  go_wp2_with fail
  refine (takeS_to h3 ok3 (by decide) _ 2 [some ⟨#[97]⟩, some ⟨#[98]⟩, some ⟨#[99]⟩] [] rfl rfl rfl k3).mono ?_
  rintro e w4 ⟨F4, rfl, h4, ok4, k4⟩
  clear h3 ok3 k3
  go_wp2_with fail
  refine (freeS_to h4 ok4 (by decide) 0 0 ⟨#[97]⟩ rfl rfl [none, some ⟨#[98]⟩, some ⟨#[99]⟩] rfl k4).mono ?_
  rintro e w5 ⟨F5, rfl, h5, ok5, k5⟩
  clear h4 ok4 k4
  go_wp2_with fail
  refine (freeS_to h5 ok5 (by decide) 2 2 ⟨#[99]⟩ rfl rfl [none, some ⟨#[98]⟩, none] rfl k5).mono ?_
  rintro e w6 ⟨F6, rfl, h6, ok6, k6⟩
  clear h5 ok5 k5
  go_wp2_with fail
  refine (takeS_to h6 ok6 (by decide) _ 2 [none, some ⟨#[98]⟩, some ⟨#[100]⟩] [0] rfl rfl rfl k6).mono ?_
  rintro e w7 ⟨F7, rfl, h7, ok7, k7⟩
  clear h6 ok6 k6
  go_wp2_with fail
  refine (takeS_to h7 ok7 (by decide) _ 0 [some ⟨#[101]⟩, some ⟨#[98]⟩, some ⟨#[100]⟩] [] rfl rfl rfl k7).mono ?_
  rintro e w8 ⟨F8, rfl, h8, ok8, k8⟩
  clear h7 ok7 k7
  go_wp2_with fail
  refine (takeS_to h8 ok8 (by decide) _ 3 [some ⟨#[101]⟩, some ⟨#[98]⟩, some ⟨#[100]⟩, some ⟨#[102]⟩] [] rfl rfl rfl k8).mono ?_
  rintro e w9 ⟨F9, rfl, h9, ok9, k9⟩
  clear h8 ok8 k8
  have H1 := Lib.hid (atS_F (k := 2) (x := ⟨#[100]⟩) h9 (by decide) rfl)
  have H2 := Lib.hid (atS_Fno (i := 5) h9 (by decide) rfl)
  have H3 := Lib.hid (freeS_Fno (i := 9) h9 (by decide) rfl)
  have H4 := Lib.hid (lenS_F h9 ok9 (by decide))
  go_wp2_with fail
  refine H1.out.mono ?_
  rintro e w' ⟨rfl, rfl⟩
  go_wp2_with fail
  refine H2.out.mono ?_
  rintro e w' ⟨rfl, rfl⟩
  go_wp2_with fail
  refine H3.out.mono ?_
  rintro e w' ⟨rfl, rfl⟩
  go_wp2_with fail
  refine H4.out.mono ?_
  rintro e w' ⟨rfl, n, rfl⟩
  have H5 := Lib.hid (capS_F (h9.drewN n))
  go_wp2_with fail
  refine H5.out.mono ?_
  rintro e w' ⟨rfl, rfl⟩
  go_wp2_with fail
  go_ret
  exact ⟨rfl, below_drewN k9.below n⟩
end Go.Proofs.Yteelmlhknfbjdaa
