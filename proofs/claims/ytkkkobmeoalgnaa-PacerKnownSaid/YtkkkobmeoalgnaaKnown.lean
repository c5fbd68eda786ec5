/- The document's examples. -/
import Derived.Test.YtkkkobmeoalgnaaWorks
namespace Go.Proofs.Ytkkkobmeoalgnaa
set_option linter.unusedVariables false
set_option linter.unusedSimpArgs false
open Go.RowKit
set_option maxHeartbeats 4000000 in
theorem known_c (w : World) : Calls Try.prog 6 #[] w fun e w' => e = .returned (.bool true) ∧ Below w.heap.size w w' := by
  go_enter Try.func6, Try.ntmps6
  go_wp2_with (fail)
  refine (new_yes 1000 2000 w (by omega) (by omega) (by omega) (by omega)).mono ?_
  rintro e w1 ⟨B, rfl, a1, -, b1⟩
  go_wp2_with (fail)
  refine (works_c _).mono ?_
  rintro e w2 ⟨rfl, b2⟩
  go_wp2_with (fail)
  have A2 := a1.below b2
  refine (next_long w2 B 1000 2000 0 _ 0 2001 A2 (by omega)).mono ?_
  rintro e w3 ⟨rfl, b3⟩
  go_wp2_with (fail)
  refine (new_no 0 2000 w3 (by omega)).mono ?_
  rintro e w4 ⟨rfl, b4⟩
  go_wp2_with (fail)
  refine (new_no 1 1199 w4 (by omega)).mono ?_
  rintro e w5 ⟨rfl, b5⟩
  go_wp2_with (fail)
  refine (new_no 1073741825 2000 w5 (by omega)).mono ?_
  rintro e w6 ⟨rfl, b6⟩
  go_wp2_with (fail)
  refine (next_nil w6 0 1).mono ?_
  rintro e w7 ⟨rfl, b7⟩
  go_wp2_with (fail)
  have A7 := ((((A2.below b3).below b4).below b5).below b6).below b7
  refine (rate_bad w7 B 0 0 (by omega)).mono ?_
  rintro e w8 ⟨rfl, b8⟩
  go_wp2_with (fail)
  refine (rate_nil w8 0 1).mono ?_
  rintro e w9 ⟨rfl, b9⟩
  go_wp2_with (fail)
  refine (go_nil w9 0 none 0 0).mono ?_
  rintro e w10 ⟨rfl, b10⟩
  go_wp2_with (fail)
  refine (may_nil w10 0 0).mono ?_
  rintro e w11 ⟨rfl, b11⟩
  go_wp2_with (fail)
  refine (level_nil w11 0).mono ?_
  rintro e w12 ⟨rfl, b12⟩
  go_wp2_with (fail)
  go_ret
  exact ⟨rfl, nextB (nextB (nextB (nextB (nextB (nextB (nextB (nextB (nextB (nextB (nextB b1 b2) b3) b4) b5) b6) b7) b8) b9) b10) b11) b12⟩
end Go.Proofs.Ytkkkobmeoalgnaa
