/- The walk of RenoFalls: no moves; in one word. -/
import Derived.Test.YtebbjmomakobaaaFalls
namespace Go.Proofs.Ytebbjmomakobaaa
set_option linter.unusedVariables false
set_option linter.unusedSimpArgs false
open Go.RowKit
set_option maxRecDepth 100000 in
set_option maxHeartbeats 2000000 in
theorem falls_0 (w : World) (a : Option Addr) (cap : Nat) :
    Calls Try.prog 4 #[.slice a 0 cap] w fun e w' => e = .returned (.bool true) ∧ Below w.heap.size w w' := by
  go_enter Try.func4, Try.ntmps4
  go_wp2_with (fail)
  refine (works_c _).mono ?_
  rintro e w1 ⟨rfl, b1⟩
  go_wp2_with (fail)
  refine (heavy_c _ a 0 cap ⟨by unfold maxLen; omega, .inl rfl⟩).mono ?_
  rintro e w2 ⟨hv, rfl, hfew, b2⟩
  clear hfew
  have b12 := nextB b1 b2
  cases hv with
  | true =>
    go_wp2_with (fail)
    refine (works_c _).mono ?_
    rintro e w3 ⟨rfl, b3⟩
    go_wp2_with (fail)
    go_ret
    exact ⟨rfl, nextB b12 b3⟩
  | false =>
    go_wp2_with (fail)
    refine (new_c _).mono ?_
    rintro e w3 ⟨rfl, a3, b3⟩
    go_wp2_with (fail)
    go_loopw [15] (fun i wr => i = .int .i64 0 ∧ wr = w3) (fun _ _ => 0)
    case atStart => exact ⟨rfl, rfl⟩
    case round =>
      obtain ⟨rfl, rfl⟩ := hrel
      go_wp2_with (fail)
      refine (works_c _).mono ?_
      rintro e w4 ⟨rfl, b4⟩
      go_wp2_with (fail)
      go_ret
      exact ⟨rfl, nextB (nextB b12 b3) b4⟩
theorem falls_c (w : World) (a : Option Addr) (len cap : Nat) (h : DoRow w a len) :
    Calls Try.prog 4 #[.slice a len cap] w fun e w' => e = .returned (.bool true) ∧ Below w.heap.size w w' := by
  by_cases h0 : len = 0
  · subst h0
    exact falls_0 w a cap
  · exact falls_t w a len cap h h0
end Go.Proofs.Ytebbjmomakobaaa
