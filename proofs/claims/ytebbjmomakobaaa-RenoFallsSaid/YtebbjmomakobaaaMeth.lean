/- The walks of reno's calls of a window. -/
import Derived.Test.YtebbjmomakobaaaObj
namespace Go.Proofs.Ytebbjmomakobaaa
set_option linter.unusedVariables false
set_option linter.unusedSimpArgs false
open Go.RowKit
attribute [local go_sem] max2_int min2_int max_two min_two min_three
set_option maxHeartbeats 400000 in
theorem new_c (w : World) :
    Calls Try.prog 6 #[] w fun e w' => e = .returned (.pointer (some ⟨w.heap.size, 0, none⟩)) ∧ At w' w.heap.size 12000 4611686018427387904 0 0 false 0 ∧ Below w.heap.size w w' := by
  go_enter Try.func6, Try.ntmps6
  go_wp2
  go_ret
  exact ⟨rfl, At.new w _ _ _ _ _ _, (Below.refl _ _).alloc (Nat.le_refl _) _⟩
section
variable (w : World) (B : Nat) (wi th fl si : Int) (rc : Bool) (ac : Int)
set_option maxHeartbeats 400000 in
theorem may_c (x : Int) (hat : At w B wi th fl si rc ac) (g0 : 0 ≤ fl) (g1 : fl ≤ 4611686018427387904) (g2 : 0 ≤ x) (g3 : x ≤ 1099511627776) :
    Calls Try.prog 14 #[.pointer (some ⟨B, 0, none⟩), .int .u64 x] w fun e w' => e = .returned (.bool (decide (fl + x ≤ wi))) ∧ ∃ n, w.drewN n = w' := by
  have c0 := hat.c0
  have c2 := hat.c2
  go_enter Try.func14, Try.ntmps14
  go_wp2_with (fail)
  go_quiet (fail)
  go_wp2_with (fail)
  go_ret
  exact ⟨rfl, _, rfl⟩
set_option maxHeartbeats 400000 in
theorem worst_c (hat : At w B wi th fl si rc ac) :
    Calls Try.prog 13 #[.pointer (some ⟨B, 0, none⟩)] w fun e w' => e = .returned (.tuple #[]) ∧ At w' B 2400 th fl si false 0 ∧ Only B w w' := by
  have c0 := hat.c0
  have c4 := hat.c4
  have c5 := hat.c5
  have f0 := hat.f0
  have f4 := hat.f4
  have f5 := hat.f5
  go_enter Try.func13, Try.ntmps13
  go_wp2
  first | go_end0 | ((try simp only [Exit.inBlock, Exit.then]); refine bodyPost_ret (results_none rfl _ _ _) rfl ?_)
  exact ⟨rfl, (by repeat (first | (with_reducible exact hat) | with_reducible apply At.s0 | with_reducible apply At.s1 | with_reducible apply At.s2 | with_reducible apply At.s3 | with_reducible apply At.s4 | with_reducible apply At.s5 | with_reducible apply At.drewN | with_reducible apply At.drew)), (by repeat (first | with_reducible exact Only.refl _ _ | with_reducible refine Only.set ?_ _ _ | with_reducible refine Only.drewN ?_ _ | with_reducible refine Only.drew ?_))⟩
set_option maxHeartbeats 1000000 in
theorem lost_no (at_ now : Int) (hat : At w B wi th fl si true ac) (g : at_ ≤ si) :
    Calls Try.prog 12 #[.pointer (some ⟨B, 0, none⟩), .int .u64 at_, .int .u64 now] w fun e w' => e = .returned (.tuple #[]) ∧ w = w' := by
  have c3 := hat.c3
  have c4 := hat.c4
  go_enter Try.func12, Try.ntmps12
  go_wp2
  first | go_end0 | ((try simp only [Exit.inBlock, Exit.then]); refine bodyPost_ret (results_none rfl _ _ _) rfl ?_)
  exact ⟨rfl, rfl⟩
set_option maxHeartbeats 1000000 in
theorem lost_yes (at_ now : Int) (hat : At w B wi th fl si rc ac) (g : rc = false ∨ si < at_) (g0 : 0 ≤ wi) (g1 : wi ≤ 18446744073709551615) :
    Calls Try.prog 12 #[.pointer (some ⟨B, 0, none⟩), .int .u64 at_, .int .u64 now] w fun e w' => e = .returned (.tuple #[]) ∧ At w' B (if wi / 2 < 2400 then 2400 else wi / 2) (if wi / 2 < 2400 then 2400 else wi / 2) fl now true 0 ∧ Only B w w' := by
  have c0 := hat.c0
  have c1 := hat.c1
  have c3 := hat.c3
  have c4 := hat.c4
  have c5 := hat.c5
  have f0 := hat.f0
  have f1 := hat.f1
  have f3 := hat.f3
  have f4 := hat.f4
  have f5 := hat.f5
  cases rc with
  | false =>
    by_cases c : wi / 2 < 2400
    · rw [if_pos c]
      go_enter Try.func12, Try.ntmps12
      go_wp2
      first | go_end0 | ((try simp only [Exit.inBlock, Exit.then]); refine bodyPost_ret (results_none rfl _ _ _) rfl ?_)
      exact ⟨rfl, (by repeat (first | (with_reducible exact hat) | with_reducible apply At.s0 | with_reducible apply At.s1 | with_reducible apply At.s2 | with_reducible apply At.s3 | with_reducible apply At.s4 | with_reducible apply At.s5 | with_reducible apply At.drewN | with_reducible apply At.drew)), (by repeat (first | with_reducible exact Only.refl _ _ | with_reducible refine Only.set ?_ _ _ | with_reducible refine Only.drewN ?_ _ | with_reducible refine Only.drew ?_))⟩
    · rw [if_neg c]
      go_enter Try.func12, Try.ntmps12
      go_wp2
      first | go_end0 | ((try simp only [Exit.inBlock, Exit.then]); refine bodyPost_ret (results_none rfl _ _ _) rfl ?_)
      exact ⟨rfl, (by repeat (first | (with_reducible exact hat) | with_reducible apply At.s0 | with_reducible apply At.s1 | with_reducible apply At.s2 | with_reducible apply At.s3 | with_reducible apply At.s4 | with_reducible apply At.s5 | with_reducible apply At.drewN | with_reducible apply At.drew)), (by repeat (first | with_reducible exact Only.refl _ _ | with_reducible refine Only.set ?_ _ _ | with_reducible refine Only.drewN ?_ _ | with_reducible refine Only.drew ?_))⟩
  | true =>
    have g' : si < at_ := by simpa using g
    have g'' : decide (at_ ≤ si) = false := decide_eq_false (by omega)
    by_cases c : wi / 2 < 2400
    · rw [if_pos c]
      go_enter Try.func12, Try.ntmps12
      go_wp2
      first | go_end0 | ((try simp only [Exit.inBlock, Exit.then]); refine bodyPost_ret (results_none rfl _ _ _) rfl ?_)
      exact ⟨rfl, (by repeat (first | (with_reducible exact hat) | with_reducible apply At.s0 | with_reducible apply At.s1 | with_reducible apply At.s2 | with_reducible apply At.s3 | with_reducible apply At.s4 | with_reducible apply At.s5 | with_reducible apply At.drewN | with_reducible apply At.drew)), (by repeat (first | with_reducible exact Only.refl _ _ | with_reducible refine Only.set ?_ _ _ | with_reducible refine Only.drewN ?_ _ | with_reducible refine Only.drew ?_))⟩
    · rw [if_neg c]
      go_enter Try.func12, Try.ntmps12
      go_wp2
      first | go_end0 | ((try simp only [Exit.inBlock, Exit.then]); refine bodyPost_ret (results_none rfl _ _ _) rfl ?_)
      exact ⟨rfl, (by repeat (first | (with_reducible exact hat) | with_reducible apply At.s0 | with_reducible apply At.s1 | with_reducible apply At.s2 | with_reducible apply At.s3 | with_reducible apply At.s4 | with_reducible apply At.s5 | with_reducible apply At.drewN | with_reducible apply At.drew)), (by repeat (first | with_reducible exact Only.refl _ _ | with_reducible refine Only.set ?_ _ _ | with_reducible refine Only.drewN ?_ _ | with_reducible refine Only.drew ?_))⟩
end
end Go.Proofs.Ytebbjmomakobaaa
