/- The walks of the two closures in pnum.Expand. -/
import Derived.Test.YtbigklbchnmjoaaPPnumTellsx2
import Derived.WalkSpells
import Derived.WalkLawsBesides
namespace Go.Proofs.Ytbigklbchnmjoaa
set_option linter.unusedVariables false
open Go.RowKit Go.Proofs.YtbigklbchnmjoaaW.PrintWords Go.Proofs.YtbigklbchnmjoaaW.PrintLast Go.Proofs.YtbigklbchnmjoaaW.PrintMore
attribute [local go_sem] max2_int min2_int max_two min_two max_three min_three max_four min_four
/-- How far a number is from another. -/
def far (n x : Int) : Int := if n < x then x - n else n - x

set_option maxHeartbeats 400000 in
theorem far_any (n x : Int) (a : Addr) (w : World) (hc : w.cell? a = some (.int .u64 x)) (h0 : 0 ≤ n) (h1 : n < 18446744073709551616) (h2 : 0 ≤ x) (h3 : x < 18446744073709551616) :
    Calls Try.prog 14 #[.int .u64 n, .pointer (some a)] w fun e w' => e = .returned (.int .u64 (far n x)) ∧ w' = w := by
  go_enter Try.func14, Try.ntmps14
  go_wp2
  all_goals
    go_ret
    refine ⟨congrArg (fun z => Ending.returned (.int .u64 z)) ?_, rfl⟩
    unfold far
    split <;> omega

theorem far_q (n x : Int) (a : Addr) (w : World) (k : Nat) (hc : w.cell? a = some (.int .u64 x)) (h0 : 0 ≤ n) (h1 : n < 18446744073709551616) (h2 : 0 ≤ x) (h3 : x < 18446744073709551616) :
    Calls Try.prog 14 #[.int .u64 n, .pointer (some a)] (w.drewN k) fun e w' => e = .returned (.int .u64 (far n x)) ∧ w' = w.drewN k :=
  far_any n x a (w.drewN k) hc h0 h1 h2 h3

def trB (n : Int) (may : Bool) (best next : Int) : Bool := may && decide (n ≤ 4611686018427387903) && (decide (4611686018427387903 < best) || decide (far n next < far best next) || (decide (far n next = far best next) && decide (best < n)))

set_option maxHeartbeats 400000 in
theorem try_no (n best x : Int) (p q r : Addr) (w : World) (hp : w.cell? p = some (.int .u64 best)) (hq : w.cell? q = some (.func (.func 14) #[] #[.pointer (some r)])) (hr : w.cell? r = some (.int .u64 x))
    (h0 : 0 ≤ n) (h1 : n < 18446744073709551616) (h2 : 0 ≤ x) (h3 : x < 18446744073709551616) (h4 : 0 ≤ best) (h5 : best < 18446744073709551616) :
    Calls Try.prog 15 #[.int .u64 n, .bool false, .pointer (some p), .pointer (some q)] w fun e w' => e = .returned (.tuple #[]) ∧ ∃ k, w' = w.drewN k := by
  go_enter Try.func15, Try.ntmps15
  go_wp2_with (fail)
  go_quiet (fail)
  go_wp2
  go_end0
  exact ⟨rfl, _, rfl⟩

set_option maxHeartbeats 400000 in
theorem try_c (n best x : Int) (p q r : Addr) (w : World) (hp : w.cell? p = some (.int .u64 best)) (hq : w.cell? q = some (.func (.func 14) #[] #[.pointer (some r)])) (hr : w.cell? r = some (.int .u64 x)) (hz : w.frozen? p = false)
    (h0 : 0 ≤ n) (h1 : n ≤ 4611686018427387903) (h2 : 0 ≤ x) (h3 : x < 18446744073709551616) (h4 : 4611686018427387903 < best) (h5 : best < 18446744073709551616) :
    Calls Try.prog 15 #[.int .u64 n, .bool true, .pointer (some p), .pointer (some q)] w fun e w' => e = .returned (.tuple #[]) ∧ ∃ k, w' = (w.drewN k).setCell p (.int .u64 n) := by
  go_enter Try.func15, Try.ntmps15
  go_wp2_with (fail)
  go_quiet (fail)
  go_wp2
  go_end0
  exact ⟨rfl, _, rfl⟩

set_option maxHeartbeats 400000 in
theorem try_m (n best x : Int) (p q r : Addr) (w : World) (hp : w.cell? p = some (.int .u64 best)) (hq : w.cell? q = some (.func (.func 14) #[] #[.pointer (some r)])) (hr : w.cell? r = some (.int .u64 x))
    (h0 : 4611686018427387903 < n) (h1 : n < 18446744073709551616) (h2 : 0 ≤ x) (h3 : x < 18446744073709551616) (h4 : 0 ≤ best) (h5 : best < 18446744073709551616) :
    Calls Try.prog 15 #[.int .u64 n, .bool true, .pointer (some p), .pointer (some q)] w fun e w' => e = .returned (.tuple #[]) ∧ ∃ k, w' = w.drewN k := by
  have h7 : decide (n ≤ 4611686018427387903) = false := by simp; omega
  go_enter Try.func15, Try.ntmps15
  go_wp2_with (fail)
  go_quiet (fail)
  go_wp2
  go_end0
  exact ⟨rfl, _, rfl⟩

set_option maxHeartbeats 400000 in
theorem try_d (n best x : Int) (p q r : Addr) (w : World) (hp : w.cell? p = some (.int .u64 best)) (hq : w.cell? q = some (.func (.func 14) #[] #[.pointer (some r)])) (hr : w.cell? r = some (.int .u64 x)) (hz : w.frozen? p = false)
    (h0 : 0 ≤ n) (h1 : n ≤ 4611686018427387903) (h2 : 0 ≤ x) (h3 : x < 18446744073709551616) (h4 : 0 ≤ best) (h5 : best ≤ 4611686018427387903)  (h6 : decide (far n x < far best x) = true) :
    Calls Try.prog 15 #[.int .u64 n, .bool true, .pointer (some p), .pointer (some q)] w fun e w' => e = .returned (.tuple #[]) ∧ ∃ k, w' = (w.drewN k).setCell p (.int .u64 n) := by
  have h7 : decide (4611686018427387903 < best) = false := by simp; omega
  go_enter Try.func15, Try.ntmps15
  go_wp2_with (fail)
  go_quiet ((go_at_call 14; exact Calls.quiet_of_same (far_q _ x r w _ hr (by omega) (by omega) (by omega) (by omega))))
  go_wp2
  go_end0
  exact ⟨rfl, _, rfl⟩

set_option maxHeartbeats 400000 in
theorem try_e (n best x : Int) (p q r : Addr) (w : World) (hp : w.cell? p = some (.int .u64 best)) (hq : w.cell? q = some (.func (.func 14) #[] #[.pointer (some r)])) (hr : w.cell? r = some (.int .u64 x)) (hz : w.frozen? p = false)
    (h0 : 0 ≤ n) (h1 : n ≤ 4611686018427387903) (h2 : 0 ≤ x) (h3 : x < 18446744073709551616) (h4 : 0 ≤ best) (h5 : best ≤ 4611686018427387903)  (h6 : decide (far n x < far best x) = false) (h7 : (far n x == far best x) = true) (b : Bool) (h8 : decide (best < n) = b) :
    Calls Try.prog 15 #[.int .u64 n, .bool true, .pointer (some p), .pointer (some q)] w fun e w' => e = .returned (.tuple #[]) ∧ ∃ k, w' = if b = true then (w.drewN k).setCell p (.int .u64 n) else w.drewN k := by
  have h7 : decide (4611686018427387903 < best) = false := by simp; omega
  cases b
  all_goals
    go_enter Try.func15, Try.ntmps15
    go_wp2_with (fail)
    go_quiet ((go_at_call 14; exact Calls.quiet_of_same (far_q _ x r w _ hr (by omega) (by omega) (by omega) (by omega))))
    go_wp2
    go_end0
    exact ⟨rfl, _, rfl⟩

set_option maxHeartbeats 400000 in
theorem try_f (n best x : Int) (p q r : Addr) (w : World) (hp : w.cell? p = some (.int .u64 best)) (hq : w.cell? q = some (.func (.func 14) #[] #[.pointer (some r)])) (hr : w.cell? r = some (.int .u64 x))
    (h0 : 0 ≤ n) (h1 : n ≤ 4611686018427387903) (h2 : 0 ≤ x) (h3 : x < 18446744073709551616) (h4 : 0 ≤ best) (h5 : best ≤ 4611686018427387903)  (h6 : decide (far n x < far best x) = false) (h7 : (far n x == far best x) = false) :
    Calls Try.prog 15 #[.int .u64 n, .bool true, .pointer (some p), .pointer (some q)] w fun e w' => e = .returned (.tuple #[]) ∧ ∃ k, w' = w.drewN k := by
  have h7 : decide (4611686018427387903 < best) = false := by simp; omega
  go_enter Try.func15, Try.ntmps15
  go_wp2_with (fail)
  go_quiet ((go_at_call 14; exact Calls.quiet_of_same (far_q _ x r w _ hr (by omega) (by omega) (by omega) (by omega))))
  go_wp2
  go_end0
  exact ⟨rfl, _, rfl⟩
end Go.Proofs.Ytbigklbchnmjoaa
