/- The walks of mtu's calls of a search. -/
import Derived.Test.YtnacedbhognpbaaObj
import Derived.BigRegion
import Derived.RegionTactic
import Derived.ChangeAlike
namespace Go.Proofs.Ytnacedbhognpbaa
set_option linter.unusedVariables false
open Go.RowKit
set_option maxHeartbeats 400000 in
theorem new_yes (m : Int) (w : World) (h0 : 1200 ≤ m) (h1 : m ≤ 65527) :
    Calls Try.prog 8 #[.int .i64 m] w fun e w' => e = .returned (.tuple #[.pointer (some ⟨w.heap.size, 0, none⟩), .int .i64 0]) ∧ w.alloc (.cells #[.int .i64 1200, .int .i64 m, .int .i64 0, .int .i64 0, .int .i64 0] 43) = w' := by
  go_enter Try.func8, Try.ntmps8
  go_wp2
  go_ret2
  exact ⟨rfl, rfl⟩
set_option maxHeartbeats 400000 in
theorem new_no (m : Int) (w : World) (h : m < 1200 ∨ 65527 < m) :
    Calls Try.prog 8 #[.int .i64 m] w fun e w' => e = .returned (.tuple #[.pointer none, .int .i64 2]) ∧ w = w' := by
  rcases h with h | h
  · go_enter Try.func8, Try.ntmps8
    go_wp2
    go_ret2
    exact ⟨rfl, rfl⟩
  · by_cases h' : m < 1200
    · omega
    · have hd : decide (m ≤ 65527) = false := by simp; omega
      go_enter Try.func8, Try.ntmps8
      go_wp2
      go_ret2
      exact ⟨rfl, rfl⟩
section
variable (w : World) (B : Nat) (sz bd pr tr bl : Int)
set_option maxHeartbeats 400000 in
theorem size_c (h : At w B sz bd pr tr bl) :
    Calls Try.prog 11 #[.pointer (some ⟨B, 0, none⟩)] w fun e w' => e = .returned (.int .i64 sz) ∧ w = w' := by
  have c0 := h.c0
  go_enter Try.func11, Try.ntmps11
  go_wp2
  go_ret
  exact ⟨rfl, rfl⟩
set_option maxHeartbeats 400000 in
theorem size_nil :
    Calls Try.prog 11 #[.pointer none] w fun e w' => e = .returned (.int .i64 0) ∧ w = w' := by
  go_enter Try.func11, Try.ntmps11
  go_wp2
  go_ret
  exact ⟨rfl, rfl⟩
set_option maxHeartbeats 400000 in
theorem done_c (h : At w B sz bd pr tr bl) (g0 : 0 ≤ sz) (g1 : sz ≤ 65527) (g2 : 0 ≤ bd) (g3 : bd ≤ 65527) :
    Calls Try.prog 10 #[.pointer (some ⟨B, 0, none⟩)] w fun e w' => e = .returned (.bool (decide (bd - sz < 16))) ∧ ∃ n, w.drewN n = w' := by
  have c0 := h.c0
  have c1 := h.c1
  go_enter Try.func10, Try.ntmps10
  go_wp2_with (fail)
  go_quiet (fail)
  go_wp2_with (fail)
  go_ret
  exact ⟨rfl, _, rfl⟩
set_option maxHeartbeats 400000 in
theorem done_nil :
    Calls Try.prog 10 #[.pointer none] w fun e w' => e = .returned (.bool false) ∧ ∃ n, w.drewN n = w' := by
  go_enter Try.func10, Try.ntmps10
  go_wp2_with (fail)
  go_quiet (fail)
  go_wp2_with (fail)
  go_ret
  exact ⟨rfl, _, rfl⟩
/-- Probe, where there is one. -/
theorem probe_yes (h : At w B sz bd pr tr bl) (g0 : 0 ≤ sz) (g1 : sz ≤ 65527) (g2 : 0 ≤ bd) (g3 : bd ≤ 65527) (g4 : pr = 0) (g5 : 16 ≤ bd - sz) :
    Calls Try.prog 12 #[.pointer (some ⟨B, 0, none⟩)] w fun e w' => e = .returned (.tuple #[.int .i64 ((sz + bd + 1) / 2), .int .i64 0]) ∧ At w' B sz bd ((sz + bd + 1) / 2) tr bl ∧ Only B w w' := by
  subst g4
  have hd : decide (bd - sz < 16) = false := by simp; omega
  go_enter Try.func12, Try.ntmps12
  go_wp2_with (fail)
  refine (done_c w B sz bd 0 tr bl h g0 g1 g2 g3).mono ?_
  rintro e w1 ⟨rfl, n, rfl⟩
  have c0 := h.c0
  have c1 := h.c1
  have c2 := h.c2
  have f2 := h.f2
  go_wp2_with (fail)
  go_region
  go_wp2_with (fail)
  go_ret2
  exact ⟨rfl, (by repeat (first | (with_reducible exact h) | with_reducible apply At.s0 | with_reducible apply At.s1 | with_reducible apply At.s2 | with_reducible apply At.s3 | with_reducible apply At.s4 | with_reducible apply At.drewN | with_reducible apply At.drew)), (by repeat (first | with_reducible exact Only.refl _ _ | with_reducible refine Only.set ?_ _ _ | with_reducible refine Only.drewN ?_ _ | with_reducible refine Only.drew ?_))⟩
set_option maxHeartbeats 400000 in
theorem probe_no (h : At w B sz bd pr tr bl) (g0 : 0 ≤ sz) (g1 : sz ≤ 65527) (g2 : 0 ≤ bd) (g3 : bd ≤ 65527) (g4 : 0 < pr ∨ bd - sz < 16) :
    Calls Try.prog 12 #[.pointer (some ⟨B, 0, none⟩)] w fun e w' => e = .returned (.tuple #[.int .i64 0, .int .i64 6]) ∧ At w' B sz bd pr tr bl ∧ Only B w w' := by
  by_cases c : bd - sz < 16
  · have hd : decide (bd - sz < 16) = true := by simpa using c
    go_enter Try.func12, Try.ntmps12
    go_wp2_with (fail)
    refine (done_c w B sz bd pr tr bl h g0 g1 g2 g3).mono ?_
    rintro e w1 ⟨rfl, n, rfl⟩
    go_wp2_with (fail)
    go_ret2
    exact ⟨rfl, h.drewN n, (Only.refl _ _).drewN n⟩
  · have hd : decide (bd - sz < 16) = false := by simpa using c
    have c2 := h.c2
    go_enter Try.func12, Try.ntmps12
    go_wp2_with (fail)
    refine (done_c w B sz bd pr tr bl h g0 g1 g2 g3).mono ?_
    rintro e w1 ⟨rfl, n, rfl⟩
    go_wp2_with (fail)
    go_ret2
    exact ⟨rfl, h.drewN n, (Only.refl _ _).drewN n⟩
set_option maxHeartbeats 400000 in
theorem probe_nil :
    Calls Try.prog 12 #[.pointer none] w fun e w' => e = .returned (.tuple #[.int .i64 0, .int .i64 1]) ∧ w = w' := by
  go_enter Try.func12, Try.ntmps12
  go_wp2_with (fail)
  go_ret2
  exact ⟨rfl, rfl⟩
set_option maxHeartbeats 400000 in
theorem came_nil (n : Int) :
    Calls Try.prog 13 #[.pointer none, .int .i64 n] w fun e w' => e = .returned (.int .i64 1) ∧ w = w' := by
  go_enter Try.func13, Try.ntmps13
  go_wp2_with (fail)
  go_ret
  exact ⟨rfl, rfl⟩
set_option maxHeartbeats 400000 in
theorem came_bad (n : Int) (h : n < 1 ∨ 65527 < n) :
    Calls Try.prog 13 #[.pointer (some ⟨B, 0, none⟩), .int .i64 n] w fun e w' => e = .returned (.int .i64 2) ∧ w = w' := by
  by_cases h' : n < 1
  · go_enter Try.func13, Try.ntmps13
    go_wp2
    go_ret
    exact ⟨rfl, rfl⟩
  · have hd : decide (n ≤ 65527) = false := by simp; omega
    go_enter Try.func13, Try.ntmps13
    go_wp2
    go_ret
    exact ⟨rfl, rfl⟩
set_option maxHeartbeats 8000000 in
theorem came_c (n : Int) (h : At w B sz bd pr tr bl) (g0 : 0 ≤ sz) (g1 : sz ≤ 65527) (g2 : 0 ≤ bd) (g3 : bd ≤ 65527) (g4 : 1 ≤ n) (g5 : n ≤ 65527) :
    Calls Try.prog 13 #[.pointer (some ⟨B, 0, none⟩), .int .i64 n] w fun e w' => e = .returned (.int .i64 0) ∧
      At w' B (if sz < n then n else sz) (if sz < n then (if bd < n then n else bd) else bd) (if n = pr then 0 else pr) (if sz < n then 0 else tr) (if 1200 < n then 0 else bl) ∧ Only B w w' := by
  have c0 := h.c0
  have c1 := h.c1
  have c2 := h.c2
  have c3 := h.c3
  have c4 := h.c4
  have f0 := h.f0
  have f1 := h.f1
  have f2 := h.f2
  have f3 := h.f3
  have f4 := h.f4
  by_cases a : 1200 < n
  · rw [if_pos a]
    by_cases b : n = pr
    · rw [if_pos b]
      have b' : (n == pr) = true := by simpa using b
      clear b
      by_cases c : sz < n
      · rw [if_pos c, if_pos c, if_pos c]
        by_cases d : bd < n
        · rw [if_pos d]
          go_enter Try.func13, Try.ntmps13
          go_wp2
          go_ret
          exact ⟨rfl, (by repeat (first | (with_reducible exact h) | with_reducible apply At.s0 | with_reducible apply At.s1 | with_reducible apply At.s2 | with_reducible apply At.s3 | with_reducible apply At.s4 | with_reducible apply At.drewN | with_reducible apply At.drew)), (by repeat (first | with_reducible exact Only.refl _ _ | with_reducible refine Only.set ?_ _ _ | with_reducible refine Only.drewN ?_ _ | with_reducible refine Only.drew ?_))⟩
        · rw [if_neg d]
          go_enter Try.func13, Try.ntmps13
          go_wp2
          go_ret
          exact ⟨rfl, (by repeat (first | (with_reducible exact h) | with_reducible apply At.s0 | with_reducible apply At.s1 | with_reducible apply At.s2 | with_reducible apply At.s3 | with_reducible apply At.s4 | with_reducible apply At.drewN | with_reducible apply At.drew)), (by repeat (first | with_reducible exact Only.refl _ _ | with_reducible refine Only.set ?_ _ _ | with_reducible refine Only.drewN ?_ _ | with_reducible refine Only.drew ?_))⟩
      · rw [if_neg c, if_neg c, if_neg c]
        go_enter Try.func13, Try.ntmps13
        go_wp2
        go_ret
        exact ⟨rfl, (by repeat (first | (with_reducible exact h) | with_reducible apply At.s0 | with_reducible apply At.s1 | with_reducible apply At.s2 | with_reducible apply At.s3 | with_reducible apply At.s4 | with_reducible apply At.drewN | with_reducible apply At.drew)), (by repeat (first | with_reducible exact Only.refl _ _ | with_reducible refine Only.set ?_ _ _ | with_reducible refine Only.drewN ?_ _ | with_reducible refine Only.drew ?_))⟩
    · rw [if_neg b]
      have b' : (n == pr) = false := by simpa using b
      clear b
      by_cases c : sz < n
      · rw [if_pos c, if_pos c, if_pos c]
        by_cases d : bd < n
        · rw [if_pos d]
          go_enter Try.func13, Try.ntmps13
          go_wp2
          go_ret
          exact ⟨rfl, (by repeat (first | (with_reducible exact h) | with_reducible apply At.s0 | with_reducible apply At.s1 | with_reducible apply At.s2 | with_reducible apply At.s3 | with_reducible apply At.s4 | with_reducible apply At.drewN | with_reducible apply At.drew)), (by repeat (first | with_reducible exact Only.refl _ _ | with_reducible refine Only.set ?_ _ _ | with_reducible refine Only.drewN ?_ _ | with_reducible refine Only.drew ?_))⟩
        · rw [if_neg d]
          go_enter Try.func13, Try.ntmps13
          go_wp2
          go_ret
          exact ⟨rfl, (by repeat (first | (with_reducible exact h) | with_reducible apply At.s0 | with_reducible apply At.s1 | with_reducible apply At.s2 | with_reducible apply At.s3 | with_reducible apply At.s4 | with_reducible apply At.drewN | with_reducible apply At.drew)), (by repeat (first | with_reducible exact Only.refl _ _ | with_reducible refine Only.set ?_ _ _ | with_reducible refine Only.drewN ?_ _ | with_reducible refine Only.drew ?_))⟩
      · rw [if_neg c, if_neg c, if_neg c]
        go_enter Try.func13, Try.ntmps13
        go_wp2
        go_ret
        exact ⟨rfl, (by repeat (first | (with_reducible exact h) | with_reducible apply At.s0 | with_reducible apply At.s1 | with_reducible apply At.s2 | with_reducible apply At.s3 | with_reducible apply At.s4 | with_reducible apply At.drewN | with_reducible apply At.drew)), (by repeat (first | with_reducible exact Only.refl _ _ | with_reducible refine Only.set ?_ _ _ | with_reducible refine Only.drewN ?_ _ | with_reducible refine Only.drew ?_))⟩
  · rw [if_neg a]
    by_cases b : n = pr
    · rw [if_pos b]
      have b' : (n == pr) = true := by simpa using b
      clear b
      by_cases c : sz < n
      · rw [if_pos c, if_pos c, if_pos c]
        by_cases d : bd < n
        · rw [if_pos d]
          go_enter Try.func13, Try.ntmps13
          go_wp2
          go_ret
          exact ⟨rfl, (by repeat (first | (with_reducible exact h) | with_reducible apply At.s0 | with_reducible apply At.s1 | with_reducible apply At.s2 | with_reducible apply At.s3 | with_reducible apply At.s4 | with_reducible apply At.drewN | with_reducible apply At.drew)), (by repeat (first | with_reducible exact Only.refl _ _ | with_reducible refine Only.set ?_ _ _ | with_reducible refine Only.drewN ?_ _ | with_reducible refine Only.drew ?_))⟩
        · rw [if_neg d]
          go_enter Try.func13, Try.ntmps13
          go_wp2
          go_ret
          exact ⟨rfl, (by repeat (first | (with_reducible exact h) | with_reducible apply At.s0 | with_reducible apply At.s1 | with_reducible apply At.s2 | with_reducible apply At.s3 | with_reducible apply At.s4 | with_reducible apply At.drewN | with_reducible apply At.drew)), (by repeat (first | with_reducible exact Only.refl _ _ | with_reducible refine Only.set ?_ _ _ | with_reducible refine Only.drewN ?_ _ | with_reducible refine Only.drew ?_))⟩
      · rw [if_neg c, if_neg c, if_neg c]
        go_enter Try.func13, Try.ntmps13
        go_wp2
        go_ret
        exact ⟨rfl, (by repeat (first | (with_reducible exact h) | with_reducible apply At.s0 | with_reducible apply At.s1 | with_reducible apply At.s2 | with_reducible apply At.s3 | with_reducible apply At.s4 | with_reducible apply At.drewN | with_reducible apply At.drew)), (by repeat (first | with_reducible exact Only.refl _ _ | with_reducible refine Only.set ?_ _ _ | with_reducible refine Only.drewN ?_ _ | with_reducible refine Only.drew ?_))⟩
    · rw [if_neg b]
      have b' : (n == pr) = false := by simpa using b
      clear b
      by_cases c : sz < n
      · rw [if_pos c, if_pos c, if_pos c]
        by_cases d : bd < n
        · rw [if_pos d]
          go_enter Try.func13, Try.ntmps13
          go_wp2
          go_ret
          exact ⟨rfl, (by repeat (first | (with_reducible exact h) | with_reducible apply At.s0 | with_reducible apply At.s1 | with_reducible apply At.s2 | with_reducible apply At.s3 | with_reducible apply At.s4 | with_reducible apply At.drewN | with_reducible apply At.drew)), (by repeat (first | with_reducible exact Only.refl _ _ | with_reducible refine Only.set ?_ _ _ | with_reducible refine Only.drewN ?_ _ | with_reducible refine Only.drew ?_))⟩
        · rw [if_neg d]
          go_enter Try.func13, Try.ntmps13
          go_wp2
          go_ret
          exact ⟨rfl, (by repeat (first | (with_reducible exact h) | with_reducible apply At.s0 | with_reducible apply At.s1 | with_reducible apply At.s2 | with_reducible apply At.s3 | with_reducible apply At.s4 | with_reducible apply At.drewN | with_reducible apply At.drew)), (by repeat (first | with_reducible exact Only.refl _ _ | with_reducible refine Only.set ?_ _ _ | with_reducible refine Only.drewN ?_ _ | with_reducible refine Only.drew ?_))⟩
      · rw [if_neg c, if_neg c, if_neg c]
        go_enter Try.func13, Try.ntmps13
        go_wp2
        go_ret
        exact ⟨rfl, (by repeat (first | (with_reducible exact h) | with_reducible apply At.s0 | with_reducible apply At.s1 | with_reducible apply At.s2 | with_reducible apply At.s3 | with_reducible apply At.s4 | with_reducible apply At.drewN | with_reducible apply At.drew)), (by repeat (first | with_reducible exact Only.refl _ _ | with_reducible refine Only.set ?_ _ _ | with_reducible refine Only.drewN ?_ _ | with_reducible refine Only.drew ?_))⟩
end
end Go.Proofs.Ytnacedbhognpbaa
