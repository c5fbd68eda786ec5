/- The walks of PnumBack and PnumNear. -/
import Derived.Test.YtbigklbchnmjoaaCalls
namespace Go.Proofs.Ytbigklbchnmjoaa
set_option linter.unusedVariables false
open Go.RowKit Go.Proofs.YtbigklbchnmjoaaW.PrintWords Go.Proofs.YtbigklbchnmjoaaW.PrintLast Go.Proofs.YtbigklbchnmjoaaW.PrintMore Go.Proofs.Ytbigklbchnmjoaa.PPnumTells

theorem need_range (y : Int) : 1 ≤ need y ∧ need y ≤ 4 := by unfold need; split <;> (try split) <;> (try split) <;> omega
theorem trunc_range (x n : Int) (h : 1 ≤ n ∧ n ≤ 4) : 0 ≤ truncS x n ∧ truncS x n < 18446744073709551616 := by
  have hc := wind_cases n h.1 h.2
  have h0 := Int.emod_nonneg x (show wind n ≠ 0 by omega)
  have h1 := Int.emod_lt_of_pos x (show 0 < wind n by omega)
  unfold truncS
  rw [if_pos h]
  omega

set_option maxHeartbeats 1000000 in
theorem back_c (x y z : Int) (w : World) (h0 : 0 ≤ x) (h1 : x < 18446744073709551616) (h2 : 0 ≤ y) (h3 : y < 18446744073709551616) (h4 : 0 ≤ z) (h5 : z < 18446744073709551616) :
    Calls Try.prog 4 #[.int .u64 x, .int .u64 y, .int .u64 z] w fun e w' => e = .returned (.bool true) ∧ Below w.heap.size w w' := by
  go_enter Try.func4, Try.ntmps4
  go_wp2_with (fail)
  refine (known_c _).mono ?_
  rintro e w1 ⟨rfl, b1⟩
  go_wp2_with (fail)
  any_goals (go_ret; exact ⟨rfl, b1⟩)
  have g0 : 1 ≤ y := by omega
  have hb : bytesS (x + y) x true = need y := by
    unfold bytesS
    rw [if_pos rfl, if_neg (by omega)]
    congr 1; omega
  have HB := Lib.hid hb
  have HL := Lib.hid (back_law x y z h0 g0 (by assumption) (by omega) (by assumption) (by omega))
  have hn := need_range y
  have ht := trunc_range (x + y) (need y) hn
  clear hb
  generalize need y = n at *
  refine (bytes_c (x + y) x true n _ HB.out (by omega) (by omega) (by omega) (by omega)).mono ?_
  rintro e w2 ⟨rfl, b2⟩
  go_wp2_with (fail)
  refine (trunc_c (x + y) n _ _ rfl (by omega)).mono ?_
  rintro e w3 ⟨rfl, b3⟩
  go_wp2_with (fail)
  refine (expand_c z _ n _ _ HL.out h4 h5 ht.1 ht.2).mono ?_
  rintro e w4 ⟨rfl, b4⟩
  go_wp2_with (fail)
  go_ret
  exact ⟨rfl, nextB (nextB (nextB b1 b2) b3) b4⟩

set_option maxHeartbeats 1000000 in
theorem near_1 (x t : Int) (w : World) (h0 : 0 ≤ x) (h1 : x < 18446744073709551616) (h2 : 0 ≤ t) (h3 : t < 18446744073709551616) (hx : x ≤ 4611686018427387903) :
    Calls Try.prog 5 #[.int .u64 x, .int .u64 t, .int .i64 1] w fun e w' => e = .returned (.bool true) ∧ Below w.heap.size w w' := by
  have HL := Lib.hid (near_law x t 1 (by omega) h0 hx h2)
  rw [show wind 1 = 256 from rfl] at HL
  go_enter Try.func5, Try.ntmps5
  go_wp2_with (fail)
  refine (known_c _).mono ?_
  rintro e w1 ⟨rfl, b1⟩
  go_wp2_with (fail)
  refine (expand_c x t 1 _ _ rfl h0 h1 h2 h3).mono ?_
  generalize expF x t 1 = r at *
  obtain ⟨l1, l2, l3, l4, l5⟩ := HL.out
  clear HL
  have hne : (r % 256 != t % 256) = false := by simpa using l1
  clear l1
  have L4 := Lib.hid l4
  have L5 := Lib.hid l5
  clear l4 l5
  rintro e w2 ⟨rfl, b2⟩
  by_cases c : x ≤ r
  · have l4 := L4.out c
    by_cases d : r - x ≤ 128
    · go_wp2_with (fail)
      go_quiet (fail)
      go_wp2_with (fail)
      go_ret
      exact ⟨rfl, below_drewN (nextB b1 b2) _⟩
    · have d' : r < 256 := by omega
      go_wp2_with (fail)
      go_quiet (fail)
      go_wp2_with (fail)
      go_ret
      exact ⟨rfl, below_drewN (nextB b1 b2) _⟩
  · have l5 := L5.out (by omega)
    by_cases d : x - r < 128
    · go_wp2_with (fail)
      go_quiet (fail)
      go_wp2_with (fail)
      go_ret
      exact ⟨rfl, below_drewN (nextB b1 b2) _⟩
    · have d' : x - r ≤ 256 := by omega
      have d'' : 4611686018427387903 < r + 256 := by omega
      go_wp2_with (fail)
      go_quiet (fail)
      go_wp2_with (fail)
      go_ret
      exact ⟨rfl, below_drewN (nextB b1 b2) _⟩

set_option maxHeartbeats 1000000 in
theorem near_2 (x t : Int) (w : World) (h0 : 0 ≤ x) (h1 : x < 18446744073709551616) (h2 : 0 ≤ t) (h3 : t < 18446744073709551616) (hx : x ≤ 4611686018427387903) :
    Calls Try.prog 5 #[.int .u64 x, .int .u64 t, .int .i64 2] w fun e w' => e = .returned (.bool true) ∧ Below w.heap.size w w' := by
  have HL := Lib.hid (near_law x t 2 (by omega) h0 hx h2)
  rw [show wind 2 = 65536 from rfl] at HL
  go_enter Try.func5, Try.ntmps5
  go_wp2_with (fail)
  refine (known_c _).mono ?_
  rintro e w1 ⟨rfl, b1⟩
  go_wp2_with (fail)
  refine (expand_c x t 2 _ _ rfl h0 h1 h2 h3).mono ?_
  generalize expF x t 2 = r at *
  obtain ⟨l1, l2, l3, l4, l5⟩ := HL.out
  clear HL
  have hne : (r % 65536 != t % 65536) = false := by simpa using l1
  clear l1
  have L4 := Lib.hid l4
  have L5 := Lib.hid l5
  clear l4 l5
  rintro e w2 ⟨rfl, b2⟩
  by_cases c : x ≤ r
  · have l4 := L4.out c
    by_cases d : r - x ≤ 32768
    · go_wp2_with (fail)
      go_quiet (fail)
      go_wp2_with (fail)
      go_ret
      exact ⟨rfl, below_drewN (nextB b1 b2) _⟩
    · have d' : r < 65536 := by omega
      go_wp2_with (fail)
      go_quiet (fail)
      go_wp2_with (fail)
      go_ret
      exact ⟨rfl, below_drewN (nextB b1 b2) _⟩
  · have l5 := L5.out (by omega)
    by_cases d : x - r < 32768
    · go_wp2_with (fail)
      go_quiet (fail)
      go_wp2_with (fail)
      go_ret
      exact ⟨rfl, below_drewN (nextB b1 b2) _⟩
    · have d' : x - r ≤ 65536 := by omega
      have d'' : 4611686018427387903 < r + 65536 := by omega
      go_wp2_with (fail)
      go_quiet (fail)
      go_wp2_with (fail)
      go_ret
      exact ⟨rfl, below_drewN (nextB b1 b2) _⟩

set_option maxHeartbeats 1000000 in
theorem near_3 (x t : Int) (w : World) (h0 : 0 ≤ x) (h1 : x < 18446744073709551616) (h2 : 0 ≤ t) (h3 : t < 18446744073709551616) (hx : x ≤ 4611686018427387903) :
    Calls Try.prog 5 #[.int .u64 x, .int .u64 t, .int .i64 3] w fun e w' => e = .returned (.bool true) ∧ Below w.heap.size w w' := by
  have HL := Lib.hid (near_law x t 3 (by omega) h0 hx h2)
  rw [show wind 3 = 16777216 from rfl] at HL
  go_enter Try.func5, Try.ntmps5
  go_wp2_with (fail)
  refine (known_c _).mono ?_
  rintro e w1 ⟨rfl, b1⟩
  go_wp2_with (fail)
  refine (expand_c x t 3 _ _ rfl h0 h1 h2 h3).mono ?_
  generalize expF x t 3 = r at *
  obtain ⟨l1, l2, l3, l4, l5⟩ := HL.out
  clear HL
  have hne : (r % 16777216 != t % 16777216) = false := by simpa using l1
  clear l1
  have L4 := Lib.hid l4
  have L5 := Lib.hid l5
  clear l4 l5
  rintro e w2 ⟨rfl, b2⟩
  by_cases c : x ≤ r
  · have l4 := L4.out c
    by_cases d : r - x ≤ 8388608
    · go_wp2_with (fail)
      go_quiet (fail)
      go_wp2_with (fail)
      go_ret
      exact ⟨rfl, below_drewN (nextB b1 b2) _⟩
    · have d' : r < 16777216 := by omega
      go_wp2_with (fail)
      go_quiet (fail)
      go_wp2_with (fail)
      go_ret
      exact ⟨rfl, below_drewN (nextB b1 b2) _⟩
  · have l5 := L5.out (by omega)
    by_cases d : x - r < 8388608
    · go_wp2_with (fail)
      go_quiet (fail)
      go_wp2_with (fail)
      go_ret
      exact ⟨rfl, below_drewN (nextB b1 b2) _⟩
    · have d' : x - r ≤ 16777216 := by omega
      have d'' : 4611686018427387903 < r + 16777216 := by omega
      go_wp2_with (fail)
      go_quiet (fail)
      go_wp2_with (fail)
      go_ret
      exact ⟨rfl, below_drewN (nextB b1 b2) _⟩

set_option maxHeartbeats 1000000 in
theorem near_4 (x t : Int) (w : World) (h0 : 0 ≤ x) (h1 : x < 18446744073709551616) (h2 : 0 ≤ t) (h3 : t < 18446744073709551616) (hx : x ≤ 4611686018427387903) :
    Calls Try.prog 5 #[.int .u64 x, .int .u64 t, .int .i64 4] w fun e w' => e = .returned (.bool true) ∧ Below w.heap.size w w' := by
  have HL := Lib.hid (near_law x t 4 (by omega) h0 hx h2)
  rw [show wind 4 = 4294967296 from rfl] at HL
  go_enter Try.func5, Try.ntmps5
  go_wp2_with (fail)
  refine (known_c _).mono ?_
  rintro e w1 ⟨rfl, b1⟩
  go_wp2_with (fail)
  refine (expand_c x t 4 _ _ rfl h0 h1 h2 h3).mono ?_
  generalize expF x t 4 = r at *
  obtain ⟨l1, l2, l3, l4, l5⟩ := HL.out
  clear HL
  have hne : (r % 4294967296 != t % 4294967296) = false := by simpa using l1
  clear l1
  have L4 := Lib.hid l4
  have L5 := Lib.hid l5
  clear l4 l5
  rintro e w2 ⟨rfl, b2⟩
  by_cases c : x ≤ r
  · have l4 := L4.out c
    by_cases d : r - x ≤ 2147483648
    · go_wp2_with (fail)
      go_quiet (fail)
      go_wp2_with (fail)
      go_ret
      exact ⟨rfl, below_drewN (nextB b1 b2) _⟩
    · have d' : r < 4294967296 := by omega
      go_wp2_with (fail)
      go_quiet (fail)
      go_wp2_with (fail)
      go_ret
      exact ⟨rfl, below_drewN (nextB b1 b2) _⟩
  · have l5 := L5.out (by omega)
    by_cases d : x - r < 2147483648
    · go_wp2_with (fail)
      go_quiet (fail)
      go_wp2_with (fail)
      go_ret
      exact ⟨rfl, below_drewN (nextB b1 b2) _⟩
    · have d' : x - r ≤ 4294967296 := by omega
      have d'' : 4611686018427387903 < r + 4294967296 := by omega
      go_wp2_with (fail)
      go_quiet (fail)
      go_wp2_with (fail)
      go_ret
      exact ⟨rfl, below_drewN (nextB b1 b2) _⟩

set_option maxHeartbeats 1000000 in
theorem near_out (x t n : Int) (w : World) (h : n < 1 ∨ 4 < n ∨ 4611686018427387903 < x) :
    Calls Try.prog 5 #[.int .u64 x, .int .u64 t, .int .i64 n] w fun e w' => e = .returned (.bool true) ∧ Below w.heap.size w w' := by
  by_cases c : n < 1
  · go_enter Try.func5, Try.ntmps5
    go_wp2_with (fail)
    refine (known_c _).mono ?_
    rintro e w1 ⟨rfl, b1⟩
    go_wp2_with (fail)
    go_ret
    exact ⟨rfl, b1⟩
  · by_cases d : 4 < n
    · go_enter Try.func5, Try.ntmps5
      go_wp2_with (fail)
      refine (known_c _).mono ?_
      rintro e w1 ⟨rfl, b1⟩
      go_wp2_with (fail)
      go_ret
      exact ⟨rfl, b1⟩
    · have f : 4611686018427387903 < x := by omega
      go_enter Try.func5, Try.ntmps5
      go_wp2_with (fail)
      refine (known_c _).mono ?_
      rintro e w1 ⟨rfl, b1⟩
      go_wp2_with (fail)
      go_ret
      exact ⟨rfl, b1⟩

theorem near_c (x t n : Int) (w : World) (h0 : 0 ≤ x) (h1 : x < 18446744073709551616) (h2 : 0 ≤ t) (h3 : t < 18446744073709551616) :
    Calls Try.prog 5 #[.int .u64 x, .int .u64 t, .int .i64 n] w fun e w' => e = .returned (.bool true) ∧ Below w.heap.size w w' := by
  by_cases hx : x ≤ 4611686018427387903
  · by_cases hn : 1 ≤ n ∧ n ≤ 4
    · have : n = 1 ∨ n = 2 ∨ n = 3 ∨ n = 4 := by omega
      rcases this with rfl | rfl | rfl | rfl
      · exact near_1 x t w h0 h1 h2 h3 hx
      · exact near_2 x t w h0 h1 h2 h3 hx
      · exact near_3 x t w h0 h1 h2 h3 hx
      · exact near_4 x t w h0 h1 h2 h3 hx
    · exact near_out x t n w (by omega)
  · exact near_out x t n w (by omega)
end Go.Proofs.Ytbigklbchnmjoaa
