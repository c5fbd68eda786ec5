/- The contracts of the functions of pnum and of the reference, in one form; that the document's rows are met. -/
import Derived.Test.YtbigklbchnmjoaaExpand
import Derived.Test.YtbigklbchnmjoaaPlain2
import Derived.WalkSpells
import Derived.WalkLawsBesides
namespace Go.Proofs.Ytbigklbchnmjoaa
set_option linter.unusedVariables false
open Go.RowKit Go.Proofs.YtbigklbchnmjoaaW.PrintWords Go.Proofs.YtbigklbchnmjoaaW.PrintLast Go.Proofs.YtbigklbchnmjoaaW.PrintMore Go.Proofs.Ytbigklbchnmjoaa.PPnumTells

theorem nextB {w w1 w2 : World} (h : Below w.heap.size w w1) (k : Below w1.heap.size w1 w2) : Below w.heap.size w w2 := h.trans (k.mono h.size)

theorem bytes_c (x y : Int) (b : Bool) (r : Int) (w : World) (hr : bytesS x y b = r) (h0 : 0 ≤ x) (h1 : x < 18446744073709551616) (h2 : 0 ≤ y) (h3 : y < 18446744073709551616) :
    Calls Try.prog 7 #[.int .u64 x, .int .u64 y, .bool b] w fun e w' => e = .returned (.int .i64 r) ∧ Below w.heap.size w w' := by
  refine (pnum_Bytes.calls 10 x y b _ w (bytes_f x y b h0 h1 h2 h3)).mono ?_
  rintro e w' ⟨rfl, hd⟩
  exact ⟨by rw [hr], hd.below⟩
theorem ref_bytes_c (x y : Int) (b : Bool) (r : Int) (w : World) (hr : bytesS x y b = r) (h0 : 0 ≤ x) (h1 : x < 18446744073709551616) (h2 : 0 ≤ y) (h3 : y < 18446744073709551616) :
    Calls Try.prog 8 #[.int .u64 x, .int .u64 y, .bool b] w fun e w' => e = .returned (.int .i64 r) ∧ Below w.heap.size w w' := by
  refine (hostlerref05_Bytes.calls 12 x y b _ w (ref_bytes_f x y b h0 h1 h2 h3)).mono ?_
  rintro e w' ⟨rfl, hd⟩
  exact ⟨by rw [hr], hd.below⟩
theorem trunc_c (x n r : Int) (w : World) (hr : truncS x n = r) (h0 : 0 ≤ x) :
    Calls Try.prog 9 #[.int .u64 x, .int .i64 n] w fun e w' => e = .returned (.int .u64 r) ∧ Below w.heap.size w w' := by
  refine (pnum_Truncate.calls x n _ w (trunc_f x n h0)).mono ?_
  rintro e w' ⟨rfl, hd⟩
  exact ⟨by rw [hr], hd.below⟩
theorem ref_trunc_c (x n r : Int) (w : World) (hr : truncS x n = r) (h0 : 0 ≤ x) :
    Calls Try.prog 10 #[.int .u64 x, .int .i64 n] w fun e w' => e = .returned (.int .u64 r) ∧ Below w.heap.size w w' := by
  refine (hostlerref05_Truncate.calls 12 x n _ w (ref_trunc_f x n h0)).mono ?_
  rintro e w' ⟨rfl, hd⟩
  exact ⟨by rw [hr], hd.below⟩
theorem ref_expand_c (y t n r : Int) (w : World) (hr : expF y t n = r) (h0 : 0 ≤ y) (h1 : y < 18446744073709551616) (h2 : 0 ≤ t) :
    Calls Try.prog 12 #[.int .u64 y, .int .u64 t, .int .i64 n] w fun e w' => e = .returned (.int .u64 r) ∧ Below w.heap.size w w' := by
  refine (hostlerref05_Expand.calls 12 y t n _ w (ref_expand_f y t n h0 h1 h2)).mono ?_
  rintro e w' ⟨rfl, hd⟩
  exact ⟨by rw [hr], hd.below⟩

set_option maxHeartbeats 400000 in
theorem expand_low (y t n : Int) (w : World) (hn : n < 1) :
    Calls Try.prog 11 #[.int .u64 y, .int .u64 t, .int .i64 n] w fun e w' => e = .returned (.int .u64 0) ∧ Below w.heap.size w w' := by
  go_enter Try.func11, Try.ntmps11
  go_wp2
  go_ret
  exact ⟨rfl, (Below.refl _ _).alloc (by simp) _⟩
set_option maxHeartbeats 400000 in
theorem expand_high (y t n : Int) (w : World) (hn : 4 < n) :
    Calls Try.prog 11 #[.int .u64 y, .int .u64 t, .int .i64 n] w fun e w' => e = .returned (.int .u64 0) ∧ Below w.heap.size w w' := by
  go_enter Try.func11, Try.ntmps11
  go_wp2
  go_ret
  exact ⟨rfl, (Below.refl _ _).alloc (by simp) _⟩

theorem expand_c (y t n r : Int) (w : World) (hr : expF y t n = r) (h0 : 0 ≤ y) (h1 : y < 18446744073709551616) (h2 : 0 ≤ t) (h3 : t < 18446744073709551616) :
    Calls Try.prog 11 #[.int .u64 y, .int .u64 t, .int .i64 n] w fun e w' => e = .returned (.int .u64 r) ∧ Below w.heap.size w w' := by
  subst hr
  unfold expF
  by_cases hn : 1 ≤ n ∧ n ≤ 4
  · rw [if_pos hn]
    have hc := wind_cases n hn.1 hn.2
    by_cases hy : 4611686018427387903 < y
    · rw [if_pos hy]
      rcases hc with ⟨rfl, hW⟩ | ⟨rfl, hW⟩ | ⟨rfl, hW⟩ | ⟨rfl, hW⟩
      · rw [hW]
        by_cases h4 : 256 ≤ 4611686018427387903 - 4611686018427387903 % 256 + t % (256 : Int)
        · exact expand_1_h_b _ y t w rfl (by omega) (by omega) hy h1 h2 h3 h4
        · exact expand_1_l_b _ y t w rfl (by omega) (by omega) hy h1 h2 h3 h4
      · rw [hW]
        by_cases h4 : 65536 ≤ 4611686018427387903 - 4611686018427387903 % 65536 + t % (65536 : Int)
        · exact expand_2_h_b _ y t w rfl (by omega) (by omega) hy h1 h2 h3 h4
        · exact expand_2_l_b _ y t w rfl (by omega) (by omega) hy h1 h2 h3 h4
      · rw [hW]
        by_cases h4 : 16777216 ≤ 4611686018427387903 - 4611686018427387903 % 16777216 + t % (16777216 : Int)
        · exact expand_3_h_b _ y t w rfl (by omega) (by omega) hy h1 h2 h3 h4
        · exact expand_3_l_b _ y t w rfl (by omega) (by omega) hy h1 h2 h3 h4
      · rw [hW]
        by_cases h4 : 4294967296 ≤ 4611686018427387903 - 4611686018427387903 % 4294967296 + t % (4294967296 : Int)
        · exact expand_4_h_b _ y t w rfl (by omega) (by omega) hy h1 h2 h3 h4
        · exact expand_4_l_b _ y t w rfl (by omega) (by omega) hy h1 h2 h3 h4
    · rw [if_neg hy]
      rcases hc with ⟨rfl, hW⟩ | ⟨rfl, hW⟩ | ⟨rfl, hW⟩ | ⟨rfl, hW⟩
      · rw [hW]
        by_cases h4 : 256 ≤ y - y % 256 + t % 256
        · exact expand_1_h_s y y t w rfl (by omega) (by omega) (by omega) h1 h2 h3 h4
        · exact expand_1_l_s y y t w rfl (by omega) (by omega) (by omega) h1 h2 h3 h4
      · rw [hW]
        by_cases h4 : 65536 ≤ y - y % 65536 + t % 65536
        · exact expand_2_h_s y y t w rfl (by omega) (by omega) (by omega) h1 h2 h3 h4
        · exact expand_2_l_s y y t w rfl (by omega) (by omega) (by omega) h1 h2 h3 h4
      · rw [hW]
        by_cases h4 : 16777216 ≤ y - y % 16777216 + t % 16777216
        · exact expand_3_h_s y y t w rfl (by omega) (by omega) (by omega) h1 h2 h3 h4
        · exact expand_3_l_s y y t w rfl (by omega) (by omega) (by omega) h1 h2 h3 h4
      · rw [hW]
        by_cases h4 : 4294967296 ≤ y - y % 4294967296 + t % 4294967296
        · exact expand_4_h_s y y t w rfl (by omega) (by omega) (by omega) h1 h2 h3 h4
        · exact expand_4_l_s y y t w rfl (by omega) (by omega) (by omega) h1 h2 h3 h4
  · rw [if_neg hn]
    by_cases h : n < 1
    · exact expand_low y t n w h
    · exact expand_high y t n w (by omega)

set_option maxHeartbeats 1000000 in
theorem known_c (w : World) : Calls Try.prog 6 #[] w fun e w' => e = .returned (.bool true) ∧ Below w.heap.size w w' := by
  go_enter Try.func6, Try.ntmps6
  go_wp2_with (fail)
  refine (bytes_c 11295746 11266227 true 2 _ (by decide +kernel) (by omega) (by omega) (by omega) (by omega)).mono ?_
  rintro e w1 ⟨rfl, b1⟩
  go_wp2_with (fail)
  refine (bytes_c 11331838 11266227 true 3 _ (by decide +kernel) (by omega) (by omega) (by omega) (by omega)).mono ?_
  rintro e w2 ⟨rfl, b2⟩
  go_wp2_with (fail)
  refine (trunc_c 11295746 2 23554 _ (by decide +kernel) (by omega)).mono ?_
  rintro e w3 ⟨rfl, b3⟩
  go_wp2_with (fail)
  refine (expand_c 2821665003 39730 2 2821692210 _ (by decide +kernel) (by omega) (by omega) (by omega) (by omega)).mono ?_
  rintro e w4 ⟨rfl, b4⟩
  go_wp2_with (fail)
  refine (bytes_c 0 0 false 1 _ (by decide +kernel) (by omega) (by omega) (by omega) (by omega)).mono ?_
  rintro e w5 ⟨rfl, b5⟩
  go_wp2_with (fail)
  refine (bytes_c 127 0 false 2 _ (by decide +kernel) (by omega) (by omega) (by omega) (by omega)).mono ?_
  rintro e w6 ⟨rfl, b6⟩
  go_wp2_with (fail)
  refine (expand_c 0 255 1 255 _ (by decide +kernel) (by omega) (by omega) (by omega) (by omega)).mono ?_
  rintro e w7 ⟨rfl, b7⟩
  go_wp2_with (fail)
  refine (expand_c 300 40 1 296 _ (by decide +kernel) (by omega) (by omega) (by omega) (by omega)).mono ?_
  rintro e w8 ⟨rfl, b8⟩
  go_wp2_with (fail)
  refine (trunc_c 5 0 0 _ (by decide +kernel) (by omega)).mono ?_
  rintro e w9 ⟨rfl, b9⟩
  go_wp2_with (fail)
  go_ret
  exact ⟨rfl, (nextB (nextB (nextB (nextB (nextB (nextB (nextB (nextB b1 b2) b3) b4) b5) b6) b7) b8) b9)⟩

set_option maxHeartbeats 1000000 in
theorem tells_c (x y n : Int) (b : Bool) (w : World) (h0 : 0 ≤ x) (h1 : x < 18446744073709551616) (h2 : 0 ≤ y) (h3 : y < 18446744073709551616) :
    Calls Try.prog 3 #[.int .u64 x, .int .u64 y, .bool b, .int .i64 n] w fun e w' => e = .returned (.bool true) ∧ Below w.heap.size w w' := by
  go_enter Try.func3, Try.ntmps3
  go_wp2_with (fail)
  refine (known_c _).mono ?_
  rintro e w1 ⟨rfl, b1⟩
  go_wp2_with (fail)
  refine (bytes_c x y b _ _ rfl h0 h1 h2 h3).mono ?_
  rintro e w2 ⟨rfl, b2⟩
  go_wp2_with (fail)
  refine (ref_bytes_c x y b _ _ rfl h0 h1 h2 h3).mono ?_
  rintro e w3 ⟨rfl, b3⟩
  go_wp2_with (fail)
  refine (trunc_c x n _ _ rfl h0).mono ?_
  rintro e w4 ⟨rfl, b4⟩
  go_wp2_with (fail)
  refine (ref_trunc_c x n _ _ rfl h0).mono ?_
  rintro e w5 ⟨rfl, b5⟩
  go_wp2_with (fail)
  refine (expand_c y x n _ _ rfl h2 h3 h0 h1).mono ?_
  rintro e w6 ⟨rfl, b6⟩
  go_wp2_with (fail)
  refine (ref_expand_c y x n _ _ rfl h2 h3 h0).mono ?_
  rintro e w7 ⟨rfl, b7⟩
  go_wp2_with (fail)
  go_ret
  exact ⟨rfl, (nextB (nextB (nextB (nextB (nextB (nextB b1 b2) b3) b4) b5) b6) b7)⟩
end Go.Proofs.Ytbigklbchnmjoaa
