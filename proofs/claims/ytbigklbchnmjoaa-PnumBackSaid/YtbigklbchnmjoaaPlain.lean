/- Plain laws of numbers: what is needed, truncated, expanded, by the program's functions as they were printed and by the reference's. -/
import Derived.Test.YtbigklbchnmjoaaPPnumTellsx2
import Derived.Test.YtbigklbchnmjoaaTryAny
namespace Go.Proofs.Ytbigklbchnmjoaa
open Go.RowKit Go.Proofs.YtbigklbchnmjoaaW.PrintWords Go.Proofs.YtbigklbchnmjoaaW.PrintLast Go.Proofs.YtbigklbchnmjoaaW.PrintMore Go.Proofs.Ytbigklbchnmjoaa.PPnumTells

theorem u64_mod (z : Int) : IntKind.u64.wrap z = z % 18446744073709551616 := by simp [IntKind.wrap, IntKind.bits, IntKind.signed]
theorem w64_1 : wrap64 (1 + 1) = 2 := by decide +kernel
theorem w64_2 : wrap64 (2 + 1) = 3 := by decide +kernel
theorem w64_3 : wrap64 (3 + 1) = 4 := by decide +kernel
theorem w64_0 : wrap64 (0 + 1) = 1 := by decide +kernel
theorem sh1 : shl .u64 1 (wrap64 (wrap64 (8 * 1) - 1)) = 128 := by decide +kernel
theorem sh2 : shl .u64 1 (wrap64 (wrap64 (8 * 2) - 1)) = 32768 := by decide +kernel
theorem sh3 : shl .u64 1 (wrap64 (wrap64 (8 * 3) - 1)) = 8388608 := by decide +kernel
theorem sn1 : 0 ≤ wrap64 (wrap64 (8 * 1) - 1) := by decide +kernel
theorem sn2 : 0 ≤ wrap64 (wrap64 (8 * 2) - 1) := by decide +kernel
theorem sn3 : 0 ≤ wrap64 (wrap64 (8 * 3) - 1) := by decide +kernel

/-- How many bytes a distance needs. -/
def need (w : Int) : Int := if w < 128 then 1 else if w < 32768 then 2 else if w < 8388608 then 3 else 4

theorem l0_need (k : Nat) (w : Int) : pnum_Bytes.l0 (k + 4) w 1 = some (need w) := by
  simp only [pnum_Bytes.l0, w64_1, w64_2, w64_3, sh1, sh2, sh3, if_pos sn1, if_pos sn2, if_pos sn3]
  unfold need
  by_cases h1 : w < 128
  · rw [if_pos (by decide), if_neg (by omega), if_pos h1]
  · rw [if_pos (by decide), if_pos (by omega), if_neg h1, if_pos (by decide)]
    by_cases h2 : w < 32768
    · rw [if_neg (by omega), if_pos h2]
    · rw [if_pos (by omega), if_neg h2, if_pos (by decide)]
      by_cases h3 : w < 8388608
      · rw [if_neg (by omega), if_pos h3]
      · rw [if_pos (by omega), if_neg h3, if_neg (by decide)]

/-- Bytes, in one word. -/
def bytesS (x y : Int) (b : Bool) : Int := if b = true then (if x ≤ y then 1 else need (x - y)) else (if x = 18446744073709551615 then 4 else need (x + 1))

theorem bytes_f (x y : Int) (b : Bool) (hx0 : 0 ≤ x) (hx1 : x < 18446744073709551616) (hy0 : 0 ≤ y) (hy1 : y < 18446744073709551616) : pnum_Bytes.f 10 x y b = some (bytesS x y b) := by
  unfold pnum_Bytes.f bytesS
  cases b with
  | true =>
    rw [if_pos rfl, if_pos rfl]
    by_cases h : x ≤ y
    · rw [if_pos h, decide_eq_true h]
      simp only [pnum_Bytes.j0, if_true, pnum_Bytes.j1]
      rw [l0_need 4]; rfl
    · rw [if_neg h, decide_eq_false h]
      simp only [pnum_Bytes.j0, if_true, pnum_Bytes.j1, Bool.false_eq_true, if_false]
      rw [l0_need 4, u64_mod]
      congr 2; omega
  | false =>
    rw [if_neg (by decide), if_neg (by decide)]
    simp only [pnum_Bytes.j0, pnum_Bytes.j1, Bool.false_eq_true, if_false]
    rw [u64_mod]
    by_cases h : x = 18446744073709551615
    · rw [if_pos h, if_pos (by omega)]
    · rw [if_neg h, if_neg (by omega), l0_need 4]
      congr 2; omega

theorem win (k : Nat) (n W : Int) (hn : n = 1 ∧ W = 256 ∨ n = 2 ∧ W = 65536 ∨ n = 3 ∧ W = 16777216 ∨ n = 4 ∧ W = 4294967296) : hostlerref05_window.f (k + 5) n = some W := by
  have a1 : IntKind.u64.wrap (256 * 1) = 256 := by decide +kernel
  have a2 : IntKind.u64.wrap (256 * 256) = 65536 := by decide +kernel
  have a3 : IntKind.u64.wrap (256 * 65536) = 16777216 := by decide +kernel
  have a4 : IntKind.u64.wrap (256 * 16777216) = 4294967296 := by decide +kernel
  unfold hostlerref05_window.f
  rcases hn with ⟨rfl, rfl⟩ | ⟨rfl, rfl⟩ | ⟨rfl, rfl⟩ | ⟨rfl, rfl⟩ <;> simp only [hostlerref05_window.l0, w64_0, w64_1, w64_2, w64_3, a1, a2, a3, a4] <;> rfl

theorem ref_bytes_f (x y : Int) (b : Bool) (hx0 : 0 ≤ x) (hx1 : x < 18446744073709551616) (hy0 : 0 ≤ y) (hy1 : y < 18446744073709551616) : hostlerref05_Bytes.f 12 x y b = some (bytesS x y b) := by
  have d1 : IntKind.u64.wrap (Int.tdiv 256 2) = 128 := by decide +kernel
  have d2 : IntKind.u64.wrap (Int.tdiv 65536 2) = 32768 := by decide +kernel
  have d3 : IntKind.u64.wrap (Int.tdiv 16777216 2) = 8388608 := by decide +kernel
  have e1 : IntKind.u64.wrap (128 - 1) = 127 := by decide +kernel
  have e2 : IntKind.u64.wrap (32768 - 1) = 32767 := by decide +kernel
  have e3 : IntKind.u64.wrap (8388608 - 1) = 8388607 := by decide +kernel
  have W1 := fun k => win k 1 256 (.inl ⟨rfl, rfl⟩)
  have W2 := fun k => win k 2 65536 (.inr (.inl ⟨rfl, rfl⟩))
  have W3 := fun k => win k 3 16777216 (.inr (.inr (.inl ⟨rfl, rfl⟩)))
  unfold hostlerref05_Bytes.f bytesS
  cases b with
  | true =>
    rw [if_pos rfl, if_pos rfl]
    by_cases h : x ≤ y
    · rw [if_pos h, decide_eq_true h]
      simp only [hostlerref05_Bytes.j0, if_true]
    · rw [if_neg h, decide_eq_false h]
      have hw : IntKind.u64.wrap (x - y) = x - y := by rw [u64_mod]; omega
      simp only [hostlerref05_Bytes.j0, hostlerref05_Bytes.l0, if_true, Bool.false_eq_true, if_false, W1, W2, W3, Option.bind_some, hw, d1, d2, d3, w64_1, w64_2, w64_3]
      unfold need
      by_cases h1 : x - y < 128
      · rw [if_pos (by decide), if_pos h1, if_pos h1]
      · rw [if_pos (by decide), if_neg h1, if_neg h1, if_pos (by decide)]
        by_cases h2 : x - y < 32768
        · rw [if_pos h2, if_pos h2]
        · rw [if_neg h2, if_neg h2, if_pos (by decide)]
          by_cases h3 : x - y < 8388608
          · rw [if_pos h3, if_pos h3]
          · rw [if_neg h3, if_neg h3, if_neg (by decide)]
  | false =>
    rw [if_neg (by decide), if_neg (by decide)]
    simp only [hostlerref05_Bytes.j0, hostlerref05_Bytes.l0, Bool.false_eq_true, if_false, W1, W2, W3, Option.bind_some, d1, d2, d3, e1, e2, e3, w64_1, w64_2, w64_3]
    unfold need
    by_cases h : x = 18446744073709551615
    · rw [if_pos h, if_pos (by decide), if_neg (by omega), if_pos (by decide), if_neg (by omega), if_pos (by decide), if_neg (by omega), if_neg (by decide)]
    · rw [if_neg h]
      by_cases h1 : x < 127
      · rw [if_pos (by decide), if_pos h1, if_pos (by omega)]
      · rw [if_pos (by decide), if_neg h1, if_pos (by decide)]
        rw [if_neg (show ¬ x + 1 < 128 by omega)]
        by_cases h2 : x < 32767
        · rw [if_pos h2, if_pos (by omega)]
        · rw [if_neg h2, if_pos (by decide), if_neg (show ¬ x + 1 < 32768 by omega)]
          by_cases h3 : x < 8388607
          · rw [if_pos h3, if_pos (by omega)]
          · rw [if_neg h3, if_neg (by decide), if_neg (by omega)]

/-- What so many bytes tell: 0, where there are no such. -/
def wind (n : Int) : Int := if n = 1 then 256 else if n = 2 then 65536 else if n = 3 then 16777216 else if n = 4 then 4294967296 else 0
theorem wind_cases (n : Int) (h : 1 ≤ n) (h' : n ≤ 4) : n = 1 ∧ wind n = 256 ∨ n = 2 ∧ wind n = 65536 ∨ n = 3 ∧ wind n = 16777216 ∨ n = 4 ∧ wind n = 4294967296 := by
  have : n = 1 ∨ n = 2 ∨ n = 3 ∨ n = 4 := by omega
  rcases this with rfl | rfl | rfl | rfl <;> simp [wind]
def truncS (x n : Int) : Int := if 1 ≤ n ∧ n ≤ 4 then x % wind n else 0

theorem trunc_f (x n : Int) (h0 : 0 ≤ x) : pnum_Truncate.f x n = some (truncS x n) := by
  unfold pnum_Truncate.f truncS
  by_cases h1 : n < 1
  · rw [if_pos h1, if_neg (by omega)]
  · by_cases h2 : n > 4
    · rw [if_neg h1, if_pos h2, if_neg (by omega)]
    · rw [if_neg h1, if_neg h2]
      have hs : shl .u64 1 (wrap64 (8 * n)) = wind n ∧ 0 ≤ wrap64 (8 * n) ∧ wind n ≠ 0 := by
        have := wind_cases n (by omega) (by omega)
        rcases this with ⟨rfl, h⟩ | ⟨rfl, h⟩ | ⟨rfl, h⟩ | ⟨rfl, h⟩ <;> decide +kernel
      rw [if_pos hs.2.1, hs.1, if_neg hs.2.2, if_pos (by omega)]
      rw [Int.tmod_eq_emod_of_nonneg h0]

theorem ref_trunc_f (x n : Int) (h0 : 0 ≤ x) : hostlerref05_Truncate.f 12 x n = some (truncS x n) := by
  unfold hostlerref05_Truncate.f truncS
  by_cases h1 : n < 1
  · rw [if_pos h1, if_neg (by omega)]
  · by_cases h2 : n > 4
    · rw [if_neg h1, if_pos h2, if_neg (by omega)]
    · rw [if_neg h1, if_neg h2, if_pos (by omega)]
      have hc := wind_cases n (by omega) (by omega)
      rw [win 7 n (wind n) hc]
      simp only [Option.bind_some]
      rw [if_neg (by omega), Int.tmod_eq_emod_of_nonneg h0]
end Go.Proofs.Ytbigklbchnmjoaa
