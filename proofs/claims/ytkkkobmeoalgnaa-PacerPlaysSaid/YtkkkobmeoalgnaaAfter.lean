/- A pacer as it stands at a tick: what its call answers. -/
import Derived.Test.YtkkkobmeoalgnaaObj
import Derived.Shelf.Bits.Mul64
import Derived.Laws.Rows
namespace Go.Proofs.Ytkkkobmeoalgnaa
set_option linter.unusedVariables false
set_option linter.unusedSimpArgs false
open Go.RowKit
/-- The level at a tick. -/
def lv (r b t l now : Int) : Int := if now ≤ t then l else min (b * 1000000) (l + (now - t) * r)
/-- The tick it stands at. -/
def tm (t now : Int) : Int := if now ≤ t then t else now
/-- The bounds of a pacer. -/
structure Ok (r b t l : Int) : Prop where
  r1 : 1 ≤ r
  r2 : r ≤ 1073741824
  b1 : 1200 ≤ b
  b2 : b ≤ 1073741824
  t1 : 0 ≤ t
  t2 : t < 18446744073709551616
  l1 : 0 ≤ l
  l2 : l ≤ b * 1000000
set_option maxHeartbeats 4000000 in
theorem mul64_c (x y : Nat) (hx : x < 18446744073709551616) (hy : y < 18446744073709551616) (w : World) :
    Calls Try.prog 20 #[.int .u64 x, .int .u64 y] w fun e w' => e = .returned (.tuple #[.int .u64 ((x * y / 18446744073709551616 : Nat) : Int), .int .u64 ((x * y % 18446744073709551616 : Nat) : Int)]) ∧ w' = w := by
  obtain ⟨bd, bt, bw, hhi⟩ := Lib.mul64_hi x y hx hy
  have ba := Lib.half_mul_le (a := x / 4294967296) (b := y / 4294967296) (by omega) (by omega)
  have bb := Lib.half_mul_le (a := x / 4294967296) (b := y % 4294967296) (by omega) (by omega)
  have bc := Lib.half_mul_le (a := x % 4294967296) (b := y / 4294967296) (by omega) (by omega)
  have ba' : x / 4294967296 * (y / 4294967296) < 18446744073709551616 := by omega
  have bb' : x / 4294967296 * (y % 4294967296) < 18446744073709551616 := by omega
  have bc' : x % 4294967296 * (y / 4294967296) < 18446744073709551616 := by omega
  have bh1 : x / 4294967296 * (y / 4294967296) + (x / 4294967296 * (y % 4294967296) + x % 4294967296 * (y % 4294967296) / 4294967296) / 4294967296 < 18446744073709551616 := by omega
  have bh : x / 4294967296 * (y / 4294967296) + (x / 4294967296 * (y % 4294967296) + x % 4294967296 * (y % 4294967296) / 4294967296) / 4294967296 + ((x / 4294967296 * (y % 4294967296) + x % 4294967296 * (y % 4294967296) / 4294967296) % 4294967296 + x % 4294967296 * (y / 4294967296)) / 4294967296 < 18446744073709551616 := by omega
  go_enter Try.func20, Try.ntmps20
  go_wp2
  simp only [Mul64.maskN x hx, Mul64.maskN y hy, Mul64.divN, Mul64.mulN, Mul64.addN, Mul64.wrapN _ bd, Mul64.wrapN _ bb', Mul64.wrapN _ bt, Mul64.maskN _ bt, Mul64.wrapN _ bc', Mul64.wrapN _ bw, Mul64.wrapN _ ba', Mul64.wrapN _ bh1, Mul64.wrapN _ bh, Mul64.wrapM (x * y)]
  rw [hhi]
  go_ret2
  exact ⟨rfl, rfl⟩
section
variable (w : World) (B : Nat) (r b t l now : Int)
set_option maxHeartbeats 4000000 in
theorem after_early (h : At w B r b t l) (c : now ≤ t) :
    Calls Try.prog 19 #[.pointer (some ⟨B, 0, none⟩), .int .u64 now] w fun e w' => e = .returned (.agg #[.int .u64 r, .int .u64 b, .int .u64 t, .int .u64 l]) ∧ Below w.heap.size w w' := by
  have hu49 := Try.underlying49
  have d : decide (now ≤ t) = true := decide_eq_true c
  have c0 := h.c0
  have c1 := h.c1
  have c2 := h.c2
  have c3 := h.c3
  have hlt := h.lt
  go_enter Try.func19, Try.ntmps19
  go_wp2_with (fail)
  refine bodyPost_ret (results_cell_row rfl _ _ w.heap.size 49 #[.int .u64 r, .int .u64 b, .int .u64 t, .int .u64 l] (0, 0) _ rfl (blk_alloc _ (blk_new _ _)) Try.underlying49 rfl (by kernel_rfl)) rfl ?_
  exact ⟨rfl, ((Below.refl _ _).alloc (Nat.le_refl _) _).alloc (by simp) _⟩
set_option maxHeartbeats 4000000 in
theorem after_late (h : At w B r b t l) (o : Ok r b t l) (c : t < now) (n2 : now < 18446744073709551616) :
    Calls Try.prog 19 #[.pointer (some ⟨B, 0, none⟩), .int .u64 now] w fun e w' => e = .returned (.agg #[.int .u64 r, .int .u64 b, .int .u64 now, .int .u64 (min (b * 1000000) (l + (now - t) * r))]) ∧ Below w.heap.size w w' := by
  obtain ⟨r1, r2, b1, b2, t1, t2, l1, l2⟩ := o
  have d : decide (now ≤ t) = false := decide_eq_false (by omega)
  have c0 := h.c0
  have c1 := h.c1
  have c2 := h.c2
  have c3 := h.c3
  have hlt := h.lt
  have e1 : now - t = ((now - t).toNat : Int) := by omega
  have e2 : r = (r.toNat : Int) := by omega
  have em : (now - t) * r = (((now - t).toNat * r.toNat : Nat) : Int) := by
    rw [Int.natCast_mul]
    congr 1
  have mc := mul64_c (now - t).toNat r.toNat (by omega) (by omega)
  rw [← e1, ← e2] at mc
  rw [em]
  clear e1 e2 em
  generalize (now - t).toNat * r.toNat = M at *
  have HM := Lib.hid mc
  clear mc
  have HMO : ∃ hi lo : Int, hi = ((M / 18446744073709551616 : Nat) : Int) ∧ lo = ((M % 18446744073709551616 : Nat) : Int) ∧ 0 ≤ hi ∧ 0 ≤ lo ∧ lo < 18446744073709551616 ∧ (hi = 0 → lo = M) ∧ (0 < hi → 18446744073709551616 ≤ (M : Int)) := ⟨_, _, rfl, rfl, by omega, by omega, by omega, by omega, by omega⟩
  obtain ⟨hi, lo, hh, hl, g0, g1, g2, g3, g4⟩ := HMO
  have HM2 := HM.out
  rw [← hh, ← hl] at HM2
  have HMC := Lib.hid HM2
  clear HM HM2 hh hl
  have hm : min (b * 1000000) (l + (M : Int)) = if 0 < hi then b * 1000000 else if b * 1000000 - l ≤ lo then b * 1000000 else l + lo := by
    by_cases d1 : 0 < hi
    · rw [if_pos d1]
      have := g4 d1
      omega
    · have := g3 (by omega)
      rw [if_neg d1]
      by_cases d2 : b * 1000000 - l ≤ lo
      · rw [if_pos d2]; omega
      · rw [if_neg d2]; omega
  rw [hm]
  clear hm g3 g4
  by_cases d1 : 0 < hi
  · have d1' : decide (0 < hi) = true := decide_eq_true d1
    rw [if_pos d1]
    go_enter Try.func19, Try.ntmps19
    go_wp2_with (fail)
    refine (HMC.out _).mono ?_
    rintro e w1 ⟨rfl, rfl⟩
    go_wp2_with (fail)
    refine bodyPost_ret (results_cell_row rfl _ _ w.heap.size 49 #[.int .u64 r, .int .u64 b, .int .u64 now, .int .u64 (b * 1000000)] (0, 0) _ rfl (blk_alloc _ (blk_new _ _)) Try.underlying49 rfl (by kernel_rfl)) rfl ?_
    exact ⟨rfl, ((Below.refl _ _).alloc (Nat.le_refl _) _).alloc (by simp) _⟩
  · have d1' : decide (0 < hi) = false := decide_eq_false d1
    rw [if_neg d1]
    by_cases d2 : b * 1000000 - l ≤ lo
    · have d2' : decide (b * 1000000 - l ≤ lo) = true := decide_eq_true d2
      rw [if_pos d2]
      go_enter Try.func19, Try.ntmps19
      go_wp2_with (fail)
      refine (HMC.out _).mono ?_
      rintro e w1 ⟨rfl, rfl⟩
      go_wp2_with (fail)
      refine bodyPost_ret (results_cell_row rfl _ _ w.heap.size 49 #[.int .u64 r, .int .u64 b, .int .u64 now, .int .u64 (b * 1000000)] (0, 0) _ rfl (blk_alloc _ (blk_new _ _)) Try.underlying49 rfl (by kernel_rfl)) rfl ?_
      exact ⟨rfl, ((Below.refl _ _).alloc (Nat.le_refl _) _).alloc (by simp) _⟩
    · have d2' : decide (b * 1000000 - l ≤ lo) = false := decide_eq_false d2
      rw [if_neg d2]
      go_enter Try.func19, Try.ntmps19
      go_wp2_with (fail)
      refine (HMC.out _).mono ?_
      rintro e w1 ⟨rfl, rfl⟩
      go_wp2_with (fail)
      refine bodyPost_ret (results_cell_row rfl _ _ w.heap.size 49 #[.int .u64 r, .int .u64 b, .int .u64 now, .int .u64 (l + lo)] (0, 0) _ rfl (blk_alloc _ (blk_new _ _)) Try.underlying49 rfl (by kernel_rfl)) rfl ?_
      exact ⟨rfl, ((Below.refl _ _).alloc (Nat.le_refl _) _).alloc (by simp) _⟩
theorem after_c (h : At w B r b t l) (o : Ok r b t l) (n1 : 0 ≤ now) (n2 : now < 18446744073709551616) :
    Calls Try.prog 19 #[.pointer (some ⟨B, 0, none⟩), .int .u64 now] w fun e w' => e = .returned (.agg #[.int .u64 r, .int .u64 b, .int .u64 (tm t now), .int .u64 (lv r b t l now)]) ∧ Below w.heap.size w w' := by
  unfold tm lv
  by_cases c : now ≤ t
  · rw [if_pos c, if_pos c]
    exact after_early w B r b t l now h c
  · rw [if_neg c, if_neg c]
    exact after_late w B r b t l now h o (by omega) n2
set_option maxHeartbeats 4000000 in
theorem may_yes (x : Int) (h0 : 1 ≤ x) (h1 : x ≤ 1073741824) :
    Calls Try.prog 18 #[.int .u64 x] w fun e w' => e = .returned (.bool true) ∧ Below w.heap.size w w' := by
  have d1 : decide (1 ≤ x) = true := decide_eq_true h0
  have d2 : decide (x ≤ 1073741824) = true := decide_eq_true h1
  go_enter Try.func18, Try.ntmps18
  go_wp2
  go_ret
  exact ⟨rfl, Below.refl _ _⟩
set_option maxHeartbeats 4000000 in
theorem may_no (x : Int) (h0 : ¬ (1 ≤ x ∧ x ≤ 1073741824)) :
    Calls Try.prog 18 #[.int .u64 x] w fun e w' => e = .returned (.bool false) ∧ Below w.heap.size w w' := by
  by_cases c : 1 ≤ x
  · have d1 : decide (1 ≤ x) = true := decide_eq_true c
    have d2 : decide (x ≤ 1073741824) = false := decide_eq_false (by omega)
    go_enter Try.func18, Try.ntmps18
    go_wp2
    go_ret
    exact ⟨rfl, Below.refl _ _⟩
  · have d1 : decide (1 ≤ x) = false := decide_eq_false c
    go_enter Try.func18, Try.ntmps18
    go_wp2
    go_ret
    exact ⟨rfl, Below.refl _ _⟩
end
theorem lv_ok {r b t l : Int} (now : Int) (o : Ok r b t l) : 0 ≤ lv r b t l now ∧ lv r b t l now ≤ b * 1000000 := by
  obtain ⟨r1, r2, b1, b2, t1, t2, l1, l2⟩ := o
  unfold lv
  by_cases c : now ≤ t
  · rw [if_pos c]; exact ⟨l1, l2⟩
  · rw [if_neg c]
    have : 0 ≤ (now - t) * r := Int.mul_nonneg (by omega) (by omega)
    omega
theorem ok_after {r b t l : Int} {now : Int} (o : Ok r b t l) (n1 : 0 ≤ now) (n2 : now < 18446744073709551616) : Ok r b (tm t now) (lv r b t l now) := by
  have h := lv_ok now o
  obtain ⟨r1, r2, b1, b2, t1, t2, l1, l2⟩ := o
  refine ⟨r1, r2, b1, b2, ?_, ?_, h.1, h.2⟩ <;> (unfold tm; split <;> omega)
end Go.Proofs.Ytkkkobmeoalgnaa
