/- The law's small thing is done right. -/
import Derived.Test.YtkkkobmeoalgnaaMeth
namespace Go.Proofs.Ytkkkobmeoalgnaa
set_option linter.unusedVariables false
set_option linter.unusedSimpArgs false
open Go.RowKit
theorem one_row {w : World} {g : Nat} {x : Int} {t : TypeId} (h : w.heap[g]? = some (.cells #[.int .u64 x] t (0, 0))) (h0 : 0 ≤ x) (h1 : x < 18446744073709551616) : IntRow .u64 w (some ⟨g, 0, none⟩) 1 [x] := by
  refine ⟨rfl, .inr ⟨g, 0, rfl, blk_lt h, fun j hj => ?_⟩⟩
  have : j = 0 := by omega
  subst this
  refine ⟨(blk_cell h 0).trans rfl, ?_⟩
  have : IntKind.u64.min ≤ x ∧ x ≤ IntKind.u64.max := ⟨h0, Int.le_of_lt_add_one h1⟩
  simpa [Lit.wf] using this
theorem ok_new {r b : Int} (h0 : 1 ≤ r) (h1 : r ≤ 1073741824) (h2 : 1200 ≤ b) (h3 : b ≤ 1073741824) : Ok r b 0 (b * 1000000) := ⟨h0, h1, h2, h3, by omega, by omega, by omega, by omega⟩
set_option maxHeartbeats 4000000 in
theorem works_c (w : World) : Calls Try.prog 9 #[] w fun e w' => e = .returned (.bool true) ∧ Below w.heap.size w w' := by
  go_enter Try.func9, Try.ntmps9
  go_wp2_with (fail)
  refine (new_yes 1000 2000 w (by omega) (by omega) (by omega) (by omega)).mono ?_
  rintro e w1 ⟨B, rfl, a1, hB, b1⟩
  have HB := Lib.hid hB
  have B1 := Lib.hid b1
  clear hB b1
  have l1 := a1.lt
  go_wp2_with (fail)
  refine (go_c _ B _ _ _ _ 0 (some ⟨w1.heap.size, 0, none⟩) 1 1 [1500] (one_row (blk_new _ _) (by omega) (by omega)) (by omega) (a1.below ((Below.refl _ _).alloc (Nat.le_refl _) _)) (ok_new (by omega) (by omega) (by omega) (by omega)) (by omega) (by omega)).mono ?_
  rintro e w2 h
  have hp : pack (lv 1000 2000 0 (2000 * 1000000) 0) [1500] = some 500000000 := by decide +kernel
  rw [hp] at h
  rcases h with ⟨h, _⟩ | ⟨L, hL, rfl, a2, b2, -, -⟩
  · cases h
  have hL' := Option.some.inj hL
  subst hL'
  have A2 : At w2 B 1000 2000 0 500000000 := a2
  have B2 : Below w.heap.size w w2 := (B1.out.alloc B1.out.size _).trans (b2.below HB.out (by have := B1.out.size; simp; omega))
  have HB2 := Lib.hid B2
  clear hp hL a2 b2 a1 B2
  have o2 : Ok 1000 2000 0 500000000 := ⟨by omega, by omega, by omega, by omega, by omega, by omega, by omega, by omega⟩
  go_wp2_with (fail)
  have m1 := may_c w2 B 1000 2000 0 500000000 0 501 A2 o2 (by omega) (by omega)
  rw [show decide ((501 : Int) ≤ lv 1000 2000 0 500000000 0 / 1000000) = false from by decide +kernel] at m1
  refine m1.mono ?_
  rintro e w3 ⟨rfl, b3⟩
  have A3 := A2.below b3
  go_wp2_with (fail)
  have m2 := may_c w3 B 1000 2000 0 500000000 1000 501 A3 o2 (by omega) (by omega)
  rw [show decide ((501 : Int) ≤ lv 1000 2000 0 500000000 1000 / 1000000) = true from by decide +kernel] at m2
  refine m2.mono ?_
  rintro e w4 ⟨rfl, b4⟩
  have A4 := A3.below b4
  go_wp2_with (fail)
  have m3 := next_wait w4 B 1000 2000 0 500000000 0 600 A4 o2 (by omega) (by omega) (by omega) (by omega) (by decide +kernel)
  rw [show tm 0 0 + min ((600 * 1000000 - lv 1000 2000 0 500000000 0 + 1000 - 1) / 1000) (18446744073709551615 - tm 0 0) = 100000 from by decide +kernel] at m3
  refine m3.mono ?_
  rintro e w5 ⟨rfl, b5⟩
  have A5 := A4.below b5
  have l5 := A5.lt
  go_wp2_with (fail)
  refine (go_c _ B _ _ _ _ 0 (some ⟨w5.heap.size, 0, none⟩) 1 1 [600] (one_row (blk_new _ _) (by omega) (by omega)) (by omega) (A5.below ((Below.refl _ _).alloc (Nat.le_refl _) _)) o2 (by omega) (by omega)).mono ?_
  rintro e w6 h
  have hp : pack (lv 1000 2000 0 500000000 0) [600] = none := by decide +kernel
  rw [hp] at h
  rcases h with ⟨_, rfl, b6⟩ | ⟨L, hL, _⟩
  · clear hp
    go_wp2_with (fail)
    go_ret
    exact ⟨rfl, nextB (nextB (nextB (nextB HB2.out b3) b4) b5) (nextB ((Below.refl _ _).alloc (Nat.le_refl _) _) b6)⟩
  · cases hL
end Go.Proofs.Ytkkkobmeoalgnaa
