/- The law's small thing is done right. -/
import Derived.Test.YtebbjmomakobaaaAcked
namespace Go.Proofs.Ytebbjmomakobaaa
set_option linter.unusedVariables false
set_option linter.unusedSimpArgs false
open Go.RowKit
set_option maxHeartbeats 4000000 in
theorem works_c (w : World) : Calls Try.prog 5 #[] w fun e w' => e = .returned (.bool true) ∧ Below w.heap.size w w' := by
  go_enter Try.func5, Try.ntmps5
  go_wp2_with (fail)
  refine (new_c _).mono ?_
  rintro e w1 ⟨rfl, a1, b1⟩
  generalize hB : w.heap.size = B at *
  have HB := Lib.hid hB
  clear hB
  have l1 := a1.lt
  have c0 := a1.c0
  go_wp2_with (fail)
  refine (may_c _ B _ _ _ _ _ _ 12000 a1 (by omega) (by omega) (by omega) (by omega)).mono ?_
  rintro e w2 ⟨rfl, n2, rfl⟩
  go_wp2_with (fail)
  refine (may_c _ B _ _ _ _ _ _ 12001 (a1.drewN n2) (by omega) (by omega) (by omega) (by omega)).mono ?_
  rintro e w3 ⟨rfl, n3, rfl⟩
  clear c0
  go_wp2_with (fail)
  refine (sent_row _ B w1.heap.size 0 2 _ _ _ _ _ _ [1200, 1200] ((a1.drewN (n2 + n3)).below ((Below.refl _ _).alloc (Nat.le_refl _) _)) (by omega) (by omega) ⟨by omega, by simp, ?_, ?_, ?_⟩ (by simp)).mono ?_
  · intro i hi
    have : i = 0 ∨ i = 1 := by simp at hi; omega
    rcases this with rfl | rfl
    · exact (blk_cell (blk_new _ _) 0).trans rfl
    · exact (blk_cell (blk_new _ _) 1).trans rfl
  · intro i hi
    have : i = 0 ∨ i = 1 := by simp at hi; omega
    rcases this with rfl | rfl <;> simp
  · intro i hi
    have : i = 0 ∨ i = 1 := by simp at hi; omega
    rcases this with rfl | rfl <;> simp
  rintro e w4 ⟨rfl, a4, b4⟩
  rw [show ([1200, 1200] : List Int).foldl sentF 0 = 2400 from by decide +kernel] at a4
  go_wp2_with (fail)
  refine (acked_slow _ B _ _ _ _ _ _ 5 1200 a4 (by omega) (by omega) (by omega) (by omega) (.inl rfl) (by omega) (by omega) (by omega)).mono ?_
  rintro e w5 ⟨rfl, a5, b5⟩
  rw [show (if 4611686018427387904 < 12000 + cap40 1200 then (4611686018427387904 : Int) else 12000 + cap40 1200) = 13200 from by decide +kernel, show goneF 2400 (cap40 1200) = 1200 from by decide +kernel] at a5
  have c0 := a5.c0
  have c2 := a5.c2
  go_wp2_with (fail)
  clear c0 c2
  refine (lost_yes _ B _ _ _ _ _ _ 7 9 a5 (.inl rfl) (by omega) (by omega)).mono ?_
  rintro e w6 ⟨rfl, a6, b6⟩
  rw [show (if (13200 : Int) / 2 < 2400 then (2400 : Int) else 13200 / 2) = 6600 from by decide +kernel] at a6
  go_wp2_with (fail)
  refine (lost_no _ B _ _ _ _ _ 8 10 a6 (by omega)).mono ?_
  rintro e wY ⟨rfl, rfl⟩
  have c0 := a6.c0
  go_wp2_with (fail)
  clear c0
  refine (lost_yes _ B _ _ _ _ _ _ 10 12 a6 (.inr (by omega)) (by omega) (by omega)).mono ?_
  rintro e w7 ⟨rfl, a7, b7⟩
  rw [show (if (6600 : Int) / 2 < 2400 then (2400 : Int) else 6600 / 2) = 3300 from by decide +kernel] at a7
  have c0 := a7.c0
  go_wp2_with (fail)
  go_ret
  refine ⟨rfl, ?_⟩
  rw [HB.out]
  exact b1.trans (((((((Only.refl _ _).drewN _).alloc _).trans b4).trans b5).trans b6 |>.trans b7).below (Nat.le_refl _) (by omega))
end Go.Proofs.Ytebbjmomakobaaa
