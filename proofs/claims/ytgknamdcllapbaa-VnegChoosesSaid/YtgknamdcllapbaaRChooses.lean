/- The walk of VnegChooses. -/
import Derived.Test.YtgknamdcllapbaaWorks
namespace Go.Proofs.Ytgknamdcllapbaa
set_option linter.unusedVariables false
set_option linter.unusedSimpArgs false
open Go.RowKit
set_option maxHeartbeats 4000000 in
theorem chooses_c (ms ts : List Int) (A : Option Addr) (n c : Nat) (B : Option Addr) (m d : Nat) (v : Int) (w : World) (h : IntRow .u32 w A n ms) (hn : n ≤ 9223372036854775807) (ht : IntRow .u32 w B m ts) (hm : m ≤ 9223372036854775807) (v0 : 0 ≤ v) (v1 : v ≤ 4294967295) :
    Calls Try.prog 3 #[.slice A n c, .slice B m d, .int .u32 v] w fun e w' => e = .returned (.bool true) ∧ Below w.heap.size w w' := by
  have HR := Lib.hid h
  have HS := Lib.hid ht
  clear h ht
  by_cases g : 200 < n
  · have t0 : decide ((200 : Int) < (n : Int)) = true := decide_eq_true (by omega)
    go_enter Try.func3, Try.ntmps3
    go_wp2_with (fail)
    refine (works_c _).mono ?_
    rintro e w1 ⟨rfl, b1⟩
    go_wp2_with (fail)
    go_ret
    exact ⟨rfl, b1⟩
  · have t0 : decide ((200 : Int) < (n : Int)) = false := decide_eq_false (by omega)
    by_cases g1 : 200 < m
    · have t1 : decide ((200 : Int) < (m : Int)) = true := decide_eq_true (by omega)
      go_enter Try.func3, Try.ntmps3
      go_wp2_with (fail)
      refine (works_c _).mono ?_
      rintro e w1 ⟨rfl, b1⟩
      go_wp2_with (fail)
      go_ret
      exact ⟨rfl, b1⟩
    · have t1 : decide ((200 : Int) < (m : Int)) = false := decide_eq_false (by omega)
      have c1 := choose_c ms ts A n c B m d w HR.out hn HS.out hm
      have c2 := refchoose_c ms ts A n c B m d w HR.out hn HS.out hm
      have r1 := reserved_i v w v0 v1
      have r2 := refres_c v w v0 v1
      obtain ⟨N, rfl⟩ := Int.eq_ofNat_of_zero_le v0
      obtain ⟨M, hM, eM, rM⟩ := res_grease N (by omega)
      have r3 := reserved_c M w hM
      rw [rM] at r3
      generalize pick ts ms = P at *
      obtain ⟨p, q⟩ := P
      generalize res (N : Int) = R at *
      have C1 := Lib.hid c1
      have C2 := Lib.hid c2
      have R1 := Lib.hid r1
      have R2 := Lib.hid r2
      have R3 := Lib.hid r3
      clear c1 c2 r1 r2 r3 rM
      cases q <;> cases R
      all_goals
        go_enter Try.func3, Try.ntmps3
        go_wp2_with (fail)
        refine C1.out.mono ?_
        rintro e w1 ⟨rfl, rfl⟩
        go_wp2_with (fail)
        refine C2.out.mono ?_
        rintro e w1 ⟨rfl, rfl⟩
        go_wp2_with (fail)
        refine R1.out.mono ?_
        rintro e w1 ⟨rfl, rfl⟩
        go_wp2_with (fail)
        refine R2.out.mono ?_
        rintro e w1 ⟨rfl, rfl⟩
        go_wp2_with (fail)
        refine R3.out.mono ?_
        rintro e w1 ⟨rfl, rfl⟩
        go_wp2_with (fail)
        refine (works_c _).mono ?_
        rintro e w2 ⟨rfl, b2⟩
        go_wp2_with (fail)
        go_ret
        exact ⟨rfl, b2⟩
end Go.Proofs.Ytgknamdcllapbaa
