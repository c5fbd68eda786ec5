/- The walks of MtuFinds and MtuFalls. -/
import Derived.Test.YtnacedbhognpbaaSearch
namespace Go.Proofs.Ytnacedbhognpbaa
set_option linter.unusedVariables false
open Go.RowKit

set_option maxHeartbeats 1000000 in
theorem finds_c (m l : Int) (w : World) (h0 : -9223372036854775808 ≤ m) (h1 : m ≤ 9223372036854775807) (h2 : -9223372036854775808 ≤ l) (h3 : l ≤ 9223372036854775807) :
    Calls Try.prog 3 #[.int .i64 m, .int .i64 l] w fun e w' => e = .returned (.bool true) ∧ Below w.heap.size w w' := by
  by_cases c1 : m < 1200
  · go_enter Try.func3, Try.ntmps3
    go_wp2_with (fail)
    refine (works_c _).mono ?_
    rintro e w1 ⟨rfl, b1⟩
    go_wp2_with (fail)
    go_ret
    exact ⟨rfl, b1⟩
  by_cases c2 : 65527 < m
  · go_enter Try.func3, Try.ntmps3
    go_wp2_with (fail)
    refine (works_c _).mono ?_
    rintro e w1 ⟨rfl, b1⟩
    go_wp2_with (fail)
    go_ret
    exact ⟨rfl, b1⟩
  by_cases c3 : l < 1200
  · go_enter Try.func3, Try.ntmps3
    go_wp2_with (fail)
    refine (works_c _).mono ?_
    rintro e w1 ⟨rfl, b1⟩
    go_wp2_with (fail)
    go_ret
    exact ⟨rfl, b1⟩
  go_enter Try.func3, Try.ntmps3
  go_wp2_with (fail)
  refine (new_s m _ (by omega) (by omega)).mono ?_
  rintro e w1 ⟨rfl, a1, b1⟩
  have i1 := Inv.first m (by omega) (by omega)
  have l1 := a1.lt
  generalize hB : w.heap.size = B at *
  have HB := Lib.hid hB
  clear hB
  go_wp2_with (fail)
  refine (search_c w1 B _ l a1 i1 rfl (by dsimp only; omega) h2 h3).mono ?_
  rintro e w2 ⟨n, s, rfl, a2, g2, d2, b2⟩
  have hn : decide ((n : Int) < 0) = false := decide_eq_false (by omega)
  go_wp2_with (fail)
  refine (done_s w2 B s true (by simpa using d2) a2 g2.inv).mono ?_
  rintro e w3 ⟨rfl, a3, b3⟩
  go_wp2_with (fail)
  refine (size_s w3 B s _ rfl a3).mono ?_
  rintro e w4 ⟨rfl, rfl⟩
  have e1 := g2.goes (by dsimp only; omega)
  have e2 := g2.top
  have e3 := g2.low
  have e4 := g2.low2
  have e5 := g2.ord
  have e6 := g2.inv.sz0
  dsimp only at e1 e2 e3 e4
  have e7 : s.sz ≤ m := by omega
  generalize hz : s.sz = z at *
  have HZ := Lib.hid hz
  clear hz
  by_cases c4 : l ≤ m
  · have e8 := e3 (by omega)
    have hmn : ¬ m < l := by omega
    have hd : decide (l - z < 16) = true := decide_eq_true (by omega)
    clear e3 e4
    go_wp2_with (fail)
    refine (works_c _).mono ?_
    rintro e w5 ⟨rfl, b5⟩
    go_wp2_with (fail)
    go_ret
    refine ⟨rfl, ?_⟩
    rw [HB.out]
    have s1 := a3.lt
    exact (b1.trans ((b2.trans b3).below (Nat.le_refl _) (by omega))).trans (b5.mono (by omega))
  · have e8 := e4 (by omega)
    have E8 := Lib.hid e8
    have hd : decide (m - z < 16) = true := decide_eq_true (by omega)
    clear e3 e4 e8
    go_wp2_with (fail)
    refine (works_c _).mono ?_
    rintro e w5 ⟨rfl, b5⟩
    go_wp2_with (fail)
    go_ret
    refine ⟨rfl, ?_⟩
    rw [HB.out]
    have s1 := a3.lt
    exact (b1.trans ((b2.trans b3).below (Nat.le_refl _) (by omega))).trans (b5.mono (by omega))

theorem black_fold (z bd : Int) (h0 : 1200 < z) (k : Nat) (hk : k ≤ 5) : (List.replicate k z).foldl oneS ⟨z, bd, 0, 0, 0⟩ = ⟨z, bd, 0, 0, k⟩ := by
  induction k with
  | zero => rfl
  | succ k ih =>
    rw [List.replicate_succ', List.foldl_append, ih (by omega)]
    simp only [List.foldl_cons, List.foldl_nil]
    unfold oneS
    dsimp only
    rw [if_neg (by omega), if_neg (by omega), if_neg (by omega)]
    simp
/-- One that was greater than Base was lost, k before. -/
theorem black_one (z bd : Int) (k : Nat) (h0 : 1200 < z) (hk : k < 5) : oneS ⟨z, bd, 0, 0, k⟩ z = ⟨z, bd, 0, 0, ((k + 1 : Nat) : Int)⟩ := by
  unfold oneS
  dsimp only
  rw [if_neg (by omega), if_neg (by omega), if_neg (by omega)]
  simp
end Go.Proofs.Ytnacedbhognpbaa
