/- The walk of MtuFalls. -/
import Derived.Test.YtnacedbhognpbaaFinds
namespace Go.Proofs.Ytnacedbhognpbaa
set_option linter.unusedVariables false
open Go.RowKit
theorem black_one' (s : St) (k : Nat) (h0 : 1200 < s.sz) (hp : s.pr = 0) (hk : k < 5) : oneS ⟨s.sz, s.bd, s.pr, s.tr, k⟩ s.sz = ⟨s.sz, s.bd, s.pr, s.tr, ((k + 1 : Nat) : Int)⟩ := by
  unfold oneS
  dsimp only
  rw [if_neg (by omega), if_neg (by omega), if_neg (by omega)]
  simp
theorem black_six (s : St) (h0 : 1200 < s.sz) (hp : s.pr = 0) : oneS ⟨s.sz, s.bd, s.pr, s.tr, 5⟩ s.sz = ⟨1200, s.sz - 1, 0, 0, 0⟩ := by
  unfold oneS
  dsimp only
  rw [if_neg (by omega), if_neg (by omega), if_pos rfl]
/-- As it stands behind k lost ones. -/
def blackS (s : St) (k : Nat) : St := if k = 6 then ⟨1200, s.sz - 1, 0, 0, 0⟩ else ⟨s.sz, s.bd, s.pr, s.tr, k⟩
theorem black_next (s : St) (k : Nat) (h0 : 1200 < s.sz) (hp : s.pr = 0) (hk : k < 6) : oneS (blackS s k) s.sz = blackS s (k + 1) := by
  unfold blackS
  rw [if_neg (by omega)]
  by_cases h : k = 5
  · subst h
    rw [if_pos rfl]
    exact black_six s h0 hp
  · rw [if_neg (by omega)]
    exact black_one' s k h0 hp (by omega)
theorem black_inv (s : St) (k : Nat) (h : Inv s) (h0 : 1200 < s.sz) (hk : k ≤ 6) : Inv (blackS s k) := by
  obtain ⟨a1, a2, a3, a4, a5, a6, a7, a8, a9, a10⟩ := h
  unfold blackS
  split
  · constructor <;> ((try dsimp only); omega)
  · constructor <;> ((try dsimp only); omega)
theorem black_sz (s : St) (k : Nat) (hk : k < 6) : (blackS s k).sz = s.sz := by
  unfold blackS
  rw [if_neg (by omega)]

set_option maxHeartbeats 4000000 in
theorem falls_c (m l nx : Int) (w : World) (h0 : -9223372036854775808 ≤ m) (h1 : m ≤ 9223372036854775807) (h2 : -9223372036854775808 ≤ l) (h3 : l ≤ 9223372036854775807) (h4 : -9223372036854775808 ≤ nx) (h5 : nx ≤ 9223372036854775807) :
    Calls Try.prog 6 #[.int .i64 m, .int .i64 l, .int .i64 nx] w fun e w' => e = .returned (.bool true) ∧ Below w.heap.size w w' := by
  by_cases c1 : m < 1200
  · go_enter Try.func6, Try.ntmps6
    go_wp2_with (fail)
    refine (works_c _).mono ?_
    rintro e w1 ⟨rfl, b1⟩
    go_wp2_with (fail)
    go_ret
    exact ⟨rfl, b1⟩
  by_cases c2 : 65527 < m
  · go_enter Try.func6, Try.ntmps6
    go_wp2_with (fail)
    refine (works_c _).mono ?_
    rintro e w1 ⟨rfl, b1⟩
    go_wp2_with (fail)
    go_ret
    exact ⟨rfl, b1⟩
  by_cases c3 : l < 1200
  · go_enter Try.func6, Try.ntmps6
    go_wp2_with (fail)
    refine (works_c _).mono ?_
    rintro e w1 ⟨rfl, b1⟩
    go_wp2_with (fail)
    go_ret
    exact ⟨rfl, b1⟩
  by_cases c4 : nx < 1200
  · go_enter Try.func6, Try.ntmps6
    go_wp2_with (fail)
    refine (works_c _).mono ?_
    rintro e w1 ⟨rfl, b1⟩
    go_wp2_with (fail)
    go_ret
    exact ⟨rfl, b1⟩
  go_enter Try.func6, Try.ntmps6
  go_wp2_with (fail)
  refine (new_s m _ (by omega) (by omega)).mono ?_
  rintro e w1 ⟨rfl, a1, b1⟩
  have i1 := Inv.first m (by omega) (by omega)
  have l1 := a1.lt
  generalize hB : w.heap.size = B at *
  have HB := Lib.hid hB
  clear hB
  go_wp2_with (fail)
  refine (search_c w1 B _ l a1 i1 rfl (by dsimp only; omega) h2 h3).mono ?_
  rintro e w2 ⟨n, s, rfl, a2, g2, d2, b2⟩
  have hn : decide ((n : Int) < 0) = false := decide_eq_false (by omega)
  have f1 := g2.inv.sz0
  have f2 := g2.inv.sz1
  go_wp2_with (fail)
  by_cases c5 : s.sz ≤ nx
  · go_loopw [37] (fun i wr => i = .int .i64 0 ∧ wr = w2) (fun _ _ => 0)
    case atStart => exact ⟨rfl, rfl⟩
    case round =>
      obtain ⟨rfl, rfl⟩ := hrel
      have q2 : decide (s.sz ≤ nx) = true := decide_eq_true c5
      go_wp2_with (fail)
      refine (size_s wr B s _ rfl a2).mono ?_
      rintro e wY ⟨rfl, rfl⟩
      have q3 : decide (nx < s.sz) = false := decide_eq_false (by omega)
      have aX := a2
      have iX := g2.inv
      have pX := g2.none
      have oX := g2.ord
      have bX := b2
      have zX := c5
      have PX := Lib.hid pX
      clear pX a2

      -- behind the loop: world wr, state s
      go_wp2_with (fail)
      refine (size_s wr B s _ rfl aX).mono ?_
      rintro e wY ⟨rfl, rfl⟩
      go_wp2_with (fail)
      refine (search_c wr B s nx aX iX PX.out oX h4 h5).mono ?_
      rintro e w5 ⟨n5, s5, rfl, a5, g5, d5, b5⟩
      have hn5 : decide ((n5 : Int) < 0) = false := decide_eq_false (by omega)
      go_wp2_with (fail)
      have z5 := g5.goes zX
      have y5 := g5.inv.sz0
      refine (size_s w5 B s5 _ rfl a5).mono ?_
      rintro e wY ⟨rfl, rfl⟩
      have q5 : decide (nx < s5.sz) = false := decide_eq_false (by omega)
      have r5 : decide (s5.sz < 1200) = false := decide_eq_false (by omega)
      go_wp2_with (fail)
      refine (size_s w5 B s5 _ rfl a5).mono ?_
      rintro e wY ⟨rfl, rfl⟩
      go_wp2_with (fail)
      refine (again_s w5 B s5 m _ rfl a5 g5.inv (by omega) (by omega)).mono ?_
      rintro e w6 ⟨rfl, a6, b6⟩
      go_wp2_with (fail)
      have i6 := g5.inv.again m (by omega) (by omega)
      refine (search_c w6 B (againS s5 m) nx a6 i6 rfl (by unfold againS; dsimp only; split <;> omega) h4 h5).mono ?_
      rintro e w7 ⟨n7, s7, rfl, a7, g7, d7, b7⟩
      have hn7 : decide ((n7 : Int) < 0) = false := decide_eq_false (by omega)
      go_wp2_with (fail)
      refine (size_s w7 B s7 _ rfl a7).mono ?_
      rintro e wY ⟨rfl, rfl⟩
      have z7 := g7.goes z5
      have k1 := g7.low
      have k2 := g7.low2
      have k3 : m ≤ (againS s5 m).bd := by unfold againS; dsimp only; split <;> omega
      have hok : decide ((if m < nx then m else nx) - s7.sz < 16) = true := decide_eq_true (by split <;> omega)
      clear k1 k2 k3
      have q7 : decide (s7.sz ≤ nx) = true := decide_eq_true z7
      have y7 := g7.inv.sz0
      have y8 := g7.inv.sz1
      by_cases hmn : m < nx
      · rw [if_pos hmn] at hok
        go_wp2_with (fail)
        refine (size_s w7 B s7 _ rfl a7).mono ?_
        rintro e wY ⟨rfl, rfl⟩
        go_wp2_with (fail)
        refine (works_c _).mono ?_
        rintro e w9 ⟨rfl, b9⟩
        go_wp2_with (fail)
        go_ret
        refine ⟨rfl, ?_⟩
        rw [HB.out]
        have s1 := a7.lt
        exact (b1.trans ((((bX.trans b5).trans b6).trans b7).below (Nat.le_refl _) (by omega))).trans (b9.mono (by omega))
      · rw [if_neg hmn] at hok
        go_wp2_with (fail)
        refine (size_s w7 B s7 _ rfl a7).mono ?_
        rintro e wY ⟨rfl, rfl⟩
        go_wp2_with (fail)
        refine (works_c _).mono ?_
        rintro e w9 ⟨rfl, b9⟩
        go_wp2_with (fail)
        go_ret
        refine ⟨rfl, ?_⟩
        rw [HB.out]
        have s1 := a7.lt
        exact (b1.trans ((((bX.trans b5).trans b6).trans b7).below (Nat.le_refl _) (by omega))).trans (b9.mono (by omega))
  · have c6 : 1200 < s.sz := by omega
    have W0 := Lib.hid (g2.white rfl)
    have P0 := Lib.hid g2.none
    have A0 : AtS w2 B (blackS s 0) := by
      have e : blackS s 0 = s := by
        unfold blackS
        rw [if_neg (by omega)]
        have := W0.out
        obtain ⟨z1, z2, z3, z4, z5⟩ := s
        dsimp only at this
        subst this
        rfl
      rw [e]; exact a2
    have HA := Lib.hid A0
    clear A0 a2
    have q0 : decide (s.sz ≤ nx) = false := decide_eq_false (by omega)
    have q1 : (s.sz == 1200) = false := by simp; omega
    have q2 : decide (nx < s.sz) = true := decide_eq_true (by omega)
    go_loopw [37] (fun i wr => ∃ k : Nat, k ≤ 6 ∧ i = .int .i64 k ∧ AtS wr B (blackS s k) ∧ Only B w2 wr) (fun i _ => 6 - (intOf i).toNat)
    case atStart => exact ⟨0, by omega, rfl, HA.out, Only.refl _ _⟩
    case round =>
      obtain ⟨k, hk, rfl, hat, hon⟩ := hrel
      have HAT := Lib.hid hat
      have HON := Lib.hid hon
      clear hat hon
      by_cases hlt : k < 6
      · go_wp2_with (fail)
        refine (size_s wr B _ s.sz (black_sz s k hlt) HAT.out).mono ?_
        rintro e wY ⟨rfl, rfl⟩
        go_wp2_with (fail)
        refine (size_s wr B _ s.sz (black_sz s k hlt) HAT.out).mono ?_
        rintro e wY ⟨rfl, rfl⟩
        go_wp2_with (fail)
        refine (size_s wr B _ s.sz (black_sz s k hlt) HAT.out).mono ?_
        rintro e wY ⟨rfl, rfl⟩
        have hl := HAT.out.lt
        go_wp2_with (fail)
        refine (lost_one _ B _ s.sz _ (black_next s k c6 P0.out hlt) (HAT.out.below ((Below.refl _ _).alloc (Nat.le_refl _) _)) (black_inv s k g2.inv c6 (by omega)) (by omega) (by omega) wr.heap.size (by simp) (by omega) (by simp [go_sem])).mono ?_
        rintro e w3 ⟨rfl, a3, b3⟩
        have HN := Lib.hid a3
        clear a3
        go_wp2_with (fail)
        go_roundw
        case rel => exact ⟨k + 1, by omega, by go_num, HN.out, (HON.out.trans ((Only.refl _ _).alloc _)).trans b3⟩
        case measure => simp [intOf]; omega
      · have hk6 : k = 6 := by omega
        have aX : AtS wr B ⟨1200, s.sz - 1, 0, 0, 0⟩ := by
          have := HAT.out
          rw [hk6] at this
          exact this
        have iX : Inv ⟨1200, s.sz - 1, 0, 0, 0⟩ := by
          have := black_inv s 6 g2.inv c6 (by omega)
          exact this
        have bX := b2.trans HON.out
        have zX : (1200 : Int) ≤ nx := by omega
        have oX : (1200 : Int) ≤ s.sz - 1 := by omega
        clear hk6
        generalize hsX : (⟨1200, s.sz - 1, 0, 0, 0⟩ : St) = sX at *
        have ez : sX.sz = 1200 := by rw [← hsX]
        have ep : sX.pr = 0 := by rw [← hsX]
        have eb : sX.bd = s.sz - 1 := by rw [← hsX]
        have EP := Lib.hid ep
        have zX' : sX.sz ≤ nx := by omega
        have oX' : sX.sz ≤ sX.bd := by omega
        clear hsX ez ep eb zX oX

        -- behind the loop: world wr, state sX
        go_wp2_with (fail)
        refine (size_s wr B sX _ rfl aX).mono ?_
        rintro e wY ⟨rfl, rfl⟩
        go_wp2_with (fail)
        refine (search_c wr B sX nx aX iX EP.out oX' h4 h5).mono ?_
        rintro e w5 ⟨n5, s5, rfl, a5, g5, d5, b5⟩
        have hn5 : decide ((n5 : Int) < 0) = false := decide_eq_false (by omega)
        go_wp2_with (fail)
        have z5 := g5.goes zX'
        have y5 := g5.inv.sz0
        refine (size_s w5 B s5 _ rfl a5).mono ?_
        rintro e wY ⟨rfl, rfl⟩
        have q5 : decide (nx < s5.sz) = false := decide_eq_false (by omega)
        have r5 : decide (s5.sz < 1200) = false := decide_eq_false (by omega)
        go_wp2_with (fail)
        refine (size_s w5 B s5 _ rfl a5).mono ?_
        rintro e wY ⟨rfl, rfl⟩
        go_wp2_with (fail)
        refine (again_s w5 B s5 m _ rfl a5 g5.inv (by omega) (by omega)).mono ?_
        rintro e w6 ⟨rfl, a6, b6⟩
        go_wp2_with (fail)
        have i6 := g5.inv.again m (by omega) (by omega)
        refine (search_c w6 B (againS s5 m) nx a6 i6 rfl (by unfold againS; dsimp only; split <;> omega) h4 h5).mono ?_
        rintro e w7 ⟨n7, s7, rfl, a7, g7, d7, b7⟩
        have hn7 : decide ((n7 : Int) < 0) = false := decide_eq_false (by omega)
        go_wp2_with (fail)
        refine (size_s w7 B s7 _ rfl a7).mono ?_
        rintro e wY ⟨rfl, rfl⟩
        have z7 := g7.goes z5
        have k1 := g7.low
        have k2 := g7.low2
        have k3 : m ≤ (againS s5 m).bd := by unfold againS; dsimp only; split <;> omega
        have hok : decide ((if m < nx then m else nx) - s7.sz < 16) = true := decide_eq_true (by split <;> omega)
        clear k1 k2 k3
        have q7 : decide (s7.sz ≤ nx) = true := decide_eq_true z7
        have y7 := g7.inv.sz0
        have y8 := g7.inv.sz1
        by_cases hmn : m < nx
        · rw [if_pos hmn] at hok
          go_wp2_with (fail)
          refine (size_s w7 B s7 _ rfl a7).mono ?_
          rintro e wY ⟨rfl, rfl⟩
          go_wp2_with (fail)
          refine (works_c _).mono ?_
          rintro e w9 ⟨rfl, b9⟩
          go_wp2_with (fail)
          go_ret
          refine ⟨rfl, ?_⟩
          rw [HB.out]
          have s1 := a7.lt
          exact (b1.trans ((((bX.trans b5).trans b6).trans b7).below (Nat.le_refl _) (by omega))).trans (b9.mono (by omega))
        · rw [if_neg hmn] at hok
          go_wp2_with (fail)
          refine (size_s w7 B s7 _ rfl a7).mono ?_
          rintro e wY ⟨rfl, rfl⟩
          go_wp2_with (fail)
          refine (works_c _).mono ?_
          rintro e w9 ⟨rfl, b9⟩
          go_wp2_with (fail)
          go_ret
          refine ⟨rfl, ?_⟩
          rw [HB.out]
          have s1 := a7.lt
          exact (b1.trans ((((bX.trans b5).trans b6).trans b7).below (Nat.le_refl _) (by omega))).trans (b9.mono (by omega))
end Go.Proofs.Ytnacedbhognpbaa
