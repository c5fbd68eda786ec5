/- At Next a packet may go. -/
import Derived.Test.YtkkkobmeoalgnaaHeavy
namespace Go.Proofs.Ytkkkobmeoalgnaa
set_option linter.unusedVariables false
set_option linter.unusedSimpArgs false
open Go.RowKit
theorem lv_step {r b t l now W : Int} (o : Ok r b t l) (hW : 0 ≤ W) : lv r b t l (tm t now + W) = min (b * 1000000) (lv r b t l now + W * r) := by
  obtain ⟨r1, r2, b1, b2, t1, t2, l1, l2⟩ := o
  have hp : 0 ≤ W * r := Int.mul_nonneg hW (by omega)
  by_cases c : now ≤ t
  · have e1 : tm t now = t := if_pos c
    have e2 : lv r b t l now = l := if_pos c
    rw [e1, e2]
    unfold lv
    by_cases d : W = 0
    · subst d
      rw [if_pos (by omega)]
      simp only [Int.zero_mul] at *
      omega
    · rw [if_neg (by omega)]
      have : t + W - t = W := by omega
      rw [this]
  · have e1 : tm t now = now := if_neg c
    have e2 : lv r b t l now = min (b * 1000000) (l + (now - t) * r) := if_neg c
    rw [e1, e2]
    unfold lv
    rw [if_neg (by omega)]
    have : (now + W - t) * r = (now - t) * r + W * r := by rw [← Int.add_mul]; congr 1; omega
    rw [this]
    have : 0 ≤ (now - t) * r := Int.mul_nonneg (by omega) (by omega)
    omega
/-- What Next answers, in plain words: the packet may go there, and not a tick ahead, where that is behind now. -/
theorem ceil_up {a r : Int} (ha : 0 < a) (hr : 1 ≤ r) : 1 ≤ (a + r - 1) / r ∧ a ≤ (a + r - 1) / r * r ∧ ((a + r - 1) / r - 1) * r < a ∧ (a + r - 1) / r ≤ a := by
  have h1 := Int.mul_ediv_add_emod (a + r - 1) r
  have h2 := Int.emod_nonneg (a + r - 1) (show r ≠ 0 by omega)
  have h3 := Int.emod_lt_of_pos (a + r - 1) (show 0 < r by omega)
  generalize (a + r - 1) / r = q at *
  generalize (a + r - 1) % r = m at *
  have h4 : q * r = r * q := Int.mul_comm _ _
  have h5 : (q - 1) * r = q * r - r := by rw [Int.sub_mul, Int.one_mul]
  have h6 : 1 ≤ q := by
    rcases Int.lt_or_le q 1 with h | h
    · have : r * q ≤ r * 0 := Int.mul_le_mul_of_nonneg_left (by omega) (by omega)
      omega
    · exact h
  have h7 : q - 1 ≤ (q - 1) * r := by
    have := Int.mul_le_mul_of_nonneg_left (a := 1) (b := r) (c := q - 1) hr (by omega)
    omega
  exact ⟨h6, by omega, by omega, by omega⟩
theorem next_at (w : World) (B : Nat) (r b t l now n : Int) (h : At w B r b t l) (o : Ok r b t l) (n1 : 0 ≤ now) (n2 : now ≤ 1152921504606846976) (ht : t ≤ 1152921504606846976) (n3 : 0 ≤ n) (c : n ≤ b) :
    ∃ x, (Calls Try.prog 13 #[.pointer (some ⟨B, 0, none⟩), .int .u64 now, .int .u64 n] w fun e w' => e = .returned (.tuple #[.int .u64 x, .int .i64 0]) ∧ Below w.heap.size w w') ∧
      now ≤ x ∧ x < 4611686018427387904 ∧ n * 1000000 ≤ lv r b t l x ∧ (now < x → lv r b t l (x - 1) < n * 1000000 ∨ lv r b t l (x - 1) = l) := by
  have hl := lv_ok now o
  have ob := o.b2
  have hT : now ≤ tm t now ∧ tm t now ≤ 1152921504606846976 ∧ (now < tm t now → tm t now = t) := by
    unfold tm; split <;> omega
  by_cases nw : n * 1000000 ≤ lv r b t l now
  · refine ⟨tm t now, next_now w B r b t l now n h o n1 (by omega) n3 c nw, hT.1, by omega, ?_, fun hh => .inr ?_⟩
    · have := lv_step (now := now) (W := 0) o (by omega)
      rw [Int.add_zero, Int.zero_mul, Int.add_zero] at this
      rw [this]; omega
    · have := hT.2.2 hh
      unfold lv
      rw [if_pos (by omega)]
  · have k1 := ceil_up (a := n * 1000000 - lv r b t l now) (by omega) o.r1
    have hw := next_wait w B r b t l now n h o n1 (by omega) n3 c (by omega)
    generalize (n * 1000000 - lv r b t l now + r - 1) / r = W at *
    rw [Int.min_eq_left (by omega)] at hw
    refine ⟨_, hw, by omega, by omega, ?_, fun hh => .inl ?_⟩
    · rw [lv_step o (by omega)]; omega
    · have e : tm t now + W - 1 = tm t now + (W - 1) := by omega
      rw [e, lv_step o (by omega)]; omega
set_option maxHeartbeats 8000000 in
theorem waits_c (w : World) (r b now bytes : Int) (A : Option Addr) (n c : Nat) (hr : DoRow w A n) (h0 : 0 ≤ now) (h1 : now < 18446744073709551616) (h2 : 0 ≤ bytes) (h3 : bytes < 18446744073709551616) :
    Calls Try.prog 5 #[.int .u64 r, .int .u64 b, .slice A n c, .int .u64 now, .int .u64 bytes] w fun e w' => e = .returned (.bool true) ∧ Below w.heap.size w w' := by
  by_cases ok : 1 ≤ r ∧ r ≤ 1073741824 ∧ 1200 ≤ b ∧ b ≤ 1073741824
  · obtain ⟨g0, g1, g2, g3⟩ := ok
    go_enter Try.func5, Try.ntmps5
    go_wp2_with (fail)
    refine (new_yes r b w g0 g1 g2 g3).mono ?_
    rintro e w1 ⟨B, rfl, a1, hB, b1⟩
    have A1 := Lib.hid a1
    have B1 := Lib.hid b1
    have HB := Lib.hid hB
    clear a1 b1 hB
    go_wp2_with (fail)
    refine (heavy_c w1 A n c (hr.below B1.out)).mono ?_
    rintro e w2 ⟨hv, rfl, -, b2⟩
    have B2 := Lib.hid (nextB B1.out b2)
    have A2 := Lib.hid (A1.out.below b2)
    clear b2
    cases hv with
    | true =>
      go_wp2_with (fail)
      refine (works_c _).mono ?_
      rintro e w3 ⟨rfl, b3⟩
      go_wp2_with (fail)
      go_ret
      exact ⟨rfl, nextB B2.out b3⟩
    | false =>
      by_cases big : 1152921504606846976 < now
      · have d : decide ((1152921504606846976 : Int) < now) = true := decide_eq_true big
        go_wp2_with (fail)
        refine (works_c _).mono ?_
        rintro e w3 ⟨rfl, b3⟩
        go_wp2_with (fail)
        go_ret
        exact ⟨rfl, nextB B2.out b3⟩
      · have d : decide ((1152921504606846976 : Int) < now) = false := decide_eq_false big
        go_wp2_with (fail)
        have HR := Lib.hid hr
        have hnm := hr.1
        unfold maxLen at hnm
        clear hr
        have O0 := ok_new g0 g1 g2 g3
        go_loopw [35] (fun i wr => ∃ (k : Nat) (t l : Int), k ≤ n ∧ i = .int .i64 k ∧ At wr B r b t l ∧ Ok r b t l ∧ t ≤ 1152921504606846976 ∧ Below w.heap.size w wr) (fun i _ => n - (intOf i).toNat)
        case atStart => exact ⟨0, _, _, Nat.zero_le _, rfl, A2.out, O0, by omega, B2.out⟩
        case round =>
          obtain ⟨k, t, l, hk, rfl, hat, o, ht, hbl⟩ := hrel
          have HAT := Lib.hid hat
          have HBL := Lib.hid hbl
          have O := Lib.hid o
          clear hat hbl o O0
          by_cases hlt : k < n
          · obtain ⟨bb, off, rfl, hbb, hat⟩ := HR.out.2.resolve_left (by omega)
            obtain ⟨kd, at_, more, ia, il, ic, zs, c0, c1, c2, c3, w0, w1', w2', hreach, hri⟩ := (hat k hlt).below HBL.out
            have HRI := Lib.hid hri
            obtain ⟨q0, q1⟩ := bounds64 w1'
            clear hat hri w0 w1' w2'
            have hlB := HAT.out.lt
            have bw := Lib.hid ((Below.refl wr.heap.size wr).alloc (Nat.le_refl _) (.cells #[.int .u8 kd, .int .u64 at_, .int .u64 more, .slice ia il ic] 35))
            by_cases bt : 1152921504606846976 < at_
            · have bt' : decide ((1152921504606846976 : Int) < at_) = true := decide_eq_true bt
              go_wp2_with (fail)
              refine (works_c _).mono ?_
              rintro e w3 ⟨rfl, b3⟩
              go_wp2_with (fail)
              go_ret
              exact ⟨rfl, nextB HBL.out (nextB bw.out b3)⟩
            · have bt' : decide ((1152921504606846976 : Int) < at_) = false := decide_eq_false bt
              go_wp2_with (fail)
              refine (go_c _ B r b t l at_ ia il ic zs (HRI.out.below bw.out) (by omega) (HAT.out.below bw.out) O.out q0 (by omega)).mono ?_
              rintro e w4 hq
              have hres : ∃ t' l' v, e = .returned (.int .i64 v) ∧ At w4 B r b t' l' ∧ Ok r b t' l' ∧ t' ≤ 1152921504606846976 ∧ Below w.heap.size w w4 := by
                have hws : w.heap.size ≤ wr.heap.size := HBL.out.size
                rcases hq with ⟨_, rfl, b4⟩ | ⟨L, _, rfl, a4, b4, y0, y1⟩
                · exact ⟨t, l, _, rfl, (HAT.out.below bw.out).below b4, O.out, ht, nextB HBL.out (nextB bw.out b4)⟩
                · have oa := ok_after O.out q0 (by omega)
                  refine ⟨_, _, _, rfl, a4, ⟨oa.r1, oa.r2, oa.b1, oa.b2, oa.t1, oa.t2, y0, y1⟩, by unfold tm; split <;> omega, (HBL.out.trans (bw.out.mono hws)).trans (b4.below (by have := HB.out; omega) (by simp; omega))⟩
              clear hq
              obtain ⟨t', l', v, rfl, a4, o4, t4, b4⟩ := hres
              have A4 := Lib.hid a4
              have O4 := Lib.hid o4
              have B4 := Lib.hid b4
              clear a4 o4 b4
              go_wp2_with (fail)
              go_roundw
              case rel => exact ⟨k + 1, t', l', by omega, by go_num, A4.out, O4.out, t4, B4.out⟩
              case measure => simp [intOf]; omega
          · by_cases lg : b < bytes
            · have lg' : decide (b < bytes) = true := decide_eq_true lg
              go_wp2_with (fail)
              refine (next_long wr B r b t l now bytes HAT.out lg).mono ?_
              rintro e w3 ⟨rfl, b3⟩
              go_wp2_with (fail)
              refine (works_c _).mono ?_
              rintro e w4 ⟨rfl, b4⟩
              go_wp2_with (fail)
              go_ret
              exact ⟨rfl, nextB (nextB HBL.out b3) b4⟩
            · have lg' : decide (b < bytes) = false := decide_eq_false lg
              have hb0 : bytes ≤ b := by omega
              obtain ⟨at_, hnx, x0, x1, x2, x3⟩ := next_at wr B r b t l now bytes HAT.out O.out h0 (by omega) ht h2 hb0
              have hz : lv r b t l 0 = l := by have := O.out.t1; unfold lv; rw [if_pos this]
              go_wp2_with (fail)
              refine hnx.mono ?_
              rintro e w3 ⟨rfl, b3⟩
              have A3 := Lib.hid (HAT.out.below b3)
              have B3 := Lib.hid (nextB HBL.out b3)
              clear b3
              have dn : decide (at_ < now) = false := decide_eq_false (by omega)
              have m1 := may_c w3 B r b t l at_ bytes A3.out O.out (by omega) (by omega)
              rw [show decide (bytes ≤ lv r b t l at_ / 1000000) = true from decide_eq_true (by omega)] at m1
              have HX2 := Lib.hid x2
              go_wp2_with (fail)
              refine m1.mono ?_
              rintro e w4 ⟨rfl, b4⟩
              have A4 := Lib.hid (A3.out.below b4)
              have B4 := Lib.hid (nextB B3.out b4)
              clear b4 m1 hnx
              by_cases gt : now < at_
              · have gt' : decide (now < at_) = true := decide_eq_true gt
                have X3 := Lib.hid (x3 gt)
                clear x3
                have m2 := may_c w4 B r b t l (at_ - 1) bytes A4.out O.out (by omega) (by omega)
                by_cases less : bytes ≤ lv r b t l (at_ - 1) / 1000000
                · have e3 : lv r b t l (at_ - 1) = l := by
                    rcases X3.out with h | h
                    · omega
                    · exact h
                  rw [show decide (bytes ≤ lv r b t l (at_ - 1) / 1000000) = true from decide_eq_true less] at m2
                  go_wp2_with (fail)
                  refine m2.mono ?_
                  rintro e w5 ⟨rfl, b5⟩
                  have A5 := Lib.hid (A4.out.below b5)
                  have B5 := Lib.hid (nextB B4.out b5)
                  clear b5 m2
                  have l1 := level_c w5 B r b t l (at_ - 1) A5.out O.out (by omega) (by omega)
                  rw [e3] at l1
                  clear e3 less
                  go_wp2_with (fail)
                  refine l1.mono ?_
                  rintro e w6 ⟨rfl, b6⟩
                  have A6 := Lib.hid (A5.out.below b6)
                  have B6 := Lib.hid (nextB B5.out b6)
                  clear b6 l1
                  have l2 := level_c w6 B r b t l 0 A6.out O.out (by omega) (by omega)
                  rw [hz] at l2
                  clear hz
                  go_wp2_with (fail)
                  refine l2.mono ?_
                  rintro e w7 ⟨rfl, b7⟩
                  have A7 := Lib.hid (A6.out.below b7)
                  have B7 := Lib.hid (nextB B6.out b7)
                  clear b7 l2
                  go_wp2_with (fail)
                  refine (go_c _ B r b t l at_ (some ⟨w7.heap.size, 0, none⟩) 1 1 [bytes] (one_row (blk_new _ _) h2 h3) (by omega) (A7.out.below ((Below.refl _ _).alloc (Nat.le_refl _) _)) O.out (by omega) (by omega)).mono ?_
                  rintro e w8 hq
                  have hp : pack (lv r b t l at_) [bytes] = some (lv r b t l at_ - bytes * 1000000) := by simp only [pack]; rw [if_pos x2]
                  rw [hp] at hq
                  rcases hq with ⟨hq, _⟩ | ⟨L, hL, rfl, a8, b8, -, -⟩
                  · cases hq
                  clear hp hL
                  have B8 := Lib.hid ((B7.out.alloc B7.out.size _).trans (b8.below HB.out (by have := B7.out.size; simp; omega)))
                  clear a8 b8
                  go_wp2_with (fail)
                  refine (works_c _).mono ?_
                  rintro e w9 ⟨rfl, b9⟩
                  go_wp2_with (fail)
                  go_ret
                  exact ⟨rfl, nextB B8.out b9⟩
                · rw [show decide (bytes ≤ lv r b t l (at_ - 1) / 1000000) = false from decide_eq_false less] at m2
                  clear hz less
                  go_wp2_with (fail)
                  refine m2.mono ?_
                  rintro e w5 ⟨rfl, b5⟩
                  have A5 := Lib.hid (A4.out.below b5)
                  have B5 := Lib.hid (nextB B4.out b5)
                  clear b5 m2
                  go_wp2_with (fail)
                  refine (go_c _ B r b t l at_ (some ⟨w5.heap.size, 0, none⟩) 1 1 [bytes] (one_row (blk_new _ _) h2 h3) (by omega) (A5.out.below ((Below.refl _ _).alloc (Nat.le_refl _) _)) O.out (by omega) (by omega)).mono ?_
                  rintro e w8 hq
                  have hp : pack (lv r b t l at_) [bytes] = some (lv r b t l at_ - bytes * 1000000) := by simp only [pack]; rw [if_pos x2]
                  rw [hp] at hq
                  rcases hq with ⟨hq, _⟩ | ⟨L, hL, rfl, a8, b8, -, -⟩
                  · cases hq
                  clear hp hL
                  have B8 := Lib.hid ((B5.out.alloc B5.out.size _).trans (b8.below HB.out (by have := B5.out.size; simp; omega)))
                  clear a8 b8
                  go_wp2_with (fail)
                  refine (works_c _).mono ?_
                  rintro e w9 ⟨rfl, b9⟩
                  go_wp2_with (fail)
                  go_ret
                  exact ⟨rfl, nextB B8.out b9⟩
              · have gt' : decide (now < at_) = false := decide_eq_false gt
                clear hz x3
                go_wp2_with (fail)
                refine (go_c _ B r b t l at_ (some ⟨w4.heap.size, 0, none⟩) 1 1 [bytes] (one_row (blk_new _ _) h2 h3) (by omega) (A4.out.below ((Below.refl _ _).alloc (Nat.le_refl _) _)) O.out (by omega) (by omega)).mono ?_
                rintro e w8 hq
                have hp : pack (lv r b t l at_) [bytes] = some (lv r b t l at_ - bytes * 1000000) := by simp only [pack]; rw [if_pos x2]
                rw [hp] at hq
                rcases hq with ⟨hq, _⟩ | ⟨L, hL, rfl, a8, b8, -, -⟩
                · cases hq
                clear hp hL
                have B8 := Lib.hid ((B4.out.alloc B4.out.size _).trans (b8.below HB.out (by have := B4.out.size; simp; omega)))
                clear a8 b8
                go_wp2_with (fail)
                refine (works_c _).mono ?_
                rintro e w9 ⟨rfl, b9⟩
                go_wp2_with (fail)
                go_ret
                exact ⟨rfl, nextB B8.out b9⟩
  · go_enter Try.func5, Try.ntmps5
    go_wp2_with (fail)
    refine (new_no r b w ok).mono ?_
    rintro e w1 ⟨rfl, b1⟩
    go_wp2_with (fail)
    refine (works_c _).mono ?_
    rintro e w3 ⟨rfl, b3⟩
    go_wp2_with (fail)
    go_ret
    exact ⟨rfl, nextB b1 b3⟩
end Go.Proofs.Ytkkkobmeoalgnaa
