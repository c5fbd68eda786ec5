/- The walks of Heavy and size; Acked, in one word. -/
import Derived.Test.YtebbjmomakobaaaRFlight
namespace Go.Proofs.Ytebbjmomakobaaa
set_option linter.unusedVariables false
set_option linter.unusedSimpArgs false
open Go.RowKit
theorem bounds64 {x : Int} (h : (Lit.int .u64 x).wf = true) : 0 ≤ x ∧ x ≤ 18446744073709551615 := bounds_u64 h
theorem bounds8 {x : Int} (h : (Lit.int .u8 x).wf = true) : 0 ≤ x ∧ x ≤ 255 := bounds_u8 h
set_option maxHeartbeats 1000000 in
theorem size_c (w : World) (kd at_ more : Int) (a : Option Addr) (len cap : Nat) (zs : List Int) (hr : IntRow .u64 w a len zs) (hlen : len ≤ 9223372036854775807) :
    Calls Try.prog 11 #[.agg #[.int .u8 kd, .slice a len cap, .int .u64 at_, .int .u64 more]] w fun e w' => e = .returned (.int .u64 (zs.getD 0 0)) ∧ Below w.heap.size w w' := by
  obtain ⟨h1, h2⟩ := hr
  by_cases h0 : len = 0
  · subst h0
    have : zs = [] := List.length_eq_zero_iff.1 h1
    subst this
    go_enter Try.func11, Try.ntmps11
    go_wp2
    go_ret
    exact ⟨rfl, (Below.refl _ _).alloc (Nat.le_refl _) _⟩
  · obtain ⟨b, off, rfl, hb, hc⟩ := h2.resolve_left h0
    have hc0 := (hc 0 (by omega)).1
    have hlt : 0 < len := by omega
    have hne : ((len : Int) == 0) = false := beq_eq_false_iff_ne.2 (by omega)
    have hc1 : w.cell? ⟨b, off, none⟩ = some (.int .u64 (zs.getD 0 0)) := hc0
    generalize zs.getD 0 0 = x at *
    clear hc h1 h2 hc0
    go_enter Try.func11, Try.ntmps11
    go_wp2
    go_ret
    exact ⟨rfl, (Below.refl _ _).alloc (Nat.le_refl _) _⟩
/-- A bool; if it is false there are at most so many. -/
def FewBool (w : World) (len : Nat) (e : Ending) (w' : World) : Prop := ∃ b : Bool, e = .returned (.bool b) ∧ (b = false → len ≤ 1000) ∧ Below w.heap.size w w'
set_option maxRecDepth 100000 in
set_option maxHeartbeats 2000000 in
theorem heavy_c (w : World) (a : Option Addr) (len cap : Nat) (h : DoRow w a len) : Calls Try.prog 9 #[.slice a len cap] w (FewBool w len) := by
  obtain ⟨hm, h⟩ := h
  unfold maxLen at hm
  by_cases h0 : len = 0
  · subst h0
    go_enter Try.func9, Try.ntmps9
    go_wp2_with (fail)
    go_loop [10, 3] (fun i n => i = .int .i64 0 ∧ n = .int .i64 0) (fun _ _ => 0)
    case atStart => exact ⟨rfl, rfl⟩
    case round =>
      obtain ⟨rfl, rfl⟩ := hrel
      go_wp2_with (fail)
      go_ret
      exact ⟨false, rfl, fun _ => by omega, Below.refl _ _⟩
  · obtain ⟨b, off, rfl, hb, hat⟩ := h.resolve_left h0
    have H := Lib.hid hat
    clear h hat
    go_enter Try.func9, Try.ntmps9
    go_wp2_with (fail)
    go_loopw [10, 3] (fun i n wr => ∃ (k : Nat) (x : Int), k ≤ len ∧ i = .int .i64 k ∧ n = .int .i64 x ∧ (k : Int) ≤ x ∧ x ≤ 1000 ∧ Below w.heap.size w wr) (fun i _ _ => len - (intOf i).toNat)
    case atStart => exact ⟨0, 0, by omega, rfl, rfl, by omega, by omega, Below.refl _ _⟩
    case round =>
      obtain ⟨k, x, hk, rfl, rfl, hx0, hx1, hbl⟩ := hrel
      have HBL := Lib.hid hbl
      clear hbl
      by_cases hlt : k < len
      · obtain ⟨kd, ia, il, ic, zs, at_, more, c0, c1, c2, c3, w0, w2, w3, hreach, hr⟩ := (H.out k hlt).below HBL.out
        have HR := Lib.hid hr
        obtain ⟨q0, q1⟩ := bounds8 w0
        obtain ⟨q2, q3⟩ := bounds64 w2
        obtain ⟨q4, q5⟩ := bounds64 w3
        clear w0 w2 w3 hr
        have bw := Lib.hid (HBL.out.alloc HBL.out.size (.cells #[.int .u8 kd, .slice ia il ic, .int .u64 at_, .int .u64 more] 36))
        by_cases g0 : 1000 < x + (1 + (il : Int))
        · go_wp2_with (fail)
          all_goals (go_ret; exact ⟨true, rfl, (fun h => by cases h), bw.out⟩)
        · by_cases g1 : 2305843009213693952 < at_
          · go_wp2_with (fail)
            all_goals (go_ret; exact ⟨true, rfl, (fun h => by cases h), bw.out⟩)
          · by_cases g2 : 2305843009213693952 < more
            · go_wp2_with (fail)
              all_goals (go_ret; exact ⟨true, rfl, (fun h => by cases h), bw.out⟩)
            · go_wp2_with (fail)
              go_loop [35] (fun i => ∃ j : Nat, j ≤ il ∧ i = .int .i64 j) (fun i => il - (intOf i).toNat)
              case atStart => exact ⟨0, Nat.zero_le _, rfl⟩
              case round =>
                obtain ⟨j, hj, rfl⟩ := hrel
                by_cases hjl : j < il
                · obtain ⟨r1, r2⟩ := HR.out
                  obtain ⟨ib, io, rfl, hib, hc⟩ := r2.resolve_left (by omega)
                  obtain ⟨hc1, hc2⟩ := hc j hjl
                  obtain ⟨y0, y1⟩ := bounds64 hc2
                  have hcb : (wr.alloc (.cells #[.int .u8 kd, .slice (some ⟨ib, io, none⟩) il ic, .int .u64 at_, .int .u64 more] 36)).cell? ⟨ib, io + j, none⟩ = some (.int .u64 (zs.getD j 0)) := below_cell ((Below.refl _ _).alloc (Nat.le_refl _) _) hc1
                  clear hc hc2 r1 r2
                  generalize zs.getD j 0 = y at *
                  by_cases hk2 : kd = 2
                  · subst hk2
                    by_cases hy : 16777216 < y
                    · go_wp2_with (fail)
                      go_ret
                      exact ⟨true, rfl, (fun h => by cases h), bw.out⟩
                    · go_wp2_with (fail)
                      go_round
                      case rel => exact ⟨j + 1, by omega, by go_num⟩
                      case measure => simp [intOf]; omega
                  · have hk2' : (kd == 2) = false := beq_eq_false_iff_ne.2 hk2
                    clear hk2
                    go_wp2_with (fail)
                    go_round
                    case rel => exact ⟨j + 1, by omega, by go_num⟩
                    case measure => simp [intOf]; omega
                · go_wp2_with (fail)
                  go_roundw
                  case rel => exact ⟨k + 1, x + (1 + (il : Int)), by omega, by go_num, rfl, by omega, by omega, bw.out⟩
                  case measure => simp [intOf]; omega
      · go_wp2_with (fail)
        go_ret
        exact ⟨false, rfl, fun _ => by omega, HBL.out⟩

/-- What becomes of a window: it does not fall, and what is counted is bounded. -/
def Rose (w : World) (B : Nat) (wi th fl si ac : Int) (w' : World) : Prop := ∃ (wi' : Int) (rc' : Bool) (ac' : Int), At w' B wi' th fl si rc' ac' ∧ wi ≤ wi' ∧ 0 ≤ ac' ∧ wi' + ac' ≤ wi + ac + 1099511627776 ∧ Only B w w'
theorem acked_any (w : World) (B : Nat) (wi th fl si : Int) (rc : Bool) (ac a x : Int) (hat : At w B wi th fl si rc ac) (g0 : 0 ≤ fl) (g1 : fl ≤ 4611686018427387904) (x0 : 0 ≤ x) (x1 : x ≤ 18446744073709551615) (w0 : 2400 ≤ wi) (w2 : 0 ≤ ac) (w3 : wi + ac ≤ 2305843009213693952) (w4 : th ≤ 4611686018427387904) :
    Calls Try.prog 10 #[.pointer (some ⟨B, 0, none⟩), .int .u64 a, .int .u64 x] w fun e w' => e = .returned (.tuple #[]) ∧ Rose w B wi th (goneF fl (cap40 x)) si ac w' := by
  have hc := cap40_range x x0
  by_cases h : rc = true ∧ a ≤ si
  · obtain ⟨rfl, h⟩ := h
    refine (acked_rec w B wi th fl si ac a x hat g0 g1 x0 x1 h).mono ?_
    rintro e w' ⟨rfl, h1, h2⟩
    exact ⟨rfl, wi, true, ac, h1, Int.le_refl _, w2, by omega, h2⟩
  · have h' : rc = false ∨ si < a := by
      cases rc with
      | false => exact .inl rfl
      | true => right; simp at h; omega
    by_cases hs : wi < th
    · refine (acked_slow w B wi th fl si rc ac a x hat g0 g1 x0 x1 h' (by omega) hs w4).mono ?_
      rintro e w' ⟨rfl, h1, h2⟩
      rw [if_neg (by omega)] at h1
      exact ⟨rfl, _, _, _, h1, by omega, w2, by omega, h2⟩
    · refine (acked_avoid w B wi th fl si rc ac a x hat g0 g1 x0 x1 h' w0 (by omega) w2 (by omega)).mono ?_
      rintro e w' ⟨wi', ac', rfl, h1, h2, h3, h4, h5, h6⟩
      exact ⟨rfl, _, _, _, h1, h2, h3, by omega, h6⟩
end Go.Proofs.Ytebbjmomakobaaa
