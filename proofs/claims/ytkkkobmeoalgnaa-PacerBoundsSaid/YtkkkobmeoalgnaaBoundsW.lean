/- The walk of PacerBounds. -/
import Derived.Test.YtkkkobmeoalgnaaBounds
namespace Go.Proofs.Ytkkkobmeoalgnaa
set_option linter.unusedVariables false
set_option linter.unusedSimpArgs false
open Go.RowKit
set_option maxRecDepth 100000 in
set_option maxHeartbeats 8000000 in
theorem bounds_c (w : World) (r b : Int) (A : Option Addr) (n c : Nat) (hr : DoRow w A n) :
    Calls Try.prog 4 #[.int .u64 r, .int .u64 b, .slice A n c] w fun e w' => e = .returned (.bool true) ∧ Below w.heap.size w w' := by
  by_cases ok : 1 ≤ r ∧ r ≤ 1073741824 ∧ 1200 ≤ b ∧ b ≤ 1073741824
  · obtain ⟨g0, g1, g2, g3⟩ := ok
    go_enter Try.func4, Try.ntmps4
    go_wp2_with (fail)
    refine (new_yes r b w g0 g1 g2 g3).mono ?_
    rintro e w1 ⟨B, rfl, a1, hB, b1⟩
    have A1 := Lib.hid a1
    have B1 := Lib.hid b1
    have HB := Lib.hid hB
    clear a1 b1 hB
    go_wp2_with (fail)
    have HV := heavy_d w1 A n c (hr.below B1.out)
    rw [tot_below B1.out hr] at HV
    by_cases hv : 400 < tot w A n
    · rw [show decide (400 < tot w A n) = true from decide_eq_true hv] at HV
      refine HV.mono ?_
      rintro e w2 ⟨rfl, b2⟩
      have B2 := Lib.hid (nextB B1.out b2)
      have q0 : decide (r < 1) = false := decide_eq_false (by omega)
      have q1 : decide (1073741824 < r) = false := decide_eq_false (by omega)
      have q2 : decide (b < 1200) = false := decide_eq_false (by omega)
      have q3 : decide (1073741824 < b) = false := decide_eq_false (by omega)
      clear b2 HV
      go_wp2_with (fail)
      have HV2 := heavy_d w2 A n c (hr.below B2.out)
      rw [tot_below B2.out hr, show decide (400 < tot w A n) = true from decide_eq_true hv] at HV2
      refine HV2.mono ?_
      rintro e w3 ⟨rfl, b3⟩
      have B3 := Lib.hid (nextB B2.out b3)
      clear b3 HV2
      go_wp2_with (fail)
      refine (works_c _).mono ?_
      rintro e w4 ⟨rfl, b4⟩
      go_wp2_with (fail)
      go_ret
      exact ⟨rfl, nextB B3.out b4⟩
    · rw [show decide (400 < tot w A n) = false from decide_eq_false hv] at HV
      refine HV.mono ?_
      rintro e w2 ⟨rfl, b2⟩
      have B2 := Lib.hid (nextB B1.out b2)
      have A2 := Lib.hid (A1.out.below b2)
      have lB := A2.out.lt
      have hn4 : n ≤ 400 := by have := tot_ge w A n hr n (Nat.le_refl _); omega
      have HT : Hid (tot w A n ≤ 400) := Lib.hid (by omega)
      have HR := Lib.hid hr
      have O0 := Lib.hid (ok_new g0 g1 g2 g3)
      have F0 := Lib.hid (Fed.nil r (b * 1000000) 0 (b * 1000000))
      obtain ⟨C, hC⟩ : ∃ C, w2.heap.size = C := ⟨_, rfl⟩
      have HC := Lib.hid hC
      have lBC : B < C := by rw [← HC.out]; exact lB
      have hwC : w.heap.size ≤ C := by have := B2.out.size; have := HC.out; omega
      have K0 : Hid (Book w C B r b 0 0 (.slice none 0 0) (.slice none 0 0) w2) := Lib.hid ⟨0, b * 1000000, [], [], A2.out, O0.out, by omega, F0.out, by simp, World.ownsRow_nil _ _ _ _, World.ownsRow_nil _ _ _ _, (fun k hk => by cases hk), B2.out, by rw [HC.out]; exact Nat.le_refl _⟩
      obtain ⟨i0, hi, hz0, hz1, hz2⟩ := info_parts info22
      clear HV hv b2 hr hC lB
      go_wp2_with (fail)
      go_loopw [9, 10, 11, 54] (fun va vn nv i wr => ∃ (k : Nat) (now : Int) (vA vN : Value), vA = va ∧ vN = vn ∧ k ≤ n ∧ i = .int .i64 k ∧ nv = .int .u64 now ∧ 0 ≤ now ∧ now ≤ k * 1073741824 ∧ Book w C B r b now (tot w A k) vA vN wr) (fun _ _ _ i _ => n - (intOf i).toNat)
      case atStart => exact ⟨0, 0, _, _, rfl, rfl, Nat.zero_le _, rfl, rfl, by omega, by omega, by rw [tot_zero]; exact K0.out⟩
      case round =>
        obtain ⟨k, now, vA, vN, rfl, rfl, hk, rfl, rfl, n0, n1, hbook⟩ := hrel
        obtain ⟨wo, rfl⟩ : ∃ wo : World, wo = wr := ⟨_, rfl⟩
        have HK := Lib.hid hbook
        have HBL : Hid (Below w.heap.size w wo) := Lib.hid (let ⟨_, _, _, _, _, _, _, _, _, _, _, _, h9, _⟩ := hbook; h9)
        clear hbook
        by_cases hlt : k < n
        · obtain ⟨bb, off, rfl, hbb, hat⟩ := HR.out.2.resolve_left (by omega)
          obtain ⟨kd, at_, more, ia, il, ic, zs, c0, c1, c2, c3, w0, w1', w2', hreach, hri⟩ := hat k hlt
          have HRI := Lib.hid hri
          obtain ⟨q0, q1⟩ := bounds64 w1'
          have HIL : Hid (cnt w bb off k + (1 + il) = tot w (some ⟨bb, off, none⟩) (k + 1)) := Lib.hid (by rw [tot_some]; simp only [cnt]; unfold lenOf; rw [c3])
          have HM : Hid (tot w (some ⟨bb, off, none⟩) (k + 1) ≤ 400) := Lib.hid (Nat.le_trans (by rw [tot_some, tot_some]; exact cnt_mono _ _ _ (by omega)) HT.out)
          have hil4 : il ≤ 400 := by have h1 := HIL.out; have h2 := HM.out; omega
          have c0' := below_cell HBL.out c0
          have c1' := below_cell HBL.out c1
          have c2' := below_cell HBL.out c2
          have c3' := below_cell HBL.out c3
          clear hat hri w0 w1' w2' c0 c1 c2 c3
          have hrem : 0 ≤ at_ % 1073741824 ∧ at_ % 1073741824 < 1073741824 := ⟨Int.emod_nonneg _ (by omega), Int.emod_lt_of_pos _ (by omega)⟩
          obtain ⟨hrem0, hrem1⟩ := hrem
          have K1 : Hid (Book w C B r b (now + at_ % 1073741824) (cnt w bb off k) vA vN (wo.alloc (.cells #[.int .u8 kd, .int .u64 at_, .int .u64 more, .slice ia il ic] 35))) := Lib.hid ((HK.out.alloc _).later (by omega) (Nat.le_refl _))
          go_wp2_with (fail)
          go_loopw [9, 10, 66] (fun va vn j wx => ∃ (m : Nat) (vA vN : Value), vA = va ∧ vN = vn ∧ m ≤ il ∧ j = .int .i64 m ∧ Book w C B r b (now + at_ % 1073741824) (cnt w bb off k + m) vA vN wx) (fun _ _ j _ => il - (intOf j).toNat)
          case atStart => exact ⟨0, _, _, rfl, rfl, Nat.zero_le _, rfl, K1.out⟩
          case round =>
            obtain ⟨m, vA1, vN1, rfl, rfl, hm, rfl, hbk⟩ := hrel
            have HBK := Lib.hid hbk
            have HBX : Hid (Below w.heap.size w wr) := Lib.hid (let ⟨_, _, _, _, _, _, _, _, _, _, _, _, h9, _⟩ := hbk; h9)
            clear hbk
            by_cases hl2 : m < il
            · obtain ⟨bi, oi, rfl, hbi, hz⟩ := HRI.out.2.resolve_left (by omega)
              obtain ⟨hz0', hzw⟩ := hz m hl2
              have hcell := below_cell HBX.out hz0'
              have hx := bounds64 hzw
              clear hz hz0' hzw
              generalize zs.getD m 0 = x at *
              obtain ⟨x0, x1⟩ := hx
              obtain ⟨t, l, ats, ns, h1, h2, h3, h4, h5, h6, h7, h8, h9, h10⟩ := HBK.out.alloc (.cells #[.int .u64 x] 22)
              have H1 := Lib.hid h1
              have H2 := Lib.hid h2
              have H4 := Lib.hid h4
              have H6 := Lib.hid h6
              have H7 := Lib.hid h7
              have H8 := Lib.hid h8
              have H9 := Lib.hid h9
              have hlen4 : ns.length ≤ 400 := by have h1 := HIL.out; have h2 := HM.out; omega
              have hla : Hid (ats.length = ns.length) := Lib.hid h4.len
              have hla4 : ats.length ≤ 400 := by rw [hla.out]; exact hlen4
              clear h1 h2 h4 h6 h7 h8 h9
              go_wp2_with (fail)
              refine (go_c _ B r b t l (now + at_ % 1073741824) (some ⟨_, 0, none⟩) 1 1 [x] (one_row (blk_new _ _) x0 (by omega)) (by omega) H1.out H2.out (by omega) (by omega)).mono ?_
              rintro e w4 hq
              rcases hq with ⟨_, rfl, b4⟩ | ⟨L, hL, rfl, a4, b4, y0, y1⟩
              · have HB4 := Lib.hid (HBK.out.below (nextB ((Below.refl _ _).alloc (Nat.le_refl _) (.cells #[.int .u64 x] 22)) b4))
                clear b4
                go_wp2_with (fail)
                go_roundw
                case rel => exact ⟨m + 1, _, _, rfl, rfl, by omega, by go_num, HB4.out.later (Int.le_refl _) (by omega)⟩
                case measure => simp [intOf]; omega
              · have HP := Lib.hid hL
                have A4 := Lib.hid a4
                have hwr := HBX.out.size
                have hBw := HB.out
                have E4 : Hid (Below w.heap.size w w4) := Lib.hid (H9.out.trans (b4.below hBw (by simp; omega)))
                have h6 := Lib.hid (H6.out.kept b4.grow (H6.out.apart lBC))
                have h7 := Lib.hid (H7.out.kept b4.grow (H7.out.apart lBC))
                have hC4 : C ≤ w4.heap.size := by have := b4.size; simp at this h10; omega
                clear hL a4 b4
                go_wp2_with (first | (at_builtin; refine wpList_append_own_at _ rfl (.tmp 76) (.tmp 78) 23 rfl C 22 i0 (.int .u64 0) 1 8 Try.underlying23 hi hz0 hz1 hz2 rfl (by decide) vA1 ats.length (ats.map (Value.int .u64)) rfl (World.ownsRow.alloc h6.out _) ⟨w4.heap.size, 0, none⟩ 1 1 [.int .u64 (now + at_ % 1073741824)] rfl rfl (news_one (blk_new _ _)) (one_int _ _) (by unfold maxLen; omega) (by omega) (by simp; omega) ?_; intro vA' w5 ho5 hg5 hn5 hp5; have O5 := Lib.hid ho5; have G5 := Lib.hid hg5; have P5 := Lib.hid hp5; have N5 := Lib.hid (h7.out.second H8.out hg5); have hC5 : C ≤ w5.heap.size := (by have := hg5.size; simp at this; omega); clear ho5 hg5 hn5 hp5) | (at_builtin; refine wpList_append_own_at _ rfl (.tmp 80) (.tmp 82) 23 rfl C 22 i0 (.int .u64 0) 1 8 Try.underlying23 hi hz0 hz1 hz2 rfl (by decide) vN1 ns.length (ns.map (Value.int .u64)) rfl (World.ownsRow.alloc N5.out _) ⟨w5.heap.size, 0, none⟩ 1 1 [.int .u64 x] rfl rfl (news_one (blk_new _ _)) (one_int _ _) (by unfold maxLen; omega) (by omega) (by simp; omega) ?_; intro vN' w6 ho6 hg6 hn6 hp6; have O6 := Lib.hid ho6; have G6 := Lib.hid hg6; have P6 := Lib.hid hp6; clear ho6 hg6 hn6 hp6))
                have BK : Hid (Book w C B r b (now + at_ % 1073741824) (cnt w bb off k + m + 1) vA' vN' w6) := Lib.hid (Book.gone H2.out h3 (by omega) H4.out h5 x0 HP.out A4.out E4.out y0 y1 hwC lBC hC4 H8.out h6.out h7.out O5.out G5.out P5.out O6.out G6.out P6.out)
                go_roundw
                case rel => exact ⟨m + 1, _, _, rfl, rfl, by omega, by go_num, BK.out⟩
                case measure => simp [intOf]; omega
            · have HN : Hid (Book w C B r b (now + at_ % 1073741824) (tot w (some ⟨bb, off, none⟩) (k + 1)) vA1 vN1 wr) := Lib.hid (HBK.out.later (Int.le_refl _) (by have := HIL.out; omega))
              go_wp2_with (fail)
              go_roundw
              case rel => exact ⟨k + 1, _, _, _, rfl, rfl, by omega, by go_num, rfl, by omega, by omega, HN.out⟩
              case measure => simp [intOf]; omega
        · obtain ⟨t, l, ats, ns, h1, h2, h3, h4, h5, h6, h7, h8, h9, h10⟩ := HK.out
          have hkn : k = n := by omega
          have hT4 := HT.out
          rw [← hkn] at hT4
          have rA := h6.row (fun j hj => by have := h4.low j (by rw [← h4.len]; exact hj); have := h2.t2; omega)
          have rN := h7.row (fun j hj => by have := h4.nums (ns.getD j 0) (by rw [List.getD_eq_getElem?_getD, List.getElem?_eq_getElem (by omega)]; exact List.getElem_mem _); omega)
          obtain ⟨Aa, ca, rfl, ra⟩ := rA
          obtain ⟨An, cn, rfl, rn⟩ := rN
          rw [h4.len] at ra
          have e0 := h4.len
          rw [e0]
          obtain ⟨q, hq⟩ : ∃ q, ns.length = q := ⟨_, rfl⟩
          rw [hq] at ra rn h5
          have HF := Lib.hid h4
          have HQ := Lib.hid hq
          have RA := Lib.hid ra
          have RN := Lib.hid rn
          have H9 := Lib.hid h9
          have hT2 := h2.t2
          have HL := Lib.hid h4.len
          rw [hq]
          clear h1 h2 h4 h6 h7 h8 h9 h10 ra rn hq e0 hi hz0 hz1 hz2 hkn
          go_wp2_with (fail)
          go_loopw [88] (fun s wx => ∃ i : Nat, i ≤ q ∧ s = .int .i64 i ∧ Below wo.heap.size wo wx) (fun s _ => q - (intOf s).toNat)
          case atStart => exact ⟨0, Nat.zero_le _, rfl, Below.refl _ _⟩
          case round =>
            obtain ⟨i, hi, rfl, hbx⟩ := hrel
            obtain ⟨wi, rfl⟩ : ∃ wi : World, wi = wr := ⟨_, rfl⟩
            have HBX := Lib.hid hbx
            clear hbx
            by_cases hiq : i < q
            · go_wp2_with (fail)
              go_loopw [17, 18] (fun s1 s2 wy => ∃ m : Nat, i ≤ m ∧ m ≤ q ∧ s1 = .int .u64 (ps ns m - ps ns i) ∧ s2 = .int .i64 m ∧ Below wo.heap.size wo wy) (fun _ s2 _ => q - (intOf s2).toNat)
              case atStart => exact ⟨i, Nat.le_refl _, by omega, by rw [Int.sub_self], rfl, HBX.out⟩
              case round =>
                obtain ⟨m, him, hmq, rfl, rfl, hby⟩ := hrel
                have HBY := Lib.hid hby
                clear hby
                have hqn := HQ.out
                have hsum := ps_le ns 1073741824 (by omega) HF.out.nums i m him (by omega)
                have hps : ps ns m - ps ns i ≤ 400 * 1073741824 := by
                  have : ((m - i : Nat) : Int) * 1073741824 ≤ 400 * 1073741824 := by omega
                  omega
                have hps0 : 0 ≤ ps ns m - ps ns i := by omega
                by_cases hmlt : m < q
                · obtain ⟨ba, oa, rfl, hba, hza⟩ := RA.out.2.resolve_left (by omega)
                  obtain ⟨bn, on_, rfl, hbn, hzn⟩ := RN.out.2.resolve_left (by omega)
                  have ci := below_cell HBY.out (hza i hiq).1
                  have cm := below_cell HBY.out (hza m hmlt).1
                  have cx := below_cell HBY.out (hzn m hmlt).1
                  have li := HF.out.low i (by omega)
                  have lm := HF.out.low m (by omega)
                  have hri := HF.out.rise i m him (by omega)
                  have hnx := HF.out.nums (ns.getD m 0) (by rw [List.getD_eq_getElem?_getD, List.getElem?_eq_getElem (by omega)]; exact List.getElem_mem _)
                  have hsuc := ps_succ ns m (by omega)
                  have htest := HF.out.test g0 i m him (by omega)
                  have hP : ps ns (m + 1) - ps ns i = ps ns m - ps ns i + ns.getD m 0 := by rw [hsuc]; omega
                  rw [hP] at htest
                  have HPP := Lib.hid hP
                  clear hza hzn hsuc hP hqn hsum
                  generalize ns.getD m 0 = x at *
                  generalize ps ns m - ps ns i = S at *
                  generalize ats.getD i 0 = ai at *
                  generalize ats.getD m 0 = am at *
                  by_cases bs : b < S + x
                  · have bs' : decide (b < S + x) = true := decide_eq_true bs
                    have tq := htest bs
                    have dQ : decide (am - ai < ((S + x - b) * 1000000 + r - 1) / r) = false := decide_eq_false (by omega)
                    have hD := Int.ediv_nonneg (a := (S + x - b) * 1000000 + r - 1) (b := r) (by omega) (by omega)
                    clear htest tq
                    go_wp2_with (fail)
                    have HBW0 := HBY.out
                    go_quiet (fail)
                    have HBW := Lib.hid (below_drewN HBW0 nq)
                    go_wp2_with (fail)
                    go_roundw
                    case rel => exact ⟨m + 1, by omega, by omega, by rw [HPP.out], by go_num, HBW.out⟩
                    case measure => simp [intOf]; omega
                  · have bs' : decide (b < S + x) = false := decide_eq_false bs
                    clear htest
                    go_wp2_with (fail)
                    have HBW0 := HBY.out
                    go_quiet (fail)
                    have HBW := Lib.hid (below_drewN HBW0 nq)
                    go_wp2_with (fail)
                    go_roundw
                    case rel => exact ⟨m + 1, by omega, by omega, by rw [HPP.out], by go_num, HBW.out⟩
                    case measure => simp [intOf]; omega
                · have e : m = q := by omega
                  clear hps hps0 hqn hsum
                  go_wp2_with (fail)
                  go_roundw
                  case rel => exact ⟨i + 1, by omega, by go_num, HBY.out⟩
                  case measure => simp [intOf]; omega
            · go_wp2_with (fail)
              refine (works_c _).mono ?_
              rintro e w7 ⟨rfl, b7⟩
              go_wp2_with (fail)
              go_ret
              exact ⟨rfl, nextB (H9.out.trans (HBX.out.mono H9.out.size)) b7⟩
  · go_enter Try.func4, Try.ntmps4
    go_wp2_with (fail)
    refine (new_no r b w ok).mono ?_
    rintro e w1 ⟨rfl, b1⟩
    by_cases c0 : r < 1
    · have q0 : decide (r < 1) = true := decide_eq_true c0
      go_wp2_with (fail)
      refine (works_c _).mono ?_
      rintro e w3 ⟨rfl, b3⟩
      go_wp2_with (fail)
      go_ret
      exact ⟨rfl, nextB b1 b3⟩
    · have q0 : decide (r < 1) = false := decide_eq_false c0
      by_cases c1 : 1073741824 < r
      · have q1 : decide (1073741824 < r) = true := decide_eq_true c1
        go_wp2_with (fail)
        refine (works_c _).mono ?_
        rintro e w3 ⟨rfl, b3⟩
        go_wp2_with (fail)
        go_ret
        exact ⟨rfl, nextB b1 b3⟩
      · have q1 : decide (1073741824 < r) = false := decide_eq_false c1
        by_cases c2 : b < 1200
        · have q2 : decide (b < 1200) = true := decide_eq_true c2
          go_wp2_with (fail)
          refine (works_c _).mono ?_
          rintro e w3 ⟨rfl, b3⟩
          go_wp2_with (fail)
          go_ret
          exact ⟨rfl, nextB b1 b3⟩
        · have q2 : decide (b < 1200) = false := decide_eq_false c2
          have q3 : decide (1073741824 < b) = true := decide_eq_true (by omega)
          go_wp2_with (fail)
          refine (works_c _).mono ?_
          rintro e w3 ⟨rfl, b3⟩
          go_wp2_with (fail)
          go_ret
          exact ⟨rfl, nextB b1 b3⟩
end Go.Proofs.Ytkkkobmeoalgnaa
