/- The walk of PacerPlays. -/
import Derived.Test.YtkkkobmeoalgnaaRef
import Derived.Deep.RegionHeld3
import Derived.Deep.DeepCutAuto
import Derived.Deep.CutBlock
import Derived.Outline
namespace Go.Proofs.Ytkkkobmeoalgnaa
set_option linter.unusedVariables false
set_option linter.unusedSimpArgs false
open Go.RowKit
theorem At.only' {B C : Nat} {w w' : World} {ra bu tk le : Int} (h : At w B ra bu tk le) (hb : Only C w w') (hne : B ≠ C) : At w' B ra bu tk le := h.only hb hne
/-- The two pacers stand alike. -/
def Same (w0 : World) (B C : Nat) (b : Int) (w : World) : Prop := ∃ r t l : Int, At w B r b t l ∧ Rf w C r b t l ∧ Ok r b t l ∧ Below w0.heap.size w0 w
theorem At.apart {w : World} {B C : Nat} {ra bu tk le : Int} (i : Nat) (v : Value) (h : At w B ra bu tk le) (hne : B ≠ C) : At (w.setCell ⟨C, i, none⟩ v) B ra bu tk le := h.only (Only.set (Only.refl _ _) _ _) hne
theorem Same.stored {w0 w : World} {B C : Nat} {r b t l x0 x1 x2 x3 : Int} (hA : At w B r b t l) (hR : Rf w C x0 x1 x2 x3) (ho : Ok r b t l) (hb : Below w0.heap.size w0 w) (hne : B < C) (hC : w0.heap.size ≤ C) :
    Same w0 B C b ((((w.setCell ⟨C, 0, none⟩ (.int .u64 r)).setCell ⟨C, 1, none⟩ (.int .u64 b)).setCell ⟨C, 2, none⟩ (.int .u64 t)).setCell ⟨C, 3, none⟩ (.int .u64 l)) :=
  ⟨r, t, l, (((hA.apart _ _ (by omega)).apart _ _ (by omega)).apart _ _ (by omega)).apart _ _ (by omega), (((hR.s0 _).s1 _).s2 _).s3 _, ho, (((hb.setCell (p := ⟨C, 0, none⟩) hC _).setCell (p := ⟨C, 1, none⟩) hC _).setCell (p := ⟨C, 2, none⟩) hC _).setCell (p := ⟨C, 3, none⟩) hC _⟩
theorem Same.stored2 {w0 w : World} {B C : Nat} {r r2 b t l x0 x1 x2 x3 : Int} (hA : At w B r2 b t l) (hR : Rf w C x0 x1 x2 x3) (ho : Ok r2 b t l) (hb : Below w0.heap.size w0 w) (hne : B < C) (hC : w0.heap.size ≤ C) :
    Same w0 B C b (((((w.setCell ⟨C, 0, none⟩ (.int .u64 r)).setCell ⟨C, 1, none⟩ (.int .u64 b)).setCell ⟨C, 2, none⟩ (.int .u64 t)).setCell ⟨C, 3, none⟩ (.int .u64 l)).setCell ⟨C, 0, none⟩ (.int .u64 r2)) :=
  ⟨r2, t, l, ((((hA.apart _ _ (by omega)).apart _ _ (by omega)).apart _ _ (by omega)).apart _ _ (by omega)).apart _ _ (by omega), ((((hR.s0 _).s1 _).s2 _).s3 _).s0 _, ho, ((((hb.setCell (p := ⟨C, 0, none⟩) hC _).setCell (p := ⟨C, 1, none⟩) hC _).setCell (p := ⟨C, 2, none⟩) hC _).setCell (p := ⟨C, 3, none⟩) hC _).setCell (p := ⟨C, 0, none⟩) hC _⟩
theorem cell_set {w : World} {p : Addr} {C i : Nat} {x v : Value} (h : w.cell? p = some v) (hne : p.block ≠ C) : (w.setCell ⟨C, i, none⟩ x).cell? p = some v :=
  ((Only.set (Only.refl C w) i x).cell (cell_lt h).1 hne).trans h
theorem ok_rate {r b t l n : Int} (o : Ok r b t l) (g1 : 1 ≤ n) (g2 : n ≤ 1073741824) : Ok n b t l := ⟨g1, g2, o.b1, o.b2, o.t1, o.t2, o.l1, o.l2⟩
theorem ok_pack {b : Int} : ∀ (zs : List Int) {L L' : Int}, (∀ x ∈ zs, 0 ≤ x) → 0 ≤ L → L ≤ b → pack L zs = some L' → 0 ≤ L' ∧ L' ≤ b
  | [], L, L', _, h0, h1, hp => by simp only [pack] at hp; cases hp; exact ⟨h0, h1⟩
  | x :: zs, L, L', hz, h0, h1, hp => by
    have hx := hz x (List.mem_cons_self ..)
    simp only [pack] at hp
    split at hp
    · exact ok_pack zs (fun y hy => hz y (List.mem_cons_of_mem _ hy)) (by omega) (by omega) hp
    · cases hp
set_option maxRecDepth 100000 in
set_option maxHeartbeats 100000000 in
theorem plays_c (w : World) (r b : Int) (A : Option Addr) (n c : Nat) (hr : DoRow w A n) :
    Calls Try.prog 7 #[.int .u64 r, .int .u64 b, .slice A n c] w fun e w' => e = .returned (.bool true) ∧ Below w.heap.size w w' := by
  by_cases ok : 1 ≤ r ∧ r ≤ 1073741824 ∧ 1200 ≤ b ∧ b ≤ 1073741824
  · obtain ⟨g0, g1, g2, g3⟩ := ok
    have q0 : decide (r < 1) = false := decide_eq_false (by omega)
    have q1 : decide (1073741824 < r) = false := decide_eq_false (by omega)
    have q2 : decide (b < 1200) = false := decide_eq_false (by omega)
    have q3 : decide (1073741824 < b) = false := decide_eq_false (by omega)
    go_enter Try.func7, Try.ntmps7
    go_wp2_with (fail)
    refine (new_yes r b w g0 g1 g2 g3).mono ?_
    rintro e w1 ⟨B, rfl, a1, hB, b1⟩
    have A1 := Lib.hid a1
    have B1 := Lib.hid b1
    have HB := Lib.hid hB
    clear a1 b1 hB
    go_wp2_with (fail)
    have HV := heavy_d w1 A n c (hr.below B1.out)
    rw [tot_below B1.out hr] at HV
    by_cases hv : 400 < tot w A n
    · rw [show decide (400 < tot w A n) = true from decide_eq_true hv] at HV
      refine HV.mono ?_
      rintro e w2 ⟨rfl, b2⟩
      have B2 := Lib.hid (nextB B1.out b2)
      clear b2 HV
      go_wp2_with (fail)
      refine (works_c _).mono ?_
      rintro e w4 ⟨rfl, b4⟩
      go_wp2_with (fail)
      go_ret
      exact ⟨rfl, nextB B2.out b4⟩
    · rw [show decide (400 < tot w A n) = false from decide_eq_false hv] at HV
      refine HV.mono ?_
      rintro e w2 ⟨rfl, b2⟩
      have B2 := Lib.hid (nextB B1.out b2)
      have A2 := Lib.hid (A1.out.below b2)
      have lB := A2.out.lt
      have hnm : n ≤ 400 := by have := tot_ge w A n hr n (Nat.le_refl _); omega
      have HR := Lib.hid hr
      have O0 := Lib.hid (ok_new g0 g1 g2 g3)
      obtain ⟨C, hC⟩ : ∃ C, w2.heap.size = C := ⟨_, rfl⟩
      have HC := Lib.hid hC
      have lBC : B < C := by rw [← HC.out]; exact lB
      have hwC : w.heap.size ≤ C := by have := B2.out.size; have := HC.out; omega
      have S0 : Hid (Same w B C b (w2.alloc (.cells #[.int .u64 r, .int .u64 b, .int .u64 0, .int .u64 (b * 1000000)] 43))) := Lib.hid ⟨r, 0, b * 1000000, A2.out.below ((Below.refl _ _).alloc (Nat.le_refl _) _), (by have := Rf.new w2 r b 0 (b * 1000000); rw [HC.out] at this; exact this), O0.out, B2.out.alloc B2.out.size _⟩
      clear HV hv b2 hr lB q0 q1 q2 q3
      go_wp2_with (fail)
      clear hC
      go_loopw [69] (fun i wr => ∃ (k : Nat), k ≤ n ∧ i = .int .i64 k ∧ Same w B C b wr) (fun i _ => n - (intOf i).toNat)
      case atStart => exact ⟨0, Nat.zero_le _, rfl, S0.out⟩
      case round =>
        obtain ⟨k, hk, rfl, hs⟩ := hrel
        obtain ⟨wo, rfl⟩ : ∃ wo : World, wo = wr := ⟨_, rfl⟩
        obtain ⟨r', t, l, hat0, hrf0, ho, hbl⟩ := hs
        have HAT := Lib.hid hat0
        have HRF := Lib.hid hrf0
        have O := Lib.hid ho
        have HBL := Lib.hid hbl
        have m0 := hrf0.c0
        have m1 := hrf0.c1
        have m2 := hrf0.c2
        have m3 := hrf0.c3
        have lC := hrf0.lt
        clear hat0 hrf0 ho hbl
        by_cases hlt : k < n
        · obtain ⟨bb, off, rfl, hbb, hat⟩ := HR.out.2.resolve_left (by omega)
          obtain ⟨kd, at_, more, ia, il, ic, zs, c0, c1, c2, c3, w0, w1', w2', hreach, hri⟩ := hat k hlt
          have HRI := Lib.hid hri
          obtain ⟨q0, q1⟩ := bounds64 w1'
          obtain ⟨q2, q3⟩ := bounds64 w2'
          obtain ⟨q4, q5⟩ := bounds8 w0
          have c0' := below_cell HBL.out c0
          have c1' := below_cell HBL.out c1
          have c2' := below_cell HBL.out c2
          have c3' := below_cell HBL.out c3
          clear hat hri w0 w1' w2' c0 c1 c2 c3
          have rc := fun wz => ref_c wz r' b t l at_ O.out q0 (by omega)
          have oa := ok_after O.out q0 (by omega : at_ < 18446744073709551616)
          have OA := Lib.hid oa
          clear oa
          generalize hT : tm t at_ = T at *
          generalize hL : lv r' b t l at_ = L at *
          have HT := Lib.hid hT
          have HL := Lib.hid hL
          clear hT hL
          go_upto_region 11 with (fail)
          go_cut [13] (fun s13 wz => ∃ N, s13 = .pointer (some ⟨N, 0, none⟩) ∧ wo.heap.size < N ∧ Rf wz N r' b T L ∧ Below (wo.alloc (.cells #[.int .u8 kd, .int .u64 at_, .int .u64 more, .slice ia il ic] 35)).heap.size (wo.alloc (.cells #[.int .u8 kd, .int .u64 at_, .int .u64 more, .slice ia il ic] 35)) wz)
          case first =>
            go_wp2_with (fail)
            refine (rc _).mono ?_
            rintro e w3 ⟨rfl, b3⟩
            have hsz := b3.size
            have hsz2 : wo.heap.size + 1 ≤ w3.heap.size := by simpa using hsz
            have B3 := Lib.hid b3
            clear b3 hsz
            go_wp2_with (fail)
            go_meet
            case rel => exact ⟨_, rfl, by omega, Rf.new _ _ _ _ _, B3.out.alloc B3.out.size _⟩
          case rest =>
            obtain ⟨N, rfl, hXN, hN, hb3⟩ := hcut
            have HN := Lib.hid hN
            have HB3 := Lib.hid hb3
            clear hN hb3 rc
            have e0 : wc.cell? ⟨wo.heap.size, 0, none⟩ = some (.int .u8 kd) := (HB3.out.cell (p := ⟨wo.heap.size, 0, none⟩) (by simp)).trans ((blk_cell (blk_new wo _) 0).trans rfl)
            have e1 : wc.cell? ⟨wo.heap.size, 1, none⟩ = some (.int .u64 at_) := (HB3.out.cell (p := ⟨wo.heap.size, 1, none⟩) (by simp)).trans ((blk_cell (blk_new wo _) 1).trans rfl)
            have e2 : wc.cell? ⟨wo.heap.size, 2, none⟩ = some (.int .u64 more) := (HB3.out.cell (p := ⟨wo.heap.size, 2, none⟩) (by simp)).trans ((blk_cell (blk_new wo _) 2).trans rfl)
            have e3 : wc.cell? ⟨wo.heap.size, 3, none⟩ = some (.slice ia il ic) := (HB3.out.cell (p := ⟨wo.heap.size, 3, none⟩) (by simp)).trans ((blk_cell (blk_new wo _) 3).trans rfl)
            have BO : Hid (Below wo.heap.size wo wc) := Lib.hid (nextB ((Below.refl wo.heap.size wo).alloc (Nat.le_refl _) _) HB3.out)
            have HA := Lib.hid (HAT.out.below BO.out)
            have HR' := Lib.hid (HRF.out.below BO.out)
            have BW := Lib.hid (nextB HBL.out BO.out)
            have n0 := HN.out.c0
            have n1 := HN.out.c1
            have n2 := HN.out.c2
            have n3 := HN.out.c3
            have hcN := HN.out.lt
            have lX : wo.heap.size < wc.heap.size := by omega
            clear c0' c1' c2' c3'
            have v0 := HR'.out.c0
            have v1 := HR'.out.c1
            have v2 := HR'.out.c2
            have v3 := HR'.out.c3
            have f0 := HR'.out.f0
            have f1 := HR'.out.f1
            have f2 := HR'.out.f2
            have f3 := HR'.out.f3
            clear m0 m1 m2 m3
            go_step
            go_step
            go_cut [12] (fun s12 wz => s12 = .bool true ∧ Same w B C b wz ∧ wz.cell? ⟨wo.heap.size, 1, none⟩ = some (.int .u64 at_))
            case first =>
              have lB0 : B < wo.heap.size := HAT.out.lt
              by_cases k0 : kd = 0
              · subst k0
                as_aux_lemma =>
                  have rg := refgo_c wc r' b t l at_ ia il ic zs (HRI.out.below BW.out) (by omega) O.out q0 (by omega)
                  rw [HL.out, HT.out] at rg
                  go_wp2_with (fail)
                  refine rg.mono ?_
                  rintro e w4 ⟨hq, b4⟩
                  clear rg
                  have x1 := below_cell b4 e1
                  have x3 := below_cell b4 e3
                  have A4 := Lib.hid (HA.out.below b4)
                  have R4 := Lib.hid (HR'.out.below b4)
                  have B4 := Lib.hid b4
                  have BW4 := Lib.hid (nextB BW.out b4)
                  have hs4 := b4.size
                  have lX4 : wo.heap.size < w4.heap.size := by omega
                  have lC4 : C < w4.heap.size := by omega
                  have lN4 : N < w4.heap.size := by omega
                  clear b4
                  rcases hq with ⟨hp, rfl⟩ | ⟨L', hp, rfl⟩
                  · have gc := fun wz h1 h2 => go_c wz B r' b t l at_ ia il ic zs h1 (by omega) h2 O.out q0 (by omega)
                    rw [HL.out, HT.out, hp] at gc
                    have GC := Lib.hid gc
                    clear gc hp
                    go_wp2_with (fail)
                    refine (GC.out _ (HRI.out.below (BW4.out.alloc BW4.out.size _)) (A4.out.below ((Below.refl _ _).alloc (Nat.le_refl _) _))).mono ?_
                    rintro e w5 hq2
                    rcases hq2 with ⟨-, rfl, b5⟩ | ⟨L2, hp2, -⟩
                    · have b54 := nextB ((Below.refl w4.heap.size w4).alloc (Nat.le_refl _) (.cells #[.int .u64 r', .int .u64 b, .int .u64 t, .int .u64 l] 43)) b5
                      have R5 := Lib.hid (R4.out.below b54)
                      have A5 := Lib.hid (A4.out.below b54)
                      have B5 := Lib.hid (nextB BW4.out b54)
                      have X5 := below_cell b54 x1
                      have P5 := (Rf.new w4 r' b t l).below b5
                      have p0 := P5.c0
                      have p1 := P5.c1
                      have p2 := P5.c2
                      have p3 := P5.c3
                      have f0' := R5.out.f0
                      have f1' := R5.out.f1
                      have f2' := R5.out.f2
                      have f3' := R5.out.f3
                      have z0' := R5.out.c0
                      have z1' := R5.out.c1
                      have z2' := R5.out.c2
                      have z3' := R5.out.c3
                      clear b5 b54 P5
                      go_wp2_with (fail)
                      go_meet
                      case rel => exact ⟨rfl, Same.stored A5.out R5.out O.out B5.out lBC hwC, cell_set (cell_set (cell_set (cell_set X5 (by simp; omega)) (by simp; omega)) (by simp; omega)) (by simp; omega)⟩
                    · cases hp2
                  · have hok : Hid (Ok r' b T L') := Lib.hid (by
                      have h1 := ok_pack (b := b * 1000000) zs (fun x hx => by
                        rcases HRI.out.2 with h0 | ⟨_, _, _, _, hc⟩
                        · have : zs = [] := List.eq_nil_of_length_eq_zero (by rw [HRI.out.1]; exact h0)
                          rw [this] at hx; cases hx
                        · obtain ⟨j, hj, rfl⟩ := List.getElem_of_mem hx
                          have := bounds64 (hc j (by rw [← HRI.out.1]; exact hj)).2
                          rw [List.getD_eq_getElem?_getD, List.getElem?_eq_getElem hj] at this
                          simpa using this.1) OA.out.l1 OA.out.l2 hp
                      exact ⟨OA.out.r1, OA.out.r2, OA.out.b1, OA.out.b2, OA.out.t1, OA.out.t2, h1.1, h1.2⟩)
                    have gc := fun wz h1 h2 => go_c wz B r' b t l at_ ia il ic zs h1 (by omega) h2 O.out q0 (by omega)
                    rw [HL.out, HT.out, hp] at gc
                    have GC := Lib.hid gc
                    clear gc hp
                    go_wp2_with (fail)
                    refine (GC.out _ (HRI.out.below (BW4.out.alloc BW4.out.size _)) (A4.out.below ((Below.refl _ _).alloc (Nat.le_refl _) _))).mono ?_
                    rintro e w5 hq2
                    rcases hq2 with ⟨hp2, -⟩ | ⟨L2, hp2, rfl, a5, b5, -, -⟩
                    · cases hp2
                    · have hL2 : L' = L2 := Option.some.inj hp2
                      subst hL2
                      have b54 : Only B w4 w5 := (Only.alloc (Only.refl _ _) (.cells #[.int .u64 r', .int .u64 b, .int .u64 T, .int .u64 L'] 43)).trans b5
                      have R5 := Lib.hid (R4.out.only b54 (by omega))
                      have A5 := Lib.hid a5
                      have B5 := Lib.hid (BW4.out.trans (b54.below HB.out BW4.out.size))
                      have X5 := (b54.cell (p := ⟨wo.heap.size, 1, none⟩) (by simp; omega) (by simp; omega)).trans x1
                      have P5 := (Rf.new w4 r' b T L').only b5 (by omega)
                      have p0 := P5.c0
                      have p1 := P5.c1
                      have p2 := P5.c2
                      have p3 := P5.c3
                      have f0' := R5.out.f0
                      have f1' := R5.out.f1
                      have f2' := R5.out.f2
                      have f3' := R5.out.f3
                      have z0' := R5.out.c0
                      have z1' := R5.out.c1
                      have z2' := R5.out.c2
                      have z3' := R5.out.c3
                      clear b5 b54 P5 a5 hp2
                      go_wp2_with (fail)
                      go_meet
                      case rel => exact ⟨rfl, Same.stored A5.out R5.out hok.out B5.out lBC hwC, cell_set (cell_set (cell_set (cell_set X5 (by simp; omega)) (by simp; omega)) (by simp; omega)) (by simp; omega)⟩
              · have kd0 : ((kd : Int) == 0) = false := by simpa using k0
                by_cases k1 : kd = 1
                · subst k1
                  clear n0 n1 n2 n3
                  by_cases okn : 1 ≤ more ∧ more ≤ 1073741824
                  · obtain ⟨g4, g5⟩ := okn
                    have t0 : decide (1 ≤ more) = true := decide_eq_true g4
                    have t1 : decide (more ≤ 1073741824) = true := decide_eq_true g5
                    as_aux_lemma =>
                      have rt := rate_c wc B r' b t l at_ more HA.out O.out q0 (by omega) g4 g5
                      rw [HL.out, HT.out] at rt
                      go_wp2_with (fail)
                      refine rt.mono ?_
                      rintro e w5 ⟨rfl, a5, b5⟩
                      have hs5 := b5.size
                      have R5 := Lib.hid (HR'.out.only b5 (by omega))
                      have A5 := Lib.hid a5
                      have B5 := Lib.hid (BW.out.trans (b5.below HB.out BW.out.size))
                      have X5 := (b5.cell (p := ⟨wo.heap.size, 1, none⟩) (by simp; omega) (by simp; omega)).trans e1
                      have X6 := (b5.cell (p := ⟨wo.heap.size, 2, none⟩) (by simp; omega) (by simp; omega)).trans e2
                      have P5 := HN.out.only b5 (by omega)
                      have p0 := P5.c0
                      have p1 := P5.c1
                      have p2 := P5.c2
                      have p3 := P5.c3
                      have f0' := R5.out.f0
                      have f1' := R5.out.f1
                      have f2' := R5.out.f2
                      have f3' := R5.out.f3
                      have z0' := R5.out.c0
                      have z1' := R5.out.c1
                      have z2' := R5.out.c2
                      have z3' := R5.out.c3
                      clear b5 P5 a5 rt
                      clear e0 e1 e2 e3 v0 v1 v2 v3 f0 f1 f2 f3
                      go_wp2_with (fail)
                      go_meet
                      case rel => exact ⟨rfl, Same.stored2 A5.out R5.out (ok_rate OA.out g4 g5) B5.out lBC hwC, cell_set (cell_set (cell_set (cell_set (cell_set X5 (by simp; omega)) (by simp; omega)) (by simp; omega)) (by simp; omega)) (by simp; omega)⟩
                  · as_aux_lemma =>
                      have rt := rate_bad wc B at_ more okn
                      have go2 : ∀ wz, Below wc.heap.size wc wz → Same w B C b wz := fun wz hz => ⟨r', t, l, HA.out.below hz, HR'.out.below hz, O.out, nextB BW.out hz⟩
                      have GO2 := Lib.hid go2
                      clear go2
                      by_cases g4 : 1 ≤ more
                      · have t0 : decide (1 ≤ more) = true := decide_eq_true g4
                        have t1 : decide (more ≤ 1073741824) = false := decide_eq_false fun h => okn ⟨g4, h⟩
                        clear okn
                        go_wp2_with (fail)
                        refine rt.mono ?_
                        rintro e w5 ⟨rfl, b5⟩
                        have hs5 := b5.size
                        have X5 := below_cell b5 e1
                        have X6 := below_cell b5 e2
                        have S5 := Lib.hid (GO2.out _ b5)
                        clear b5 rt
                        clear e0 e1 e2 e3 v0 v1 v2 v3 f0 f1 f2 f3
                        go_wp2_with (fail)
                        go_meet
                        case rel => exact ⟨rfl, S5.out, X5⟩
                      · have t0 : decide (1 ≤ more) = false := decide_eq_false g4
                        clear okn
                        go_wp2_with (fail)
                        refine rt.mono ?_
                        rintro e w5 ⟨rfl, b5⟩
                        have hs5 := b5.size
                        have X5 := below_cell b5 e1
                        have X6 := below_cell b5 e2
                        have S5 := Lib.hid (GO2.out _ b5)
                        clear b5 rt
                        clear e0 e1 e2 e3 v0 v1 v2 v3 f0 f1 f2 f3
                        go_wp2_with (fail)
                        go_meet
                        case rel => exact ⟨rfl, S5.out, X5⟩
                · have kd1 : ((kd : Int) == 1) = false := by simpa using k1
                  have go2 : ∀ wz, Below wc.heap.size wc wz → Same w B C b wz := fun wz hz => ⟨r', t, l, HA.out.below hz, HR'.out.below hz, O.out, nextB BW.out hz⟩
                  have GO2 := Lib.hid go2
                  clear go2 f0 f1 f2 f3
                  have T1 := OA.out.t1
                  have T2 := OA.out.t2
                  have L1 := OA.out.l1
                  have L2 := OA.out.l2
                  have r1 := OA.out.r1
                  have r2 := OA.out.r2
                  by_cases k2 : kd = 2
                  · subst k2
                    by_cases lg : b < more
                    · have lg' : decide (b < more) = true := decide_eq_true lg
                      as_aux_lemma =>
                        have nx := next_long wc B r' b t l at_ more HA.out lg
                        go_wp2_with (fail)
                        refine nx.mono ?_
                        rintro e w5 ⟨rfl, b5⟩
                        have hs5 := b5.size
                        have X5 := below_cell b5 e1
                        have X6 := below_cell b5 e2
                        have S5 := Lib.hid (GO2.out _ b5)
                        have P5 := HN.out.below b5
                        have R5 := HR'.out.below b5
                        have p2 := P5.c2
                        have p3 := P5.c3
                        have z0' := R5.c0
                        clear b5 nx P5 R5
                        clear e0 e1 e2 e3 v0 v1 v2 v3 n0 n1 n2 n3
                        go_wp2_with (fail)
                        go_meet
                        case rel => exact ⟨rfl, S5.out, X5⟩
                    · have lg' : decide (b < more) = false := decide_eq_false lg
                      have hmb : more ≤ b := by omega
                      clear lg
                      by_cases nw : more * 1000000 ≤ L
                      · as_aux_lemma =>
                          have nw' : decide (L < more * 1000000) = false := decide_eq_false (by omega)
                          have tt : decide (T ≤ T) = true := decide_eq_true (Int.le_refl _)
                          have nx := next_now wc B r' b t l at_ more HA.out O.out q0 (by omega) q2 hmb (by rw [HL.out]; exact nw)
                          rw [HT.out] at nx
                          clear nw
                          go_wp2_with (fail)
                          refine nx.mono ?_
                          rintro e w5 ⟨rfl, b5⟩
                          have hs5 := b5.size
                          have X5 := below_cell b5 e1
                          have X6 := below_cell b5 e2
                          have S5 := Lib.hid (GO2.out _ b5)
                          have P5 := HN.out.below b5
                          have R5 := HR'.out.below b5
                          have p2 := P5.c2
                          have p3 := P5.c3
                          have z0' := R5.c0
                          clear b5 nx P5 R5
                          clear e0 e1 e2 e3 v0 v1 v2 v3 n0 n1 n2 n3
                          go_wp2_with (fail)
                          go_meet
                          case rel => exact ⟨rfl, S5.out, X5⟩
                      · have nw' : decide (L < more * 1000000) = true := decide_eq_true (by omega)
                        have nx := next_wait wc B r' b t l at_ more HA.out O.out q0 (by omega) q2 hmb (by rw [HL.out]; omega)
                        rw [HT.out, HL.out] at nx
                        have hW := Int.ediv_nonneg (a := more * 1000000 - L + r' - 1) (b := r') (by omega) (by omega)
                        have hW2 := Int.ediv_le_self (a := more * 1000000 - L + r' - 1) r' (by omega)
                        have ew := wait_eq (n := more) (L := L) (r := r') (by omega) (by omega) L1 r1 r2
                        have hW3 : (more * 1000000 - L + r' - 1) / r' ≤ 2147483648000000 := by omega
                        generalize (more * 1000000 - L + r' - 1) / r' = W at *
                        clear nw hW2 L1 L2 r2
                        by_cases fits : W ≤ 18446744073709551615 - T
                        · rw [Int.min_eq_left fits] at nx
                          as_aux_lemma =>
                            have hsum : IntKind.u64.wrap (T + W) = T + W := by rw [IntKind.wrap_u64]; omega
                            have tt2 : decide (T ≤ T + W) = true := decide_eq_true (by omega)
                            clear fits
                            go_wp2_with (fail)
                            refine nx.mono ?_
                            rintro e w5 ⟨rfl, b5⟩
                            have hs5 := b5.size
                            have X5 := below_cell b5 e1
                            have X6 := below_cell b5 e2
                            have S5 := Lib.hid (GO2.out _ b5)
                            have P5 := HN.out.below b5
                            have R5 := HR'.out.below b5
                            have p2 := P5.c2
                            have p3 := P5.c3
                            have z0' := R5.c0
                            clear b5 nx P5 R5
                            clear e0 e1 e2 e3 v0 v1 v2 v3 n0 n1 n2 n3
                            go_wp2_with (fail)
                            go_meet
                            case rel => exact ⟨rfl, S5.out, X5⟩
                        · rw [Int.min_eq_right (by omega), show T + (18446744073709551615 - T) = 18446744073709551615 from by omega] at nx
                          as_aux_lemma =>
                            have hsum : IntKind.u64.wrap (T + W) = T + W - 18446744073709551616 := by rw [IntKind.wrap_u64]; omega
                            have tt2 : decide (T ≤ 18446744073709551615) = true := decide_eq_true (by omega)
                            have tt3 : decide (18446744073709551615 - T < W) = true := decide_eq_true (by omega)
                            have tt4 : ((18446744073709551615 : Int) == T + W - 18446744073709551616) = false := by simp; omega
                            clear fits
                            go_wp2_with (fail)
                            refine nx.mono ?_
                            rintro e w5 ⟨rfl, b5⟩
                            have hs5 := b5.size
                            have X5 := below_cell b5 e1
                            have X6 := below_cell b5 e2
                            have S5 := Lib.hid (GO2.out _ b5)
                            have P5 := HN.out.below b5
                            have R5 := HR'.out.below b5
                            have p2 := P5.c2
                            have p3 := P5.c3
                            have z0' := R5.c0
                            clear b5 nx P5 R5
                            clear e0 e1 e2 e3 v0 v1 v2 v3 n0 n1 n2 n3
                            go_wp2_with (fail)
                            go_meet
                            case rel => exact ⟨rfl, S5.out, X5⟩
                  · have kd2 : ((kd : Int) == 2) = false := by simpa using k2
                    have dv : IntKind.u64.wrap (L.tdiv 1000000) = L / 1000000 := div_mega L1 (by omega)
                    have my := fun wz h => may_c wz B r' b t l at_ more h O.out q0 (by omega)
                    rw [HL.out] at my
                    have hb0 : Below wc.heap.size wc wc := Below.refl _ _
                    clear v0 v1 v2 v3 e3 n0 n1 n2
                    by_cases dm : more ≤ L / 1000000
                    · as_aux_lemma =>
                        have dm' : decide (more ≤ L / 1000000) = true := decide_eq_true dm
                        rw [dm'] at my
                        have MY := Lib.hid my
                        clear my dm
                        obtain ⟨wp, rfl⟩ : ∃ wp : World, wp = wc := ⟨_, rfl⟩
                        have ha := HA.out
                        go_upto_region 13 with (fail)
                        go_region_held3 (fun w' => w'.cell? ⟨wo.heap.size, 1, none⟩ = some (.int .u64 at_) ∧ w'.cell? ⟨wo.heap.size, 2, none⟩ = some (.int .u64 more) ∧ w'.cell? ⟨N, 3, none⟩ = some (.int .u64 L) ∧ At w' B r' b t l ∧ Below wp.heap.size wp w')
                          (first | (go_split_ands; exact ⟨below_cell b5 (by assumption), below_cell b5 (by assumption), below_cell b5 (by assumption), At.below (by assumption) b5, nextB (by assumption) b5⟩) | (go_split_ands; exact ⟨by assumption, by assumption, by assumption, At.drew (by assumption), Below.drew (by assumption)⟩))
                          ((go_at_call 14; go_split_ands; refine (MY.out _ (by assumption)).mono ?_; rintro e w5 ⟨rfl, b5⟩))
                        go_split_ands
                        have bF : Below wp.heap.size wp w5 := by assumption
                        have xF : w5.cell? ⟨wo.heap.size, 1, none⟩ = some (.int .u64 at_) := by assumption
                        have S5 := Lib.hid (GO2.out _ bF)
                        clear bF
                        go_wp2_with (fail)
                        go_meet
                        case rel => exact ⟨rfl, S5.out, xF⟩
                    · as_aux_lemma =>
                        have dm' : decide (more ≤ L / 1000000) = false := decide_eq_false dm
                        rw [dm'] at my
                        have MY := Lib.hid my
                        clear my dm
                        obtain ⟨wp, rfl⟩ : ∃ wp : World, wp = wc := ⟨_, rfl⟩
                        have ha := HA.out
                        go_upto_region 13 with (fail)
                        go_region_held3 (fun w' => w'.cell? ⟨wo.heap.size, 1, none⟩ = some (.int .u64 at_) ∧ w'.cell? ⟨wo.heap.size, 2, none⟩ = some (.int .u64 more) ∧ w'.cell? ⟨N, 3, none⟩ = some (.int .u64 L) ∧ At w' B r' b t l ∧ Below wp.heap.size wp w')
                          (first | (go_split_ands; exact ⟨below_cell b5 (by assumption), below_cell b5 (by assumption), below_cell b5 (by assumption), At.below (by assumption) b5, nextB (by assumption) b5⟩) | (go_split_ands; exact ⟨by assumption, by assumption, by assumption, At.drew (by assumption), Below.drew (by assumption)⟩))
                          ((go_at_call 14; go_split_ands; refine (MY.out _ (by assumption)).mono ?_; rintro e w5 ⟨rfl, b5⟩))
                        go_split_ands
                        have bF : Below wp.heap.size wp w5 := by assumption
                        have xF : w5.cell? ⟨wo.heap.size, 1, none⟩ = some (.int .u64 at_) := by assumption
                        have S5 := Lib.hid (GO2.out _ bF)
                        clear bF
                        go_wp2_with (fail)
                        go_meet
                        case rel => exact ⟨rfl, S5.out, xF⟩
            case rest =>
              as_aux_lemma =>
                obtain ⟨rfl, hs, hx1⟩ := hcut
                obtain ⟨r2, t2, l2, ha2, hf2, o2, hb2⟩ := hs
                have u0 := hf2.c0
                have u1 := hf2.c1
                have u2 := hf2.c2
                have u3 := hf2.c3
                have lC2 := hf2.lt
                have HF2 := Lib.hid hf2
                have O2 := Lib.hid o2
                have HB2 := Lib.hid hb2
                have lvl := fun wz (h : At wz B r2 b t2 l2) => level_c wz B r2 b t2 l2 at_ h O2.out q0 (by omega)
                have lv0 := fun wz (h : At wz B r2 b t2 l2) => level_c wz B r2 b t2 l2 0 h O2.out (by omega) (by omega)
                have rcc := fun wz => ref_c wz r2 b t2 l2 at_ O2.out q0 (by omega)
                have hz : lv r2 b t2 l2 0 = l2 := by unfold lv; rw [if_pos o2.t1]
                rw [hz] at lv0
                have vb := lv_ok at_ o2
                obtain ⟨vb0, vb1⟩ := vb
                have vl0 := o2.l1
                have vl1 := o2.l2
                generalize lv r2 b t2 l2 at_ = V at *
                generalize tm t2 at_ = T2 at *
                have dv : IntKind.u64.wrap (V.tdiv 1000000) = V / 1000000 := div_mega vb0 (by omega)
                have dl : IntKind.u64.wrap (l2.tdiv 1000000) = l2 / 1000000 := div_mega vl0 (by omega)
                have LVL := Lib.hid lvl
                have LV0 := Lib.hid lv0
                have RCC := Lib.hid rcc
                clear hf2 o2 hb2 hz lvl lv0 rcc
                clear e0 e1 e2 e3 n0 n1 n2 n3 v0 v1 v2 v3 f0 f1 f2 f3
                obtain ⟨wp, rfl⟩ : ∃ wp : World, wp = wc := ⟨_, rfl⟩
                have hb0 : Below wp.heap.size wp wp := Below.refl _ _
                have hfd : ∀ wz : World, (Instr.field 43 (.agg #[.int .u64 r2, .int .u64 b, .int .u64 T2, .int .u64 V]) 3).run Try.prog wz = .ok (.int .u64 V) wz := fun _ => by kernel_rfl
                go_upto_region 36 with (fail)
                go_region_held3 (fun w' => w'.cell? ⟨C, 0, none⟩ = some (.int .u64 r2) ∧ w'.cell? ⟨C, 1, none⟩ = some (.int .u64 b) ∧ w'.cell? ⟨C, 2, none⟩ = some (.int .u64 t2) ∧ w'.cell? ⟨C, 3, none⟩ = some (.int .u64 l2) ∧ w'.cell? ⟨wo.heap.size, 1, none⟩ = some (.int .u64 at_) ∧ At w' B r2 b t2 l2 ∧ Below wp.heap.size wp w')
                  (first | (go_split_ands; exact ⟨below_cell b5 (by assumption), below_cell b5 (by assumption), below_cell b5 (by assumption), below_cell b5 (by assumption), below_cell b5 (by assumption), At.below (by assumption) b5, nextB (by assumption) b5⟩) | (go_split_ands; exact ⟨by assumption, by assumption, by assumption, by assumption, by assumption, At.drew (by assumption), Below.drew (by assumption)⟩))
                  (first
                    | (go_at_call_of 10 (Value.int .u64 at_); go_split_ands; refine (LVL.out _ (by assumption)).mono ?_; rintro e w5 ⟨rfl, b5⟩)
                    | (go_at_call_of 10 (Value.int .u64 0); go_split_ands; refine (LV0.out _ (by assumption)).mono ?_; rintro e w5 ⟨rfl, b5⟩)
                    | (go_at_call 16; refine (RCC.out _).mono ?_; rintro e w5 ⟨rfl, b5⟩))
                go_split_ands
                have aF : At w5 B r2 b t2 l2 := by assumption
                have bF : Below wp.heap.size wp w5 := by assumption
                have SF : Hid (Same w B C b w5) := Lib.hid ⟨r2, t2, l2, aF, HF2.out.below bF, O2.out, nextB HB2.out bF⟩
                clear aF bF
                go_wp2_with (fail)
                go_roundw
                case rel => exact ⟨k + 1, by omega, by go_num, SF.out⟩
                case measure => simp [intOf]; omega
        · obtain ⟨wp, rfl⟩ : ∃ wp : World, wp = wo := ⟨_, rfl⟩
          clear m0 m1 m2 m3
          go_wp2_with (fail)
          refine (works_c _).mono ?_
          rintro e w7 ⟨rfl, b7⟩
          go_wp2_with (fail)
          go_ret
          exact ⟨rfl, nextB HBL.out b7⟩
  · go_enter Try.func7, Try.ntmps7
    go_wp2_with (fail)
    refine (new_no r b w ok).mono ?_
    rintro e w1 ⟨rfl, b1⟩
    by_cases c0 : r < 1
    · have q0 : decide (r < 1) = true := decide_eq_true c0
      go_wp2_with (fail)
      refine (works_c _).mono ?_
      rintro e w3 ⟨rfl, b3⟩
      go_wp2_with (fail)
      go_ret
      exact ⟨rfl, nextB b1 b3⟩
    · have q0 : decide (r < 1) = false := decide_eq_false c0
      by_cases c1 : 1073741824 < r
      · have q1 : decide (1073741824 < r) = true := decide_eq_true c1
        go_wp2_with (fail)
        refine (works_c _).mono ?_
        rintro e w3 ⟨rfl, b3⟩
        go_wp2_with (fail)
        go_ret
        exact ⟨rfl, nextB b1 b3⟩
      · have q1 : decide (1073741824 < r) = false := decide_eq_false c1
        by_cases c2 : b < 1200
        · have q2 : decide (b < 1200) = true := decide_eq_true c2
          go_wp2_with (fail)
          refine (works_c _).mono ?_
          rintro e w3 ⟨rfl, b3⟩
          go_wp2_with (fail)
          go_ret
          exact ⟨rfl, nextB b1 b3⟩
        · have q2 : decide (b < 1200) = false := decide_eq_false c2
          have q3 : decide (1073741824 < b) = true := decide_eq_true (by omega)
          go_wp2_with (fail)
          refine (works_c _).mono ?_
          rintro e w3 ⟨rfl, b3⟩
          go_wp2_with (fail)
          go_ret
          exact ⟨rfl, nextB b1 b3⟩
end Go.Proofs.Ytkkkobmeoalgnaa
