/- The walk of Acked. -/
import Derived.Test.YtebbjmomakobaaaFlight
namespace Go.Proofs.Ytebbjmomakobaaa
set_option linter.unusedVariables false
set_option linter.unusedSimpArgs false
open Go.RowKit
attribute [local go_sem] max2_int min2_int max_two min_two min_three
/-- Gone of one size, handed in as a row of one in a new block. -/
theorem gone_one (w : World) (B b : Nat) (wi th fl si : Int) (rc : Bool) (ac x : Int) (hat : At w B wi th fl si rc ac) (g0 : 0 ≤ fl) (g1 : fl ≤ 4611686018427387904) (x0 : 0 ≤ x) (x1 : x ≤ 18446744073709551615) (hb : b < w.heap.size) (hne : b ≠ B) (hc : w.cell? ⟨b, 0, none⟩ = some (.int .u64 x)) :
    Calls Try.prog 8 #[.pointer (some ⟨B, 0, none⟩), .slice (some ⟨b, 0, none⟩) 1 1] w fun e w' => e = .returned (.tuple #[]) ∧ At w' B wi th (goneF fl x) si rc ac ∧ Only B w w' :=
  gone_row w B b 0 1 wi th fl si rc ac [x] hat g0 g1 ⟨hne, hb, fun i hi => by
    have : i = 0 := by simpa using hi
    subst this; simpa using hc, fun i hi => by
    have : i = 0 := by simpa using hi
    subst this; simpa using x0, fun i hi => by
    have : i = 0 := by simpa using hi
    subst this; simpa using x1⟩ (by simp)
theorem cap40_range (x : Int) (h : 0 ≤ x) : 0 ≤ cap40 x ∧ cap40 x ≤ 1099511627776 := by unfold cap40; split <;> omega
set_option maxHeartbeats 4000000 in
theorem acked_rec (w : World) (B : Nat) (wi th fl si ac a x : Int) (hat : At w B wi th fl si true ac) (g0 : 0 ≤ fl) (g1 : fl ≤ 4611686018427387904) (x0 : 0 ≤ x) (x1 : x ≤ 18446744073709551615) (ha : a ≤ si) :
    Calls Try.prog 10 #[.pointer (some ⟨B, 0, none⟩), .int .u64 a, .int .u64 x] w fun e w' => e = .returned (.tuple #[]) ∧ At w' B wi th (goneF fl (cap40 x)) si true ac ∧ Only B w w' := by
  have hl := hat.lt
  have HAT := Lib.hid hat
  clear hat
  by_cases c : 1099511627776 < x
  · rw [show cap40 x = 1099511627776 from by unfold cap40; rw [if_pos c]]
    go_enter Try.func10, Try.ntmps10
    go_wp2_with (fail)
    refine (gone_one _ B w.heap.size wi th fl si true ac 1099511627776 (HAT.out.below ((Below.refl _ _).alloc (Nat.le_refl _) _)) g0 g1 (by omega) (by omega) (by simp) (by omega) (by simp [go_sem])).mono ?_
    rintro e w1 ⟨rfl, a1, b1⟩
    have c3 := a1.c3
    have c4 := a1.c4
    go_wp2_with (fail)
    first | go_end0 | ((try simp only [Exit.inBlock, Exit.then]); refine bodyPost_ret (results_none rfl _ _ _) rfl ?_)
    exact ⟨rfl, a1, ((Only.refl _ _).alloc _).trans b1⟩
  · rw [show cap40 x = x from by unfold cap40; rw [if_neg c]]
    go_enter Try.func10, Try.ntmps10
    go_wp2_with (fail)
    refine (gone_one _ B w.heap.size wi th fl si true ac x (HAT.out.below ((Below.refl _ _).alloc (Nat.le_refl _) _)) g0 g1 (by omega) (by omega) (by simp) (by omega) (by simp [go_sem])).mono ?_
    rintro e w1 ⟨rfl, a1, b1⟩
    have c3 := a1.c3
    have c4 := a1.c4
    go_wp2_with (fail)
    first | go_end0 | ((try simp only [Exit.inBlock, Exit.then]); refine bodyPost_ret (results_none rfl _ _ _) rfl ?_)
    exact ⟨rfl, a1, ((Only.refl _ _).alloc _).trans b1⟩
set_option maxHeartbeats 8000000 in
theorem acked_slow (w : World) (B : Nat) (wi th fl si : Int) (rc : Bool) (ac a x : Int) (hat : At w B wi th fl si rc ac) (g0 : 0 ≤ fl) (g1 : fl ≤ 4611686018427387904) (x0 : 0 ≤ x) (x1 : x ≤ 18446744073709551615) (ha : rc = false ∨ si < a) (w0 : 0 ≤ wi) (w1 : wi < th) (w2 : th ≤ 4611686018427387904) :
    Calls Try.prog 10 #[.pointer (some ⟨B, 0, none⟩), .int .u64 a, .int .u64 x] w fun e w' => e = .returned (.tuple #[]) ∧ At w' B (if 4611686018427387904 < wi + cap40 x then 4611686018427387904 else wi + cap40 x) th (goneF fl (cap40 x)) si false ac ∧ Only B w w' := by
  have hl := hat.lt
  have HAT := Lib.hid hat
  clear hat
  by_cases c : 1099511627776 < x
  · rw [show cap40 x = 1099511627776 from by unfold cap40; rw [if_pos c]]
    cases rc with
    | false =>
      by_cases d : 4611686018427387904 < wi + 1099511627776
      · rw [if_pos d]
        go_enter Try.func10, Try.ntmps10
        go_wp2_with (fail)
        refine (gone_one _ B w.heap.size wi th fl si false ac 1099511627776 (HAT.out.below ((Below.refl _ _).alloc (Nat.le_refl _) _)) g0 g1 (by omega) (by omega) (by simp) (by omega) (by simp [go_sem])).mono ?_
        rintro e w1 ⟨rfl, a1, b1⟩
        have c0 := a1.c0
        have c1 := a1.c1
        have c3 := a1.c3
        have c4 := a1.c4
        have f0 := a1.f0
        have f4 := a1.f4
        have hd : decide (wi < th) = true := decide_eq_true (by omega)
        have A1 := Lib.hid a1
        clear a1
        go_wp2_with (fail)
        go_quiet (fail)
        go_wp2_with (fail)
        first | go_end0 | ((try simp only [Exit.inBlock, Exit.then]); refine bodyPost_ret (results_none rfl _ _ _) rfl ?_)
        exact ⟨rfl, (by repeat (first | (with_reducible exact A1.out) | with_reducible apply At.s0 | with_reducible apply At.s1 | with_reducible apply At.s2 | with_reducible apply At.s3 | with_reducible apply At.s4 | with_reducible apply At.s5 | with_reducible apply At.drewN | with_reducible apply At.drew)), ((Only.refl _ _).alloc _).trans (by repeat (first | with_reducible exact b1 | with_reducible refine Only.set ?_ _ _ | with_reducible refine Only.drewN ?_ _ | with_reducible refine Only.drew ?_))⟩
      · rw [if_neg d]
        go_enter Try.func10, Try.ntmps10
        go_wp2_with (fail)
        refine (gone_one _ B w.heap.size wi th fl si false ac 1099511627776 (HAT.out.below ((Below.refl _ _).alloc (Nat.le_refl _) _)) g0 g1 (by omega) (by omega) (by simp) (by omega) (by simp [go_sem])).mono ?_
        rintro e w1 ⟨rfl, a1, b1⟩
        have c0 := a1.c0
        have c1 := a1.c1
        have c3 := a1.c3
        have c4 := a1.c4
        have f0 := a1.f0
        have f4 := a1.f4
        have hd : decide (wi < th) = true := decide_eq_true (by omega)
        have A1 := Lib.hid a1
        clear a1
        go_wp2_with (fail)
        go_quiet (fail)
        go_wp2_with (fail)
        first | go_end0 | ((try simp only [Exit.inBlock, Exit.then]); refine bodyPost_ret (results_none rfl _ _ _) rfl ?_)
        exact ⟨rfl, (by repeat (first | (with_reducible exact A1.out) | with_reducible apply At.s0 | with_reducible apply At.s1 | with_reducible apply At.s2 | with_reducible apply At.s3 | with_reducible apply At.s4 | with_reducible apply At.s5 | with_reducible apply At.drewN | with_reducible apply At.drew)), ((Only.refl _ _).alloc _).trans (by repeat (first | with_reducible exact b1 | with_reducible refine Only.set ?_ _ _ | with_reducible refine Only.drewN ?_ _ | with_reducible refine Only.drew ?_))⟩
    | true =>
      have ha' : si < a := by simpa using ha
      have hq : decide (a ≤ si) = false := decide_eq_false (by omega)
      by_cases d : 4611686018427387904 < wi + 1099511627776
      · rw [if_pos d]
        go_enter Try.func10, Try.ntmps10
        go_wp2_with (fail)
        refine (gone_one _ B w.heap.size wi th fl si true ac 1099511627776 (HAT.out.below ((Below.refl _ _).alloc (Nat.le_refl _) _)) g0 g1 (by omega) (by omega) (by simp) (by omega) (by simp [go_sem])).mono ?_
        rintro e w1 ⟨rfl, a1, b1⟩
        have c0 := a1.c0
        have c1 := a1.c1
        have c3 := a1.c3
        have c4 := a1.c4
        have f0 := a1.f0
        have f4 := a1.f4
        have hd : decide (wi < th) = true := decide_eq_true (by omega)
        have A1 := Lib.hid a1
        clear a1
        go_wp2_with (fail)
        go_quiet (fail)
        go_wp2_with (fail)
        first | go_end0 | ((try simp only [Exit.inBlock, Exit.then]); refine bodyPost_ret (results_none rfl _ _ _) rfl ?_)
        exact ⟨rfl, (by repeat (first | (with_reducible exact A1.out) | with_reducible apply At.s0 | with_reducible apply At.s1 | with_reducible apply At.s2 | with_reducible apply At.s3 | with_reducible apply At.s4 | with_reducible apply At.s5 | with_reducible apply At.drewN | with_reducible apply At.drew)), ((Only.refl _ _).alloc _).trans (by repeat (first | with_reducible exact b1 | with_reducible refine Only.set ?_ _ _ | with_reducible refine Only.drewN ?_ _ | with_reducible refine Only.drew ?_))⟩
      · rw [if_neg d]
        go_enter Try.func10, Try.ntmps10
        go_wp2_with (fail)
        refine (gone_one _ B w.heap.size wi th fl si true ac 1099511627776 (HAT.out.below ((Below.refl _ _).alloc (Nat.le_refl _) _)) g0 g1 (by omega) (by omega) (by simp) (by omega) (by simp [go_sem])).mono ?_
        rintro e w1 ⟨rfl, a1, b1⟩
        have c0 := a1.c0
        have c1 := a1.c1
        have c3 := a1.c3
        have c4 := a1.c4
        have f0 := a1.f0
        have f4 := a1.f4
        have hd : decide (wi < th) = true := decide_eq_true (by omega)
        have A1 := Lib.hid a1
        clear a1
        go_wp2_with (fail)
        go_quiet (fail)
        go_wp2_with (fail)
        first | go_end0 | ((try simp only [Exit.inBlock, Exit.then]); refine bodyPost_ret (results_none rfl _ _ _) rfl ?_)
        exact ⟨rfl, (by repeat (first | (with_reducible exact A1.out) | with_reducible apply At.s0 | with_reducible apply At.s1 | with_reducible apply At.s2 | with_reducible apply At.s3 | with_reducible apply At.s4 | with_reducible apply At.s5 | with_reducible apply At.drewN | with_reducible apply At.drew)), ((Only.refl _ _).alloc _).trans (by repeat (first | with_reducible exact b1 | with_reducible refine Only.set ?_ _ _ | with_reducible refine Only.drewN ?_ _ | with_reducible refine Only.drew ?_))⟩
  · rw [show cap40 x = x from by unfold cap40; rw [if_neg c]]
    cases rc with
    | false =>
      by_cases d : 4611686018427387904 < wi + x
      · rw [if_pos d]
        go_enter Try.func10, Try.ntmps10
        go_wp2_with (fail)
        refine (gone_one _ B w.heap.size wi th fl si false ac x (HAT.out.below ((Below.refl _ _).alloc (Nat.le_refl _) _)) g0 g1 (by omega) (by omega) (by simp) (by omega) (by simp [go_sem])).mono ?_
        rintro e w1 ⟨rfl, a1, b1⟩
        have c0 := a1.c0
        have c1 := a1.c1
        have c3 := a1.c3
        have c4 := a1.c4
        have f0 := a1.f0
        have f4 := a1.f4
        have hd : decide (wi < th) = true := decide_eq_true (by omega)
        have A1 := Lib.hid a1
        clear a1
        go_wp2_with (fail)
        go_quiet (fail)
        go_wp2_with (fail)
        first | go_end0 | ((try simp only [Exit.inBlock, Exit.then]); refine bodyPost_ret (results_none rfl _ _ _) rfl ?_)
        exact ⟨rfl, (by repeat (first | (with_reducible exact A1.out) | with_reducible apply At.s0 | with_reducible apply At.s1 | with_reducible apply At.s2 | with_reducible apply At.s3 | with_reducible apply At.s4 | with_reducible apply At.s5 | with_reducible apply At.drewN | with_reducible apply At.drew)), ((Only.refl _ _).alloc _).trans (by repeat (first | with_reducible exact b1 | with_reducible refine Only.set ?_ _ _ | with_reducible refine Only.drewN ?_ _ | with_reducible refine Only.drew ?_))⟩
      · rw [if_neg d]
        go_enter Try.func10, Try.ntmps10
        go_wp2_with (fail)
        refine (gone_one _ B w.heap.size wi th fl si false ac x (HAT.out.below ((Below.refl _ _).alloc (Nat.le_refl _) _)) g0 g1 (by omega) (by omega) (by simp) (by omega) (by simp [go_sem])).mono ?_
        rintro e w1 ⟨rfl, a1, b1⟩
        have c0 := a1.c0
        have c1 := a1.c1
        have c3 := a1.c3
        have c4 := a1.c4
        have f0 := a1.f0
        have f4 := a1.f4
        have hd : decide (wi < th) = true := decide_eq_true (by omega)
        have A1 := Lib.hid a1
        clear a1
        go_wp2_with (fail)
        go_quiet (fail)
        go_wp2_with (fail)
        first | go_end0 | ((try simp only [Exit.inBlock, Exit.then]); refine bodyPost_ret (results_none rfl _ _ _) rfl ?_)
        exact ⟨rfl, (by repeat (first | (with_reducible exact A1.out) | with_reducible apply At.s0 | with_reducible apply At.s1 | with_reducible apply At.s2 | with_reducible apply At.s3 | with_reducible apply At.s4 | with_reducible apply At.s5 | with_reducible apply At.drewN | with_reducible apply At.drew)), ((Only.refl _ _).alloc _).trans (by repeat (first | with_reducible exact b1 | with_reducible refine Only.set ?_ _ _ | with_reducible refine Only.drewN ?_ _ | with_reducible refine Only.drew ?_))⟩
    | true =>
      have ha' : si < a := by simpa using ha
      have hq : decide (a ≤ si) = false := decide_eq_false (by omega)
      by_cases d : 4611686018427387904 < wi + x
      · rw [if_pos d]
        go_enter Try.func10, Try.ntmps10
        go_wp2_with (fail)
        refine (gone_one _ B w.heap.size wi th fl si true ac x (HAT.out.below ((Below.refl _ _).alloc (Nat.le_refl _) _)) g0 g1 (by omega) (by omega) (by simp) (by omega) (by simp [go_sem])).mono ?_
        rintro e w1 ⟨rfl, a1, b1⟩
        have c0 := a1.c0
        have c1 := a1.c1
        have c3 := a1.c3
        have c4 := a1.c4
        have f0 := a1.f0
        have f4 := a1.f4
        have hd : decide (wi < th) = true := decide_eq_true (by omega)
        have A1 := Lib.hid a1
        clear a1
        go_wp2_with (fail)
        go_quiet (fail)
        go_wp2_with (fail)
        first | go_end0 | ((try simp only [Exit.inBlock, Exit.then]); refine bodyPost_ret (results_none rfl _ _ _) rfl ?_)
        exact ⟨rfl, (by repeat (first | (with_reducible exact A1.out) | with_reducible apply At.s0 | with_reducible apply At.s1 | with_reducible apply At.s2 | with_reducible apply At.s3 | with_reducible apply At.s4 | with_reducible apply At.s5 | with_reducible apply At.drewN | with_reducible apply At.drew)), ((Only.refl _ _).alloc _).trans (by repeat (first | with_reducible exact b1 | with_reducible refine Only.set ?_ _ _ | with_reducible refine Only.drewN ?_ _ | with_reducible refine Only.drew ?_))⟩
      · rw [if_neg d]
        go_enter Try.func10, Try.ntmps10
        go_wp2_with (fail)
        refine (gone_one _ B w.heap.size wi th fl si true ac x (HAT.out.below ((Below.refl _ _).alloc (Nat.le_refl _) _)) g0 g1 (by omega) (by omega) (by simp) (by omega) (by simp [go_sem])).mono ?_
        rintro e w1 ⟨rfl, a1, b1⟩
        have c0 := a1.c0
        have c1 := a1.c1
        have c3 := a1.c3
        have c4 := a1.c4
        have f0 := a1.f0
        have f4 := a1.f4
        have hd : decide (wi < th) = true := decide_eq_true (by omega)
        have A1 := Lib.hid a1
        clear a1
        go_wp2_with (fail)
        go_quiet (fail)
        go_wp2_with (fail)
        first | go_end0 | ((try simp only [Exit.inBlock, Exit.then]); refine bodyPost_ret (results_none rfl _ _ _) rfl ?_)
        exact ⟨rfl, (by repeat (first | (with_reducible exact A1.out) | with_reducible apply At.s0 | with_reducible apply At.s1 | with_reducible apply At.s2 | with_reducible apply At.s3 | with_reducible apply At.s4 | with_reducible apply At.s5 | with_reducible apply At.drewN | with_reducible apply At.drew)), ((Only.refl _ _).alloc _).trans (by repeat (first | with_reducible exact b1 | with_reducible refine Only.set ?_ _ _ | with_reducible refine Only.drewN ?_ _ | with_reducible refine Only.drew ?_))⟩
/-- What is counted towards one more datagram. -/
def acOf (w : World) (B : Nat) : Nat := match w.cell? ⟨B, 5, none⟩ with | some v => (intOf v).toNat | none => 0
theorem acOf_eq {w : World} {B : Nat} {wi th fl si : Int} {rc : Bool} {ac : Int} (h : At w B wi th fl si rc ac) : acOf w B = ac.toNat := by
  unfold acOf
  rw [h.c5]
  rfl
attribute [irreducible] acOf
set_option maxHeartbeats 8000000 in
theorem acked_avoid (w : World) (B : Nat) (wi th fl si : Int) (rc : Bool) (ac a x : Int) (hat : At w B wi th fl si rc ac) (g0 : 0 ≤ fl) (g1 : fl ≤ 4611686018427387904) (x0 : 0 ≤ x) (x1 : x ≤ 18446744073709551615) (ha : rc = false ∨ si < a) (w0 : 2400 ≤ wi) (w1 : th ≤ wi) (w2 : 0 ≤ ac) (w3 : wi + ac ≤ 4611686018427387904) :
    Calls Try.prog 10 #[.pointer (some ⟨B, 0, none⟩), .int .u64 a, .int .u64 x] w fun e w' => ∃ wi' ac' : Int, e = .returned (.tuple #[]) ∧ At w' B wi' th (goneF fl (cap40 x)) si false ac' ∧ wi ≤ wi' ∧ 0 ≤ ac' ∧ ac' < wi' ∧ wi' + ac' ≤ wi + ac + cap40 x ∧ Only B w w' := by
  have hl := hat.lt
  have HAT := Lib.hid hat
  clear hat
  by_cases c : 1099511627776 < x
  · rw [show cap40 x = 1099511627776 from by unfold cap40; rw [if_pos c]]
    cases rc with
    | false =>
      go_enter Try.func10, Try.ntmps10
      go_wp2_with (fail)
      refine (gone_one _ B w.heap.size wi th fl si false ac 1099511627776 (HAT.out.below ((Below.refl _ _).alloc (Nat.le_refl _) _)) g0 g1 (by omega) (by omega) (by simp) (by omega) (by simp [go_sem])).mono ?_
      rintro e w1 ⟨rfl, a1, b1⟩
      have c0 := a1.c0
      have c1 := a1.c1
      have c3 := a1.c3
      have c4 := a1.c4
      have c5 := a1.c5
      have f0 := a1.f0
      have f4 := a1.f4
      have f5 := a1.f5
      have hd : decide (wi < th) = false := decide_eq_false (by omega)
      have A1 := Lib.hid a1
      clear a1
      go_wp2_with (fail)
      go_quiet (fail)
      go_wp2_with (fail)
      go_loopw [75] (fun _ wr => ∃ wi' ac' : Int, At wr B wi' th (goneF fl 1099511627776) si false ac' ∧ wi ≤ wi' ∧ 0 ≤ ac' ∧ wi' + ac' ≤ wi + ac + 1099511627776 ∧ Only B w wr) (fun _ wr => acOf wr B)
      case atStart => exact ⟨wi, ac + 1099511627776, (by repeat (first | (with_reducible exact A1.out) | with_reducible apply At.s0 | with_reducible apply At.s1 | with_reducible apply At.s2 | with_reducible apply At.s3 | with_reducible apply At.s4 | with_reducible apply At.s5 | with_reducible apply At.drewN | with_reducible apply At.drew)), by omega, by omega, by omega, ((Only.refl _ _).alloc _).trans (by repeat (first | with_reducible exact b1 | with_reducible refine Only.set ?_ _ _ | with_reducible refine Only.drewN ?_ _ | with_reducible refine Only.drew ?_))⟩
      case round =>
        obtain ⟨wi', ac', hat, k0, k1, k2, hon⟩ := hrel
        have e0 := hat.c0
        have e5 := hat.c5
        have p0 := hat.f0
        have p5 := hat.f5
        have HAT2 := Lib.hid hat
        have HON := Lib.hid hon
        have HM := Lib.hid (acOf_eq hat)
        clear hat hon
        by_cases k : wi' ≤ ac'
        · have hk : decide (wi' ≤ ac') = true := decide_eq_true k
          go_wp2_with (fail)
          go_quiet (fail)
          go_wp2_with (fail)
          go_region
          go_wp2_with (fail)
          refine ⟨⟨wi' + 1200, ac' - wi', ?_, by omega, by omega, by omega, ?_⟩, ?_⟩
          · repeat (first | (with_reducible exact HAT2.out) | with_reducible apply At.s0 | with_reducible apply At.s1 | with_reducible apply At.s2 | with_reducible apply At.s3 | with_reducible apply At.s4 | with_reducible apply At.s5 | with_reducible apply At.drewN | with_reducible apply At.drew)
          · repeat (first | with_reducible exact HON.out | with_reducible refine Only.set ?_ _ _ | with_reducible refine Only.drewN ?_ _ | with_reducible refine Only.drew ?_)
          · rw [HM.out, acOf_eq (show At _ B (wi' + 1200) th (goneF fl 1099511627776) si false (ac' - wi') from (by repeat (first | (with_reducible exact HAT2.out) | with_reducible apply At.s0 | with_reducible apply At.s1 | with_reducible apply At.s2 | with_reducible apply At.s3 | with_reducible apply At.s4 | with_reducible apply At.s5 | with_reducible apply At.drewN | with_reducible apply At.drew)))]
            omega
        · have hk : decide (wi' ≤ ac') = false := decide_eq_false k
          go_wp2_with (fail)
          go_quiet (fail)
          go_wp2_with (fail)
          first | go_end0 | ((try simp only [Exit.inBlock, Exit.then]); refine bodyPost_ret (results_none rfl _ _ _) rfl ?_)
          exact ⟨wi', ac', rfl, HAT2.out.drewN _, k0, k1, by omega, by omega, HON.out.drewN _⟩
    | true =>
      have ha' : si < a := by simpa using ha
      have hq : decide (a ≤ si) = false := decide_eq_false (by omega)
      go_enter Try.func10, Try.ntmps10
      go_wp2_with (fail)
      refine (gone_one _ B w.heap.size wi th fl si true ac 1099511627776 (HAT.out.below ((Below.refl _ _).alloc (Nat.le_refl _) _)) g0 g1 (by omega) (by omega) (by simp) (by omega) (by simp [go_sem])).mono ?_
      rintro e w1 ⟨rfl, a1, b1⟩
      have c0 := a1.c0
      have c1 := a1.c1
      have c3 := a1.c3
      have c4 := a1.c4
      have c5 := a1.c5
      have f0 := a1.f0
      have f4 := a1.f4
      have f5 := a1.f5
      have hd : decide (wi < th) = false := decide_eq_false (by omega)
      have A1 := Lib.hid a1
      clear a1
      go_wp2_with (fail)
      go_quiet (fail)
      go_wp2_with (fail)
      go_loopw [75] (fun _ wr => ∃ wi' ac' : Int, At wr B wi' th (goneF fl 1099511627776) si false ac' ∧ wi ≤ wi' ∧ 0 ≤ ac' ∧ wi' + ac' ≤ wi + ac + 1099511627776 ∧ Only B w wr) (fun _ wr => acOf wr B)
      case atStart => exact ⟨wi, ac + 1099511627776, (by repeat (first | (with_reducible exact A1.out) | with_reducible apply At.s0 | with_reducible apply At.s1 | with_reducible apply At.s2 | with_reducible apply At.s3 | with_reducible apply At.s4 | with_reducible apply At.s5 | with_reducible apply At.drewN | with_reducible apply At.drew)), by omega, by omega, by omega, ((Only.refl _ _).alloc _).trans (by repeat (first | with_reducible exact b1 | with_reducible refine Only.set ?_ _ _ | with_reducible refine Only.drewN ?_ _ | with_reducible refine Only.drew ?_))⟩
      case round =>
        obtain ⟨wi', ac', hat, k0, k1, k2, hon⟩ := hrel
        have e0 := hat.c0
        have e5 := hat.c5
        have p0 := hat.f0
        have p5 := hat.f5
        have HAT2 := Lib.hid hat
        have HON := Lib.hid hon
        have HM := Lib.hid (acOf_eq hat)
        clear hat hon
        by_cases k : wi' ≤ ac'
        · have hk : decide (wi' ≤ ac') = true := decide_eq_true k
          go_wp2_with (fail)
          go_quiet (fail)
          go_wp2_with (fail)
          go_region
          go_wp2_with (fail)
          refine ⟨⟨wi' + 1200, ac' - wi', ?_, by omega, by omega, by omega, ?_⟩, ?_⟩
          · repeat (first | (with_reducible exact HAT2.out) | with_reducible apply At.s0 | with_reducible apply At.s1 | with_reducible apply At.s2 | with_reducible apply At.s3 | with_reducible apply At.s4 | with_reducible apply At.s5 | with_reducible apply At.drewN | with_reducible apply At.drew)
          · repeat (first | with_reducible exact HON.out | with_reducible refine Only.set ?_ _ _ | with_reducible refine Only.drewN ?_ _ | with_reducible refine Only.drew ?_)
          · rw [HM.out, acOf_eq (show At _ B (wi' + 1200) th (goneF fl 1099511627776) si false (ac' - wi') from (by repeat (first | (with_reducible exact HAT2.out) | with_reducible apply At.s0 | with_reducible apply At.s1 | with_reducible apply At.s2 | with_reducible apply At.s3 | with_reducible apply At.s4 | with_reducible apply At.s5 | with_reducible apply At.drewN | with_reducible apply At.drew)))]
            omega
        · have hk : decide (wi' ≤ ac') = false := decide_eq_false k
          go_wp2_with (fail)
          go_quiet (fail)
          go_wp2_with (fail)
          first | go_end0 | ((try simp only [Exit.inBlock, Exit.then]); refine bodyPost_ret (results_none rfl _ _ _) rfl ?_)
          exact ⟨wi', ac', rfl, HAT2.out.drewN _, k0, k1, by omega, by omega, HON.out.drewN _⟩
  · rw [show cap40 x = x from by unfold cap40; rw [if_neg c]]
    cases rc with
    | false =>
      go_enter Try.func10, Try.ntmps10
      go_wp2_with (fail)
      refine (gone_one _ B w.heap.size wi th fl si false ac x (HAT.out.below ((Below.refl _ _).alloc (Nat.le_refl _) _)) g0 g1 (by omega) (by omega) (by simp) (by omega) (by simp [go_sem])).mono ?_
      rintro e w1 ⟨rfl, a1, b1⟩
      have c0 := a1.c0
      have c1 := a1.c1
      have c3 := a1.c3
      have c4 := a1.c4
      have c5 := a1.c5
      have f0 := a1.f0
      have f4 := a1.f4
      have f5 := a1.f5
      have hd : decide (wi < th) = false := decide_eq_false (by omega)
      have A1 := Lib.hid a1
      clear a1
      go_wp2_with (fail)
      go_quiet (fail)
      go_wp2_with (fail)
      go_loopw [75] (fun _ wr => ∃ wi' ac' : Int, At wr B wi' th (goneF fl x) si false ac' ∧ wi ≤ wi' ∧ 0 ≤ ac' ∧ wi' + ac' ≤ wi + ac + x ∧ Only B w wr) (fun _ wr => acOf wr B)
      case atStart => exact ⟨wi, ac + x, (by repeat (first | (with_reducible exact A1.out) | with_reducible apply At.s0 | with_reducible apply At.s1 | with_reducible apply At.s2 | with_reducible apply At.s3 | with_reducible apply At.s4 | with_reducible apply At.s5 | with_reducible apply At.drewN | with_reducible apply At.drew)), by omega, by omega, by omega, ((Only.refl _ _).alloc _).trans (by repeat (first | with_reducible exact b1 | with_reducible refine Only.set ?_ _ _ | with_reducible refine Only.drewN ?_ _ | with_reducible refine Only.drew ?_))⟩
      case round =>
        obtain ⟨wi', ac', hat, k0, k1, k2, hon⟩ := hrel
        have e0 := hat.c0
        have e5 := hat.c5
        have p0 := hat.f0
        have p5 := hat.f5
        have HAT2 := Lib.hid hat
        have HON := Lib.hid hon
        have HM := Lib.hid (acOf_eq hat)
        clear hat hon
        by_cases k : wi' ≤ ac'
        · have hk : decide (wi' ≤ ac') = true := decide_eq_true k
          go_wp2_with (fail)
          go_quiet (fail)
          go_wp2_with (fail)
          go_region
          go_wp2_with (fail)
          refine ⟨⟨wi' + 1200, ac' - wi', ?_, by omega, by omega, by omega, ?_⟩, ?_⟩
          · repeat (first | (with_reducible exact HAT2.out) | with_reducible apply At.s0 | with_reducible apply At.s1 | with_reducible apply At.s2 | with_reducible apply At.s3 | with_reducible apply At.s4 | with_reducible apply At.s5 | with_reducible apply At.drewN | with_reducible apply At.drew)
          · repeat (first | with_reducible exact HON.out | with_reducible refine Only.set ?_ _ _ | with_reducible refine Only.drewN ?_ _ | with_reducible refine Only.drew ?_)
          · rw [HM.out, acOf_eq (show At _ B (wi' + 1200) th (goneF fl x) si false (ac' - wi') from (by repeat (first | (with_reducible exact HAT2.out) | with_reducible apply At.s0 | with_reducible apply At.s1 | with_reducible apply At.s2 | with_reducible apply At.s3 | with_reducible apply At.s4 | with_reducible apply At.s5 | with_reducible apply At.drewN | with_reducible apply At.drew)))]
            omega
        · have hk : decide (wi' ≤ ac') = false := decide_eq_false k
          go_wp2_with (fail)
          go_quiet (fail)
          go_wp2_with (fail)
          first | go_end0 | ((try simp only [Exit.inBlock, Exit.then]); refine bodyPost_ret (results_none rfl _ _ _) rfl ?_)
          exact ⟨wi', ac', rfl, HAT2.out.drewN _, k0, k1, by omega, by omega, HON.out.drewN _⟩
    | true =>
      have ha' : si < a := by simpa using ha
      have hq : decide (a ≤ si) = false := decide_eq_false (by omega)
      go_enter Try.func10, Try.ntmps10
      go_wp2_with (fail)
      refine (gone_one _ B w.heap.size wi th fl si true ac x (HAT.out.below ((Below.refl _ _).alloc (Nat.le_refl _) _)) g0 g1 (by omega) (by omega) (by simp) (by omega) (by simp [go_sem])).mono ?_
      rintro e w1 ⟨rfl, a1, b1⟩
      have c0 := a1.c0
      have c1 := a1.c1
      have c3 := a1.c3
      have c4 := a1.c4
      have c5 := a1.c5
      have f0 := a1.f0
      have f4 := a1.f4
      have f5 := a1.f5
      have hd : decide (wi < th) = false := decide_eq_false (by omega)
      have A1 := Lib.hid a1
      clear a1
      go_wp2_with (fail)
      go_quiet (fail)
      go_wp2_with (fail)
      go_loopw [75] (fun _ wr => ∃ wi' ac' : Int, At wr B wi' th (goneF fl x) si false ac' ∧ wi ≤ wi' ∧ 0 ≤ ac' ∧ wi' + ac' ≤ wi + ac + x ∧ Only B w wr) (fun _ wr => acOf wr B)
      case atStart => exact ⟨wi, ac + x, (by repeat (first | (with_reducible exact A1.out) | with_reducible apply At.s0 | with_reducible apply At.s1 | with_reducible apply At.s2 | with_reducible apply At.s3 | with_reducible apply At.s4 | with_reducible apply At.s5 | with_reducible apply At.drewN | with_reducible apply At.drew)), by omega, by omega, by omega, ((Only.refl _ _).alloc _).trans (by repeat (first | with_reducible exact b1 | with_reducible refine Only.set ?_ _ _ | with_reducible refine Only.drewN ?_ _ | with_reducible refine Only.drew ?_))⟩
      case round =>
        obtain ⟨wi', ac', hat, k0, k1, k2, hon⟩ := hrel
        have e0 := hat.c0
        have e5 := hat.c5
        have p0 := hat.f0
        have p5 := hat.f5
        have HAT2 := Lib.hid hat
        have HON := Lib.hid hon
        have HM := Lib.hid (acOf_eq hat)
        clear hat hon
        by_cases k : wi' ≤ ac'
        · have hk : decide (wi' ≤ ac') = true := decide_eq_true k
          go_wp2_with (fail)
          go_quiet (fail)
          go_wp2_with (fail)
          go_region
          go_wp2_with (fail)
          refine ⟨⟨wi' + 1200, ac' - wi', ?_, by omega, by omega, by omega, ?_⟩, ?_⟩
          · repeat (first | (with_reducible exact HAT2.out) | with_reducible apply At.s0 | with_reducible apply At.s1 | with_reducible apply At.s2 | with_reducible apply At.s3 | with_reducible apply At.s4 | with_reducible apply At.s5 | with_reducible apply At.drewN | with_reducible apply At.drew)
          · repeat (first | with_reducible exact HON.out | with_reducible refine Only.set ?_ _ _ | with_reducible refine Only.drewN ?_ _ | with_reducible refine Only.drew ?_)
          · rw [HM.out, acOf_eq (show At _ B (wi' + 1200) th (goneF fl x) si false (ac' - wi') from (by repeat (first | (with_reducible exact HAT2.out) | with_reducible apply At.s0 | with_reducible apply At.s1 | with_reducible apply At.s2 | with_reducible apply At.s3 | with_reducible apply At.s4 | with_reducible apply At.s5 | with_reducible apply At.drewN | with_reducible apply At.drew)))]
            omega
        · have hk : decide (wi' ≤ ac') = false := decide_eq_false k
          go_wp2_with (fail)
          go_quiet (fail)
          go_wp2_with (fail)
          first | go_end0 | ((try simp only [Exit.inBlock, Exit.then]); refine bodyPost_ret (results_none rfl _ _ _) rfl ?_)
          exact ⟨wi', ac', rfl, HAT2.out.drewN _, k0, k1, by omega, by omega, HON.out.drewN _⟩
end Go.Proofs.Ytebbjmomakobaaa
