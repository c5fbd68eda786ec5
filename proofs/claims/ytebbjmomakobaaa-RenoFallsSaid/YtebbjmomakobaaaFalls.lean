/- The walk of RenoFalls. -/
import Derived.Test.YtebbjmomakobaaaHeavy
import Derived.Deep.RegionHeld3
import Derived.Laws.StructEq
namespace Go.Proofs.Ytebbjmomakobaaa
set_option linter.unusedVariables false
set_option linter.unusedSimpArgs false
open Go.RowKit
/-- What a window keeps, behind k calls. -/
structure Keeps (wi th fl si ac : Int) (k : Nat) : Prop where
  wi0 : 2400 ≤ wi
  fl0 : 0 ≤ fl
  fl1 : fl ≤ 4611686018427387904
  ac0 : 0 ≤ ac
  sum : wi + ac ≤ 12000 + 1099511627776 * k
  th0 : th ≤ 4611686018427387904
  th1 : 0 ≤ th
theorem guard29 : Try.prog.eqGuardType Try.prog.depth 29 = false := by kernel_rfl
theorem fields29 : (Try.prog.fieldsOf 29).toList = [{ name := "Window", type := 24, offset := 0, embedded := false, tag := "", pkgPath := "", byteOffset := 0 },
        { name := "Threshold", type := 24, offset := 1, embedded := false, tag := "", pkgPath := "", byteOffset := 8 },
        { name := "Flight", type := 24, offset := 2, embedded := false, tag := "", pkgPath := "", byteOffset := 16 },
        { name := "Since", type := 24, offset := 3, embedded := false, tag := "", pkgPath := "", byteOffset := 24 },
        { name := "Recovering", type := 4, offset := 4, embedded := false, tag := "", pkgPath := "", byteOffset := 32 },
        { name := "Acked", type := 24, offset := 5, embedded := false, tag := "", pkgPath := "", byteOffset := 40 }] := by kernel_rfl
theorem neq_same (W : World) (wi th fl si : Int) (rc : Bool) (ac : Int) : (binOp .neq 29 (.agg #[.int .u64 wi, .int .u64 th, .int .u64 fl, .int .u64 si, .bool rc, .int .u64 ac]) (.agg #[.int .u64 wi, .int .u64 th, .int .u64 fl, .int .u64 si, .bool rc, .int .u64 ac])).run Try.prog W = .ok (.bool false) W := by
  have hS : Try.prog.underlying 29 = some (.struct (Try.prog.fieldsOf 29)) := by kernel_rfl
  have hp : Try.prog.stoodInHeld 29 = false := by kernel_rfl
  have u24 := Try.underlying24
  have u4 := Try.underlying4
  have z24 : Try.prog.cellsOf 24 = 1 := by kernel_rfl
  have z4 : Try.prog.cellsOf 4 = 1 := by kernel_rfl
  rw [run_neq_struct, show (10000 : Nat) = 9998 + 1 + 1 from rfl, run_equalIn_agg W (9998 + 1) 29 _ _ hS hp, fields29]
  simp [Op.eqFields, go_sem, u24, u4]
set_option maxRecDepth 100000 in
set_option maxHeartbeats 8000000 in
theorem falls_t (w : World) (a : Option Addr) (len cap : Nat) (h : DoRow w a len) (hl0 : len ≠ 0) :
    Calls Try.prog 4 #[.slice a len cap] w fun e w' => e = .returned (.bool true) ∧ Below w.heap.size w w' := by
  have HD := Lib.hid h
  obtain ⟨hm, h⟩ := h
  unfold maxLen at hm
  go_enter Try.func4, Try.ntmps4
  go_wp2_with (fail)
  refine (works_c _).mono ?_
  rintro e w1 ⟨rfl, b1⟩
  go_wp2_with (fail)
  refine (heavy_c _ a len cap (HD.out.below b1)).mono ?_
  rintro e w2 ⟨hv, rfl, hfew, b2⟩
  have b12 := nextB b1 b2
  cases hv with
  | true =>
    clear hfew
    go_wp2_with (fail)
    refine (works_c _).mono ?_
    rintro e w3 ⟨rfl, b3⟩
    go_wp2_with (fail)
    go_ret
    exact ⟨rfl, nextB b12 b3⟩
  | false =>
    have hl : len ≤ 1000 := hfew rfl
    clear hfew
    go_wp2_with (fail)
    refine (new_c _).mono ?_
    rintro e w3 ⟨rfl, a3, b3⟩
    obtain ⟨b, off, rfl, hb, hat⟩ := h.resolve_left hl0
    have H := Lib.hid hat
    clear h hat
    have hwB : w.heap.size ≤ w2.heap.size := by have := b12.size; omega
    generalize hB : w2.heap.size = B at *
    have HB := Lib.hid hB
    clear hB
    have b13 : Below w.heap.size w w3 := b12.trans (b3.mono hwB)
    have l3 := a3.lt
    have A3 := Lib.hid a3
    clear a3
    have K0 := Lib.hid (show Keeps 12000 4611686018427387904 0 0 0 0 from ⟨by omega, by omega, by omega, by omega, by omega, by omega, by omega⟩)
    go_wp2_with (fail)
    go_loopw [15] (fun i wr => ∃ (k : Nat) (wi th fl si : Int) (rc : Bool) (ac : Int), k ≤ len ∧ i = .int .i64 k ∧ At wr B wi th fl si rc ac ∧ Keeps wi th fl si ac k ∧ Only B w3 wr) (fun i _ => len - (intOf i).toNat)
    case atStart => exact ⟨0, _, _, _, _, _, _, by omega, rfl, A3.out, K0.out, Only.refl _ _⟩
    case round =>
      obtain ⟨k, wi, th, fl, si, rc, ac, hk, rfl, hat, hK, hon⟩ := hrel
      have HAT := Lib.hid hat
      have HON := Lib.hid hon
      have hlr := hat.lt
      have c0 := hat.c0
      have c1 := hat.c1
      have c2 := hat.c2
      have c3 := hat.c3
      have c4 := hat.c4
      have c5 := hat.c5
      obtain ⟨k0, k1, k2, k3, k4, k5, k6⟩ := hK
      clear hat hon
      by_cases hlt : k < len
      · have hbr := b13.trans (HON.out.below hwB (by omega))
        obtain ⟨kd, ia, il, ic, zs, at_, more, d0, d1, d2, d3, w0, w2', w3', hreach, hr⟩ := (H.out k hlt).below hbr
        have HR := Lib.hid hr
        obtain ⟨q0, q1⟩ := bounds8 w0
        obtain ⟨q2, q3⟩ := bounds64 w2'
        obtain ⟨q4, q5⟩ := bounds64 w3'
        clear w0 w2' w3' hr
        have HBR := Lib.hid hbr
        clear hbr
        have hz : 0 ≤ zs.getD 0 0 ∧ zs.getD 0 0 ≤ 18446744073709551615 := by
          by_cases h0 : zs = []
          · subst h0; simp
          · have : zs.getD 0 0 ∈ zs := by
              rw [List.getD_eq_getElem?_getD, List.getElem?_eq_getElem (List.length_pos_iff.2 h0)]
              exact List.getElem_mem _
            exact bounds64 (HR.out.wf _ this)
        have HZ := Lib.hid hz
        clear hz
        have hkind : kd = 0 ∨ kd = 1 ∨ kd = 2 ∨ kd = 3 ∨ kd = 4 ∨ 4 < kd := by omega
        rcases hkind with rfl | rfl | rfl | rfl | rfl | hk5
        · skip
          have hne : ∀ b off, ia = some ⟨b, off, none⟩ → il ≠ 0 → b ≠ B := by
            intro b' off' e hn
            rcases ((H.out k hlt)) with ⟨kd', ia', il', ic', zs', at', more', d0', d1', d2', d3', w0', w2'', w3'', hreach', hr'⟩
            have e1 := below_cell HBR.out d1'
            rw [d1] at e1
            simp only [Option.some.injEq, Value.slice.injEq] at e1
            obtain ⟨rfl, rfl, rfl⟩ := e1
            rcases hr'.2 with h0 | ⟨b'', off'', e'', hl'', _⟩
            · omega
            · rw [e] at e''; cases e''; omega
          have HNE := Lib.hid hne
          clear hne
          have fr := fold_range sentF sentF_range zs fl k1 k2 (fun n hn => (bounds64 (HR.out.wf n hn)).1)
          go_wp2_with (fail)
          refine (sent_any _ B wi th fl si rc ac ia il ic zs (HAT.out.below (((Below.refl _ _).alloc (Nat.le_refl _) _).alloc (by simp) _)) k1 k2 (HR.out.below (((Below.refl _ _).alloc (Nat.le_refl _) _).alloc (by simp) _)) HNE.out (by omega)).mono ?_
          rintro e wz ⟨rfl, az, oz⟩
          have AZ := Lib.hid az
          have OZ := Lib.hid oz
          clear az oz
          have c0z := AZ.out.c0
          have e0 : wz.cell? ⟨wr.heap.size, 0, none⟩ = some (.int .u8 0) := (OZ.out.cell (p := ⟨wr.heap.size, 0, none⟩) (by simp; try omega) (by simp; omega)).trans (by simp [go_sem])
          have e6 : wz.cell? ⟨wr.heap.size + 1, 0, none⟩ = some (.int .u64 wi) := (OZ.out.cell (p := ⟨wr.heap.size + 1, 0, none⟩) (by simp; try omega) (by simp; omega)).trans (by simp [go_sem])
          have z1 := decide_eq_false (show ¬ wi < 2400 by omega)
          have z2 := decide_eq_false (show ¬ wi < wi by omega)
          go_wp2_with (fail)
          go_quiet (fail)
          go_wp2_with (fail)
          go_roundw
          case rel => exact ⟨k + 1, _, _, _, _, _, _, by omega, by go_num, At.drewN _ AZ.out, ⟨by omega, fr.1, fr.2, by omega, by push_cast; omega, k5, k6⟩, ((HON.out.trans (((Only.refl _ _).alloc _).alloc _)).trans OZ.out).drewN _⟩
          case measure => simp [intOf]; omega
        · skip
          have hne : ∀ b off, ia = some ⟨b, off, none⟩ → il ≠ 0 → b ≠ B := by
            intro b' off' e hn
            rcases ((H.out k hlt)) with ⟨kd', ia', il', ic', zs', at', more', d0', d1', d2', d3', w0', w2'', w3'', hreach', hr'⟩
            have e1 := below_cell HBR.out d1'
            rw [d1] at e1
            simp only [Option.some.injEq, Value.slice.injEq] at e1
            obtain ⟨rfl, rfl, rfl⟩ := e1
            rcases hr'.2 with h0 | ⟨b'', off'', e'', hl'', _⟩
            · omega
            · rw [e] at e''; cases e''; omega
          have HNE := Lib.hid hne
          clear hne
          have fr := fold_range goneF goneF_range zs fl k1 k2 (fun n hn => (bounds64 (HR.out.wf n hn)).1)
          go_wp2_with (fail)
          refine (gone_any _ B wi th fl si rc ac ia il ic zs (HAT.out.below (((Below.refl _ _).alloc (Nat.le_refl _) _).alloc (by simp) _)) k1 k2 (HR.out.below (((Below.refl _ _).alloc (Nat.le_refl _) _).alloc (by simp) _)) HNE.out (by omega)).mono ?_
          rintro e wz ⟨rfl, az, oz⟩
          have AZ := Lib.hid az
          have OZ := Lib.hid oz
          clear az oz
          have c0z := AZ.out.c0
          have e0 : wz.cell? ⟨wr.heap.size, 0, none⟩ = some (.int .u8 1) := (OZ.out.cell (p := ⟨wr.heap.size, 0, none⟩) (by simp; try omega) (by simp; omega)).trans (by simp [go_sem])
          have e6 : wz.cell? ⟨wr.heap.size + 1, 0, none⟩ = some (.int .u64 wi) := (OZ.out.cell (p := ⟨wr.heap.size + 1, 0, none⟩) (by simp; try omega) (by simp; omega)).trans (by simp [go_sem])
          have z1 := decide_eq_false (show ¬ wi < 2400 by omega)
          have z2 := decide_eq_false (show ¬ wi < wi by omega)
          go_wp2_with (fail)
          go_quiet (fail)
          go_wp2_with (fail)
          go_roundw
          case rel => exact ⟨k + 1, _, _, _, _, _, _, by omega, by go_num, At.drewN _ AZ.out, ⟨by omega, fr.1, fr.2, by omega, by push_cast; omega, k5, k6⟩, ((HON.out.trans (((Only.refl _ _).alloc _).alloc _)).trans OZ.out).drewN _⟩
          case measure => simp [intOf]; omega
        · have hsum : wi + ac ≤ 2305843009213693952 := by omega
          go_wp2_with (fail)
          go_region_held3 (fun w' => w'.cell? ⟨wr.heap.size, 0, none⟩ = some (.int .u8 2) ∧ w'.cell? ⟨wr.heap.size, 1, none⟩ = some (.slice ia il ic) ∧ w'.cell? ⟨wr.heap.size, 2, none⟩ = some (.int .u64 at_) ∧ w'.cell? ⟨wr.heap.size, 3, none⟩ = some (.int .u64 more))
            (first
              | go_keep
              | (go_split_ands; exact ⟨below_cell b5 (by simp [go_sem]), below_cell b5 (by simp [go_sem]), below_cell b5 (by simp [go_sem]), below_cell b5 (by simp [go_sem])⟩)
              | (go_split_ands; obtain ⟨_, _, _, _, _, _, _, ho⟩ := hrose; exact ⟨(ho.cell (p := ⟨wr.heap.size, 0, none⟩) (by have := b5.size; simp at this; simp; omega) (by simp; omega)).trans (below_cell b5 (by simp [go_sem])), (ho.cell (p := ⟨wr.heap.size, 1, none⟩) (by have := b5.size; simp at this; simp; omega) (by simp; omega)).trans (below_cell b5 (by simp [go_sem])), (ho.cell (p := ⟨wr.heap.size, 2, none⟩) (by have := b5.size; simp at this; simp; omega) (by simp; omega)).trans (below_cell b5 (by simp [go_sem])), (ho.cell (p := ⟨wr.heap.size, 3, none⟩) (by have := b5.size; simp at this; simp; omega) (by simp; omega)).trans (below_cell b5 (by simp [go_sem]))⟩))
            (first
              | (go_at_call 11; refine (size_c _ 2 at_ more ia il ic zs ?_ ?_).mono ?_; (exact HR.out.below (by repeat (first | exact Below.refl _ _ | refine Below.drew ?_ | refine Below.alloc ?_ (by simp; try omega) _))); omega; rintro e w5 ⟨rfl, b5⟩)
              | (go_at_call 10; refine (acked_any _ B wi th fl si rc ac at_ (zs.getD 0 0) ?_ k1 k2 HZ.out.1 HZ.out.2 k0 k3 ?_ k5).mono ?_; (exact (HAT.out.below (by repeat (first | exact Below.refl _ _ | refine Below.drew ?_ | refine Below.alloc ?_ (by simp; try omega) _))).below b5); omega; rintro e w6 ⟨rfl, hrose⟩))
          obtain ⟨wi', rc', ac', az, n0, n1, n2, oz0⟩ := hrose
          have gr := goneF_range fl (cap40 (zs.getD 0 0)) k1 k2 (cap40_range _ HZ.out.1).1
          have OZ := Lib.hid (((Only.refl B _).drew.trans (Only.of_below b5)).trans oz0)
          obtain ⟨wz, rfl⟩ : ∃ wz : World, wz = w6 := ⟨_, rfl⟩
          have AZ := Lib.hid az
          clear az oz0
          have c0z := AZ.out.c0
          have e0 : wz.cell? ⟨wr.heap.size, 0, none⟩ = some (.int .u8 2) := (OZ.out.cell (p := ⟨wr.heap.size, 0, none⟩) (by simp; try omega) (by simp; omega)).trans (by simp [go_sem])
          have e6 : wz.cell? ⟨wr.heap.size + 1, 0, none⟩ = some (.int .u64 wi) := (OZ.out.cell (p := ⟨wr.heap.size + 1, 0, none⟩) (by simp; try omega) (by simp; omega)).trans (by simp [go_sem])
          have z1 := decide_eq_false (show ¬ wi' < 2400 by omega)
          have z2 := decide_eq_false (show ¬ wi' < wi by omega)
          go_wp2_with (fail)
          go_quiet (fail)
          go_wp2_with (fail)
          go_roundw
          case rel => exact ⟨k + 1, _, _, _, _, _, _, by omega, by go_num, At.drewN _ AZ.out, ⟨by omega, gr.1, gr.2, by omega, by push_cast; omega, k5, k6⟩, ((HON.out.trans (((Only.refl _ _).alloc _).alloc _)).trans OZ.out).drewN _⟩
          case measure => simp [intOf]; omega
        · cases rc with
          | false =>
            go_wp2_with (fail)
            refine (lost_yes _ B wi th fl si false ac at_ _ (HAT.out.below (((Below.refl _ _).alloc (Nat.le_refl _) _).alloc (by simp) _)) (.inl rfl) (by omega) (by omega)).mono ?_
            rintro e wz ⟨rfl, az, oz⟩
            have hw : 2400 ≤ (if wi / 2 < 2400 then (2400 : Int) else wi / 2) ∧ (if wi / 2 < 2400 then (2400 : Int) else wi / 2) ≤ wi ∧ wi / 2 ≤ (if wi / 2 < 2400 then (2400 : Int) else wi / 2) := by split <;> omega
            obtain ⟨hw0, hw1, hw2⟩ := hw
            generalize (if wi / 2 < 2400 then (2400 : Int) else wi / 2) = wi' at *
            have AZ := Lib.hid az
            have OZ := Lib.hid oz
            clear az oz
            have e1 : wz.cell? ⟨wr.heap.size, 2, none⟩ = some (.int .u64 at_) := (OZ.out.cell (p := ⟨wr.heap.size, 2, none⟩) (by simp; try omega) (by simp; omega)).trans (by simp [go_sem])
            have e64 : wz.cell? ⟨wr.heap.size + 1, 4, none⟩ = some (.bool false) := (OZ.out.cell (p := ⟨wr.heap.size + 1, 4, none⟩) (by simp; try omega) (by simp; omega)).trans (by simp [go_sem])
            have e63 : wz.cell? ⟨wr.heap.size + 1, 3, none⟩ = some (.int .u64 si) := (OZ.out.cell (p := ⟨wr.heap.size + 1, 3, none⟩) (by simp; try omega) (by simp; omega)).trans (by simp [go_sem])
            have c0y := AZ.out.c0
            have e60 : wz.cell? ⟨wr.heap.size + 1, 0, none⟩ = some (.int .u64 wi) := (OZ.out.cell (p := ⟨wr.heap.size + 1, 0, none⟩) (by simp; try omega) (by simp; omega)).trans (by simp [go_sem])
            have z5 := decide_eq_false (show ¬ wi' < wi / 2 by omega)
            go_wp2_with (fail)
            go_quiet (fail)
            go_wp2_with (fail)
            have c0z := AZ.out.c0
            have e0 : wz.cell? ⟨wr.heap.size, 0, none⟩ = some (.int .u8 3) := (OZ.out.cell (p := ⟨wr.heap.size, 0, none⟩) (by simp; try omega) (by simp; omega)).trans (by simp [go_sem])
            have e6 : wz.cell? ⟨wr.heap.size + 1, 0, none⟩ = some (.int .u64 wi) := (OZ.out.cell (p := ⟨wr.heap.size + 1, 0, none⟩) (by simp; try omega) (by simp; omega)).trans (by simp [go_sem])
            have z1 := decide_eq_false (show ¬ wi' < 2400 by omega)
            go_quiet (fail)
            go_wp2_with (fail)
            go_roundw
            case rel => exact ⟨k + 1, _, _, _, _, _, _, by omega, by go_num, At.drewN _ AZ.out, ⟨by omega, k1, k2, by omega, by push_cast; omega, by omega, by omega⟩, ((HON.out.trans (((Only.refl _ _).alloc _).alloc _)).trans OZ.out).drewN _⟩
            case measure => simp [intOf]; omega
          | true =>
            by_cases ha : at_ ≤ si
            · skip
              have z4 : decide (at_ ≤ si) = true := decide_eq_true ha
              go_wp2_with (fail)
              refine (lost_no _ B wi th fl si ac at_ _ (HAT.out.below (((Below.refl _ _).alloc (Nat.le_refl _) _).alloc (by simp) _)) ha).mono ?_
              rintro e wY ⟨rfl, rfl⟩
              have hns := fun W => neq_same W wi th fl si true ac
              have hg := guard29
              have z5 := decide_eq_false (show ¬ wi < wi / 2 by omega)
              go_wp2_with (fail)
              go_quiet (fail)
              go_wp2_with (fail)
              clear hns hg
              have z1 := decide_eq_false (show ¬ wi < 2400 by omega)
              go_quiet (fail)
              go_wp2_with (fail)
              go_roundw
              case rel => exact ⟨k + 1, _, _, _, _, _, _, by omega, by go_num, At.drewN _ (HAT.out.below (((Below.refl _ _).alloc (Nat.le_refl _) _).alloc (by simp) _)), ⟨by omega, k1, k2, by omega, by push_cast; omega, k5, k6⟩, (HON.out.trans (((Only.refl _ _).alloc _).alloc _)).drewN _⟩
              case measure => simp [intOf]; omega
            · skip
              have z4 : decide (at_ ≤ si) = false := decide_eq_false ha
              go_wp2_with (fail)
              refine (lost_yes _ B wi th fl si true ac at_ _ (HAT.out.below (((Below.refl _ _).alloc (Nat.le_refl _) _).alloc (by simp) _)) (.inr (by omega)) (by omega) (by omega)).mono ?_
              rintro e wz ⟨rfl, az, oz⟩
              have hw : 2400 ≤ (if wi / 2 < 2400 then (2400 : Int) else wi / 2) ∧ (if wi / 2 < 2400 then (2400 : Int) else wi / 2) ≤ wi ∧ wi / 2 ≤ (if wi / 2 < 2400 then (2400 : Int) else wi / 2) := by split <;> omega
              obtain ⟨hw0, hw1, hw2⟩ := hw
              generalize (if wi / 2 < 2400 then (2400 : Int) else wi / 2) = wi' at *
              have AZ := Lib.hid az
              have OZ := Lib.hid oz
              clear az oz
              have e1 : wz.cell? ⟨wr.heap.size, 2, none⟩ = some (.int .u64 at_) := (OZ.out.cell (p := ⟨wr.heap.size, 2, none⟩) (by simp; try omega) (by simp; omega)).trans (by simp [go_sem])
              have e64 : wz.cell? ⟨wr.heap.size + 1, 4, none⟩ = some (.bool true) := (OZ.out.cell (p := ⟨wr.heap.size + 1, 4, none⟩) (by simp; try omega) (by simp; omega)).trans (by simp [go_sem])
              have e63 : wz.cell? ⟨wr.heap.size + 1, 3, none⟩ = some (.int .u64 si) := (OZ.out.cell (p := ⟨wr.heap.size + 1, 3, none⟩) (by simp; try omega) (by simp; omega)).trans (by simp [go_sem])
              have c0y := AZ.out.c0
              have e60 : wz.cell? ⟨wr.heap.size + 1, 0, none⟩ = some (.int .u64 wi) := (OZ.out.cell (p := ⟨wr.heap.size + 1, 0, none⟩) (by simp; try omega) (by simp; omega)).trans (by simp [go_sem])
              have z5 := decide_eq_false (show ¬ wi' < wi / 2 by omega)
              go_wp2_with (fail)
              go_quiet (fail)
              go_wp2_with (fail)
              have c0z := AZ.out.c0
              have e0 : wz.cell? ⟨wr.heap.size, 0, none⟩ = some (.int .u8 3) := (OZ.out.cell (p := ⟨wr.heap.size, 0, none⟩) (by simp; try omega) (by simp; omega)).trans (by simp [go_sem])
              have e6 : wz.cell? ⟨wr.heap.size + 1, 0, none⟩ = some (.int .u64 wi) := (OZ.out.cell (p := ⟨wr.heap.size + 1, 0, none⟩) (by simp; try omega) (by simp; omega)).trans (by simp [go_sem])
              have z1 := decide_eq_false (show ¬ wi' < 2400 by omega)
              go_quiet (fail)
              go_wp2_with (fail)
              go_roundw
              case rel => exact ⟨k + 1, _, _, _, _, _, _, by omega, by go_num, At.drewN _ AZ.out, ⟨by omega, k1, k2, by omega, by push_cast; omega, by omega, by omega⟩, ((HON.out.trans (((Only.refl _ _).alloc _).alloc _)).trans OZ.out).drewN _⟩
              case measure => simp [intOf]; omega
        · go_wp2_with (fail)
          refine (worst_c _ B wi th fl si rc ac (HAT.out.below (((Below.refl _ _).alloc (Nat.le_refl _) _).alloc (by simp) _))).mono ?_
          rintro e wz ⟨rfl, az, oz⟩
          have AZ := Lib.hid az
          have OZ := Lib.hid oz
          clear az oz
          have c0z := AZ.out.c0
          have e0 : wz.cell? ⟨wr.heap.size, 0, none⟩ = some (.int .u8 4) := (OZ.out.cell (p := ⟨wr.heap.size, 0, none⟩) (by simp; try omega) (by simp; omega)).trans (by simp [go_sem])
          have e6 : wz.cell? ⟨wr.heap.size + 1, 0, none⟩ = some (.int .u64 wi) := (OZ.out.cell (p := ⟨wr.heap.size + 1, 0, none⟩) (by simp; try omega) (by simp; omega)).trans (by simp [go_sem])
          skip
          go_wp2_with (fail)
          go_quiet (fail)
          go_wp2_with (fail)
          go_roundw
          case rel => exact ⟨k + 1, _, _, _, _, _, _, by omega, by go_num, At.drewN _ AZ.out, ⟨by omega, k1, k2, by omega, by push_cast; omega, k5, k6⟩, ((HON.out.trans (((Only.refl _ _).alloc _).alloc _)).trans OZ.out).drewN _⟩
          case measure => simp [intOf]; omega
        · have y0 : (kd == 0) = false := beq_eq_false_iff_ne.2 (by omega)
          have y1 : (kd == 1) = false := beq_eq_false_iff_ne.2 (by omega)
          have y2 : (kd == 2) = false := beq_eq_false_iff_ne.2 (by omega)
          have y3 : (kd == 3) = false := beq_eq_false_iff_ne.2 (by omega)
          have y4 : (kd == 4) = false := beq_eq_false_iff_ne.2 (by omega)
          have y5 : (kd != 3) = true := bne_iff_ne.2 (by omega)
          have y6 : (kd != 4) = true := bne_iff_ne.2 (by omega)
          have z1 := decide_eq_false (show ¬ wi < 2400 by omega)
          have z2 := decide_eq_false (show ¬ wi < wi by omega)
          go_wp2_with (fail)
          go_quiet (fail)
          go_wp2_with (fail)
          go_roundw
          case rel => exact ⟨k + 1, _, _, _, _, _, _, by omega, by go_num, At.drewN _ (HAT.out.below (((Below.refl _ _).alloc (Nat.le_refl _) _).alloc (by simp) _)), ⟨by omega, k1, k2, by omega, by push_cast; omega, k5, k6⟩, (HON.out.trans (((Only.refl _ _).alloc _).alloc _)).drewN _⟩
          case measure => simp [intOf]; omega
      · go_wp2_with (fail)
        refine (works_c _).mono ?_
        rintro e w7 ⟨rfl, b7⟩
        go_wp2_with (fail)
        go_ret
        exact ⟨rfl, (b13.trans (HON.out.below hwB (by omega))).trans (b7.mono (by omega))⟩
end Go.Proofs.Ytebbjmomakobaaa
