/- How a long packet begins, by the document. -/
import Derived.Test.YtgknamdcllapbaaSplit
namespace Go.Proofs.Ytgknamdcllapbaa
set_option linter.unusedVariables false
set_option linter.unusedSimpArgs false
open Go.RowKit
attribute [local go_sem ↓] part_lh part_l part_lhm
theorem split_c (w : World) (A : Option Addr) (n c : Nat) (zs : List Int) (hr : IntRow .u8 w A n zs) (hn : n ≤ 100000) (hc : n ≤ c) (hcm : c ≤ maxLen) :
    Calls Try.prog 23 #[.slice A n c] w fun e w' => (split zs = none ∧ (∃ x1 x2 x3 x4, e = .returned (.tuple #[x1, x2, x3, x4, .bool false])) ∧ Below w.heap.size w w') ∨ ∃ v d s r, split zs = some (v, d, s, r) ∧ Parsed w zs v d s r e w' := by
  by_cases h : 5 ≤ zs.length ∧ 128 ≤ zs.getD 0 0
  · exact split_long w A n c zs hr hn hc hcm h.1 h.2
  · refine (split_short w A n c zs hr hn h).mono ?_
    rintro e w' ⟨h1, h2⟩
    exact .inl ⟨by unfold split; rw [if_neg h], h1, h2⟩
theorem drop_take_add (zs : List Int) (p k q : Nat) : ((zs.drop p).take (k + q)).drop k = (zs.take (p + k + q)).drop (p + k) := by
  apply List.ext_getElem?
  intro i
  simp only [List.getElem?_drop, List.getElem?_take]
  by_cases h : k + i < k + q
  · rw [if_pos h, if_pos (by omega), show p + (k + i) = p + k + i from by omega]
  · rw [if_neg h, if_neg (by omega)]
theorem getD_drop (zs : List Int) (p i : Nat) : (zs.drop p).getD i 0 = zs.getD (p + i) 0 := by
  simp only [List.getD_eq_getElem?_getD, List.getElem?_drop]
/-- The same, by places. -/
def alt (zs : List Int) : Option (Int × List Int × List Int × List Int) :=
  if 6 ≤ zs.length ∧ 128 ≤ zs.getD 0 0 ∧ 6 + (zs.getD 5 0).toNat < zs.length ∧ 7 + (zs.getD 5 0).toNat + (zs.getD (6 + (zs.getD 5 0).toNat) 0).toNat ≤ zs.length then
    some (word ((zs.take 5).drop 1), (zs.take (6 + (zs.getD 5 0).toNat)).drop 6, (zs.take (7 + (zs.getD 5 0).toNat + (zs.getD (6 + (zs.getD 5 0).toNat) 0).toNat)).drop (7 + (zs.getD 5 0).toNat), zs.drop (7 + (zs.getD 5 0).toNat + (zs.getD (6 + (zs.getD 5 0).toNat) 0).toNat))
  else none
theorem split_alt (zs : List Int) : split zs = alt zs := by
  unfold split alt
  by_cases h : 5 ≤ zs.length ∧ 128 ≤ zs.getD 0 0
  · rw [if_pos h]
    obtain ⟨h1, h2⟩ := h
    unfold cutId
    rw [getD_drop, List.length_drop, show 5 + 0 = 5 from rfl]
    obtain ⟨dn, hdn⟩ : ∃ dn, (zs.getD 5 0).toNat = dn := ⟨_, rfl⟩
    rw [hdn]
    by_cases c1 : 0 < zs.length - 5 ∧ dn < zs.length - 5
    · rw [if_pos c1]
      simp only
      rw [List.drop_drop, getD_drop, List.length_drop, show 5 + (1 + dn) + 0 = 6 + dn from by omega]
      obtain ⟨sn, hsn⟩ : ∃ sn, (zs.getD (6 + dn) 0).toNat = sn := ⟨_, rfl⟩
      rw [hsn]
      by_cases c2 : 0 < zs.length - (5 + (1 + dn)) ∧ sn < zs.length - (5 + (1 + dn))
      · rw [if_pos c2, if_pos ⟨by omega, h2, by omega, by omega⟩]
        simp only [List.drop_drop]
        rw [drop_take_add zs 5 1 dn, drop_take_add zs (5 + (1 + dn)) 1 sn, show 5 + 1 + dn = 6 + dn from by omega, show 5 + (1 + dn) + 1 + sn = 7 + dn + sn from by omega, show 5 + 1 = 6 from rfl, show 5 + (1 + dn) + 1 = 7 + dn from by omega, show 5 + (1 + dn) + (1 + sn) = 7 + dn + sn from by omega]
      · rw [if_neg c2, if_neg (by omega)]
    · rw [if_neg c1, if_neg (by omega)]
  · rw [if_neg h, if_neg (fun h' => h ⟨by omega, h'.2.1⟩)]
/-- The number of the bytes behind the first, up to one. -/
def wp (zs : List Int) : Nat → Int
  | 0 => 0
  | k + 1 => 256 * wp zs k + zs.getD (k + 1) 0
theorem wp_word (zs : List Int) (h : 5 ≤ zs.length) : wp zs 4 = word ((zs.take 5).drop 1) := by
  have e : ∀ i, i < 4 → ((zs.take 5).drop 1).getD i 0 = zs.getD (1 + i) 0 := by
    intro i hi
    simp only [List.getD_eq_getElem?_getD, List.getElem?_drop, List.getElem?_take]
    rw [if_pos (by omega)]
  unfold word
  rw [e 0 (by omega), e 1 (by omega), e 2 (by omega), e 3 (by omega)]
  simp only [wp, Nat.reduceAdd]
  omega
theorem wp_range (zs : List Int) (hz : ∀ j, 0 ≤ zs.getD j 0 ∧ zs.getD j 0 ≤ 255) (k : Nat) (hk : k ≤ 3) : 0 ≤ wp zs k ∧ wp zs k ≤ 16777215 := by
  have h1 := hz 1
  have h2 := hz 2
  have h3 := hz 3
  have : k = 0 ∨ k = 1 ∨ k = 2 ∨ k = 3 := by omega
  rcases this with rfl | rfl | rfl | rfl <;> simp only [wp, Nat.reduceAdd] <;> omega
/-- What the document's answer is. -/
def Begun (w : World) (zs : List Int) (e : Ending) (w' : World) : Prop :=
  (split zs = none ∧ e = .returned (.tuple #[.int .u32 0, .slice none 0 0, .slice none 0 0, .int .i64 (-1)]) ∧ Below w.heap.size w w') ∨
  ∃ v d s r A1 c1 A2 c2, split zs = some (v, d, s, r) ∧ d.length ≤ 255 ∧ s.length ≤ 255 ∧ 0 ≤ v ∧ v ≤ 4294967295 ∧ r.length + d.length + s.length + 7 = zs.length ∧ e = .returned (.tuple #[.int .u32 v, .slice (some A1) d.length c1, .slice (some A2) s.length c2, .int .i64 ((7 + d.length + s.length : Nat) : Int)]) ∧ IntRow .u8 w' (some A1) d.length d ∧ IntRow .u8 w' (some A2) s.length s ∧ d.length ≤ c1 ∧ c1 ≤ maxLen ∧ s.length ≤ c2 ∧ c2 ≤ maxLen ∧ Below w.heap.size w w'
set_option maxHeartbeats 8000000 in
theorem refbegin_c (w : World) (A : Option Addr) (n c : Nat) (zs : List Int) (hr : IntRow .u8 w A n zs) (hn : n ≤ 100000) (hc : n ≤ c) (hcm : c ≤ maxLen) :
    Calls Try.prog 14 #[.slice A n c] w (Begun w zs) := by
  have hlen := hr.1
  have hsp := split_alt zs
  unfold alt at hsp
  by_cases a : n < 6
  · have t0 : decide ((n : Int) < 6) = true := decide_eq_true (by omega)
    rw [if_neg (by omega)] at hsp
    have HN := Lib.hid hsp
    clear hsp hr
    go_enter Try.func14, Try.ntmps14
    go_wp2
    exact bodyPost_ret (v := .tuple #[.int .u32 0, .slice none 0 0, .slice none 0 0, .int .i64 (-1)]) (by simp [results, Try.results14, go_sem]) rfl (.inl ⟨HN.out, rfl, Below.refl _ _⟩)
  · have t0 : decide ((n : Int) < 6) = false := decide_eq_false (by omega)
    obtain ⟨b, off, rfl, hb, hz⟩ := hr.2.resolve_left (by omega)
    have c0 := (hz 0 (by omega)).1
    rw [Nat.add_zero] at c0
    have HZ := Lib.hid hz
    have HRW := Lib.hid hr
    have i1 : 0 < n := by omega
    have i0 : (0 : Int) < (n : Int) := by omega
    by_cases lo : zs.getD 0 0 < 128
    · have t1 : decide (zs.getD 0 0 < 128) = true := decide_eq_true lo
      rw [if_neg (by omega)] at hsp
      have HN := Lib.hid hsp
      clear hsp hr hz
      generalize zs.getD 0 0 = x at *
      go_enter Try.func14, Try.ntmps14
      go_wp2
      exact bodyPost_ret (v := .tuple #[.int .u32 0, .slice none 0 0, .slice none 0 0, .int .i64 (-1)]) (by simp [results, Try.results14, go_sem]) rfl (.inl ⟨HN.out, rfl, Below.refl _ _⟩)
    · have t1 : decide (zs.getD 0 0 < 128) = false := decide_eq_false lo
      have hbyte : ∀ j, 0 ≤ zs.getD j 0 ∧ zs.getD j 0 ≤ 255 := fun j => by
        rcases Nat.lt_or_ge j n with h | h
        · exact bd8 (hz j h).2
        · rw [List.getD_eq_getElem?_getD, List.getElem?_eq_none (by omega)]; simp
      have HBY := Lib.hid hbyte
      have HSP := Lib.hid hsp
      have HLO := Lib.hid lo
      clear hsp hr hz hbyte lo
      generalize hx : zs.getD 0 0 = x at c0 t1
      have HX := Lib.hid hx
      clear hx
      go_enter Try.func14, Try.ntmps14
      go_wp2
      go_loop [6, 7] (fun v i => ∃ k : Nat, k ≤ 4 ∧ i = .int .i64 ((k : Int) + 1) ∧ v = .int .u32 (wp zs k)) (fun _ i => 5 - (intOf i).toNat)
      case atStart => exact ⟨0, by omega, rfl, rfl⟩
      case round =>
        obtain ⟨k, hk, rfl, rfl⟩ := hrel
        by_cases hlt : k < 4
        · have hck := (HZ.out (k + 1) (by omega)).1
          have hbk := HBY.out (k + 1)
          have hwr := wp_range zs HBY.out k (by omega)
          have hst : Hid (wp zs (k + 1) = 256 * wp zs k + zs.getD (k + 1) 0) := Lib.hid rfl
          generalize zs.getD (k + 1) 0 = y at *
          generalize wp zs k = u at *
          obtain ⟨y0, y1⟩ := hbk
          obtain ⟨u0, u1⟩ := hwr
          go_wp2
          go_round
          case rel => exact ⟨k + 1, by omega, by go_num, by rw [hst.out]⟩
          case measure => simp [intOf]; omega
        · have e4 : k = 4 := by omega
          subst e4
          have hwv := wp_word zs (by omega)
          have hwr3 := wp_range zs HBY.out 3 (by omega)
          have hb4 := HBY.out 4
          have hst : wp zs 4 = 256 * wp zs 3 + zs.getD 4 0 := rfl
          have hv : 0 ≤ wp zs 4 ∧ wp zs 4 ≤ 4294967295 := by omega
          have hs1 := HSP.out
          rw [← hwv] at hs1
          clear hwv hst hwr3 hb4
          generalize wp zs 4 = V at *
          have HS1 := Lib.hid hs1
          clear hs1 HSP
          have hc5 := (HZ.out 5 (by omega)).1
          have hb5 := HBY.out 5
          obtain ⟨dn, hdn⟩ := Int.eq_ofNat_of_zero_le hb5.1
          rw [hdn] at hc5 hb5
          have HDN : Hid ((zs.getD 5 0).toNat = dn) := Lib.hid (by rw [hdn]; rfl)
          have i5 : 5 < n := by omega
          have hwd : IntKind.i64.wrap (dn : Int) = (dn : Int) := IntWalk.i64_in _ (by omega)
          clear hdn
          by_cases c1 : 6 + dn < n
          · have t2 : decide ((n : Int) ≤ 6 + (dn : Int)) = false := decide_eq_false (by omega)
            have hc6 := (HZ.out (6 + dn) c1).1
            have hb6 := HBY.out (6 + dn)
            obtain ⟨sn, hsn⟩ := Int.eq_ofNat_of_zero_le hb6.1
            rw [hsn] at hc6 hb6
            have HSN : Hid ((zs.getD (6 + dn) 0).toNat = sn) := Lib.hid (by rw [hsn]; rfl)
            have hws : IntKind.i64.wrap (sn : Int) = (sn : Int) := IntWalk.i64_in _ (by omega)
            clear hsn
            by_cases c2 : 7 + dn + sn ≤ n
            · have t3 : decide ((n : Int) < 7 + (dn : Int) + (sn : Int)) = false := decide_eq_false (by omega)
              have HSO : Hid (split zs = some (V, (zs.take (6 + dn)).drop 6, (zs.take (7 + dn + sn)).drop (7 + dn), zs.drop (7 + dn + sn))) := Lib.hid (by
                have h := HS1.out
                rw [HDN.out, HSN.out, if_pos ⟨by omega, by have := HLO.out; omega, by omega, by omega⟩] at h
                exact h)
              obtain ⟨A1, hA1, hA1b⟩ := part_some b off 6 c
              obtain ⟨A2, hA2, hA2b⟩ := part_some b off (7 + dn) c
              have R1 := part_row (lo := 6) (hi := 6 + dn) (c := c) HRW.out (by omega) (by omega)
              have R2 := part_row (lo := 7 + dn) (hi := 7 + dn + sn) (c := c) HRW.out (by omega) (by omega)
              rw [hA1, show 6 + dn - 6 = dn from by omega] at R1
              rw [hA2, show 7 + dn + sn - (7 + dn) = sn from by omega] at R2
              have RR1 := Lib.hid R1
              have RR2 := Lib.hid R2
              have b6 : (6 : Int) ≤ 6 + (dn : Int) := by omega
              have b6c : (6 : Int) + (dn : Int) ≤ (c : Int) := by omega
              have b7 : (0 : Int) ≤ 7 + (dn : Int) := by omega
              have b7s : (7 : Int) + (dn : Int) ≤ 7 + (dn : Int) + (sn : Int) := by omega
              have b7c : (7 : Int) + (dn : Int) + (sn : Int) ≤ (c : Int) := by omega
              have w6 : IntKind.i64.wrap (6 + (dn : Int)) = 6 + (dn : Int) := IntWalk.i64_in _ (by omega)
              have w7 : IntKind.i64.wrap (7 + (dn : Int)) = 7 + (dn : Int) := IntWalk.i64_in _ (by omega)
              have w8 : IntKind.i64.wrap (7 + (dn : Int) + (sn : Int)) = 7 + (dn : Int) + (sn : Int) := IntWalk.i64_in _ (by omega)
              have n6 : (6 + (dn : Int)).toNat = 6 + dn := by omega
              have n7 : (7 + (dn : Int)).toNat = 7 + dn := by omega
              have n8 : (7 + (dn : Int) + (sn : Int)).toNat = 7 + dn + sn := by omega
              have n9 : 6 + dn - 6 = dn := by omega
              have n10 : 7 + dn + sn - (7 + dn) = sn := by omega
              clear R1 R2 HS1
              go_wp2
              go_quiet (fail)
              go_wp2
              have l1 := RR1.out.1
              have l2 := RR2.out.1
              have hbd : Below w.heap.size w (w.drewN nq) := below_drewN (Below.refl _ _) nq
              refine bodyPost_ret (v := .tuple #[.int .u32 V, .slice (some A1) dn (c - 6), .slice (some A2) sn (c - (7 + dn)), .int .i64 (7 + (dn : Int) + (sn : Int))]) (by simp [results, Try.results14, go_sem]) rfl (.inr ⟨V, _, _, _, A1, c - 6, A2, c - (7 + dn), HSO.out, ?_, ?_, hv.1, hv.2, ?_, ?_, ?_, ?_, ?_, ?_, ?_, ?_, hbd⟩)
              · rw [l1]; omega
              · rw [l2]; omega
              · rw [l1, l2, List.length_drop]; omega
              · rw [l1, l2]
                have : ((7 + dn + sn : Nat) : Int) = 7 + (dn : Int) + (sn : Int) := by omega
                rw [this]
              · rw [l1]; exact RR1.out.below hbd
              · rw [l2]; exact RR2.out.below hbd
              · rw [l1]; omega
              · omega
              · rw [l2]; omega
              · omega
            · have t3 : decide ((n : Int) < 7 + (dn : Int) + (sn : Int)) = true := decide_eq_true (by omega)
              have HN : Hid (split zs = none) := Lib.hid (by
                have h := HS1.out
                rw [HDN.out, HSN.out, if_neg (by omega)] at h
                exact h)
              clear HS1
              go_wp2
              exact bodyPost_ret (v := .tuple #[.int .u32 0, .slice none 0 0, .slice none 0 0, .int .i64 (-1)]) (by simp [results, Try.results14, go_sem]) rfl (.inl ⟨HN.out, rfl, Below.refl _ _⟩)
          · have t2 : decide ((n : Int) ≤ 6 + (dn : Int)) = true := decide_eq_true (by omega)
            have HN : Hid (split zs = none) := Lib.hid (by
              have h := HS1.out
              rw [HDN.out, if_neg (by omega)] at h
              exact h)
            clear HS1
            go_wp2
            exact bodyPost_ret (v := .tuple #[.int .u32 0, .slice none 0 0, .slice none 0 0, .int .i64 (-1)]) (by simp [results, Try.results14, go_sem]) rfl (.inl ⟨HN.out, rfl, Below.refl _ _⟩)
end Go.Proofs.Ytgknamdcllapbaa
