/- Packets that go together. -/
import Derived.Test.YtkkkobmeoalgnaaWorks
namespace Go.Proofs.Ytkkkobmeoalgnaa
set_option linter.unusedVariables false
set_option linter.unusedSimpArgs false
open Go.RowKit
theorem At.only {w w' : World} {B C : Nat} {r b t l : Int} (h : At w B r b t l) (ho : Only C w w') (hne : B ≠ C) : At w' B r b t l := by
  have hl := h.lt
  unfold At at h ⊢
  rw [ho.block B hl hne]
  exact h
theorem lv_tm (r b t L now : Int) : lv r b (tm t now) L now = L := by
  unfold lv tm
  by_cases c : now ≤ t
  · rw [if_pos c, if_pos c]
  · rw [if_neg c, if_pos (Int.le_refl _)]
/-- Where the one by one is. -/
def Gone (wr : World) (C : Nat) (r b t L0 : Int) (zs : List Int) (k : Nat) (all : Bool) : Prop :=
  ∃ t' l', At wr C r b t' l' ∧ Ok r b t' l' ∧ (all = true → pack (lv r b t' l' t) (zs.drop k) = pack L0 zs) ∧ (all = false → pack L0 zs = none)
set_option maxHeartbeats 4000000 in
theorem together_c (w : World) (r b t : Int) (A : Option Addr) (n c : Nat) (zs : List Int) (hr : IntRow .u64 w A n zs) (hn : n ≤ 9223372036854775807) (h0 : 0 ≤ t) (h1 : t < 18446744073709551616) :
    Calls Try.prog 3 #[.int .u64 r, .int .u64 b, .int .u64 t, .slice A n c] w fun e w' => e = .returned (.bool true) ∧ Below w.heap.size w w' := by
  by_cases ok : 1 ≤ r ∧ r ≤ 1073741824 ∧ 1200 ≤ b ∧ b ≤ 1073741824
  · obtain ⟨g0, g1, g2, g3⟩ := ok
    go_enter Try.func3, Try.ntmps3
    go_wp2_with (fail)
    refine (new_yes r b w g0 g1 g2 g3).mono ?_
    rintro e w1 ⟨B, rfl, a1, hB, b1⟩
    go_wp2_with (fail)
    refine (new_yes r b w1 g0 g1 g2 g3).mono ?_
    rintro e w2 ⟨C, rfl, c1, hC, b2⟩
    have HB := Lib.hid hB
    have HC := Lib.hid hC
    have B2 := Lib.hid (nextB b1 b2)
    have A2 := Lib.hid (a1.below b2)
    have C2 := Lib.hid c1
    have LB := Lib.hid (Nat.lt_of_lt_of_le a1.lt hC)
    by_cases big : 100 < n
    · have d : decide ((100 : Int) < n) = true := decide_eq_true (by omega)
      go_wp2_with (fail)
      refine (works_c _).mono ?_
      rintro e w3 ⟨rfl, b3⟩
      go_wp2_with (fail)
      go_ret
      exact ⟨rfl, nextB B2.out b3⟩
    · have d : decide ((100 : Int) < n) = false := decide_eq_false (by omega)
      go_wp2_with (fail)
      have o := ok_new g0 g1 g2 g3
      refine (level_c w2 B r b 0 (b * 1000000) t A2.out o h0 h1).mono ?_
      rintro e w3 ⟨rfl, b3⟩
      go_wp2_with (fail)
      have B3 := Lib.hid (nextB B2.out b3)
      have A3 := Lib.hid (A2.out.below b3)
      have C3 := Lib.hid (C2.out.below b3)
      have HR := Lib.hid hr
      have HW := Lib.hid (show w.heap.size ≤ C by have := b1.size; have := HC.out; omega)
      clear b3
      go_loopw [14, 51] (fun v i wr => ∃ (k : Nat) (all : Bool), k ≤ n ∧ i = .int .i64 k ∧ v = .bool all ∧ Gone wr C r b t (lv r b 0 (b * 1000000) t) zs k all ∧ Only C w3 wr) (fun _ i _ => n - (intOf i).toNat)
      case atStart => exact ⟨0, true, Nat.zero_le _, rfl, rfl, ⟨_, _, C3.out, o, fun _ => rfl, fun h => by cases h⟩, Only.refl _ _⟩
      case round =>
        obtain ⟨k, all, hk, rfl, rfl, hg, hon⟩ := hrel
        have HG := Lib.hid hg
        have HON := Lib.hid hon
        have BW := Lib.hid (B3.out.trans (hon.below HW.out (by have := B3.out.size; omega)))
        clear hg hon
        by_cases hlt : k < n
        · obtain ⟨hzl, hz⟩ := HR.out
          rcases hz with hz | ⟨bb, off, rfl, hbl, hz⟩
          · omega
          · have hzk := hz k hlt
            have hcell : wr.cell? ⟨bb, off + k, none⟩ = some (.int .u64 (zs.getD k 0)) := by
              rw [World.cell?_of_block (w := w) (BW.out.block bb hbl)]
              exact hzk.1
            have hw := hzk.2
            have hx0 : IntKind.u64.min ≤ zs.getD k 0 ∧ zs.getD k 0 ≤ IntKind.u64.max := by simpa [Lit.wf] using hw
            have hx : 0 ≤ zs.getD k 0 ∧ zs.getD k 0 < 18446744073709551616 := ⟨hx0.1, Int.lt_add_one_of_le hx0.2⟩
            have hpk := fun L => pack_cons L zs k (by omega)
            have HPK := Lib.hid hpk
            clear hz hzk hx0 hw hpk
            generalize zs.getD k 0 = x at *
            cases all with
            | false =>
              go_wp2_with (fail)
              go_roundw
              case rel => exact ⟨k + 1, false, by omega, by go_num, rfl, (by obtain ⟨t', l', x1, x2, x3, x4⟩ := HG.out; exact ⟨t', l', x1, x2, (fun h => by cases h), x4⟩), HON.out⟩
              case measure => simp [intOf]; omega
            | true =>
              obtain ⟨t', l', gA, gO, gT, gF⟩ := HG.out
              have lC := gA.lt
              have GT := Lib.hid (gT rfl)
              clear gT gF
              go_wp2_with (fail)
              refine (go_c _ C r b t' l' t (some ⟨wr.heap.size, 0, none⟩) 1 1 [x] (one_row (blk_new _ _) hx.1 hx.2) (by omega) (gA.below ((Below.refl _ _).alloc (Nat.le_refl _) _)) gO h0 h1).mono ?_
              rintro e w4 hq
              have hp1 : pack (lv r b t' l' t) [x] = if x * 1000000 ≤ lv r b t' l' t then some (lv r b t' l' t - x * 1000000) else none := rfl
              rw [hp1] at hq
              have hal : Only C wr (wr.alloc (.cells #[.int .u64 x] 22)) := Only.alloc (Only.refl _ _) _
              by_cases d : x * 1000000 ≤ lv r b t' l' t
              · rw [if_pos d] at hq
                rcases hq with ⟨hq, _⟩ | ⟨L, hL, rfl, a4, b4, y0, y1⟩
                · cases hq
                · have hL' := Option.some.inj hL
                  have P := HPK.out (lv r b t' l' t)
                  rw [if_pos d, hL'] at P
                  have HP := Lib.hid (P.symm.trans GT.out)
                  have oa := ok_after gO h0 h1
                  have O4 : Ok r b (tm t' t) L := ⟨oa.r1, oa.r2, oa.b1, oa.b2, oa.t1, oa.t2, y0, y1⟩
                  have OO := Lib.hid O4
                  have B4 := Lib.hid b4
                  have A4 := Lib.hid a4
                  clear hL hL' P oa O4 b4 a4 hp1 d y0 y1 gA gO
                  go_wp2_with (fail)
                  go_roundw
                  case rel => exact ⟨k + 1, true, by omega, by go_num, rfl, ⟨_, _, A4.out, OO.out, fun _ => by rw [lv_tm]; exact HP.out, fun h => by cases h⟩, (HON.out.trans (Only.alloc (Only.refl _ _) _)).trans B4.out⟩
                  case measure => simp [intOf]; omega
              · rw [if_neg d] at hq
                rcases hq with ⟨_, rfl, b4⟩ | ⟨L, hL, _⟩
                · have P := HPK.out (lv r b t' l' t)
                  rw [if_neg d] at P
                  have HP := Lib.hid (GT.out.symm.trans P)
                  have A4 := Lib.hid (gA.below (nextB ((Below.refl _ _).alloc (Nat.le_refl _) (.cells #[.int .u64 x] 22)) b4))
                  have OO := Lib.hid gO
                  have B4 := Lib.hid b4
                  clear P b4 hp1 d gA gO
                  go_wp2_with (fail)
                  go_roundw
                  case rel => exact ⟨k + 1, false, by omega, by go_num, rfl, ⟨_, _, A4.out, OO.out, (fun h => by cases h), fun _ => HP.out⟩, (HON.out.trans (Only.alloc (Only.refl _ _) _)).trans (Only.of_below B4.out)⟩
                  case measure => simp [intOf]; omega
                · cases hL
        · have e : k = n := by omega
          obtain ⟨t', l', gA, gO, gT, gF⟩ := HG.out
          have GT := Lib.hid gT
          have GF := Lib.hid gF
          have AB := Lib.hid (A3.out.only HON.out (Nat.ne_of_lt LB.out))
          clear gT gF
          go_wp2_with (fail)
          refine (go_c _ B r b 0 (b * 1000000) t A n c zs (HR.out.below BW.out) hn AB.out o h0 h1).mono ?_
          rintro e w4 hq
          cases all with
          | true =>
            have hp := GT.out rfl
            have hd : zs.drop k = [] := by rw [List.drop_eq_nil_iff]; have := HR.out.1; omega
            rw [hd] at hp
            rw [← hp] at hq
            rcases hq with ⟨hq, _⟩ | ⟨L, hL, rfl, a4, b4, y0, y1⟩
            · cases hq
            · have hL' : lv r b t' l' t = L := Option.some.inj hL
              have oa := ok_after o h0 h1
              have O4 : Ok r b (tm 0 t) L := ⟨oa.r1, oa.r2, oa.b1, oa.b2, oa.t1, oa.t2, y0, y1⟩
              have gC := gA.only b4 (Nat.ne_of_gt LB.out)
              have B4 := Lib.hid b4
              clear b4 hL hp hd oa
              have l1 := level_c w4 B r b (tm 0 t) L t a4 O4 h0 h1
              rw [lv_tm] at l1
              have hL2 := Lib.hid hL'
              clear hL'
              go_wp2_with (fail)
              refine l1.mono ?_
              rintro e w5 ⟨rfl, b5⟩
              have l2 := level_c w5 C r b t' l' t (gC.below b5) gO h0 h1
              rw [hL2.out] at l2
              go_wp2_with (fail)
              refine l2.mono ?_
              rintro e w6 ⟨rfl, b6⟩
              go_wp2_with (fail)
              refine (works_c _).mono ?_
              rintro e w7 ⟨rfl, b7⟩
              go_wp2_with (fail)
              go_ret
              exact ⟨rfl, nextB (nextB (nextB (BW.out.trans (B4.out.below HB.out BW.out.size)) b5) b6) b7⟩
          | false =>
            rw [GF.out rfl] at hq
            rcases hq with ⟨_, rfl, b4⟩ | ⟨L, hL, _⟩
            · have l1 := level_c w4 B r b 0 (b * 1000000) t (AB.out.below b4) o h0 h1
              have B4 := Lib.hid b4
              clear b4
              go_wp2_with (fail)
              refine l1.mono ?_
              rintro e w5 ⟨rfl, b5⟩
              go_wp2_with (fail)
              refine (works_c _).mono ?_
              rintro e w7 ⟨rfl, b7⟩
              go_wp2_with (fail)
              go_ret
              exact ⟨rfl, nextB (nextB (nextB BW.out B4.out) b5) b7⟩
            · cases hL
  · go_enter Try.func3, Try.ntmps3
    go_wp2_with (fail)
    refine (new_no r b w ok).mono ?_
    rintro e w1 ⟨rfl, b1⟩
    go_wp2_with (fail)
    refine (new_no r b w1 ok).mono ?_
    rintro e w2 ⟨rfl, b2⟩
    go_wp2_with (fail)
    refine (works_c _).mono ?_
    rintro e w3 ⟨rfl, b3⟩
    go_wp2_with (fail)
    go_ret
    exact ⟨rfl, nextB (nextB b1 b2) b3⟩
end Go.Proofs.Ytkkkobmeoalgnaa
