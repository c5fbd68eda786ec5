/- The walk of heavy: more than 400 things in all. -/
import Derived.Test.YtkkkobmeoalgnaaHeavy
namespace Go.Proofs.Ytkkkobmeoalgnaa
set_option linter.unusedVariables false
set_option linter.unusedSimpArgs false
open Go.RowKit
/-- How many things a slice of moves has up to one of them. -/
def tot (w : World) (a : Option Addr) (k : Nat) : Nat := match a with
  | some p => cnt w p.block p.off k
  | none => 0
theorem tot_zero (w : World) (a : Option Addr) : tot w a 0 = 0 := by cases a <;> rfl
theorem tot_some (w : World) (b off k : Nat) : tot w (some ⟨b, off, none⟩) k = cnt w b off k := rfl
theorem tot_ge (w : World) (a : Option Addr) (len : Nat) (h : DoRow w a len) (k : Nat) (hk : k ≤ len) : k ≤ tot w a k := by
  rcases h.2 with h | ⟨b, off, rfl, _⟩
  · omega
  · exact cnt_ge _ _ _ _
theorem cnt_below {w w' : World} (hb : Below w.heap.size w w') {b off len : Nat} (h : ∀ i, i < len → DoAt w b off i) : ∀ k, k ≤ len → cnt w' b off k = cnt w b off k := by
  intro k
  induction k with
  | zero => intro _; rfl
  | succ k ih =>
    intro hk
    have e : lenOf w' b off k = lenOf w b off k := by
      obtain ⟨x0, x1, x2, a, l, c, zs, h0, h1, h2, h3, _⟩ := h k (by omega)
      unfold lenOf
      rw [h3, below_cell hb h3]
    simp only [cnt]
    rw [ih (by omega), e]
theorem tot_below {w w' : World} (hb : Below w.heap.size w w') {a : Option Addr} {len : Nat} (h : DoRow w a len) : tot w' a len = tot w a len := by
  rcases h.2 with h | ⟨b, off, rfl, _, hat⟩
  · subst h; rw [tot_zero, tot_zero]
  · exact cnt_below hb hat len (Nat.le_refl _)
set_option maxRecDepth 100000 in
set_option maxHeartbeats 2000000 in
theorem heavy_d (w : World) (a : Option Addr) (len cap : Nat) (h : DoRow w a len) : Calls Try.prog 12 #[.slice a len cap] w fun e w' => e = .returned (.bool (decide (400 < tot w a len))) ∧ Below w.heap.size w w' := by
  obtain ⟨hm, h⟩ := h
  unfold maxLen at hm
  by_cases h0 : len = 0
  · subst h0
    rw [tot_zero, show decide (400 < 0) = false from rfl]
    go_enter Try.func12, Try.ntmps12
    go_wp2_with (fail)
    go_loop [8, 3] (fun i n => i = .int .i64 0 ∧ n = .int .i64 0) (fun _ _ => 0)
    case atStart => exact ⟨rfl, rfl⟩
    case round =>
      obtain ⟨rfl, rfl⟩ := hrel
      go_wp2_with (fail)
      go_ret
      exact ⟨rfl, Below.refl _ _⟩
  · obtain ⟨b, off, rfl, hb, hat⟩ := h.resolve_left h0
    have H := Lib.hid hat
    clear h hat
    have HT : ∃ T : Bool, decide (400 < tot w (some ⟨b, off, none⟩) len) = T := ⟨_, rfl⟩
    obtain ⟨T, hT⟩ := HT
    rw [hT]
    have HT := Lib.hid hT
    clear hT
    go_enter Try.func12, Try.ntmps12
    go_wp2_with (fail)
    go_loopw [8, 3] (fun i n wr => ∃ (k : Nat) (x : Nat), k ≤ len ∧ i = .int .i64 k ∧ n = .int .i64 x ∧ x = cnt w b off k ∧ x ≤ 400 ∧ Below w.heap.size w wr) (fun i _ _ => len - (intOf i).toNat)
    case atStart => exact ⟨0, 0, by omega, rfl, rfl, rfl, by omega, Below.refl _ _⟩
    case round =>
      obtain ⟨k, x, hk, rfl, rfl, hx0, hx1, hbl⟩ := hrel
      have HX := Lib.hid hx0
      clear hx0
      have HBL := Lib.hid hbl
      clear hbl
      by_cases hlt : k < len
      · have hd := H.out k hlt
        have hl : ∃ il, lenOf w b off k = il ∧ ∃ x0 x1 x2 ia ic zs, wr.cell? ⟨b, off + k * 4, none⟩ = some (.int .u8 x0) ∧ wr.cell? ⟨b, off + k * 4 + 1, none⟩ = some (.int .u64 x1) ∧ wr.cell? ⟨b, off + k * 4 + 2, none⟩ = some (.int .u64 x2) ∧ wr.cell? ⟨b, off + k * 4 + 3, none⟩ = some (.slice ia il ic) ∧ il * 8 ≤ 140737488351232 ∧ IntRow .u64 wr ia il zs := by
          obtain ⟨x0, x1, x2, ia, il, ic, zs, c0, c1, c2, c3, w0, w1, w2, hreach, hr⟩ := hd
          refine ⟨il, by unfold lenOf; rw [c3], x0, x1, x2, ia, ic, zs, below_cell HBL.out c0, below_cell HBL.out c1, below_cell HBL.out c2, below_cell HBL.out c3, hreach, hr.below HBL.out⟩
        obtain ⟨il, hil, kd, at_, more, ia, ic, zs, c0, c1, c2, c3, hreach, hr⟩ := hl
        have HIL := Lib.hid hil
        clear hd hil hr
        have bw := Lib.hid (HBL.out.alloc HBL.out.size (.cells #[.int .u8 kd, .int .u64 at_, .int .u64 more, .slice ia il ic] 35))
        by_cases g0 : 400 < (x : Int) + (1 + (il : Int))
        · have hTT : T = true := by
            rw [← HT.out, tot_some]
            have h1 := cnt_mono w b off (show k + 1 ≤ len by omega)
            simp only [cnt] at h1
            rw [HIL.out, ← HX.out] at h1
            exact decide_eq_true (by omega)
          subst hTT
          go_wp2_with (fail)
          all_goals (go_ret; exact ⟨rfl, bw.out⟩)
        · go_wp2_with (fail)
          go_roundw
          case rel => exact ⟨k + 1, x + (1 + il), by omega, by go_num, by go_num, by simp only [cnt]; rw [HX.out, HIL.out], by omega, bw.out⟩
          case measure => simp [intOf]; omega
      · have e : k = len := by omega
        have hTT : T = false := by
          rw [← HT.out, tot_some]
          have h1 := HX.out
          rw [e] at h1
          exact decide_eq_false (by omega)
        subst hTT
        go_wp2_with (fail)
        go_ret
        exact ⟨rfl, HBL.out⟩
end Go.Proofs.Ytkkkobmeoalgnaa
