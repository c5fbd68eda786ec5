/- The walk of heavy: a bool; if it is false, there are few things in all. -/
import Derived.Test.YtkkkobmeoalgnaaTogether
namespace Go.Proofs.Ytkkkobmeoalgnaa
set_option linter.unusedVariables false
set_option linter.unusedSimpArgs false
open Go.RowKit
theorem bounds64 {x : Int} (h : (Lit.int .u64 x).wf = true) : 0 ≤ x ∧ x ≤ 18446744073709551615 := bounds_u64 h
theorem bounds8 {x : Int} (h : (Lit.int .u8 x).wf = true) : 0 ≤ x ∧ x ≤ 255 := bounds_u8 h
/-- How many numbers a move has. -/
def lenOf (w : World) (b off i : Nat) : Nat := match w.cell? ⟨b, off + i * 4 + 3, none⟩ with
  | some (.slice _ l _) => l
  | _ => 0
def cnt (w : World) (b off : Nat) : Nat → Nat
  | 0 => 0
  | k + 1 => cnt w b off k + (1 + lenOf w b off k)
theorem cnt_ge (w : World) (b off k : Nat) : k ≤ cnt w b off k := by
  induction k with
  | zero => exact Nat.le_refl _
  | succ k ih => simp only [cnt]; omega
theorem cnt_mono (w : World) (b off : Nat) {k m : Nat} (h : k ≤ m) : cnt w b off k ≤ cnt w b off m := by
  induction h with
  | refl => exact Nat.le_refl _
  | step _ ih => simp only [cnt]; omega
/-- A bool; if it is false there are at most so many things. -/
def FewBool (w : World) (a : Option Addr) (len : Nat) (e : Ending) (w' : World) : Prop := ∃ h : Bool, e = .returned (.bool h) ∧ (h = false → len ≤ 400 ∧ ∀ b off, a = some ⟨b, off, none⟩ → len ≠ 0 → cnt w b off len ≤ 400) ∧ Below w.heap.size w w'
set_option maxRecDepth 100000 in
set_option maxHeartbeats 2000000 in
theorem heavy_c (w : World) (a : Option Addr) (len cap : Nat) (h : DoRow w a len) : Calls Try.prog 12 #[.slice a len cap] w (FewBool w a len) := by
  obtain ⟨hm, h⟩ := h
  unfold maxLen at hm
  by_cases h0 : len = 0
  · subst h0
    go_enter Try.func12, Try.ntmps12
    go_wp2_with (fail)
    go_loop [8, 3] (fun i n => i = .int .i64 0 ∧ n = .int .i64 0) (fun _ _ => 0)
    case atStart => exact ⟨rfl, rfl⟩
    case round =>
      obtain ⟨rfl, rfl⟩ := hrel
      go_wp2_with (fail)
      go_ret
      exact ⟨false, rfl, fun _ => ⟨by omega, fun _ _ _ h => absurd rfl h⟩, Below.refl _ _⟩
  · obtain ⟨b, off, rfl, hb, hat⟩ := h.resolve_left h0
    have H := Lib.hid hat
    clear h hat
    go_enter Try.func12, Try.ntmps12
    go_wp2_with (fail)
    go_loopw [8, 3] (fun i n wr => ∃ (k : Nat) (x : Nat), k ≤ len ∧ i = .int .i64 k ∧ n = .int .i64 x ∧ x = cnt w b off k ∧ x ≤ 400 ∧ Below w.heap.size w wr) (fun i _ _ => len - (intOf i).toNat)
    case atStart => exact ⟨0, 0, by omega, rfl, rfl, rfl, by omega, Below.refl _ _⟩
    case round =>
      obtain ⟨k, x, hk, rfl, rfl, hx0, hx1, hbl⟩ := hrel
      have HX := Lib.hid hx0
      clear hx0
      have HBL := Lib.hid hbl
      clear hbl
      by_cases hlt : k < len
      · have hd := H.out k hlt
        have hl : ∃ il, lenOf w b off k = il ∧ ∃ x0 x1 x2 ia ic zs, wr.cell? ⟨b, off + k * 4, none⟩ = some (.int .u8 x0) ∧ wr.cell? ⟨b, off + k * 4 + 1, none⟩ = some (.int .u64 x1) ∧ wr.cell? ⟨b, off + k * 4 + 2, none⟩ = some (.int .u64 x2) ∧ wr.cell? ⟨b, off + k * 4 + 3, none⟩ = some (.slice ia il ic) ∧ il * 8 ≤ 140737488351232 ∧ IntRow .u64 wr ia il zs := by
          obtain ⟨x0, x1, x2, ia, il, ic, zs, c0, c1, c2, c3, w0, w1, w2, hreach, hr⟩ := hd
          refine ⟨il, by unfold lenOf; rw [c3], x0, x1, x2, ia, ic, zs, below_cell HBL.out c0, below_cell HBL.out c1, below_cell HBL.out c2, below_cell HBL.out c3, hreach, hr.below HBL.out⟩
        obtain ⟨il, hil, kd, at_, more, ia, ic, zs, c0, c1, c2, c3, hreach, hr⟩ := hl
        have HIL := Lib.hid hil
        clear hd hil hr
        have bw := Lib.hid (HBL.out.alloc HBL.out.size (.cells #[.int .u8 kd, .int .u64 at_, .int .u64 more, .slice ia il ic] 35))
        by_cases g0 : 400 < (x : Int) + (1 + (il : Int))
        · go_wp2_with (fail)
          all_goals (go_ret; exact ⟨true, rfl, (fun h => by cases h), bw.out⟩)
        · go_wp2_with (fail)
          go_roundw
          case rel => exact ⟨k + 1, x + (1 + il), by omega, by go_num, by go_num, by simp only [cnt]; rw [HX.out, HIL.out], by omega, bw.out⟩
          case measure => simp [intOf]; omega
      · have e : k = len := by omega
        go_wp2_with (fail)
        go_ret
        refine ⟨false, rfl, fun _ => ?_, HBL.out⟩
        have hc : cnt w b off len ≤ 400 := by rw [← e, ← HX.out]; exact hx1
        have hg := cnt_ge w b off len
        refine ⟨by omega, fun b' off' hh _ => ?_⟩
        cases hh
        exact hc
end Go.Proofs.Ytkkkobmeoalgnaa
