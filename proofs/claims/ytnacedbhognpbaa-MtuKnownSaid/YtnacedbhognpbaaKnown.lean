/- The walk of MtuKnown. -/
import Derived.Test.YtnacedbhognpbaaSt
namespace Go.Proofs.Ytnacedbhognpbaa
set_option linter.unusedVariables false
open Go.RowKit
/-- As the search stands behind k lost probes. -/
def stK (k : Nat) : St := if k = 3 then ⟨1350, 1424, 0, 0, 0⟩ else ⟨1350, 1500, 0, k, 0⟩
theorem stK_inv (k : Nat) (hk : k ≤ 3) : Inv (stK k) := by
  unfold stK
  split
  · constructor <;> ((try dsimp only); omega)
  · constructor <;> ((try dsimp only); omega)
theorem stK_probe (k : Nat) (hk : k < 3) : probeS (stK k) = (1425, 0, ⟨1350, 1500, 1425, k, 0⟩) := by
  unfold stK
  rw [if_neg (by omega)]
  rfl
theorem stK_mid (k : Nat) (hk : k < 3) : Inv ⟨1350, 1500, 1425, k, 0⟩ := by constructor <;> ((try dsimp only); omega)
theorem stK_next (k : Nat) (hk : k < 3) : oneS ⟨1350, 1500, 1425, k, 0⟩ 1425 = stK (k + 1) := by
  have : k = 0 ∨ k = 1 ∨ k = 2 := by omega
  rcases this with rfl | rfl | rfl <;> rfl
set_option maxHeartbeats 1000000 in
theorem probes_c (w : World) (B b : Nat) (h : AtS w B (stK 0)) (hne : b ≠ B) (hb : b < w.heap.size) (hc : ∀ i, i < 3 → w.cell? ⟨b, i, none⟩ = some (.int .i64 1425)) :
    Calls Try.prog 14 #[.pointer (some ⟨B, 0, none⟩), .slice (some ⟨b, 0, none⟩) 3 3] w fun e w' => e = .returned (.bool true) ∧ AtS w' B (stK 3) ∧ Only B w w' := by
  have H := Lib.hid h
  have HC := Lib.hid hc
  clear h hc
  go_enter Try.func14, Try.ntmps14
  go_wp2_with (fail)
  go_loopw [11] (fun i wr => ∃ k : Nat, k ≤ 3 ∧ i = .int .i64 k ∧ AtS wr B (stK k) ∧ Only B w wr) (fun i _ => 3 - (intOf i).toNat)
  case atStart => exact ⟨0, by omega, rfl, H.out, Only.refl _ _⟩
  case round =>
    obtain ⟨k, hk, rfl, hat, hon⟩ := hrel
    have HAT := Lib.hid hat
    have HON := Lib.hid hon
    clear hat hon
    by_cases hlt : k < 3
    · have hcell : wr.cell? ⟨b, k, none⟩ = some (.int .i64 1425) := (HON.out.cell (p := ⟨b, k, none⟩) hb hne).trans (HC.out k hlt)
      have hcell' : wr.cell? ⟨b, 0 + k, none⟩ = some (.int .i64 1425) := by rw [Nat.zero_add]; exact hcell
      go_wp2_with (fail)
      refine (probe_s wr B _ 1425 0 _ (stK_probe k hlt) HAT.out (stK_inv k hk)).mono ?_
      rintro e w1 ⟨rfl, a1, b1⟩
      have hl := a1.lt
      go_wp2_with (fail)
      refine (lost_one _ B _ 1425 _ (stK_next k hlt) (a1.below ((Below.refl _ _).alloc (Nat.le_refl _) _)) (stK_mid k hlt) (by omega) (by omega) w1.heap.size (by simp) (by omega) (by simp [go_sem])).mono ?_
      rintro e w2 ⟨rfl, a2, b2⟩
      have HN := Lib.hid a2
      clear a2
      go_wp2_with (fail)
      go_roundw
      case rel => exact ⟨k + 1, by omega, by go_num, HN.out, ((HON.out.trans b1).trans ((Only.refl _ _).alloc _)).trans b2⟩
      case measure => simp [intOf]; omega
    · have hk3 : k = 3 := by omega
      go_wp2_with (fail)
      go_ret
      refine ⟨rfl, ?_, HON.out⟩
      have := HAT.out
      rw [hk3] at this
      exact this
set_option maxHeartbeats 4000000 in
theorem known_c (w : World) : Calls Try.prog 4 #[] w fun e w' => e = .returned (.bool true) ∧ Below w.heap.size w w' := by
  have i0 := Inv.first 1500 (by omega) (by omega)
  go_enter Try.func4, Try.ntmps4
  go_wp2_with (fail)
  refine (new_s 1500 _ (by omega) (by omega)).mono ?_
  rintro e w1 ⟨rfl, a1, b1⟩
  generalize hB : w.heap.size = B at *
  have HB := Lib.hid hB
  clear hB
  have l1 := a1.lt
  go_wp2_with (fail)
  refine (works_c _).mono ?_
  rintro e w2 ⟨rfl, b2⟩
  have a2 := a1.below b2
  have l2 := a2.lt
  go_wp2_with (fail)
  refine (probe_s _ B _ 1350 0 ⟨1200, 1500, 1350, 0, 0⟩ rfl a2 i0).mono ?_
  rintro e w3 ⟨rfl, a3, b3⟩
  have i3 : Inv ⟨1200, 1500, 1350, 0, 0⟩ := i0.probe
  go_wp2_with (fail)
  refine (came_s _ B _ 1350 (stK 0) rfl a3 i3 (by omega) (by omega)).mono ?_
  rintro e w4 ⟨rfl, a4, b4⟩
  go_wp2_with (fail)
  refine (new_no 1199 _ (by omega)).mono ?_
  rintro e wY ⟨rfl, rfl⟩
  go_wp2_with (fail)
  refine (new_no 65528 _ (by omega)).mono ?_
  rintro e wY ⟨rfl, rfl⟩
  go_wp2_with (fail)
  refine (probe_nil _).mono ?_
  rintro e wY ⟨rfl, rfl⟩
  have l4 := a4.lt
  go_wp2_with (fail)
  refine (probes_c _ B w4.heap.size (a4.below ((Below.refl _ _).alloc (Nat.le_refl _) _)) (by omega) (by simp) ?_).mono ?_
  · intro i hi
    have : i = 0 ∨ i = 1 ∨ i = 2 := by omega
    rcases this with rfl | rfl | rfl <;> simp [go_sem]
  rintro e w5 ⟨rfl, a5, b5⟩
  go_wp2_with (fail)
  refine (probe_s _ B _ 1387 0 ⟨1350, 1424, 1387, 0, 0⟩ rfl a5 (stK_inv 3 (by omega))).mono ?_
  rintro e w6 ⟨rfl, a6, b6⟩
  have l6 := a6.lt
  go_wp2_with (fail)
  refine (size_nil _).mono ?_
  rintro e wY ⟨rfl, rfl⟩
  go_wp2_with (fail)
  refine (done_nil _).mono ?_
  rintro e wY ⟨rfl, n7, rfl⟩
  go_wp2_with (fail)
  refine (came_nil _ 1).mono ?_
  rintro e wY ⟨rfl, rfl⟩
  go_wp2_with (fail)
  refine (lost_nil _ _).mono ?_
  rintro e wY ⟨rfl, rfl⟩
  go_wp2_with (fail)
  refine (again_nil _ 1300).mono ?_
  rintro e wY ⟨rfl, rfl⟩
  go_wp2_with (fail)
  refine (lost_bad _ B _ 0 1 0 [0] ⟨?_, ?_, ?_⟩ (by simp) (fun i hi => by omega) (by simp) (by simp)).mono ?_
  · omega
  · simp
  · intro i hi
    have : i = 0 := by simpa using hi
    subst this
    simp [go_sem]
  rintro e wY ⟨rfl, rfl⟩
  go_wp2_with (fail)
  refine (came_bad _ B 0 (by omega)).mono ?_
  rintro e wY ⟨rfl, rfl⟩
  go_wp2_with (fail)
  refine (again_bad _ B 1 (by omega)).mono ?_
  rintro e wY ⟨rfl, rfl⟩
  go_wp2_with (fail)
  go_ret
  refine ⟨rfl, ?_⟩
  rw [HB.out]
  exact (b1.trans (b2.mono (by omega))).trans ((((((b3.trans b4).trans ((Only.refl _ _).alloc _)).trans b5).trans b6).trans ((((Only.refl _ _).drewN n7).alloc _).alloc _)).below (Nat.le_refl _) (by omega))
end Go.Proofs.Ytnacedbhognpbaa
