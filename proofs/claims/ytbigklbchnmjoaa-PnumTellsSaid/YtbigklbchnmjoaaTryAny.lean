/- What a try in pnum.Expand comes to, in all cases. -/
import Derived.Test.YtbigklbchnmjoaaPPnumTellsx2
import Derived.Test.YtbigklbchnmjoaaTry
import Derived.Laws.EntriesVeiled
import Derived.Lib.Hide
import Derived.WalkSpells
import Derived.WalkLawsBesides
namespace Go.Proofs.Ytbigklbchnmjoaa
set_option linter.unusedVariables false
open Go.RowKit Go.Proofs.YtbigklbchnmjoaaW.PrintWords Go.Proofs.YtbigklbchnmjoaaW.PrintLast Go.Proofs.YtbigklbchnmjoaaW.PrintMore
attribute [local go_sem] max2_int min2_int max_two min_two max_three min_three max_four min_four
def tryS (n : Int) (may : Bool) (best x : Int) : Int := if trB n may best x = true then n else best

theorem below_drewN {B : Nat} {a w : World} (h : Below B a w) (k : Nat) : Below B a (w.drewN k) := ⟨h.os, h.tape, h.output, h.size, h.block⟩

/-- What is known of the captured variables behind a try. -/
structure After (B : Nat) (w w' : World) (p q r : Addr) (b x : Int) : Prop where
  best : w'.cell? p = some (.int .u64 b)
  far : w'.cell? q = some (.func (.func 14) #[] #[.pointer (some r)])
  next : w'.cell? r = some (.int .u64 x)
  free : w'.frozen? p = false
  size : w'.heap.size = w.heap.size
  below : Below B w w'

theorem After.kept {B k : Nat} {w : World} {p q r : Addr} {b x : Int} (hp : w.cell? p = some (.int .u64 b)) (hq : w.cell? q = some (.func (.func 14) #[] #[.pointer (some r)])) (hr : w.cell? r = some (.int .u64 x)) (hz : w.frozen? p = false) : After B w (w.drewN k) p q r b x :=
  ⟨hp, hq, hr, hz, rfl, below_drewN (Below.refl _ _) k⟩

theorem After.set {B k : Nat} {w : World} {p q r : Addr} {b x n : Int} (hB : B ≤ p.block) (hp : w.cell? p = some (.int .u64 b)) (hq : w.cell? q = some (.func (.func 14) #[] #[.pointer (some r)])) (hr : w.cell? r = some (.int .u64 x)) (hz : w.frozen? p = false) (hqp : p.block ≠ q.block) (hrp : p.block ≠ r.block) : After B w ((w.drewN k).setCell p (.int .u64 n)) p q r n x := by
  refine ⟨World.cell?_setCell_same _ _ _ (u := .int .u64 b) hp, ?_, ?_, ?_, ?_, (below_drewN (Below.refl _ _) k).setCell hB _⟩
  · rw [World.cell?_setCell_other _ _ _ _ (fun e => hqp (by rw [e]))]; exact hq
  · rw [World.cell?_setCell_other _ _ _ _ (fun e => hrp (by rw [e]))]; exact hr
  · rw [World.frozen?_setCell]; exact hz
  · rw [World.size_setCell]; rfl

theorem try_any (n best x : Int) (may : Bool) (p q r : Addr) (w : World) (B : Nat) (hB : B ≤ p.block) (hp : w.cell? p = some (.int .u64 best)) (hq : w.cell? q = some (.func (.func 14) #[] #[.pointer (some r)])) (hr : w.cell? r = some (.int .u64 x)) (hz : w.frozen? p = false) (hqp : p.block ≠ q.block) (hrp : p.block ≠ r.block)
    (h0 : 0 ≤ n) (h1 : n < 18446744073709551616) (h2 : 0 ≤ x) (h3 : x < 18446744073709551616) (h4 : 0 ≤ best) (h5 : best < 18446744073709551616) :
    Calls Try.prog 15 #[.int .u64 n, .bool may, .pointer (some p), .pointer (some q)] w fun e w' => e = .returned (.tuple #[]) ∧ After B w w' p q r (tryS n may best x) x := by
  cases may with
  | false =>
    refine (try_no n best x p q r w hp hq hr h0 h1 h2 h3 h4 h5).mono ?_
    rintro e w' ⟨rfl, k, rfl⟩
    exact ⟨rfl, After.kept hp hq hr hz⟩
  | true =>
    by_cases c1 : n ≤ 4611686018427387903
    · by_cases c2 : 4611686018427387903 < best
      · refine (try_c n best x p q r w hp hq hr hz h0 c1 h2 h3 c2 h5).mono ?_
        rintro e w' ⟨rfl, k, rfl⟩
        have e1 : tryS n true best x = n := by simp [tryS, trB, c1, c2]
        exact ⟨rfl, by rw [e1]; exact After.set hB hp hq hr hz hqp hrp⟩
      · by_cases c3 : far n x < far best x
        · refine (try_d n best x p q r w hp hq hr hz h0 c1 h2 h3 h4 (by omega) (by simpa using c3)).mono ?_
          rintro e w' ⟨rfl, k, rfl⟩
          have e1 : tryS n true best x = n := by simp [tryS, trB, c1, c3]
          exact ⟨rfl, by rw [e1]; exact After.set hB hp hq hr hz hqp hrp⟩
        · by_cases c4 : far n x = far best x
          · refine (try_e n best x p q r w hp hq hr hz h0 c1 h2 h3 h4 (by omega) (by simpa using c3) (by simpa using c4) (decide (best < n)) rfl).mono ?_
            rintro e w' ⟨rfl, k, rfl⟩
            by_cases c5 : best < n
            · have e1 : tryS n true best x = n := by simp [tryS, trB, c1, c2, c4, c5]
              exact ⟨rfl, by rw [e1, if_pos (by simpa using c5)]; exact After.set hB hp hq hr hz hqp hrp⟩
            · have e1 : tryS n true best x = best := by simp [tryS, trB, c1, c2, c4, c5]
              exact ⟨rfl, by rw [e1, if_neg (by simpa using c5)]; exact After.kept hp hq hr hz⟩
          · refine (try_f n best x p q r w hp hq hr h0 c1 h2 h3 h4 (by omega) (by simpa using c3) (by simpa using c4)).mono ?_
            rintro e w' ⟨rfl, k, rfl⟩
            have e1 : tryS n true best x = best := by simp [tryS, trB, c1, c2, c3, c4]
            exact ⟨rfl, by rw [e1]; exact After.kept hp hq hr hz⟩
    · refine (try_m n best x p q r w hp hq hr (by omega) h1 h2 h3 h4 h5).mono ?_
      rintro e w' ⟨rfl, k, rfl⟩
      have e1 : tryS n true best x = best := by simp [tryS, trB, c1]
      exact ⟨rfl, by rw [e1]; exact After.kept hp hq hr hz⟩

def expS (W x t : Int) : Int :=
  tryS (IntKind.u64.wrap (x - x % W + t % W - W)) (decide (W ≤ x - x % W + t % W)) (tryS (x - x % W + t % W + W) true (x - x % W + t % W) x) x

theorem tryS_range {n b x : Int} {m : Bool} (h0 : 0 ≤ n) (h1 : n < 18446744073709551616) (h2 : 0 ≤ b) (h3 : b < 18446744073709551616) : 0 ≤ tryS n m b x ∧ tryS n m b x < 18446744073709551616 := by
  unfold tryS; split <;> omega

end Go.Proofs.Ytbigklbchnmjoaa
