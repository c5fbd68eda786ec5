/- Plain laws of numbers: what is expanded, by the program's way and by the reference's; what follows of it. -/
import Derived.Test.YtbigklbchnmjoaaPlain
namespace Go.Proofs.Ytbigklbchnmjoaa
set_option linter.unusedVariables false
open Go.RowKit Go.Proofs.YtbigklbchnmjoaaW.PrintWords Go.Proofs.YtbigklbchnmjoaaW.PrintLast Go.Proofs.YtbigklbchnmjoaaW.PrintMore Go.Proofs.Ytbigklbchnmjoaa.PPnumTells

/-- The reference's choice: h is the one of x's own window. -/
def refE (W x h : Int) : Int :=
  if x < h then (if W ≤ h then (if 4611686018427387903 < h then h - W else if x - (h - W) < h - x then h - W else h) else h)
  else (if 4611686018427387903 < h + W then h else if x - h < h + W - x then h else h + W)

theorem emod_le (x W : Int) (hW : 0 < W) (h0 : 0 ≤ x) : x % W ≤ x := by
  have h1 := Int.mul_ediv_add_emod x W
  have h2 := Int.mul_nonneg (show 0 ≤ W by omega) (Int.ediv_nonneg h0 (show 0 ≤ W by omega))
  omega

theorem try_up (W x h : Int) (hW : 0 < W) (h1 : x < h + W) : tryS (h + W) true h x = if h + W ≤ 4611686018427387903 ∧ (h + W - x ≤ x - h) then h + W else h := by
  have key : trB (h + W) true h x = true ↔ (h + W ≤ 4611686018427387903 ∧ (h + W - x ≤ x - h)) := by
    unfold trB
    have e1 : far (h + W) x = h + W - x := by unfold far; rw [if_neg (by omega)]
    have e2 : x ≤ h ∧ far h x = h - x ∨ h < x ∧ far h x = x - h := by unfold far; split <;> omega
    rw [e1]
    simp only [Bool.and_eq_true, Bool.or_eq_true, decide_eq_true_eq, true_and]
    omega
  unfold tryS
  by_cases c : h + W ≤ 4611686018427387903 ∧ (h + W - x ≤ x - h)
  · rw [if_pos (key.2 c), if_pos c]
  · rw [if_neg (fun e => c (key.1 e)), if_neg c]

theorem exp_ref (W x t : Int) (hW : 0 < W) (hWm : W ≤ 4294967296) (h0 : 0 ≤ x) (h1 : x ≤ 4611686018427387903) : expS W x t = refE W x (x - x % W + t % W) := by
  have r0 := Int.emod_nonneg x (show W ≠ 0 by omega)
  have r1 := Int.emod_lt_of_pos x hW
  have u0 := Int.emod_nonneg t (show W ≠ 0 by omega)
  have u1 := Int.emod_lt_of_pos t hW
  have hq : 0 ≤ x - x % W := by have := emod_le x W hW h0; omega
  unfold expS
  generalize x % W = r at *
  generalize t % W = u at *
  generalize hh : x - r + u = h at *
  have hx : x < h + W := by omega
  rw [try_up W x h hW hx]
  unfold refE
  by_cases c : h + W ≤ 4611686018427387903 ∧ h + W - x ≤ x - h
  · rw [if_pos c, if_neg (show ¬ x < h by omega), if_neg (show ¬ 4611686018427387903 < h + W by omega), if_neg (show ¬ x - h < h + W - x by omega)]
    unfold tryS
    rw [if_neg]
    unfold trB
    by_cases d : W ≤ h
    · rw [u64_mod, Int.emod_eq_of_lt (by omega) (by omega)]
      have e1 : far (h - W) x = x - (h - W) := by unfold far; rw [if_pos (by omega)]
      have e2 : far (h + W) x = h + W - x := by unfold far; rw [if_neg (by omega)]
      rw [e1, e2]
      simp only [Bool.and_eq_true, Bool.or_eq_true, decide_eq_true_eq]
      omega
    · simp [d]
  · rw [if_neg c]
    by_cases d : W ≤ h
    · rw [decide_eq_true d, u64_mod, Int.emod_eq_of_lt (by omega) (by omega)]
      unfold tryS trB
      have e1 : far (h - W) x = x - (h - W) := by unfold far; rw [if_pos (by omega)]
      rw [e1]
      by_cases e : x < h
      · have e2 : far h x = h - x := by unfold far; rw [if_neg (by omega)]
        rw [if_pos e, if_pos d, e2]
        by_cases f : 4611686018427387903 < h
        · rw [if_pos f, if_pos]
          simp only [Bool.and_eq_true, Bool.or_eq_true, decide_eq_true_eq, true_and]
          exact ⟨by omega, .inl (.inl f)⟩
        · rw [if_neg f]
          by_cases g : x - (h - W) < h - x
          · rw [if_pos g, if_pos]
            simp only [Bool.and_eq_true, Bool.or_eq_true, decide_eq_true_eq, true_and]
            omega
          · rw [if_neg g, if_neg]
            simp only [Bool.and_eq_true, Bool.or_eq_true, decide_eq_true_eq, true_and]
            omega
      · have e2 : far h x = x - h := by
          unfold far
          split <;> omega
        rw [if_neg e, e2, if_neg]
        · by_cases f : 4611686018427387903 < h + W
          · rw [if_pos f]
          · rw [if_neg f, if_pos (by omega)]
        · simp only [Bool.and_eq_true, Bool.or_eq_true, decide_eq_true_eq, true_and]
          omega
    · rw [decide_eq_false d]
      have : tryS (IntKind.u64.wrap (h - W)) false h x = h := by simp [tryS, trB]
      rw [this]
      by_cases e : x < h
      · rw [if_pos e, if_neg d]
      · rw [if_neg e]
        by_cases f : 4611686018427387903 < h + W
        · rw [if_pos f]
        · rw [if_neg f, if_pos (by omega)]

/-- What is expanded, of any numbers. -/
def expF (y t n : Int) : Int := if 1 ≤ n ∧ n ≤ 4 then expS (wind n) (if 4611686018427387903 < y then 4611686018427387903 else y) t else 0

theorem ref_j1 (k : Nat) (W x u : Int) (hW : 0 < W) (hWm : W ≤ 4294967296) (h0 : 0 ≤ x) (h1 : x ≤ 4611686018427387903) (hu0 : 0 ≤ u) (hu1 : u < W) :
    hostlerref05_Expand.j1 (k + 3) x 4611686018427387903 W u = some (refE W x (x - x % W + u)) := by
  have r0 := Int.emod_nonneg x (show W ≠ 0 by omega)
  have r1 := Int.emod_lt_of_pos x hW
  have hq : 0 ≤ x - x % W := by have := emod_le x W hW h0; omega
  have hd : Int.tdiv x W * W = x - x % W := by rw [Int.tdiv_eq_ediv_of_nonneg h0]; have := Int.mul_ediv_add_emod x W; rw [Int.mul_comm] at this; omega
  have hd0 : 0 ≤ Int.tdiv x W := by rw [Int.tdiv_eq_ediv_of_nonneg h0]; exact Int.ediv_nonneg h0 (by omega)
  have hd1 : Int.tdiv x W ≤ x := by rw [Int.tdiv_eq_ediv_of_nonneg h0]; exact Int.ediv_le_self W h0
  have w1 : IntKind.u64.wrap (Int.tdiv x W) = Int.tdiv x W := by rw [u64_mod]; exact Int.emod_eq_of_lt hd0 (by omega)
  have hz : x - x % W < W → x - x % W = 0 := by
    intro hlt
    have hx : Int.tdiv x W * W < 1 * W := by omega
    have := Int.lt_of_mul_lt_mul_right hx (by omega)
    have h00 : Int.tdiv x W = 0 := by omega
    rw [h00] at hd; omega
  unfold refE
  simp only [hostlerref05_Expand.j1, w1, hd]
  generalize hr : x - x % W = q at *
  have w2 : IntKind.u64.wrap q = q := by rw [u64_mod]; omega
  have w3 : IntKind.u64.wrap (q + u) = q + u := by rw [u64_mod]; omega
  rw [w2, w3, if_neg (show ¬ W = 0 by omega)]
  generalize hh : q + u = h at *
  by_cases a : x < h
  · rw [if_pos a, if_pos a]
    by_cases b : W ≤ h
    · have w4 : IntKind.u64.wrap (h - W) = h - W := by rw [u64_mod]; omega
      have w5 : IntKind.u64.wrap (h - W + W) = h := by rw [u64_mod]; omega
      have w6 : IntKind.u64.wrap (x - (h - W)) = x - (h - W) := by rw [u64_mod]; omega
      rw [if_pos b, if_pos b, decide_eq_true b, w4]
      simp only [hostlerref05_Expand.j2, hostlerref05_Expand.j3, if_true, w5, w6]
      by_cases c : 4611686018427387903 < h
      · rw [if_pos c, if_pos c]
      · have w7 : IntKind.u64.wrap (h - x) = h - x := by rw [u64_mod]; omega
        rw [if_neg c, if_neg c, w7]
        by_cases d : x - (h - W) < h - x
        · rw [if_pos d, if_pos d]
        · rw [if_neg d, if_neg d]
    · rw [if_neg b, if_neg b, decide_eq_false b]
      simp only [hostlerref05_Expand.j2, hostlerref05_Expand.j3, Bool.false_eq_true, if_false]
      have := hz (by omega)
      congr 1; omega
  · rw [if_neg a, if_neg a]
    have w5 : IntKind.u64.wrap (h + W) = h + W := by rw [u64_mod]; omega
    have w6 : IntKind.u64.wrap (x - h) = x - h := by rw [u64_mod]; omega
    simp only [hostlerref05_Expand.j2, hostlerref05_Expand.j3, if_true, w5, w6]
    by_cases c : 4611686018427387903 < h + W
    · rw [if_pos c, if_pos c]
    · have w7 : IntKind.u64.wrap (h + W - x) = h + W - x := by rw [u64_mod]; omega
      rw [if_neg c, if_neg c, w7]
      by_cases d : x - h < h + W - x
      · rw [if_pos d, if_pos d]
      · rw [if_neg d, if_neg d]

theorem ref_expand_f (y t n : Int) (hy0 : 0 ≤ y) (hy1 : y < 18446744073709551616) (ht0 : 0 ≤ t) : hostlerref05_Expand.f 12 y t n = some (expF y t n) := by
  unfold hostlerref05_Expand.f expF
  by_cases h1 : n < 1
  · rw [if_pos h1, if_neg (show ¬ (1 ≤ n ∧ n ≤ 4) by omega)]
    simp only [hostlerref05_Expand.j0, if_true]
  · rw [if_neg h1]
    by_cases h2 : n > 4
    · rw [decide_eq_true h2, if_neg (show ¬ (1 ≤ n ∧ n ≤ 4) by omega)]
      simp only [hostlerref05_Expand.j0, if_true]
    · have hc := wind_cases n (by omega) (by omega)
      rw [decide_eq_false h2, if_pos (show 1 ≤ n ∧ n ≤ 4 by omega)]
      simp only [hostlerref05_Expand.j0, Bool.false_eq_true, if_false, win 6 n (wind n) hc, Option.bind_some]
      have hW : 0 < wind n ∧ wind n ≤ 4294967296 := by omega
      generalize wind n = W at *
      have hm : Int.tmod t W = t % W := Int.tmod_eq_emod_of_nonneg ht0
      have u0 := Int.emod_nonneg t (show W ≠ 0 by omega)
      have u1 := Int.emod_lt_of_pos t hW.1
      rw [if_neg (show ¬ W = 0 by omega), hm]
      by_cases c : 4611686018427387903 < y
      · rw [if_pos c, if_pos c, ref_j1 8 W _ _ hW.1 hW.2 (by omega) (by omega) u0 u1, exp_ref W _ t hW.1 hW.2 (by omega) (by omega)]
      · rw [if_neg c, if_neg c, ref_j1 8 W _ _ hW.1 hW.2 hy0 (by omega) u0 u1, exp_ref W _ t hW.1 hW.2 hy0 (by omega)]

/-- What was cut to so many bytes is expanded to what it was. -/
theorem back_law (acked more next : Int) (h0 : 0 ≤ acked) (h1 : 1 ≤ more) (h2 : more ≤ 2147483647) (h3 : acked + more ≤ 4611686018427387903) (h4 : acked < next) (h5 : next ≤ acked + more) :
    expF next (truncS (acked + more) (need more)) (need more) = acked + more := by
  have hn : 1 ≤ need more ∧ need more ≤ 4 := by unfold need; split <;> (try split) <;> (try split) <;> omega
  have hw : 2 * more < wind (need more) := by
    unfold need
    split
    · show 2 * more < 256; omega
    · split
      · show 2 * more < 65536; omega
      · split
        · show 2 * more < 16777216; omega
        · show 2 * more < 4294967296; omega
  have hc := wind_cases _ hn.1 hn.2
  have hW : 0 < wind (need more) ∧ wind (need more) ≤ 4294967296 := by omega
  unfold expF truncS
  rw [if_pos hn, if_pos hn, if_neg (by omega), exp_ref _ _ _ hW.1 hW.2 (by omega) (by omega)]
  rw [Int.emod_emod_of_dvd _ (Int.dvd_refl _)]
  generalize wind (need more) = W at *
  generalize need more = n at *
  unfold refE
  have hWc : W = 256 ∨ W = 65536 ∨ W = 16777216 ∨ W = 4294967296 := by omega
  clear hc
  rcases hWc with rfl | rfl | rfl | rfl <;> (repeat' split) <;> omega

/-- No other one is nearer. -/
theorem near_law (next t n : Int) (hn : 1 ≤ n ∧ n ≤ 4) (h0 : 0 ≤ next) (h1 : next ≤ 4611686018427387903) (h2 : 0 ≤ t) :
    expF next t n % wind n = t % wind n ∧ 0 ≤ expF next t n ∧ expF next t n ≤ 4611686018427387903 ∧
    (next ≤ expF next t n → expF next t n - next ≤ wind n / 2 ∨ expF next t n < wind n) ∧
    (expF next t n < next → next - expF next t n < wind n / 2 ∨ (next - expF next t n ≤ wind n ∧ 4611686018427387903 < expF next t n + wind n)) := by
  have hc := wind_cases _ hn.1 hn.2
  have hW : 0 < wind n ∧ wind n ≤ 4294967296 := by omega
  unfold expF
  rw [if_pos hn, if_neg (by omega), exp_ref _ _ _ hW.1 hW.2 (by omega) (by omega)]
  generalize wind n = W at *
  have hWc : W = 256 ∨ W = 65536 ∨ W = 16777216 ∨ W = 4294967296 := by omega
  clear hc hn
  unfold refE
  rcases hWc with rfl | rfl | rfl | rfl <;> (repeat' split) <;> omega
end Go.Proofs.Ytbigklbchnmjoaa
