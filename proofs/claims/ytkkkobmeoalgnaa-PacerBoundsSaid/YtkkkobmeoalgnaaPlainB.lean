/- Between two ticks go at most burst bytes, and rate for each second: numbers alone. -/
import Derived.Lib.Hide
namespace Go.Proofs.Ytkkkobmeoalgnaa
set_option linter.unusedVariables false
/-- The sum of the first k numbers. -/
def ps (zs : List Int) (k : Nat) : Int := (zs.take k).sum
theorem ps_zero (zs : List Int) : ps zs 0 = 0 := by simp [ps]
theorem sum_snoc (l : List Int) (x : Int) : (l ++ [x]).sum = l.sum + x := by
  induction l with
  | nil => simp
  | cons a l ih => rw [List.cons_append, List.sum_cons, List.sum_cons, ih]; omega
theorem ps_succ (zs : List Int) (k : Nat) (h : k < zs.length) : ps zs (k + 1) = ps zs k + zs.getD k 0 := by
  unfold ps
  rw [List.take_succ_eq_append_getElem h, sum_snoc]
  simp only [List.getD_eq_getElem?_getD, List.getElem?_eq_getElem h, Option.getD_some]
theorem ps_app (zs : List Int) (x : Int) (k : Nat) (h : k ≤ zs.length) : ps (zs ++ [x]) k = ps zs k := by
  unfold ps
  rw [List.take_append_of_le_length h]
theorem ps_app_all (zs : List Int) (x : Int) : ps (zs ++ [x]) (zs.length + 1) = ps zs zs.length + x := by
  rw [ps_succ _ _ (by simp), ps_app _ _ _ (Nat.le_refl _)]
  simp
theorem ps_le (zs : List Int) (M : Int) (hM : 0 ≤ M) (hz : ∀ x ∈ zs, 0 ≤ x ∧ x ≤ M) (i k : Nat) (h : i ≤ k) (hk : k ≤ zs.length) : ps zs i ≤ ps zs k ∧ ps zs k - ps zs i ≤ (k - i : Nat) * M := by
  induction h with
  | refl => simp
  | @step m hm ih =>
    obtain ⟨i1, i2⟩ := ih (by omega)
    have hx := hz (zs.getD m 0) (by rw [List.getD_eq_getElem?_getD, List.getElem?_eq_getElem (by omega)]; exact List.getElem_mem _)
    have hle : i ≤ m := hm
    rw [ps_succ _ _ (by omega)]
    have e : ((m + 1 - i : Nat) : Int) * M = ((m - i : Nat) : Int) * M + M := by
      have : (m + 1 - i : Nat) = (m - i) + 1 := by omega
      rw [this, Int.natCast_add, Int.add_mul]
      simp
    show ps zs i ≤ ps zs m + zs.getD m 0 ∧ ps zs m + zs.getD m 0 - ps zs i ≤ ((m + 1 - i : Nat) : Int) * M
    rw [e]
    omega
/-- What has gone, at which ticks: never more than the bucket gave. -/
structure Fed (r F t l : Int) (ats ns : List Int) : Prop where
  len : ats.length = ns.length
  rise : ∀ i k, i ≤ k → k < ns.length → ats.getD i 0 ≤ ats.getD k 0
  low : ∀ i, i < ns.length → 0 ≤ ats.getD i 0 ∧ ats.getD i 0 ≤ t
  nums : ∀ x ∈ ns, 0 ≤ x ∧ x ≤ 1073741824
  good : ∀ i k, i ≤ k → k < ns.length → (ps ns (k + 1) - ps ns i) * 1000000 ≤ F + (ats.getD k 0 - ats.getD i 0) * r
  tail : ∀ i, i < ns.length → (ps ns ns.length - ps ns i) * 1000000 + l ≤ F + (t - ats.getD i 0) * r
theorem Fed.nil (r F t l : Int) : Fed r F t l [] [] := ⟨rfl, fun _ _ _ h => absurd h (by simp), fun _ h => absurd h (by simp), fun _ h => absurd h (by simp), fun _ _ _ h => absurd h (by simp), fun _ h => absurd h (by simp)⟩
theorem getD_app_old (zs : List Int) (x : Int) (i : Nat) (h : i < zs.length) : (zs ++ [x]).getD i 0 = zs.getD i 0 := by
  simp only [List.getD_eq_getElem?_getD, List.getElem?_append_left h]
theorem getD_app_new (zs : List Int) (x : Int) : (zs ++ [x]).getD zs.length 0 = x := by
  simp [List.getD_eq_getElem?_getD]
theorem Fed.more {r F t l : Int} {ats ns : List Int} (h : Fed r F t l ats ns) (now n L : Int) (hr : 0 ≤ r) (h0 : 0 ≤ t) (h1 : t ≤ now) (hn0 : 0 ≤ n) (hn1 : n ≤ 1073741824) (hl : 0 ≤ l) (hL : L = min F (l + (now - t) * r)) (hnL : n * 1000000 ≤ L) : Fed r F now (L - n * 1000000) (ats ++ [now]) (ns ++ [n]) := by
  have la := h.len
  refine ⟨by simp [la], fun i k hik hk => ?_, fun i hi => ?_, fun x hx => ?_, fun i k hik hk => ?_, fun i hi => ?_⟩
  · simp at hk
    by_cases c : k < ns.length
    · rw [getD_app_old _ _ _ (by omega), getD_app_old _ _ _ (by omega)]; exact h.rise i k hik c
    · have e : k = ats.length := by omega
      rw [e, getD_app_new]
      by_cases d : i < ns.length
      · rw [getD_app_old _ _ _ (by omega)]; have := h.low i d; omega
      · have e : i = ats.length := by omega
        rw [e, getD_app_new]; exact Int.le_refl _
  · simp at hi
    by_cases d : i < ns.length
    · rw [getD_app_old _ _ _ (by omega)]; have := h.low i d; omega
    · have e : i = ats.length := by omega
      rw [e, getD_app_new]; omega
  · rcases List.mem_append.1 hx with hx | hx
    · exact h.nums x hx
    · simp at hx; subst hx; exact ⟨hn0, hn1⟩
  · simp at hk
    by_cases c : k < ns.length
    · rw [getD_app_old _ _ _ (by omega), getD_app_old _ _ _ (by omega), ps_app _ _ _ (by omega), ps_app _ _ _ (by omega)]; exact h.good i k hik c
    · have e : k = ns.length := by omega
      rw [e, ps_app_all, ← la, getD_app_new, la]
      by_cases d : i < ns.length
      · rw [getD_app_old _ _ _ (by omega), ps_app _ _ _ (by omega)]
        have := h.tail i d
        have e2 : (now - ats.getD i 0) * r = (t - ats.getD i 0) * r + (now - t) * r := by rw [← Int.add_mul]; congr 1; omega
        rw [e2]
        omega
      · have e : i = ns.length := by omega
        rw [e, ps_app _ _ _ (Nat.le_refl _), ← la, getD_app_new]
        have : (now - now) * r = 0 := by rw [Int.sub_self, Int.zero_mul]
        rw [this]
        omega
  · simp at hi
    have e1 : (ns ++ [n]).length = ns.length + 1 := by simp
    rw [e1, ps_app_all]
    by_cases d : i < ns.length
    · rw [getD_app_old _ _ _ (by omega), ps_app _ _ _ (by omega)]
      have := h.tail i d
      have e2 : (now - ats.getD i 0) * r = (t - ats.getD i 0) * r + (now - t) * r := by rw [← Int.add_mul]; congr 1; omega
      rw [e2]
      omega
    · have e : i = ns.length := by omega
      rw [e, ps_app _ _ _ (Nat.le_refl _), ← la, getD_app_new]
      have : (now - now) * r = 0 := by rw [Int.sub_self, Int.zero_mul]
      rw [this]
      omega
/-- The law's test, for two of them. -/
theorem Fed.test {r b t l : Int} {ats ns : List Int} (h : Fed r (b * 1000000) t l ats ns) (hr : 1 ≤ r) (i k : Nat) (hik : i ≤ k) (hk : k < ns.length) (hb : b < ps ns (k + 1) - ps ns i) :
    ((ps ns (k + 1) - ps ns i - b) * 1000000 + r - 1) / r ≤ ats.getD k 0 - ats.getD i 0 := by
  have g := h.good i k hik hk
  generalize ps ns (k + 1) - ps ns i = S at *
  generalize ats.getD k 0 - ats.getD i 0 = T at *
  have : (S - b) * 1000000 + r - 1 < (T + 1) * r := by rw [Int.add_mul]; omega
  have := Int.ediv_lt_of_lt_mul (by omega) this
  omega
end Go.Proofs.Ytkkkobmeoalgnaa
