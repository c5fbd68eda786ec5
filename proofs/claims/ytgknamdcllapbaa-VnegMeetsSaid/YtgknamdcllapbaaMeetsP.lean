/- What a datagram and a packet are as lists: numbers alone. -/
import Derived.Test.YtgknamdcllapbaaTakeRef
namespace Go.Proofs.Ytgknamdcllapbaa
set_option linter.unusedVariables false
set_option linter.unusedSimpArgs false
theorem cutId_mk (d r : List Int) : cutId ((d.length : Int) :: (d ++ r)) = some (d, r) := by
  unfold cutId
  have h0 : (((d.length : Int) :: (d ++ r)).getD 0 0).toNat = d.length := by simp
  rw [h0, if_pos ⟨by simp, by simp; omega⟩]
  congr 1
  rw [Nat.add_comm 1]
  simp [List.take_append_of_le_length]
theorem word_four (v : Int) (h0 : 0 ≤ v) (h1 : v ≤ 4294967295) : word (four v) = v := by
  simp only [word, four, List.getD_cons_zero, List.getD_cons_succ]
  omega
/-- A datagram that begins as a packet does. -/
theorem split_begins (first v : Int) (d s r : List Int) (hf : 128 ≤ first) (h0 : 0 ≤ v) (h1 : v ≤ 4294967295) : split (begins first v d s ++ r) = some (v, d, s, r) := by
  have e1 : begins first v d s ++ r = first :: (four v ++ ((d.length : Int) :: (d ++ ((s.length : Int) :: (s ++ r))))) := by simp [begins]
  have e2 : (begins first v d s ++ r).drop 5 = (d.length : Int) :: (d ++ ((s.length : Int) :: (s ++ r))) := by rw [e1]; simp [four]
  have e3 : ((begins first v d s ++ r).take 5).drop 1 = four v := by rw [e1]; simp [four]
  unfold split
  rw [if_pos ⟨by rw [e1]; simp [four], by rw [e1]; simpa using hf⟩, e2, cutId_mk]
  simp only []
  rw [cutId_mk, e3, word_four v h0 h1]
theorem wpAt_fours : ∀ (vs : List Int), (∀ x ∈ vs, 0 ≤ x ∧ x ≤ 4294967295) → ∀ i, i < vs.length → wpAt (fours vs) (4 * i) 4 = vs.getD i 0
  | [], _, i, h => by cases h
  | v :: r, hv, 0, _ => by
    have := hv v (by simp)
    simp only [fours, four, wpAt, List.cons_append, List.getD_cons_zero, List.getD_cons_succ, Nat.mul_zero, Nat.zero_add]
    omega
  | v :: r, hv, i + 1, h => by
    have ih := wpAt_fours r (fun x hx => hv x (by simp [hx])) i (by simpa using h)
    have e : (fours (v :: r)).drop 4 = fours r := by simp [fours, four]
    rw [← e, wpAt_drop] at ih
    rw [show 4 * (i + 1) = 4 + 4 * i by omega, ih]
    simp
theorem wordsFrom_fours (vs : List Int) (h : ∀ x ∈ vs, 0 ≤ x ∧ x ≤ 4294967295) : wordsFrom (fours vs) 0 vs.length = vs := by
  apply List.ext_getElem
  · rw [wordsFrom_length]
  · intro i h1 h2
    have := wpAt_fours vs h i h2
    rw [List.getD_eq_getElem?_getD, List.getElem?_eq_getElem h2, Option.getD_some] at this
    simp [wordsFrom, this]
/-- What was put is taken. -/
theorem takeOf_packet (d s vs : List Int) (h0 : 1 ≤ vs.length) (h1 : vs.length ≤ 64) (hv : ∀ x ∈ vs, 0 ≤ x ∧ x ≤ 4294967295) : takeOf (packet d s vs) = some (d, s, vs) := by
  unfold takeOf packet
  rw [split_begins 192 0 d s (fours vs) (by omega) (by omega) (by omega)]
  simp only []
  rw [fours_length, if_pos (⟨trivial, by omega, by omega, by omega⟩), show 4 * vs.length / 4 = vs.length by omega, wordsFrom_fours vs hv]
end Go.Proofs.Ytgknamdcllapbaa
