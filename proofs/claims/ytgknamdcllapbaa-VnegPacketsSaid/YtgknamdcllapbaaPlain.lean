/- Versions: which are reserved, which is chosen; a packet's bytes: numbers alone. -/
import Derived.Lib.Hide
namespace Go.Proofs.Ytgknamdcllapbaa
set_option linter.unusedVariables false
/-- Is a version reserved? -/
def res (v : Int) : Bool := decide (v % 16 = 10 ∧ v / 256 % 16 = 10 ∧ v / 65536 % 16 = 10 ∧ v / 16777216 % 16 = 10)
theorem land_byte (n m i : Nat) (k : Nat) (hm : m / 2 ^ i % 2 ^ 8 = 15) : (n &&& m) / 2 ^ i % 2 ^ 8 = n / 2 ^ i % 16 := by
  rw [Nat.and_div_two_pow, Nat.and_mod_two_pow, hm]
  have : n / 2 ^ i % 2 ^ 8 &&& 15 = n / 2 ^ i % 2 ^ 8 % 2 ^ 4 := Nat.and_two_pow_sub_one_eq_mod _ 4
  rw [this]
  have : (16 : Nat) = 2 ^ 4 := rfl
  omega
theorem four_split (x : Nat) (h : x < 4294967296) : x = x % 256 + 256 * (x / 256 % 256) + 65536 * (x / 65536 % 256) + 16777216 * (x / 16777216 % 256) := by
  have h1 := Nat.mod_add_div x 256
  have h2 := Nat.mod_add_div (x / 256) 256
  have h3 := Nat.mod_add_div (x / 65536) 256
  have e1 : x / 256 / 256 = x / 65536 := by rw [Nat.div_div_eq_div_mul]
  have e2 : x / 65536 / 256 = x / 16777216 := by rw [Nat.div_div_eq_div_mul]
  have h4 : x / 16777216 < 256 := by rw [Nat.div_lt_iff_lt_mul (by decide)]; exact h
  rw [e1] at h2
  rw [e2] at h3
  rw [Nat.mod_eq_of_lt h4]
  clear e1 e2
  generalize x % 256 = a at *
  generalize x / 256 % 256 = b at *
  generalize x / 65536 % 256 = c at *
  omega
theorem nat_res (n : Nat) (h : n < 4294967296) : (n &&& 252645135 = 168430090) ↔ (n % 16 = 10 ∧ n / 256 % 16 = 10 ∧ n / 65536 % 16 = 10 ∧ n / 16777216 % 16 = 10) := by
  have h0 := land_byte n 252645135 0 0 rfl
  have h1 := land_byte n 252645135 8 0 rfl
  have h2 := land_byte n 252645135 16 0 rfl
  have h3 := land_byte n 252645135 24 0 rfl
  have hle : n &&& 252645135 ≤ 252645135 := Nat.and_le_right
  have hs := four_split (n &&& 252645135) (by omega)
  simp only [Nat.pow_zero, Nat.div_one, show (2 : Nat) ^ 8 = 256 from rfl, show (2 : Nat) ^ 16 = 65536 from rfl, show (2 : Nat) ^ 24 = 16777216 from rfl] at h0 h1 h2 h3
  rw [h0, h1, h2, h3] at hs
  have b0 := Nat.mod_lt n (show 0 < 16 by decide)
  have b1 := Nat.mod_lt (n / 256) (show 0 < 16 by decide)
  have b2 := Nat.mod_lt (n / 65536) (show 0 < 16 by decide)
  have b3 := Nat.mod_lt (n / 16777216) (show 0 < 16 by decide)
  clear h0 h1 h2 h3 hle
  generalize n &&& 252645135 = x at *
  generalize n % 16 = a at *
  generalize n / 256 % 16 = b at *
  generalize n / 65536 % 16 = c at *
  generalize n / 16777216 % 16 = d at *
  omega
theorem nat_grease (n : Nat) (i : Nat) (hi : i = 0 ∨ i = 8 ∨ i = 16 ∨ i = 24) : ((n &&& 4042322160) ||| 168430090) / 2 ^ i % 16 = 10 := by
  rw [Nat.or_div_two_pow, show (16 : Nat) = 2 ^ 4 from rfl, Nat.or_mod_two_pow, Nat.and_div_two_pow, Nat.and_mod_two_pow]
  rcases hi with rfl | rfl | rfl | rfl <;> simp
/-- The first of mine that is neither 0 nor reserved, and among theirs. -/
def pick (theirs : List Int) : List Int → Int × Bool
  | [] => (0, false)
  | v :: r => if v ≠ 0 ∧ res v = false ∧ v ∈ theirs then (v, true) else pick theirs r
theorem pick_drop (theirs mine : List Int) (k : Nat) (h : k < mine.length) : pick theirs (mine.drop k) = if mine.getD k 0 ≠ 0 ∧ res (mine.getD k 0) = false ∧ mine.getD k 0 ∈ theirs then (mine.getD k 0, true) else pick theirs (mine.drop (k + 1)) := by
  rw [List.drop_eq_getElem_cons h]
  simp only [pick, List.getD_eq_getElem?_getD, List.getElem?_eq_getElem h, Option.getD_some]
/-- A version's four bytes. -/
def four (v : Int) : List Int := [v / 16777216 % 256, v / 65536 % 256, v / 256 % 256, v % 256]
theorem four_byte (v : Int) : ∀ x ∈ four v, 0 ≤ x ∧ x ≤ 255 := by
  intro x hx
  simp only [four, List.mem_cons, List.not_mem_nil, or_false] at hx
  omega
/-- Versions' bytes. -/
def fours : List Int → List Int
  | [] => []
  | v :: r => four v ++ fours r
theorem fours_byte : ∀ (l : List Int), ∀ x ∈ fours l, 0 ≤ x ∧ x ≤ 255
  | [], x, hx => by cases hx
  | v :: r, x, hx => by
    rcases List.mem_append.1 hx with h | h
    · exact four_byte v x h
    · exact fours_byte r x h
theorem fours_length : ∀ (l : List Int), (fours l).length = 4 * l.length
  | [] => rfl
  | v :: r => by simp only [fours, List.length_append, fours_length r, List.length_cons]; simp [four]; omega
theorem fours_snoc : ∀ (l : List Int) (v : Int), fours (l ++ [v]) = fours l ++ four v
  | [], v => by simp [fours]
  | u :: r, v => by simp only [List.cons_append, fours, fours_snoc r v, List.append_assoc]
theorem fours_take (l : List Int) (k : Nat) (h : k < l.length) : fours (l.take (k + 1)) = fours (l.take k) ++ four (l.getD k 0) := by
  rw [List.take_succ_eq_append_getElem h, fours_snoc]
  simp only [List.getD_eq_getElem?_getD, List.getElem?_eq_getElem h, Option.getD_some]
/-- How a long packet begins. -/
def begins (first v : Int) (dst src : List Int) : List Int := first :: four v ++ [(dst.length : Int)] ++ dst ++ [(src.length : Int)] ++ src
/-- A packet's bytes. -/
def packet (dst src vs : List Int) : List Int := begins 192 0 dst src ++ fours vs
theorem begins_length (first v : Int) (dst src : List Int) : (begins first v dst src).length = 7 + dst.length + src.length := by
  simp [begins, four]; omega
theorem packet_length (dst src vs : List Int) : (packet dst src vs).length = 7 + dst.length + src.length + 4 * vs.length := by
  unfold packet
  rw [List.length_append, begins_length, fours_length]
theorem begins_byte {first v : Int} {dst src : List Int} (h0 : 0 ≤ first) (h1 : first ≤ 255) (hd : ∀ x ∈ dst, 0 ≤ x ∧ x ≤ 255) (hs : ∀ x ∈ src, 0 ≤ x ∧ x ≤ 255) (h2 : dst.length ≤ 255) (h3 : src.length ≤ 255) : ∀ x ∈ begins first v dst src, 0 ≤ x ∧ x ≤ 255 := by
  intro x hx
  unfold begins at hx
  simp only [List.mem_append, List.mem_cons, List.cons_append, List.not_mem_nil, or_false] at hx
  have := four_byte v x
  rcases hx with rfl | (((h | h) | h) | h) | h
  · exact ⟨h0, h1⟩
  · exact this h
  · subst h; omega
  · exact hd x h
  · subst h; omega
  · exact hs x h
end Go.Proofs.Ytgknamdcllapbaa
