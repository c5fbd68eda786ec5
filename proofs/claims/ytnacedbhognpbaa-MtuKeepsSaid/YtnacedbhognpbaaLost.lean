/- The walk of Lost. -/
import Derived.Test.YtnacedbhognpbaaMeth2
import Derived.Deep.LoopGhost
namespace Go.Proofs.Ytnacedbhognpbaa
set_option linter.unusedVariables false
open Go.RowKit
/-- A row of integers in memory, beside block B. -/
structure Row (w : World) (B b off : Nat) (l : List Int) : Prop where
  ne : b ≠ B
  lt : b < w.heap.size
  cell : ∀ i, i < l.length → w.cell? ⟨b, off + i, none⟩ = some (.int .i64 (l.getD i 0))
theorem Row.only {w w' : World} {B b off : Nat} {l : List Int} (h : Row w B b off l) (ho : Only B w w') : Row w' B b off l :=
  ⟨h.ne, Nat.lt_of_lt_of_le h.lt ho.size, fun i hi => (ho.cell (p := ⟨b, off + i, none⟩) h.lt h.ne).trans (h.cell i hi)⟩
theorem Inv.fold {s : St} (h : Inv s) (l : List Int) (hl : ∀ n ∈ l, 1 ≤ n ∧ n ≤ 65527) : Inv (l.foldl oneS s) := by
  induction l generalizing s with
  | nil => exact h
  | cons a l ih =>
    have := hl a (by simp)
    exact ih (h.one a this.1 this.2) (fun n hn => hl n (by simp [hn]))
theorem foldl_snoc (s : St) (l : List Int) (k : Nat) (hk : k < l.length) : (l.take (k + 1)).foldl oneS s = oneS ((l.take k).foldl oneS s) (l.getD k 0) := by
  rw [List.take_succ_eq_append_getElem hk, List.foldl_append]
  simp [List.getElem?_eq_getElem hk]
theorem getD_mem (l : List Int) (k : Nat) (hk : k < l.length) : l.getD k 0 ∈ l := by
  simp [List.getElem?_eq_getElem hk]

set_option maxHeartbeats 1000000 in
theorem lost_ok (w : World) (B b off cap : Nat) (s : St) (l : List Int) (h : AtS w B s) (hi : Inv s) (hr : Row w B b off l) (hok : ∀ n ∈ l, 1 ≤ n ∧ n ≤ 65527) (hlen : l.length ≤ 9223372036854775807) :
    Calls Try.prog 15 #[.pointer (some ⟨B, 0, none⟩), .slice (some ⟨b, off, none⟩) l.length cap] w fun e w' => e = .returned (.int .i64 0) ∧ AtS w' B (l.foldl oneS s) ∧ Only B w w' := by
  have HOK := Lib.hid hok
  have HR := Lib.hid hr
  have H := Lib.hid h
  clear hok hr h
  go_enter Try.func15, Try.ntmps15
  go_wp2_with (fail)
  go_loop [13] (fun i => ∃ k : Nat, k ≤ l.length ∧ i = .int .i64 k) (fun i => l.length - (intOf i).toNat)
  case atStart => exact ⟨0, Nat.zero_le _, rfl⟩
  case round =>
    obtain ⟨k, hk, rfl⟩ := hrel
    by_cases hlt : k < l.length
    · have hc := HR.out.cell k hlt
      have hb := HOK.out _ (getD_mem l k hlt)
      obtain ⟨hb0, hb1⟩ := hb
      generalize hx : l.getD k 0 = x at *
      have HX := Lib.hid hx
      clear hx
      go_wp2
      go_round
      case rel => exact ⟨k + 1, by omega, by go_num⟩
      case measure => simp [intOf]; omega
    · go_wp2_with (fail)
      go_loopw [23] (fun i wr => ∃ k : Nat, k ≤ l.length ∧ i = .int .i64 k ∧ AtS wr B ((l.take k).foldl oneS s) ∧ Only B w wr) (fun i _ => l.length - (intOf i).toNat)
      case atStart => exact ⟨0, Nat.zero_le _, rfl, H.out, Only.refl _ _⟩
      case round =>
        obtain ⟨q, hq, rfl, hat, hon⟩ := hrel
        have HAT := Lib.hid hat
        have HON := Lib.hid hon
        clear hat hon
        by_cases hlt2 : q < l.length
        · have hc := (HR.out.only HON.out).cell q hlt2
          have hb := HOK.out _ (getD_mem l q hlt2)
          obtain ⟨hb0, hb1⟩ := hb
          have hi2 := hi.fold (l.take q) (fun n hn => HOK.out n (List.mem_of_mem_take hn))
          have hs := foldl_snoc s l q hlt2
          generalize hx : l.getD q 0 = x at *
          generalize hf : (l.take q).foldl oneS s = s1 at *
          have HX := Lib.hid hx
          have HF := Lib.hid hf
          have HS := Lib.hid hs
          clear hx hf hs
          go_wp2_with (fail)
          refine (one_c wr B s1 x HAT.out hi2 hb0 hb1).mono ?_
          rintro e w1 ⟨rfl, hat1, hon1⟩
          have HAT1 := Lib.hid hat1
          have HON1 := Lib.hid (HON.out.trans hon1)
          clear hat1 hon1
          go_wp2_with (fail)
          go_roundw
          case rel => exact ⟨q + 1, by omega, by go_num, by rw [HS.out]; exact HAT1.out, HON1.out⟩
          case measure => simp [intOf]; omega
        · have e : q = l.length := by omega
          go_wp2_with (fail)
          go_ret
          refine ⟨rfl, ?_, HON.out⟩
          have := HAT.out
          rw [e, List.take_length] at this
          exact this

set_option maxHeartbeats 1000000 in
theorem lost_bad (w : World) (B b off cap j : Nat) (l : List Int) (hr : Row w B b off l) (hj : j < l.length) (hok : ∀ i, i < j → 1 ≤ l.getD i 0 ∧ l.getD i 0 ≤ 65527) (hbad : l.getD j 0 < 1 ∨ 65527 < l.getD j 0) (hlen : l.length ≤ 9223372036854775807) :
    Calls Try.prog 15 #[.pointer (some ⟨B, 0, none⟩), .slice (some ⟨b, off, none⟩) l.length cap] w fun e w' => e = .returned (.int .i64 2) ∧ w = w' := by
  have HOK := Lib.hid hok
  have HR := Lib.hid hr
  have HB := Lib.hid hbad
  clear hok hr hbad
  go_enter Try.func15, Try.ntmps15
  go_wp2_with (fail)
  go_loop [13] (fun i => ∃ k : Nat, k ≤ j ∧ i = .int .i64 k) (fun i => l.length - (intOf i).toNat)
  case atStart => exact ⟨0, Nat.zero_le _, rfl⟩
  case round =>
    obtain ⟨k, hk, rfl⟩ := hrel
    have hlt : k < l.length := by omega
    have hc := HR.out.cell k hlt
    by_cases hkj : k < j
    · have hb := HOK.out k hkj
      obtain ⟨hb0, hb1⟩ := hb
      generalize hx : l.getD k 0 = x at *
      have HX := Lib.hid hx
      clear hx
      go_wp2
      go_round
      case rel => exact ⟨k + 1, by omega, by go_num⟩
      case measure => simp [intOf]; omega
    · have e : k = j := by omega
      have hb := HB.out
      rw [← e] at hb
      have E := Lib.hid e
      clear e
      generalize hx : l.getD k 0 = x at *
      have HX := Lib.hid hx
      clear hx
      by_cases h1 : x < 1
      · go_wp2
        go_ret
        exact ⟨rfl, rfl⟩
      · have hd : decide (x ≤ 65527) = false := by simp; omega
        go_wp2
        go_ret
        exact ⟨rfl, rfl⟩

set_option maxHeartbeats 1000000 in
theorem lost_empty (w : World) (B cap : Nat) (a : Option Addr) :
    Calls Try.prog 15 #[.pointer (some ⟨B, 0, none⟩), .slice a 0 cap] w fun e w' => e = .returned (.int .i64 0) ∧ w = w' := by
  go_enter Try.func15, Try.ntmps15
  go_wp2_with (fail)
  go_loop [13] (fun i => i = .int .i64 0) (fun i => 0)
  case atStart => rfl
  case round =>
    subst hrel
    go_wp2_with (fail)
    go_loop [23] (fun i => i = .int .i64 0) (fun i => 0)
    case atStart => rfl
    case round =>
      subst hrel
      go_wp2_with (fail)
      go_ret
      exact ⟨rfl, rfl⟩

set_option maxHeartbeats 400000 in
theorem lost_nil (w : World) (v : Value) :
    Calls Try.prog 15 #[.pointer none, v] w fun e w' => e = .returned (.int .i64 1) ∧ w = w' := by
  go_enter Try.func15, Try.ntmps15
  go_wp2_with (fail)
  go_ret
  exact ⟨rfl, rfl⟩

/-- What is lost: nothing, where a size is out of its bounds. -/
def okL (l : List Int) : Bool := l.all fun n => decide (1 ≤ n) && decide (n ≤ 65527)
def lostS (s : St) (l : List Int) : St := if okL l = true then l.foldl oneS s else s
theorem okL_yes {l : List Int} (h : okL l = true) : ∀ n ∈ l, 1 ≤ n ∧ n ≤ 65527 := by
  intro n hn
  have := List.all_eq_true.1 h n hn
  simpa using this
theorem okL_no {l : List Int} (h : ¬ okL l = true) : ∃ j, j < l.length ∧ (∀ i, i < j → 1 ≤ l.getD i 0 ∧ l.getD i 0 ≤ 65527) ∧ (l.getD j 0 < 1 ∨ 65527 < l.getD j 0) := by
  induction l with
  | nil => exact absurd rfl h
  | cons a l ih =>
    by_cases ha : 1 ≤ a ∧ a ≤ 65527
    · have h' : ¬ okL l = true := by
        intro h'
        apply h
        unfold okL at h' ⊢
        simp only [List.all_cons, Bool.and_eq_true]
        exact ⟨by simpa using ha, h'⟩
      obtain ⟨j, hj, h1, h2⟩ := ih h'
      refine ⟨j + 1, by simpa using hj, ?_, by simpa using h2⟩
      intro i hi
      cases i with
      | zero => simpa using ha
      | succ i => simpa using h1 i (by omega)
    · refine ⟨0, by simp, fun i hi => by omega, ?_⟩
      simp only [List.getD_cons_zero]
      omega
theorem lost_c (w : World) (B b off cap : Nat) (s : St) (l : List Int) (h : AtS w B s) (hi : Inv s) (hr : Row w B b off l) (hlen : l.length ≤ 9223372036854775807) :
    Calls Try.prog 15 #[.pointer (some ⟨B, 0, none⟩), .slice (some ⟨b, off, none⟩) l.length cap] w fun e w' => e = .returned (.int .i64 (if okL l = true then 0 else 2)) ∧ AtS w' B (lostS s l) ∧ Only B w w' := by
  unfold lostS
  by_cases c : okL l = true
  · rw [if_pos c, if_pos c]
    exact lost_ok w B b off cap s l h hi hr (okL_yes c) hlen
  · rw [if_neg c, if_neg c]
    obtain ⟨j, h1, h2, h3⟩ := okL_no c
    refine (lost_bad w B b off cap j l hr h1 h2 h3 hlen).mono ?_
    rintro e w' ⟨rfl, rfl⟩
    exact ⟨rfl, h, Only.refl _ _⟩
theorem Inv.lost {s : St} (h : Inv s) (l : List Int) : Inv (lostS s l) := by
  unfold lostS
  split
  · rename_i c; exact h.fold l (okL_yes c)
  · exact h
end Go.Proofs.Ytnacedbhognpbaa
