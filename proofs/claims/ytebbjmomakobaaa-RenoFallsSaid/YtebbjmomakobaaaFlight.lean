/- The walks of Sent, Gone: what is on its way, over a row of sizes. -/
import Derived.Test.YtebbjmomakobaaaMeth
namespace Go.Proofs.Ytebbjmomakobaaa
set_option linter.unusedVariables false
set_option linter.unusedSimpArgs false
open Go.RowKit
attribute [local go_sem] max2_int min2_int max_two min_two min_three
/-- A row of sizes in memory, beside block B. -/
structure Row (w : World) (B b off : Nat) (l : List Int) : Prop where
  ne : b ≠ B
  lt : b < w.heap.size
  cell : ∀ i, i < l.length → w.cell? ⟨b, off + i, none⟩ = some (.int .u64 (l.getD i 0))
  lo : ∀ i, i < l.length → 0 ≤ l.getD i 0
  hi : ∀ i, i < l.length → l.getD i 0 ≤ 18446744073709551615
theorem Row.only {w w' : World} {B b off : Nat} {l : List Int} (h : Row w B b off l) (ho : Only B w w') : Row w' B b off l :=
  ⟨h.ne, Nat.lt_of_lt_of_le h.lt ho.size, fun i hi => (ho.cell (p := ⟨b, off + i, none⟩) h.lt h.ne).trans (h.cell i hi), h.lo, h.hi⟩
def cap40 (n : Int) : Int := if 1099511627776 < n then 1099511627776 else n
def sentF (fl n : Int) : Int := if 4611686018427387904 < fl + cap40 n then 4611686018427387904 else fl + cap40 n
def goneF (fl n : Int) : Int := fl - (if 1099511627776 < (if n < fl then n else fl) then 1099511627776 else (if n < fl then n else fl))
theorem sentF_range (fl n : Int) (h0 : 0 ≤ fl) (h1 : fl ≤ 4611686018427387904) (h2 : 0 ≤ n) : 0 ≤ sentF fl n ∧ sentF fl n ≤ 4611686018427387904 := by
  unfold sentF cap40
  (repeat' split) <;> omega
theorem goneF_range (fl n : Int) (h0 : 0 ≤ fl) (h1 : fl ≤ 4611686018427387904) (h2 : 0 ≤ n) : 0 ≤ goneF fl n ∧ goneF fl n ≤ 4611686018427387904 := by
  unfold goneF
  (repeat' split) <;> omega
theorem fold_range (f : Int → Int → Int) (hf : ∀ fl n, 0 ≤ fl → fl ≤ 4611686018427387904 → 0 ≤ n → 0 ≤ f fl n ∧ f fl n ≤ 4611686018427387904) (l : List Int) : ∀ fl, 0 ≤ fl → fl ≤ 4611686018427387904 → (∀ n ∈ l, 0 ≤ n) → 0 ≤ l.foldl f fl ∧ l.foldl f fl ≤ 4611686018427387904 := by
  induction l with
  | nil => intro fl h0 h1 _; exact ⟨h0, h1⟩
  | cons a l ih =>
    intro fl h0 h1 h
    have := hf fl a h0 h1 (h a (by simp))
    exact ih _ this.1 this.2 (fun n hn => h n (by simp [hn]))
theorem foldl_snoc (f : Int → Int → Int) (s : Int) (l : List Int) (k : Nat) (hk : k < l.length) : (l.take (k + 1)).foldl f s = f ((l.take k).foldl f s) (l.getD k 0) := by
  rw [List.take_succ_eq_append_getElem hk, List.foldl_append]
  simp [List.getElem?_eq_getElem hk]
theorem Row.nonneg {w : World} {B b off : Nat} {l : List Int} (h : Row w B b off l) : ∀ n ∈ l, 0 ≤ n := by
  intro n hn
  obtain ⟨i, hi, rfl⟩ := List.getElem_of_mem hn
  have := h.lo i hi
  simpa [List.getD_eq_getElem?_getD, List.getElem?_eq_getElem hi] using this

set_option maxHeartbeats 4000000 in
theorem sent_row (w : World) (B b off cap : Nat) (wi th fl si : Int) (rc : Bool) (ac : Int) (l : List Int) (hat0 : At w B wi th fl si rc ac) (g0 : 0 ≤ fl) (g1 : fl ≤ 4611686018427387904) (hr : Row w B b off l) (hlen : l.length ≤ 9223372036854775807) :
    Calls Try.prog 7 #[.pointer (some ⟨B, 0, none⟩), .slice (some ⟨b, off, none⟩) l.length cap] w fun e w' => e = .returned (.tuple #[]) ∧ At w' B wi th (l.foldl sentF fl) si rc ac ∧ Only B w w' := by
  have HR := Lib.hid hr
  have H := Lib.hid hat0
  clear hr hat0
  go_enter Try.func7, Try.ntmps7
  go_wp2_with (fail)
  go_loopw [8] (fun i wr => ∃ k : Nat, k ≤ l.length ∧ i = .int .i64 k ∧ At wr B wi th ((l.take k).foldl sentF fl) si rc ac ∧ Only B w wr) (fun i _ => l.length - (intOf i).toNat)
  case atStart => exact ⟨0, Nat.zero_le _, rfl, H.out, Only.refl _ _⟩
  case round =>
    obtain ⟨k, hk, rfl, hat, hon⟩ := hrel
    have c2 := hat.c2
    have f2 := hat.f2
    have HAT := Lib.hid hat
    have HON := Lib.hid hon
    by_cases hlt : k < l.length
    · have hc := (HR.out.only hon).cell k hlt
      have hl0 := HR.out.lo k hlt
      have hl1 := HR.out.hi k hlt
      have hfr := fold_range sentF sentF_range (l.take k) fl g0 g1 (fun n hn => HR.out.nonneg n (List.mem_of_mem_take hn))
      have hs := foldl_snoc sentF fl l k hlt
      clear hat hon
      generalize hx : l.getD k 0 = x at *
      generalize hf : (l.take k).foldl sentF fl = q at *
      have HX := Lib.hid hx
      have HF := Lib.hid hf
      obtain ⟨hq0, hq1⟩ := hfr
      have HS := Lib.hid hs
      clear hx hf hs
      by_cases a : 1099511627776 < x
      · by_cases d : 4611686018427387904 < q + 1099511627776
        · have HS1 : (l.take (k + 1)).foldl sentF fl = 4611686018427387904 := by rw [HS.out]; unfold sentF cap40; rw [if_pos a, if_pos d]
          have HS2 := Lib.hid HS1
          clear HS1
          go_wp2_with (fail)
          go_roundw
          case rel => exact ⟨k + 1, by omega, by go_num, by rw [HS2.out]; exact (by repeat (first | (with_reducible exact HAT.out) | with_reducible apply At.s0 | with_reducible apply At.s1 | with_reducible apply At.s2 | with_reducible apply At.s3 | with_reducible apply At.s4 | with_reducible apply At.s5 | with_reducible apply At.drewN | with_reducible apply At.drew)), (by repeat (first | with_reducible exact HON.out | with_reducible refine Only.set ?_ _ _ | with_reducible refine Only.drewN ?_ _ | with_reducible refine Only.drew ?_))⟩
          case measure => simp [intOf]; omega
        · have HS1 : (l.take (k + 1)).foldl sentF fl = q + 1099511627776 := by rw [HS.out]; unfold sentF cap40; rw [if_pos a, if_neg d]
          have HS2 := Lib.hid HS1
          clear HS1
          go_wp2_with (fail)
          go_roundw
          case rel => exact ⟨k + 1, by omega, by go_num, by rw [HS2.out]; exact (by repeat (first | (with_reducible exact HAT.out) | with_reducible apply At.s0 | with_reducible apply At.s1 | with_reducible apply At.s2 | with_reducible apply At.s3 | with_reducible apply At.s4 | with_reducible apply At.s5 | with_reducible apply At.drewN | with_reducible apply At.drew)), (by repeat (first | with_reducible exact HON.out | with_reducible refine Only.set ?_ _ _ | with_reducible refine Only.drewN ?_ _ | with_reducible refine Only.drew ?_))⟩
          case measure => simp [intOf]; omega
      · by_cases d : 4611686018427387904 < q + x
        · have HS1 : (l.take (k + 1)).foldl sentF fl = 4611686018427387904 := by rw [HS.out]; unfold sentF cap40; rw [if_neg a, if_pos d]
          have HS2 := Lib.hid HS1
          clear HS1
          go_wp2_with (fail)
          go_roundw
          case rel => exact ⟨k + 1, by omega, by go_num, by rw [HS2.out]; exact (by repeat (first | (with_reducible exact HAT.out) | with_reducible apply At.s0 | with_reducible apply At.s1 | with_reducible apply At.s2 | with_reducible apply At.s3 | with_reducible apply At.s4 | with_reducible apply At.s5 | with_reducible apply At.drewN | with_reducible apply At.drew)), (by repeat (first | with_reducible exact HON.out | with_reducible refine Only.set ?_ _ _ | with_reducible refine Only.drewN ?_ _ | with_reducible refine Only.drew ?_))⟩
          case measure => simp [intOf]; omega
        · have HS1 : (l.take (k + 1)).foldl sentF fl = q + x := by rw [HS.out]; unfold sentF cap40; rw [if_neg a, if_neg d]
          have HS2 := Lib.hid HS1
          clear HS1
          go_wp2_with (fail)
          go_roundw
          case rel => exact ⟨k + 1, by omega, by go_num, by rw [HS2.out]; exact (by repeat (first | (with_reducible exact HAT.out) | with_reducible apply At.s0 | with_reducible apply At.s1 | with_reducible apply At.s2 | with_reducible apply At.s3 | with_reducible apply At.s4 | with_reducible apply At.s5 | with_reducible apply At.drewN | with_reducible apply At.drew)), (by repeat (first | with_reducible exact HON.out | with_reducible refine Only.set ?_ _ _ | with_reducible refine Only.drewN ?_ _ | with_reducible refine Only.drew ?_))⟩
          case measure => simp [intOf]; omega
    · have e : k = l.length := by omega
      clear hat hon
      go_wp2_with (fail)
      first | go_end0 | ((try simp only [Exit.inBlock, Exit.then]); refine bodyPost_ret (results_none rfl _ _ _) rfl ?_)
      refine ⟨rfl, ?_, HON.out⟩
      have := HAT.out
      rw [e, List.take_length] at this
      exact this

set_option maxHeartbeats 400000 in
theorem sent_empty (w : World) (B cap : Nat) (a : Option Addr) :
    Calls Try.prog 7 #[.pointer (some ⟨B, 0, none⟩), .slice a 0 cap] w fun e w' => e = .returned (.tuple #[]) ∧ w = w' := by
  go_enter Try.func7, Try.ntmps7
  go_wp2_with (fail)
  go_loop [8] (fun i => i = .int .i64 0) (fun i => 0)
  case atStart => rfl
  case round =>
    subst hrel
    go_wp2_with (fail)
    first | go_end0 | ((try simp only [Exit.inBlock, Exit.then]); refine bodyPost_ret (results_none rfl _ _ _) rfl ?_)
    exact ⟨rfl, rfl⟩

set_option maxHeartbeats 4000000 in
theorem gone_row (w : World) (B b off cap : Nat) (wi th fl si : Int) (rc : Bool) (ac : Int) (l : List Int) (hat0 : At w B wi th fl si rc ac) (g0 : 0 ≤ fl) (g1 : fl ≤ 4611686018427387904) (hr : Row w B b off l) (hlen : l.length ≤ 9223372036854775807) :
    Calls Try.prog 8 #[.pointer (some ⟨B, 0, none⟩), .slice (some ⟨b, off, none⟩) l.length cap] w fun e w' => e = .returned (.tuple #[]) ∧ At w' B wi th (l.foldl goneF fl) si rc ac ∧ Only B w w' := by
  have HR := Lib.hid hr
  have H := Lib.hid hat0
  clear hr hat0
  go_enter Try.func8, Try.ntmps8
  go_wp2_with (fail)
  go_loopw [8] (fun i wr => ∃ k : Nat, k ≤ l.length ∧ i = .int .i64 k ∧ At wr B wi th ((l.take k).foldl goneF fl) si rc ac ∧ Only B w wr) (fun i _ => l.length - (intOf i).toNat)
  case atStart => exact ⟨0, Nat.zero_le _, rfl, H.out, Only.refl _ _⟩
  case round =>
    obtain ⟨k, hk, rfl, hat, hon⟩ := hrel
    have c2 := hat.c2
    have f2 := hat.f2
    have HAT := Lib.hid hat
    have HON := Lib.hid hon
    by_cases hlt : k < l.length
    · have hc := (HR.out.only hon).cell k hlt
      have hl0 := HR.out.lo k hlt
      have hl1 := HR.out.hi k hlt
      have hfr := fold_range goneF goneF_range (l.take k) fl g0 g1 (fun n hn => HR.out.nonneg n (List.mem_of_mem_take hn))
      have hs := foldl_snoc goneF fl l k hlt
      clear hat hon
      generalize hx : l.getD k 0 = x at *
      generalize hf : (l.take k).foldl goneF fl = q at *
      have HX := Lib.hid hx
      have HF := Lib.hid hf
      obtain ⟨hq0, hq1⟩ := hfr
      have HS := Lib.hid hs
      clear hx hf hs
      by_cases a : x < q
      · by_cases d : 1099511627776 < x
        · have HS1 : (l.take (k + 1)).foldl goneF fl = q - 1099511627776 := by rw [HS.out]; unfold goneF; rw [if_pos a, if_pos d]
          have HS2 := Lib.hid HS1
          clear HS1
          go_wp2_with (fail)
          go_region
          go_wp2_with (fail)
          go_roundw
          case rel => exact ⟨k + 1, by omega, by go_num, by rw [HS2.out]; exact (by repeat (first | (with_reducible exact HAT.out) | with_reducible apply At.s0 | with_reducible apply At.s1 | with_reducible apply At.s2 | with_reducible apply At.s3 | with_reducible apply At.s4 | with_reducible apply At.s5 | with_reducible apply At.drewN | with_reducible apply At.drew)), (by repeat (first | with_reducible exact HON.out | with_reducible refine Only.set ?_ _ _ | with_reducible refine Only.drewN ?_ _ | with_reducible refine Only.drew ?_))⟩
          case measure => simp [intOf]; omega
        · have HS1 : (l.take (k + 1)).foldl goneF fl = q - x := by rw [HS.out]; unfold goneF; rw [if_pos a, if_neg d]
          have HS2 := Lib.hid HS1
          clear HS1
          go_wp2_with (fail)
          go_region
          go_wp2_with (fail)
          go_roundw
          case rel => exact ⟨k + 1, by omega, by go_num, by rw [HS2.out]; exact (by repeat (first | (with_reducible exact HAT.out) | with_reducible apply At.s0 | with_reducible apply At.s1 | with_reducible apply At.s2 | with_reducible apply At.s3 | with_reducible apply At.s4 | with_reducible apply At.s5 | with_reducible apply At.drewN | with_reducible apply At.drew)), (by repeat (first | with_reducible exact HON.out | with_reducible refine Only.set ?_ _ _ | with_reducible refine Only.drewN ?_ _ | with_reducible refine Only.drew ?_))⟩
          case measure => simp [intOf]; omega
      · by_cases d : 1099511627776 < q
        · have HS1 : (l.take (k + 1)).foldl goneF fl = q - 1099511627776 := by rw [HS.out]; unfold goneF; rw [if_neg a, if_pos d]
          have HS2 := Lib.hid HS1
          clear HS1
          go_wp2_with (fail)
          go_region
          go_wp2_with (fail)
          go_roundw
          case rel => exact ⟨k + 1, by omega, by go_num, by rw [HS2.out]; exact (by repeat (first | (with_reducible exact HAT.out) | with_reducible apply At.s0 | with_reducible apply At.s1 | with_reducible apply At.s2 | with_reducible apply At.s3 | with_reducible apply At.s4 | with_reducible apply At.s5 | with_reducible apply At.drewN | with_reducible apply At.drew)), (by repeat (first | with_reducible exact HON.out | with_reducible refine Only.set ?_ _ _ | with_reducible refine Only.drewN ?_ _ | with_reducible refine Only.drew ?_))⟩
          case measure => simp [intOf]; omega
        · have HS1 : (l.take (k + 1)).foldl goneF fl = 0 := by rw [HS.out]; unfold goneF; rw [if_neg a, if_neg d]; omega
          have HS2 := Lib.hid HS1
          clear HS1
          go_wp2_with (fail)
          go_region
          go_wp2_with (fail)
          go_roundw
          case rel => exact ⟨k + 1, by omega, by go_num, by rw [HS2.out]; exact (by repeat (first | (with_reducible exact HAT.out) | with_reducible apply At.s0 | with_reducible apply At.s1 | with_reducible apply At.s2 | with_reducible apply At.s3 | with_reducible apply At.s4 | with_reducible apply At.s5 | with_reducible apply At.drewN | with_reducible apply At.drew)), (by repeat (first | with_reducible exact HON.out | with_reducible refine Only.set ?_ _ _ | with_reducible refine Only.drewN ?_ _ | with_reducible refine Only.drew ?_))⟩
          case measure => simp [intOf]; omega
    · have e : k = l.length := by omega
      clear hat hon
      go_wp2_with (fail)
      first | go_end0 | ((try simp only [Exit.inBlock, Exit.then]); refine bodyPost_ret (results_none rfl _ _ _) rfl ?_)
      refine ⟨rfl, ?_, HON.out⟩
      have := HAT.out
      rw [e, List.take_length] at this
      exact this

set_option maxHeartbeats 400000 in
theorem gone_empty (w : World) (B cap : Nat) (a : Option Addr) :
    Calls Try.prog 8 #[.pointer (some ⟨B, 0, none⟩), .slice a 0 cap] w fun e w' => e = .returned (.tuple #[]) ∧ w = w' := by
  go_enter Try.func8, Try.ntmps8
  go_wp2_with (fail)
  go_loop [8] (fun i => i = .int .i64 0) (fun i => 0)
  case atStart => rfl
  case round =>
    subst hrel
    go_wp2_with (fail)
    first | go_end0 | ((try simp only [Exit.inBlock, Exit.then]); refine bodyPost_ret (results_none rfl _ _ _) rfl ?_)
    exact ⟨rfl, rfl⟩

end Go.Proofs.Ytebbjmomakobaaa
