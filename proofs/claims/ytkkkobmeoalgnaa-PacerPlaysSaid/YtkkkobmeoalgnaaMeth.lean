/- The walks of pacer's calls. -/
import Derived.Test.YtkkkobmeoalgnaaAfter
import Derived.Test.YtkkkobmeoalgnaaArgs
namespace Go.Proofs.Ytkkkobmeoalgnaa
set_option linter.unusedVariables false
set_option linter.unusedSimpArgs false
open Go.RowKit
attribute [local go_sem] max2_int min2_int max_two min_two
set_option maxHeartbeats 4000000 in
theorem new_yes (r b : Int) (w : World) (h0 : 1 ≤ r) (h1 : r ≤ 1073741824) (h2 : 1200 ≤ b) (h3 : b ≤ 1073741824) :
    Calls Try.prog 8 #[.int .u64 r, .int .u64 b] w fun e w' => ∃ B, e = .returned (.tuple #[.pointer (some ⟨B, 0, none⟩), .int .i64 0]) ∧ At w' B r b 0 (b * 1000000) ∧ w.heap.size ≤ B ∧ Below w.heap.size w w' := by
  have d0 : decide (b < 1200) = false := decide_eq_false (by omega)
  have d1 : decide (1073741824 < b) = false := decide_eq_false (by omega)
  go_enter Try.func8, Try.ntmps8
  go_wp2_with (fail)
  refine (may_yes w r h0 h1).mono ?_
  rintro e w1 ⟨rfl, b1⟩
  go_wp2_with (fail)
  go_ret2
  exact ⟨_, rfl, At.new _ _ _ _ _, b1.size, b1.alloc b1.size _⟩
set_option maxHeartbeats 4000000 in
theorem new_no (r b : Int) (w : World) (h : ¬ (1 ≤ r ∧ r ≤ 1073741824 ∧ 1200 ≤ b ∧ b ≤ 1073741824)) :
    Calls Try.prog 8 #[.int .u64 r, .int .u64 b] w fun e w' => e = .returned (.tuple #[.pointer none, .int .i64 2]) ∧ Below w.heap.size w w' := by
  by_cases c : 1 ≤ r ∧ r ≤ 1073741824
  · by_cases d : b < 1200
    · have d0 : decide (b < 1200) = true := decide_eq_true d
      go_enter Try.func8, Try.ntmps8
      go_wp2_with (fail)
      refine (may_yes w r c.1 c.2).mono ?_
      rintro e w1 ⟨rfl, b1⟩
      go_wp2_with (fail)
      go_ret2
      exact ⟨rfl, b1⟩
    · have d0 : decide (b < 1200) = false := decide_eq_false d
      have d1 : decide (1073741824 < b) = true := decide_eq_true (by omega)
      go_enter Try.func8, Try.ntmps8
      go_wp2_with (fail)
      refine (may_yes w r c.1 c.2).mono ?_
      rintro e w1 ⟨rfl, b1⟩
      go_wp2_with (fail)
      go_ret2
      exact ⟨rfl, b1⟩
  · go_enter Try.func8, Try.ntmps8
    go_wp2_with (fail)
    refine (may_no w r c).mono ?_
    rintro e w1 ⟨rfl, b1⟩
    go_wp2_with (fail)
    go_ret2
    exact ⟨rfl, b1⟩
section
variable (w : World) (B : Nat) (r b t l now : Int)
theorem div_mega {L : Int} (h : 0 ≤ L) (h2 : L < 18446744073709551616) : IntKind.u64.wrap (L.tdiv 1000000) = L / 1000000 := by
  rw [Int.tdiv_eq_ediv_of_nonneg h, IntKind.wrap_u64]; omega
set_option maxHeartbeats 4000000 in
theorem level_c (h : At w B r b t l) (o : Ok r b t l) (n1 : 0 ≤ now) (n2 : now < 18446744073709551616) :
    Calls Try.prog 10 #[.pointer (some ⟨B, 0, none⟩), .int .u64 now] w fun e w' => e = .returned (.int .u64 (lv r b t l now / 1000000)) ∧ Below w.heap.size w w' := by
  have hl := lv_ok now o
  have ob := o.b2
  have ac := after_c w B r b t l now h o n1 n2
  generalize lv r b t l now = L at hl ac ⊢
  generalize tm t now = T at ac
  have e1 := div_mega hl.1 (by omega)
  go_enter Try.func10, Try.ntmps10
  go_wp2_with (fail)
  refine ac.mono ?_
  rintro e w1 ⟨rfl, b1⟩
  go_wp2_with (fail)
  go_ret
  exact ⟨rfl, b1.alloc b1.size _⟩
set_option maxHeartbeats 4000000 in
theorem may_c (n : Int) (h : At w B r b t l) (o : Ok r b t l) (n1 : 0 ≤ now) (n2 : now < 18446744073709551616) :
    Calls Try.prog 14 #[.pointer (some ⟨B, 0, none⟩), .int .u64 now, .int .u64 n] w fun e w' => e = .returned (.bool (decide (n ≤ lv r b t l now / 1000000))) ∧ Below w.heap.size w w' := by
  have ac := level_c w B r b t l now h o n1 n2
  generalize lv r b t l now / 1000000 = L at ac ⊢
  go_enter Try.func14, Try.ntmps14
  go_wp2_with (fail)
  refine ac.mono ?_
  rintro e w1 ⟨rfl, b1⟩
  go_wp2_with (fail)
  go_ret
  exact ⟨rfl, b1⟩
set_option maxHeartbeats 4000000 in
theorem may_nil (n : Int) :
    Calls Try.prog 14 #[.pointer none, .int .u64 now, .int .u64 n] w fun e w' => e = .returned (.bool false) ∧ Below w.heap.size w w' := by
  go_enter Try.func14, Try.ntmps14
  go_wp2_with (fail)
  go_ret
  exact ⟨rfl, Below.refl _ _⟩
set_option maxHeartbeats 4000000 in
theorem next_nil (n : Int) :
    Calls Try.prog 13 #[.pointer none, .int .u64 now, .int .u64 n] w fun e w' => e = .returned (.tuple #[.int .u64 0, .int .i64 1]) ∧ Below w.heap.size w w' := by
  go_enter Try.func13, Try.ntmps13
  go_wp2_with (fail)
  go_ret2
  exact ⟨rfl, Below.refl _ _⟩
set_option maxHeartbeats 4000000 in
theorem next_long (n : Int) (h : At w B r b t l) (c : b < n) :
    Calls Try.prog 13 #[.pointer (some ⟨B, 0, none⟩), .int .u64 now, .int .u64 n] w fun e w' => e = .returned (.tuple #[.int .u64 0, .int .i64 3]) ∧ Below w.heap.size w w' := by
  have c1 := h.c1
  have d : decide (b < n) = true := decide_eq_true c
  go_enter Try.func13, Try.ntmps13
  go_wp2_with (fail)
  go_ret2
  exact ⟨rfl, Below.refl _ _⟩
set_option maxHeartbeats 4000000 in
theorem next_now (n : Int) (h : At w B r b t l) (o : Ok r b t l) (n1 : 0 ≤ now) (n2 : now < 18446744073709551616) (n3 : 0 ≤ n) (c : n ≤ b) (c2 : n * 1000000 ≤ lv r b t l now) :
    Calls Try.prog 13 #[.pointer (some ⟨B, 0, none⟩), .int .u64 now, .int .u64 n] w fun e w' => e = .returned (.tuple #[.int .u64 (tm t now), .int .i64 0]) ∧ Below w.heap.size w w' := by
  have c1 := h.c1
  have ob := o.b2
  have d : decide (b < n) = false := decide_eq_false (by omega)
  have d2 : decide (n * 1000000 ≤ lv r b t l now) = true := decide_eq_true c2
  have ac := after_c w B r b t l now h o n1 n2
  clear c2
  generalize lv r b t l now = L at d2 ac ⊢
  generalize tm t now = T at ac ⊢
  go_enter Try.func13, Try.ntmps13
  go_wp2_with (fail)
  refine ac.mono ?_
  rintro e w1 ⟨rfl, b1⟩
  go_wp2_with (fail)
  go_ret2
  exact ⟨rfl, b1.alloc b1.size _⟩
theorem wait_eq {n L r : Int} (h1 : L < n * 1000000) (h2 : n ≤ 1073741824) (h3 : 0 ≤ L) (h4 : 1 ≤ r) (h5 : r ≤ 1073741824) :
    IntKind.u64.wrap ((IntKind.u64.wrap (IntKind.u64.wrap (IntKind.u64.wrap (n * 1000000 - L) + r) - 1)).tdiv r) = (n * 1000000 - L + r - 1) / r := by
  have e1 : IntKind.u64.wrap (n * 1000000 - L) = n * 1000000 - L := by rw [IntKind.wrap_u64]; omega
  have e2 : IntKind.u64.wrap (n * 1000000 - L + r) = n * 1000000 - L + r := by rw [IntKind.wrap_u64]; omega
  have e3 : IntKind.u64.wrap (n * 1000000 - L + r - 1) = n * 1000000 - L + r - 1 := by rw [IntKind.wrap_u64]; omega
  rw [e1, e2, e3, Int.tdiv_eq_ediv_of_nonneg (by omega), IntKind.wrap_u64]
  have h6 := Int.ediv_nonneg (a := n * 1000000 - L + r - 1) (b := r) (by omega) (by omega)
  have h7 := Int.ediv_le_self (a := n * 1000000 - L + r - 1) r (by omega)
  omega
set_option maxHeartbeats 4000000 in
theorem next_wait (n : Int) (h : At w B r b t l) (o : Ok r b t l) (n1 : 0 ≤ now) (n2 : now < 18446744073709551616) (n3 : 0 ≤ n) (c : n ≤ b) (c2 : lv r b t l now < n * 1000000) :
    Calls Try.prog 13 #[.pointer (some ⟨B, 0, none⟩), .int .u64 now, .int .u64 n] w fun e w' => e = .returned (.tuple #[.int .u64 (tm t now + min ((n * 1000000 - lv r b t l now + r - 1) / r) (18446744073709551615 - tm t now)), .int .i64 0]) ∧ Below w.heap.size w w' := by
  have c1 := h.c1
  have ob := o.b2
  have o1 := o.r1
  have o2 := o.r2
  have hl := lv_ok now o
  have d : decide (b < n) = false := decide_eq_false (by omega)
  have d2 : decide (n * 1000000 ≤ lv r b t l now) = false := decide_eq_false (by omega)
  have ac := after_c w B r b t l now h o n1 n2
  have oa := ok_after o n1 n2
  have T1 := oa.t1
  have T2 := oa.t2
  clear oa
  generalize lv r b t l now = L at d2 ac c2 hl ⊢
  generalize tm t now = T at ac T1 T2 ⊢
  have e1 := wait_eq c2 (by omega) hl.1 o1 o2
  have e2 := Int.ediv_nonneg (a := n * 1000000 - L + r - 1) (b := r) (by omega) (by omega)
  go_enter Try.func13, Try.ntmps13
  go_wp2_with (fail)
  refine ac.mono ?_
  rintro e w1 ⟨rfl, b1⟩
  go_wp2_with (fail)
  all_goals
    go_ret2
    refine ⟨?_, b1.alloc b1.size _⟩
    first
      | (rw [Int.min_eq_right (by omega)]; rfl)
      | (rw [Int.min_eq_left (by omega)]; rfl)
set_option maxHeartbeats 4000000 in
theorem rate_nil (n : Int) :
    Calls Try.prog 15 #[.pointer none, .int .u64 now, .int .u64 n] w fun e w' => e = .returned (.int .i64 1) ∧ Below w.heap.size w w' := by
  go_enter Try.func15, Try.ntmps15
  go_wp2_with (fail)
  go_ret
  exact ⟨rfl, Below.refl _ _⟩
set_option maxHeartbeats 4000000 in
theorem rate_bad (n : Int) (c : ¬ (1 ≤ n ∧ n ≤ 1073741824)) :
    Calls Try.prog 15 #[.pointer (some ⟨B, 0, none⟩), .int .u64 now, .int .u64 n] w fun e w' => e = .returned (.int .i64 2) ∧ Below w.heap.size w w' := by
  go_enter Try.func15, Try.ntmps15
  go_wp2_with (fail)
  refine (may_no w n c).mono ?_
  rintro e w1 ⟨rfl, b1⟩
  go_wp2_with (fail)
  go_ret
  exact ⟨rfl, b1⟩
set_option maxHeartbeats 4000000 in
theorem rate_c (n : Int) (h : At w B r b t l) (o : Ok r b t l) (n1 : 0 ≤ now) (n2 : now < 18446744073709551616) (g1 : 1 ≤ n) (g2 : n ≤ 1073741824) :
    Calls Try.prog 15 #[.pointer (some ⟨B, 0, none⟩), .int .u64 now, .int .u64 n] w fun e w' => e = .returned (.int .i64 0) ∧ At w' B n b (tm t now) (lv r b t l now) ∧ Only B w w' := by
  have ac := fun w (h : At w B r b t l) => after_c w B r b t l now h o n1 n2
  generalize lv r b t l now = L at ac ⊢
  generalize tm t now = T at ac ⊢
  go_enter Try.func15, Try.ntmps15
  go_wp2_with (fail)
  refine (may_yes w n g1 g2).mono ?_
  rintro e w1 ⟨rfl, b1⟩
  go_wp2_with (fail)
  have h1 := h.below b1
  refine (ac w1 h1).mono ?_
  rintro e w2 ⟨rfl, b2⟩
  have h2 := h1.below b2
  have c0 := h2.c0
  have c1 := h2.c1
  have c2 := h2.c2
  have c3 := h2.c3
  have f0 := h2.f0
  have f1 := h2.f1
  have f2 := h2.f2
  have f3 := h2.f3
  go_wp2_with (fail)
  go_ret
  exact ⟨rfl, (by repeat (first | (with_reducible exact h2) | with_reducible apply At.s0 | with_reducible apply At.s1 | with_reducible apply At.s2 | with_reducible apply At.s3 | with_reducible apply At.drewN | with_reducible apply At.drew)), (by repeat (first | with_reducible exact (Only.of_below (nextB b1 b2)) | with_reducible refine Only.set ?_ _ _ | with_reducible refine Only.drewN ?_ _ | with_reducible refine Only.drew ?_))⟩
/-- Packets that go from a level, one by one. -/
def pack : Int → List Int → Option Int
  | L, [] => some L
  | L, n :: ns => if n * 1000000 ≤ L then pack (L - n * 1000000) ns else none
set_option maxHeartbeats 4000000 in
theorem go_nil (A : Option Addr) (n c : Nat) :
    Calls Try.prog 11 #[.pointer none, .int .u64 now, .slice A n c] w fun e w' => e = .returned (.int .i64 1) ∧ Below w.heap.size w w' := by
  go_enter Try.func11, Try.ntmps11
  go_wp2_with (fail)
  go_ret
  exact ⟨rfl, Below.refl _ _⟩
theorem pack_cons (L : Int) (zs : List Int) (k : Nat) (hk : k < zs.length) :
    pack L (zs.drop k) = if zs.getD k 0 * 1000000 ≤ L then pack (L - zs.getD k 0 * 1000000) (zs.drop (k + 1)) else none := by
  rw [List.drop_eq_getElem_cons hk]
  simp only [pack, List.getD_eq_getElem?_getD, List.getElem?_eq_getElem hk, Option.getD_some]
set_option maxHeartbeats 4000000 in
theorem go_c (A : Option Addr) (n c : Nat) (zs : List Int) (hr : IntRow .u64 w A n zs) (hn : n ≤ 9223372036854775807) (h : At w B r b t l) (o : Ok r b t l) (n1 : 0 ≤ now) (n2 : now < 18446744073709551616) :
    Calls Try.prog 11 #[.pointer (some ⟨B, 0, none⟩), .int .u64 now, .slice A n c] w fun e w' => (pack (lv r b t l now) zs = none ∧ e = .returned (.int .i64 6) ∧ Below w.heap.size w w') ∨
      ∃ L, pack (lv r b t l now) zs = some L ∧ e = .returned (.int .i64 0) ∧ At w' B r b (tm t now) L ∧ Only B w w' ∧ 0 ≤ L ∧ L ≤ b * 1000000 := by
  have ob := o.b2
  have hl := lv_ok now o
  have ac := after_c w B r b t l now h o n1 n2
  generalize lv r b t l now = L0 at ac hl ⊢
  generalize tm t now = T at ac ⊢
  have HR := Lib.hid hr
  have HL := Lib.hid hl
  clear hr hl
  go_enter Try.func11, Try.ntmps11
  go_wp2_with (fail)
  refine ac.mono ?_
  rintro e w1 ⟨rfl, b1⟩
  have H1 := Lib.hid (h.below b1)
  have B1 := Lib.hid b1
  have hlt0 := h.lt
  have hsz := b1.size
  have HN : B ≠ w1.heap.size := by omega
  go_wp2_with (fail)
  go_loopw [17] (fun i wr => ∃ (k : Nat) (Lk : Int), k ≤ n ∧ i = .int .i64 k ∧ At wr w1.heap.size r b T Lk ∧ Below w1.heap.size w1 wr ∧ 0 ≤ Lk ∧ Lk ≤ b * 1000000 ∧ pack Lk (zs.drop k) = pack L0 zs) (fun i _ => n - (intOf i).toNat)
  case atStart => exact ⟨0, L0, Nat.zero_le _, rfl, At.new _ _ _ _ _, (Below.refl _ _).alloc (Nat.le_refl _) _, HL.out.1, HL.out.2, rfl⟩
  case round =>
    obtain ⟨k, Lk, hk, rfl, hat, hbe, l0, l1, hp⟩ := hrel
    have HP := Lib.hid hp
    have HAT := Lib.hid hat
    have HBE := Lib.hid hbe
    have c0 := hat.c0
    have c1 := hat.c1
    have c2 := hat.c2
    have c3 := hat.c3
    have f3 := hat.f3
    clear hp
    have e1 := div_mega l0 (by omega)
    by_cases hlt : k < n
    · obtain ⟨hzl, hz⟩ := HR.out
      rcases hz with hz | ⟨bb, off, rfl, hbl, hz⟩
      · omega
      · have hzk := hz k hlt
        have hcell : wr.cell? ⟨bb, off + k, none⟩ = some (.int .u64 (zs.getD k 0)) := by
          rw [World.cell?_of_block (w := w) ((nextB B1.out hbe).block bb hbl)]
          exact hzk.1
        have hw := hzk.2
        have hpk := pack_cons Lk zs k (by omega)
        clear hz hzk hbe hat
        generalize zs.getD k 0 = x at *
        have hx0 : IntKind.u64.min ≤ x ∧ x ≤ IntKind.u64.max := by simpa [Lit.wf] using hw
        have hx : 0 ≤ x ∧ x < 18446744073709551616 := ⟨hx0.1, Int.lt_add_one_of_le hx0.2⟩
        clear hx0
        clear hw
        by_cases d : x * 1000000 ≤ Lk
        · have d0 : decide (Lk / 1000000 < x) = false := decide_eq_false (by omega)
          rw [if_pos d] at hpk
          have HPK := Lib.hid hpk
          clear hpk
          go_wp2_with (fail)
          go_roundw
          case rel => exact ⟨k + 1, Lk - x * 1000000, by omega, by go_num, HAT.out.s3 _, HBE.out.setCell (p := ⟨w1.heap.size, 3, none⟩) (Nat.le_refl _) _, by omega, by omega, by rw [← HPK.out]; exact HP.out⟩
          case measure => simp [intOf]; omega
        · have d0 : decide (Lk / 1000000 < x) = true := decide_eq_true (by omega)
          rw [if_neg d] at hpk
          have HPK := Lib.hid hpk
          clear hpk
          go_wp2_with (fail)
          go_ret
          exact .inl ⟨by rw [← HP.out, HPK.out], rfl, nextB B1.out HBE.out⟩
    · have e : k = n := by omega
      have hB := H1.out.below hbe
      have c0' := hB.c0
      have c1' := hB.c1
      have c2' := hB.c2
      have c3' := hB.c3
      have f0' := hB.f0
      have f1' := hB.f1
      have f2' := hB.f2
      have f3' := hB.f3
      clear hat hbe
      go_wp2_with (fail)
      go_ret
      refine .inr ⟨Lk, ?_, rfl, ?_, ?_, l0, l1⟩
      · rw [← HP.out, e, ← HR.out.1, List.drop_length]; rfl
      · (repeat (first | (with_reducible exact hB) | with_reducible apply At.s0 | with_reducible apply At.s1 | with_reducible apply At.s2 | with_reducible apply At.s3 | with_reducible apply At.drewN | with_reducible apply At.drew))
      · (repeat (first | with_reducible exact (Only.of_below (nextB B1.out HBE.out)) | with_reducible refine Only.set ?_ _ _ | with_reducible refine Only.drewN ?_ _ | with_reducible refine Only.drew ?_))
set_option maxHeartbeats 4000000 in
theorem level_nil :
    Calls Try.prog 10 #[.pointer none, .int .u64 now] w fun e w' => e = .returned (.int .u64 0) ∧ Below w.heap.size w w' := by
  go_enter Try.func10, Try.ntmps10
  go_wp2_with (fail)
  go_ret
  exact ⟨rfl, Below.refl _ _⟩
end
end Go.Proofs.Ytkkkobmeoalgnaa
