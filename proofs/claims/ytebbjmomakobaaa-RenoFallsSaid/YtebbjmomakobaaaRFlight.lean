/- The walk of RenoFlight. -/
import Derived.Test.YtebbjmomakobaaaWorks
import Derived.Test.YtebbjmomakobaaaArgs
import Derived.Laws.AppendOwn
import Derived.Laws.AppendOwnNone
import Derived.Laws.OwnMore
namespace Go.Proofs.Ytebbjmomakobaaa
set_option linter.unusedVariables false
set_option linter.unusedSimpArgs false
open Go.RowKit
theorem info24 : (Try.prog.info? 24).map (fun i => (i.zero, i.size, i.bytes)) = some (some (.int .u64 0), 1, 8) := by kernel_rfl
def vals (l : List Int) : List Value := l.map (Value.int .u64)
theorem vals_len (l : List Int) : (vals l).length = l.length := by simp [vals]
theorem vals_one (l : List Int) : ∀ u ∈ vals l, u.oneCell' = true := by
  intro u hu
  simp [vals] at hu
  obtain ⟨x, _, rfl⟩ := hu
  rfl
theorem IntRow.news {w : World} {ad : Addr} {len : Nat} {zs : List Int} (h : IntRow .u64 w (some ad) len zs) : ∀ j u, (vals zs)[j]? = some u → w.cell? (ad.add j) = some u := by
  obtain ⟨h1, h2⟩ := h
  intro j u hu
  have hj : j < zs.length := by
    have := (List.getElem?_eq_some_iff.1 hu).1
    rw [vals_len] at this
    exact this
  rcases h2 with h2 | ⟨b, off, e, hl, hc⟩
  · omega
  · cases e
    rw [add_at, (hc j (by omega)).1]
    unfold vals at hu
    rw [List.getElem?_map, List.getElem?_eq_getElem hj] at hu
    simp only [Option.map_some, Option.some.injEq] at hu
    rw [← hu, List.getD_eq_getElem?_getD, List.getElem?_eq_getElem hj]
    rfl
theorem row_start (w : World) : (w.alloc (.cells #[] 24)).ownsRow w.heap.size 24 1 (.slice (some ⟨w.heap.size, 0, none⟩) 0 0) 0 [] := by
  refine ⟨rfl, .inr ⟨w.heap.size, 0, #[], rfl, Nat.le_refl _, blk_new _ _, Nat.le_refl _, by unfold maxLen; omega, rfl, rfl⟩⟩
theorem below_grown {B : Nat} {a w w' : World} {e : TypeId} {size n : Nat} {v : Value} {xs : List Value} (h : Below B a w) (hg : w.grownBy w' v.ownBlock) (ho : w.ownsRow B e size v n xs) (hB : B ≤ w.heap.size) : Below B a w' :=
  h.grown hg hB (fun k hk => (ho.lt k hk).1)
/-- What the two appends come to. -/
structure Joined (B : Nat) (w w' : World) (v : Value) (n : Nat) (xs : List Value) : Prop where
  own : w'.ownsRow B 24 1 v n xs
  below : Below B w w'
theorem Joined.start (w : World) : Joined w.heap.size w (w.alloc (.cells #[] 24)) (.slice (some ⟨w.heap.size, 0, none⟩) 0 0) 0 [] := ⟨row_start w, (Below.refl _ _).alloc (Nat.le_refl _) _⟩
theorem append_row {B : Nat} {ops : Array Oper} {rest : List Oper} {o : Oper} {a : Act} {Q : Exit → Act → World → Prop} {w0 w : World} (hgd : o.guard = none) (s x : Operand)
    (ho : o.op = .call { callee := .builtin .append, args := #[s, x], argTypes := #[22, 22] }) (v : Value) (n : Nat) (xs : List Value) (hs : a.eval s = v) (hj : Joined B w0 w v n xs)
    (hB : w0.heap.size = B) (ad : Option Addr) (m c : Nat) (zs : List Int) (hx : a.eval x = .slice ad m c) (hr : IntRow .u64 w0 ad m zs) (hn : ad = none → m = 0 ∧ c = 0) (h1 : n ≤ 100) (h2 : m ≤ 100)
    (h : ∀ v' w', Joined B w0 w' v' (n + m) (xs ++ vals zs) → wpList Try.prog ops Q rest (a.put o.dst v') w') : wpList Try.prog ops Q (o :: rest) a w := by
  obtain ⟨i0, hi, hz0, hz1, hz2⟩ := info_parts info24
  obtain ⟨hown, hbel⟩ := hj
  have hsz := hbel.size
  cases ad with
  | none =>
    obtain ⟨rfl, rfl⟩ := hn rfl
    have hz : zs = [] := by
      have := hr.1
      cases zs with
      | nil => rfl
      | cons _ _ => simp at this
    subst hz
    refine wpList_append_own_none hgd s x 22 ho B 24 i0 1 Try.underlying22 hi v n xs hs hown hx ?_
    exact h v w ⟨by simpa [vals] using hown, hbel⟩
  | some ad =>
    have hr' : IntRow .u64 w (some ad) m zs := hr.below (by rw [hB]; exact hbel)
    refine wpList_append_own w hgd s x 22 ho B 24 i0 (.int .u64 0) 1 8 Try.underlying22 hi hz0 hz1 hz2 rfl (by decide) v n xs hs hown ad m c (vals zs) hx (by rw [vals_len, hr.1, Nat.mul_one]) hr'.news (vals_one zs) (by unfold maxLen; omega) (by omega) (by omega) ?_
    intro v' w' k1 k2 _
    exact h v' w' ⟨k1, below_grown hbel k2 hown (by omega)⟩

theorem Joined.row {B : Nat} {w w' : World} {v : Value} {n : Nat} {l : List Int} (h : Joined B w w' v n (vals l)) (hw : ∀ x ∈ l, (Lit.int .u64 x).wf = true) : ∃ ad cap, v = .slice ad n cap ∧ IntRow .u64 w' ad n l := by
  obtain ⟨⟨hl, h1⟩, _⟩ := h
  rw [vals_len, Nat.mul_one] at hl
  rcases h1 with ⟨rfl, rfl⟩ | ⟨g, cap, cur, rfl, _, hg, hn, _, hc, ht⟩
  · exact ⟨none, 0, rfl, hl, .inl rfl⟩
  · refine ⟨_, cap, rfl, hl, .inr ⟨g, 0, rfl, blk_lt hg, fun j hj => ?_⟩⟩
    rw [Nat.zero_add, blk_cell hg]
    have hj' : j < l.length := by omega
    rw [List.getD_eq_getElem?_getD, List.getElem?_eq_getElem hj']
    refine ⟨?_, hw _ (List.getElem_mem _)⟩
    have e1 : (cur.toList.take (n * 1))[j]? = (vals l)[j]? := by rw [ht]
    rw [List.getElem?_take_of_lt (by omega), vals, List.getElem?_map, List.getElem?_eq_getElem hj'] at e1
    simpa using e1
theorem IntRow.wf {k : IntKind} {w : World} {a : Option Addr} {len : Nat} {zs : List Int} (h : IntRow k w a len zs) : ∀ x ∈ zs, (Lit.int k x).wf = true := by
  obtain ⟨h1, h2⟩ := h
  intro x hx
  obtain ⟨i, hi, rfl⟩ := List.getElem_of_mem hx
  rcases h2 with h2 | ⟨b, off, _, _, hc⟩
  · omega
  · have := (hc i (by omega)).2
    rw [List.getD_eq_getElem?_getD, List.getElem?_eq_getElem hi] at this
    exact this
theorem append_last {B : Nat} {ops : Array Oper} {rest : List Oper} {o : Oper} {a : Act} {Q : Exit → Act → World → Prop} {w0 w : World} (hgd : o.guard = none) (s x : Operand)
    (ho : o.op = .call { callee := .builtin .append, args := #[s, x], argTypes := #[22, 22] }) (v : Value) (n : Nat) (fs : List Int) (hs : a.eval s = v) (hj : Joined B w0 w v n (vals fs)) (hf : ∀ x ∈ fs, (Lit.int .u64 x).wf = true)
    (hB : w0.heap.size = B) (ad : Option Addr) (m c : Nat) (zs : List Int) (hx : a.eval x = .slice ad m c) (hr : IntRow .u64 w0 ad m zs) (hn : ad = none → m = 0 ∧ c = 0) (h1 : n ≤ 100) (h2 : m ≤ 100)
    (h : ∀ ad' cap' w', IntRow .u64 w' ad' (n + m) (fs ++ zs) → Below B w0 w' → wpList Try.prog ops Q rest (a.put o.dst (.slice ad' (n + m) cap')) w') : wpList Try.prog ops Q (o :: rest) a w := by
  refine append_row hgd s x ho v n (vals fs) hs hj hB ad m c zs hx hr hn h1 h2 ?_
  intro v' w' J
  have J' : Joined B w0 w' v' (n + m) (vals (fs ++ zs)) := by
    have e : vals (fs ++ zs) = vals fs ++ vals zs := by simp [vals]
    rw [e]; exact J
  obtain ⟨ad', cap', rfl, hrow⟩ := J'.row (by
    intro y hy
    rcases List.mem_append.1 hy with hy | hy
    · exact hf y hy
    · exact hr.wf y hy)
  exact h ad' cap' w' hrow J.below

/-- Sent, of any row. -/
theorem sent_any (w : World) (B : Nat) (wi th fl si : Int) (rc : Bool) (ac : Int) (a : Option Addr) (len cap : Nat) (l : List Int) (hat : At w B wi th fl si rc ac) (g0 : 0 ≤ fl) (g1 : fl ≤ 4611686018427387904) (hr : IntRow .u64 w a len l) (hne : ∀ b off, a = some ⟨b, off, none⟩ → len ≠ 0 → b ≠ B) (hlen : len ≤ 9223372036854775807) :
    Calls Try.prog 7 #[.pointer (some ⟨B, 0, none⟩), .slice a len cap] w fun e w' => e = .returned (.tuple #[]) ∧ At w' B wi th (l.foldl sentF fl) si rc ac ∧ Only B w w' := by
  obtain ⟨h1, h2⟩ := hr
  by_cases h0 : len = 0
  · subst h0
    have : l = [] := List.length_eq_zero_iff.1 h1
    subst this
    refine (sent_empty w B cap a).mono ?_
    rintro e w' ⟨rfl, rfl⟩
    exact ⟨rfl, hat, Only.refl _ _⟩
  · obtain ⟨b, off, rfl, hb, hc⟩ := h2.resolve_left h0
    subst h1
    exact sent_row w B b off cap wi th fl si rc ac l hat g0 g1 ⟨hne _ _ rfl h0, hb, fun i hi => (hc i hi).1, fun i hi => (bounds_u64 (hc i hi).2).1, fun i hi => (bounds_u64 (hc i hi).2).2⟩ hlen
theorem gone_any (w : World) (B : Nat) (wi th fl si : Int) (rc : Bool) (ac : Int) (a : Option Addr) (len cap : Nat) (l : List Int) (hat : At w B wi th fl si rc ac) (g0 : 0 ≤ fl) (g1 : fl ≤ 4611686018427387904) (hr : IntRow .u64 w a len l) (hne : ∀ b off, a = some ⟨b, off, none⟩ → len ≠ 0 → b ≠ B) (hlen : len ≤ 9223372036854775807) :
    Calls Try.prog 8 #[.pointer (some ⟨B, 0, none⟩), .slice a len cap] w fun e w' => e = .returned (.tuple #[]) ∧ At w' B wi th (l.foldl goneF fl) si rc ac ∧ Only B w w' := by
  obtain ⟨h1, h2⟩ := hr
  by_cases h0 : len = 0
  · subst h0
    have : l = [] := List.length_eq_zero_iff.1 h1
    subst this
    refine (gone_empty w B cap a).mono ?_
    rintro e w' ⟨rfl, rfl⟩
    exact ⟨rfl, hat, Only.refl _ _⟩
  · obtain ⟨b, off, rfl, hb, hc⟩ := h2.resolve_left h0
    subst h1
    exact gone_row w B b off cap wi th fl si rc ac l hat g0 g1 ⟨hne _ _ rfl h0, hb, fun i hi => (hc i hi).1, fun i hi => (bounds_u64 (hc i hi).2).1, fun i hi => (bounds_u64 (hc i hi).2).2⟩ hlen
/-- The sum of sizes. -/
def sumL (l : List Int) : Int := l.foldr (· + ·) 0
theorem sumL_app (a b : List Int) : sumL (a ++ b) = sumL a + sumL b := by
  induction a with
  | nil => simp [sumL]
  | cons x a ih => simp only [sumL, List.cons_append, List.foldr_cons] at *; omega
theorem sumL_snoc (l : List Int) (k : Nat) (hk : k < l.length) : sumL (l.take (k + 1)) = sumL (l.take k) + l.getD k 0 := by
  rw [List.take_succ_eq_append_getElem hk, sumL_app, List.getD_eq_getElem?_getD, List.getElem?_eq_getElem hk]
  simp [sumL]
theorem sumL_range (l : List Int) (h : ∀ n ∈ l, 0 ≤ n ∧ n ≤ 1073741824) : 0 ≤ sumL l ∧ sumL l ≤ 1073741824 * l.length := by
  induction l with
  | nil => simp [sumL]
  | cons x l ih =>
    have h1 := h x (by simp)
    have h2 := ih (fun n hn => h n (by simp [hn]))
    simp only [sumL, List.foldr_cons, List.length_cons] at *
    omega
theorem sent_sum (l : List Int) : ∀ fl : Int, (∀ n ∈ l, 0 ≤ n ∧ n ≤ 1073741824) → l.length ≤ 100 → 0 ≤ fl → fl + sumL l ≤ 4611686018427387904 → l.foldl sentF fl = fl + sumL l := by
  induction l with
  | nil => intro fl _ _ _ _; simp [sumL]
  | cons x l ih =>
    intro fl h hl h0 h1
    have h2 := h x (by simp)
    have h3 := sumL_range l (fun n hn => h n (by simp [hn]))
    simp only [sumL, List.foldr_cons] at h1
    have ec : cap40 x = x := by unfold cap40; rw [if_neg (by omega)]
    have e : sentF fl x = fl + x := by
      simp only [sumL] at h3
      unfold sentF
      rw [ec, if_neg (by omega)]
    rw [List.foldl_cons, e, ih (fl + x) (fun n hn => h n (by simp [hn])) (by simp at hl; omega) (by omega) (by simp only [sumL]; omega)]
    simp only [sumL, List.foldr_cons]
    omega

set_option maxRecDepth 100000 in
set_option maxHeartbeats 4000000 in
theorem flight_t (w : World) (a0 a1 : Option Addr) (n0 n1 c0 c1 : Nat) (fs zs : List Int) (h0 : IntRow .u64 w a0 n0 fs) (h1 : IntRow .u64 w a1 n1 zs) (g0 : a0 = none → n0 = 0 ∧ c0 = 0) (g1 : a1 = none → n1 = 0 ∧ c1 = 0) (l0 : n0 ≤ 100) (l1 : n1 ≤ 100) :
    Calls Try.prog 3 #[.slice a0 n0 c0, .slice a1 n1 c1] w fun e w' => e = .returned (.bool true) ∧ Below w.heap.size w w' := by
  have H0 := Lib.hid h0
  have H1 := Lib.hid h1
  have G0 := Lib.hid g0
  have G1 := Lib.hid g1
  clear h0 h1 g0 g1
  have d0 : decide (100 < (n0 : Int)) = false := decide_eq_false (by omega)
  have d1 : decide (100 < (n1 : Int)) = false := decide_eq_false (by omega)
  go_enter Try.func3, Try.ntmps3
  go_wp2_with (fail)
  refine (works_c _).mono ?_
  rintro e w1 ⟨rfl, b1⟩
  have K0 := Lib.hid (H0.out.below b1)
  have K1 := Lib.hid (H1.out.below b1)
  have KW := Lib.hid H0.out.wf
  have J0 := Lib.hid (Joined.start w1)
  have n100 : 0 ≤ 100 := by omega
  go_wp2_with (first | (at_builtin; refine append_row rfl (.tmp 24) (.tmp 25) rfl _ 0 [] rfl J0.out rfl a0 n0 c0 fs rfl K0.out G0.out n100 l0 ?_; intro v2 w2 J2; rw [Nat.zero_add, List.nil_append] at J2; replace J2 := Lib.hid J2) | (at_builtin; refine append_last rfl (.tmp 26) (.tmp 27) rfl v2 n0 fs rfl J2.out KW.out rfl a1 n1 c1 zs rfl K1.out G1.out l0 l1 ?_; intro a3 c3 w3 R3 b3; replace R3 := Lib.hid R3))
  have hsz3 := b3.size
  have b13 := nextB b1 b3
  clear J0
  go_loop [30] (fun i => ∃ k : Nat, k ≤ n0 + n1 ∧ i = .int .i64 k ∧ Hid (∀ j, j < k → (fs ++ zs).getD j 0 ≤ 1073741824)) (fun i => n0 + n1 - (intOf i).toNat)
  case atStart => exact ⟨0, Nat.zero_le _, rfl, fun j hj => by omega⟩
  case round =>
    obtain ⟨k, hk, rfl, hsm⟩ := hrel
    by_cases hlt : k < n0 + n1
    · obtain ⟨r1, r2⟩ := R3.out
      obtain ⟨b, off, rfl, hb, hc⟩ := r2.resolve_left (by omega)
      obtain ⟨hc1, hc2⟩ := hc k hlt
      have hbd := bounds_u64 hc2
      obtain ⟨hbd0, hbd1⟩ := hbd
      clear hc hc2 r2 r1
      generalize hx : (fs ++ zs).getD k 0 = x at *
      have HX := Lib.hid hx
      clear hx
      by_cases hbig : 1073741824 < x
      · go_wp2_with (fail)
        refine (works_c _).mono ?_
        rintro e w4 ⟨rfl, b4⟩
        go_wp2_with (fail)
        go_ret
        exact ⟨rfl, nextB b13 b4⟩
      · go_wp2_with (fail)
        go_round
        case rel => exact ⟨k + 1, by omega, by go_num, fun j hj => by
          by_cases e : j = k
          · rw [e, HX.out]; omega
          · exact hsm.out j (by omega)⟩
        case measure => simp [intOf]; omega
    · have hkn : k = n0 + n1 := by omega
      have hall : ∀ n ∈ fs ++ zs, 0 ≤ n ∧ n ≤ 1073741824 := by
        obtain ⟨r1, r2⟩ := R3.out
        intro n hn
        obtain ⟨i, hi, rfl⟩ := List.getElem_of_mem hn
        have := hsm.out i (by omega)
        rw [List.getD_eq_getElem?_getD, List.getElem?_eq_getElem hi] at this
        exact ⟨(bounds_u64 (R3.out.wf _ hn)).1, this⟩
      have hfs : ∀ n ∈ fs, 0 ≤ n ∧ n ≤ 1073741824 := fun n hn => hall n (List.mem_append.2 (.inl hn))
      have hzs : ∀ n ∈ zs, 0 ≤ n ∧ n ≤ 1073741824 := fun n hn => hall n (List.mem_append.2 (.inr hn))
      have HFS := Lib.hid hfs
      have HZS := Lib.hid hzs
      have r0 := sumL_range fs hfs
      have r1 := sumL_range zs hzs
      have z0 : fs.length = n0 := H0.out.1
      have z1 : zs.length = n1 := H1.out.1
      have Z0 := Lib.hid z0
      have Z1 := Lib.hid z1
      have e0 := sent_sum fs 0 hfs (by omega) (by omega) (by omega)
      rw [Int.zero_add] at e0
      have E0 := Lib.hid e0
      have e1 := sent_sum zs (sumL fs) hzs (by omega) (by omega) (by omega)
      have E1 := Lib.hid e1
      have u0 : sumL fs ≤ 107374182400 := by omega
      have u1 : sumL zs ≤ 107374182400 := by omega
      obtain ⟨t0, _⟩ := r0
      obtain ⟨t1, _⟩ := r1
      have hne0 : ∀ b off, a0 = some ⟨b, off, none⟩ → n0 ≠ 0 → b < w.heap.size := by
        intro b off e hn
        rcases H0.out.2 with h | ⟨b', off', e', hl, _⟩
        · omega
        · rw [e] at e'; cases e'; exact hl
      have HSM := Lib.hid hsm
      clear hall hfs hzs z0 z1 e0 e1 hsm hkn hk
      go_wp2_with (fail)
      refine (new_c _).mono ?_
      rintro e w4 ⟨rfl, a4, b4⟩
      generalize hB : w3.heap.size = B at *
      have HB := Lib.hid hB
      clear hB
      have hwB : w.heap.size ≤ B := by have := HB.out; have := b13.size; omega
      have b14 : Below w.heap.size w w4 := b13.trans (b4.mono hwB)
      have hne1 : ∀ b off, a1 = some ⟨b, off, none⟩ → n1 ≠ 0 → b < w.heap.size := by
        intro b off e hn
        rcases H1.out.2 with h | ⟨b', off', e', hl, _⟩
        · omega
        · rw [e] at e'; cases e'; exact hl
      have HN0 := Lib.hid hne0
      have HN1 := Lib.hid hne1
      clear hne0 hne1
      go_wp2_with (fail)
      refine (sent_any w4 B _ _ _ _ _ _ a0 n0 c0 fs a4 (by omega) (by omega) (H0.out.below b14) (fun b off e hn => by have := HN0.out b off e hn; omega) (by omega)).mono ?_
      rintro e w5 ⟨rfl, a5, b5⟩
      rw [E0.out] at a5
      have c2 := a5.c2
      have l4 := a4.lt
      have b15 : Below w.heap.size w w5 := b14.trans (b5.below hwB (by omega))
      go_wp2_with (fail)
      refine (sent_any w5 B _ _ _ _ _ _ a1 n1 c1 zs a5 (by omega) (by omega) (H1.out.below b15) (fun b off e hn => by have := HN1.out b off e hn; omega) (by omega)).mono ?_
      clear c2
      rintro e w6 ⟨rfl, a6, b6⟩
      rw [E1.out] at a6
      have l5 := a5.lt
      have b16 : Below w.heap.size w w6 := b15.trans (b6.below hwB (by omega))
      have R6 := Lib.hid (H1.out.below b16)
      have A6 := Lib.hid a6
      clear a6 a5 a4
      go_wp2_with (fail)
      go_loop [52, 5] (fun i t => ∃ (k : Nat) (s : Int), k ≤ n1 ∧ i = .int .i64 k ∧ t = .int .u64 s ∧ Hid (s = sumL (zs.take k))) (fun i _ => n1 - (intOf i).toNat)
      case atStart => exact ⟨0, 0, Nat.zero_le _, rfl, rfl, rfl⟩
      case round =>
        obtain ⟨k2, s, hk2, rfl, rfl, hs⟩ := hrel
        have hsr : 0 ≤ s ∧ s ≤ 107374182400 := by
          have h1 := sumL_range (zs.take k2) (fun n hn => HZS.out n (List.mem_of_mem_take hn))
          have h2 : (zs.take k2).length ≤ n1 := by rw [List.length_take, Z1.out]; omega
          rw [hs.out]
          omega
        obtain ⟨hs0, hs1⟩ := hsr
        by_cases hlt2 : k2 < n1
        · obtain ⟨r1, r2⟩ := R6.out
          obtain ⟨b, off, rfl, hb, hc⟩ := r2.resolve_left (by omega)
          obtain ⟨hc1, hc2⟩ := hc k2 hlt2
          have hx2 := HZS.out _ (show zs.getD k2 0 ∈ zs by rw [List.getD_eq_getElem?_getD, List.getElem?_eq_getElem (by omega)]; exact List.getElem_mem _)
          obtain ⟨x0, x1⟩ := hx2
          have hsn := sumL_snoc zs k2 (by omega)
          clear hc hc2 r2 r1
          generalize hx : zs.getD k2 0 = x at *
          have HX := Lib.hid hx
          have HSN := Lib.hid hsn
          clear hx hsn
          go_wp2_with (fail)
          go_round
          case rel => exact ⟨k2 + 1, s + x, by omega, by go_num, rfl, by unfold Hid; rw [HSN.out, ← hs.out]⟩
          case measure => simp [intOf]; omega
        · have hse : s = sumL zs := by
            have h1 := hs.out
            rw [List.take_of_length_le (by rw [Z1.out]; omega)] at h1
            exact h1
          clear hs
          subst hse
          have c2 := A6.out.c2
          go_wp2_with (fail)
          clear c2
          go_loopw [12] (fun i wr => ∃ (j F : Int), -1 ≤ j ∧ j < n1 ∧ i = .int .i64 j ∧ At wr B 12000 4611686018427387904 F 0 false 0 ∧ Hid (F = sumL fs + sumL (zs.take (j + 1).toNat)) ∧ Only B w6 wr) (fun i _ => (intOf i + 1).toNat)
          case atStart => exact ⟨(n1 : Int) - 1, _, by omega, by omega, rfl, A6.out, by unfold Hid; rw [show ((n1 : Int) - 1 + 1).toNat = n1 by omega, List.take_of_length_le (by rw [Z1.out]; omega)], Only.refl _ _⟩
          case round =>
            obtain ⟨j, F, j0, j1, rfl, hat, hF, hon⟩ := hrel
            have HAT := Lib.hid hat
            have HON := Lib.hid hon
            have hl6 := A6.out.lt
            by_cases hj : 0 ≤ j
            · obtain ⟨q, rfl⟩ : ∃ q : Nat, j = q := ⟨j.toNat, by omega⟩
              have R7 := R6.out
              obtain ⟨r1, r2⟩ := R7
              obtain ⟨b, off, rfl, hb, hc⟩ := r2.resolve_left (by omega)
              have hbB : b < w.heap.size := HN1.out b off rfl (by omega)
              obtain ⟨hc1, hc2⟩ := hc q (by omega)
              have hcr : wr.cell? ⟨b, off + q, none⟩ = some (.int .u64 (zs.getD q 0)) := by
                rw [hon.cell (p := ⟨b, off + q, none⟩) hb (by simp; omega)]; exact hc1
              have hx2 := HZS.out _ (show zs.getD q 0 ∈ zs by rw [List.getD_eq_getElem?_getD, List.getElem?_eq_getElem (by omega)]; exact List.getElem_mem _)
              obtain ⟨x0, x1⟩ := hx2
              have hsn := sumL_snoc zs q (by omega)
              have hsr := sumL_range (zs.take q) (fun n hn => HZS.out n (List.mem_of_mem_take hn))
              have hsl : (zs.take q).length ≤ n1 := by rw [List.length_take, Z1.out]; omega
              have hF' : F = sumL fs + sumL (zs.take q) + zs.getD q 0 := by
                have h1 := hF.out
                rw [show ((q : Int) + 1).toNat = q + 1 by omega, hsn] at h1
                omega
              clear hc hc1 hc2 r1 r2 hsn hat hon
              generalize hx : zs.getD q 0 = x at *
              generalize hT : sumL (zs.take q) = T at *
              have HX := Lib.hid hx
              have HT := Lib.hid hT
              have HF := Lib.hid hF'
              have f0 : 0 ≤ F := by omega
              have f1 : F ≤ 4611686018427387904 := by omega
              have hg : goneF F x = sumL fs + T := by
                rw [HF.out]
                unfold goneF
                (repeat' split) <;> omega
              have HG := Lib.hid hg
              clear hx hT hF' hF hg
              have lr := HAT.out.lt
              go_wp2_with (fail)
              refine (gone_one _ B wr.heap.size _ _ _ _ _ _ x (HAT.out.below ((Below.refl _ _).alloc (Nat.le_refl _) _)) f0 f1 x0 (by omega) (by simp) (by omega) (by simp [go_sem])).mono ?_
              rintro e w7 ⟨rfl, a7, b7⟩
              have A7 := Lib.hid a7
              clear a7
              go_wp2_with (fail)
              go_roundw
              case rel => exact ⟨(q : Int) - 1, goneF F x, by omega, by omega, rfl, A7.out, by unfold Hid; rw [HG.out, show ((q : Int) - 1 + 1).toNat = q by omega, HT.out], (HON.out.trans ((Only.refl _ _).alloc _)).trans b7⟩
              case measure => simp [intOf]
            · have hj' : j = -1 := by omega
              have hFe : F = sumL fs := by
                have h1 := hF.out
                rw [hj'] at h1
                simpa [sumL] using h1
              clear hF hj'
              subst hFe
              have c2 := HAT.out.c2
              have c0 := HAT.out.c0
              clear hat hon
              have lr := HAT.out.lt
              go_wp2_with (fail)
              refine (works_c _).mono ?_
              rintro e w8 ⟨rfl, b8⟩
              go_wp2_with (fail)
              go_ret
              exact ⟨rfl, (b16.trans (HON.out.below hwB (by omega))).trans (b8.mono (by omega))⟩
set_option maxHeartbeats 1000000 in
theorem flight_c (w : World) (a0 a1 : Option Addr) (n0 n1 c0 c1 : Nat) (fs zs : List Int) (h0 : IntRow .u64 w a0 n0 fs) (h1 : IntRow .u64 w a1 n1 zs) (g0 : a0 = none → n0 = 0 ∧ c0 = 0) (g1 : a1 = none → n1 = 0 ∧ c1 = 0) (m0 : n0 ≤ maxLen) (m1 : n1 ≤ maxLen) :
    Calls Try.prog 3 #[.slice a0 n0 c0, .slice a1 n1 c1] w fun e w' => e = .returned (.bool true) ∧ Below w.heap.size w w' := by
  by_cases k0 : n0 ≤ 100
  · by_cases k1 : n1 ≤ 100
    · exact flight_t w a0 a1 n0 n1 c0 c1 fs zs h0 h1 g0 g1 k0 k1
    · clear h0 h1 g0 g1
      unfold maxLen at m0 m1
      have d0 : decide (100 < (n0 : Int)) = false := decide_eq_false (by omega)
      have d1 : decide (100 < (n1 : Int)) = true := decide_eq_true (by omega)
      go_enter Try.func3, Try.ntmps3
      go_wp2_with (fail)
      refine (works_c _).mono ?_
      rintro e w1 ⟨rfl, b1⟩
      go_wp2_with (fail)
      refine (works_c _).mono ?_
      rintro e w2 ⟨rfl, b2⟩
      go_wp2_with (fail)
      go_ret
      exact ⟨rfl, nextB b1 b2⟩
  · clear h0 h1 g0 g1
    unfold maxLen at m0 m1
    have d0 : decide (100 < (n0 : Int)) = true := decide_eq_true (by omega)
    go_enter Try.func3, Try.ntmps3
    go_wp2_with (fail)
    refine (works_c _).mono ?_
    rintro e w1 ⟨rfl, b1⟩
    go_wp2_with (fail)
    refine (works_c _).mono ?_
    rintro e w2 ⟨rfl, b2⟩
    go_wp2_with (fail)
    go_ret
    exact ⟨rfl, nextB b1 b2⟩
end Go.Proofs.Ytebbjmomakobaaa
