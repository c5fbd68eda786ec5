/- The document's pacer: what it is at a tick. -/
import Derived.Test.YtkkkobmeoalgnaaMany
namespace Go.Proofs.Ytkkkobmeoalgnaa
set_option linter.unusedVariables false
set_option linter.unusedSimpArgs false
open Go.RowKit
/-- The document's pacer in memory. -/
def Rf (w : World) (B : Nat) (ra : Int) (bu : Int) (tk : Int) (le : Int) : Prop := w.heap[B]? = some (.cells #[.int .u64 ra, .int .u64 bu, .int .u64 tk, .int .u64 le] 43 (0, 0))
section
variable {w : World} {B : Nat} {ra : Int} {bu : Int} {tk : Int} {le : Int}
theorem Rf.c0 (h : Rf w B ra bu tk le) : w.cell? ⟨B, 0, none⟩ = some (.int .u64 ra) := (blk_cell h 0).trans rfl
theorem Rf.c1 (h : Rf w B ra bu tk le) : w.cell? ⟨B, 1, none⟩ = some (.int .u64 bu) := (blk_cell h 1).trans rfl
theorem Rf.c2 (h : Rf w B ra bu tk le) : w.cell? ⟨B, 2, none⟩ = some (.int .u64 tk) := (blk_cell h 2).trans rfl
theorem Rf.c3 (h : Rf w B ra bu tk le) : w.cell? ⟨B, 3, none⟩ = some (.int .u64 le) := (blk_cell h 3).trans rfl
theorem Rf.f0 (h : Rf w B ra bu tk le) : w.frozen? ⟨B, 0, none⟩ = false := blk_frozen h 0
theorem Rf.f1 (h : Rf w B ra bu tk le) : w.frozen? ⟨B, 1, none⟩ = false := blk_frozen h 1
theorem Rf.f2 (h : Rf w B ra bu tk le) : w.frozen? ⟨B, 2, none⟩ = false := blk_frozen h 2
theorem Rf.f3 (h : Rf w B ra bu tk le) : w.frozen? ⟨B, 3, none⟩ = false := blk_frozen h 3
theorem Rf.s0 (x : Int) (h : Rf w B ra bu tk le) : Rf (w.setCell ⟨B, 0, none⟩ (.int .u64 x)) B x bu tk le := blk_set _ h
theorem Rf.s1 (x : Int) (h : Rf w B ra bu tk le) : Rf (w.setCell ⟨B, 1, none⟩ (.int .u64 x)) B ra x tk le := blk_set _ h
theorem Rf.s2 (x : Int) (h : Rf w B ra bu tk le) : Rf (w.setCell ⟨B, 2, none⟩ (.int .u64 x)) B ra bu x le := blk_set _ h
theorem Rf.s3 (x : Int) (h : Rf w B ra bu tk le) : Rf (w.setCell ⟨B, 3, none⟩ (.int .u64 x)) B ra bu tk x := blk_set _ h
theorem Rf.drew (h : Rf w B ra bu tk le) : Rf w.drew B ra bu tk le := h
theorem Rf.drewN (n : Nat) (h : Rf w B ra bu tk le) : Rf (w.drewN n) B ra bu tk le := h
theorem Rf.lt (h : Rf w B ra bu tk le) : B < w.heap.size := blk_lt h
theorem Rf.below {w' : World} (h : Rf w B ra bu tk le) (hb : Below w.heap.size w w') : Rf w' B ra bu tk le := by
  have hl := h.lt
  unfold Rf at h ⊢
  rw [hb.block B hl]
  exact h
theorem Rf.only {C : Nat} {w' : World} (h : Rf w B ra bu tk le) (hb : Only C w w') (hne : B ≠ C) : Rf w' B ra bu tk le := by
  have hl := h.lt
  unfold Rf at h ⊢
  rw [hb.block B hl hne]
  exact h
end
theorem Rf.apart {w : World} {B C : Nat} {ra bu tk le : Int} (i : Nat) (v : Value) (h : Rf w B ra bu tk le) (hne : B ≠ C) : Rf (w.setCell ⟨C, i, none⟩ v) B ra bu tk le := h.only (Only.set (Only.refl _ _) _ _) hne
theorem Rf.new (w : World) (ra : Int) (bu : Int) (tk : Int) (le : Int) : Rf (w.alloc (.cells #[.int .u64 ra, .int .u64 bu, .int .u64 tk, .int .u64 le] 43)) w.heap.size ra bu tk le := blk_new _ _
theorem Rf.new2 (w : World) (o : Obj) (ra : Int) (bu : Int) (tk : Int) (le : Int) : Rf ((w.alloc (.cells #[.int .u64 ra, .int .u64 bu, .int .u64 tk, .int .u64 le] 43)).alloc o) w.heap.size ra bu tk le := blk_alloc _ (blk_new _ _)
theorem Rf.heap {w : World} {B : Nat} {ra bu tk le : Int} (h : Rf w B ra bu tk le) : w.heap[B]? = some (.cells #[.int .u64 ra, .int .u64 bu, .int .u64 tk, .int .u64 le] 43 (0, 0)) := h
attribute [irreducible] Rf
section
variable (w : World) (B : Nat) (r b t l now : Int)
set_option maxHeartbeats 4000000 in
theorem ref_early (c : now ≤ t) (o : Ok r b t l) :
    Calls Try.prog 16 #[.agg #[.int .u64 r, .int .u64 b, .int .u64 t, .int .u64 l], .int .u64 now] w fun e w' => e = .returned (.agg #[.int .u64 r, .int .u64 b, .int .u64 t, .int .u64 l]) ∧ Below w.heap.size w w' := by
  have hu43 := Try.underlying43
  obtain ⟨r1, r2, b1, b2, t1, t2, l1, l2⟩ := o
  have d : decide (now ≤ t) = true := decide_eq_true c
  go_enter Try.func16, Try.ntmps16
  go_wp2_with (fail)
  refine bodyPost_ret (results_cell_row rfl _ _ (w.heap.size + 1) 43 #[.int .u64 r, .int .u64 b, .int .u64 t, .int .u64 l] (0, 0) _ rfl (by simpa using blk_new (w.alloc (.cells #[.int .u64 r, .int .u64 b, .int .u64 t, .int .u64 l] 43)) (.cells #[.int .u64 r, .int .u64 b, .int .u64 t, .int .u64 l] 43)) Try.underlying43 rfl (by kernel_rfl)) rfl ?_
  exact ⟨rfl, ((Below.refl _ _).alloc (Nat.le_refl _) _).alloc (by simp) _⟩
theorem step_fill {r F lev left st T : Int} (hr : 1 ≤ r) (h1 : 1 ≤ st) (h2 : st ≤ left) (hl : 0 ≤ lev) (hT : min F (lev + left * r) = T) : min F (min F (lev + st * r) + (left - st) * r) = T := by
  have e : left * r = st * r + (left - st) * r := by rw [← Int.add_mul]; congr 1; omega
  have h3 : 0 ≤ (left - st) * r := Int.mul_nonneg (by omega) (by omega)
  have h4 : 0 ≤ st * r := Int.mul_nonneg (by omega) (by omega)
  rw [e] at hT
  generalize (left - st) * r = X at *
  generalize st * r = Y at *
  omega
set_option maxHeartbeats 8000000 in
theorem ref_late (o : Ok r b t l) (c : t < now) (n2 : now < 18446744073709551616) :
    Calls Try.prog 16 #[.agg #[.int .u64 r, .int .u64 b, .int .u64 t, .int .u64 l], .int .u64 now] w fun e w' => e = .returned (.agg #[.int .u64 r, .int .u64 b, .int .u64 now, .int .u64 (lv r b t l now)]) ∧ Below w.heap.size w w' := by
  have hT : min (b * 1000000) (l + (now - t) * r) = lv r b t l now := by unfold lv; rw [if_neg (by omega)]
  generalize lv r b t l now = T at *
  have HT := Lib.hid hT
  clear hT
  obtain ⟨r1, r2, b1, b2, t1, t2, l1, l2⟩ := o
  have hu43 := Try.underlying43
  have d : decide (now ≤ t) = false := decide_eq_false (by omega)
  go_enter Try.func16, Try.ntmps16
  go_wp2_with (fail)
  go_loopw [6] (fun s6 wr => ∃ left lev : Int, s6 = .int .u64 left ∧ 0 ≤ left ∧ left ≤ now - t ∧ 0 ≤ lev ∧ lev ≤ b * 1000000 ∧ min (b * 1000000) (lev + left * r) = T ∧ Rf wr w.heap.size r b t lev ∧ Rf wr (w.heap.size + 1) 0 0 0 0 ∧ Below w.heap.size w wr) (fun s6 _ => (intOf s6).toNat)
  case atStart => exact ⟨now - t, l, rfl, by omega, by omega, l1, l2, HT.out, Rf.new2 _ _ _ _ _ _, (by have := Rf.new (w.alloc (.cells #[.int .u64 r, .int .u64 b, .int .u64 t, .int .u64 l] 43)) 0 0 0 0; simpa using this), ((Below.refl _ _).alloc (Nat.le_refl _) _).alloc (by simp) _⟩
  case round =>
    obtain ⟨left, lev, rfl, f0, f1, v0, v1, hm, hc, hz, hbl⟩ := hrel
    have HC := Lib.hid hc
    have HZ := Lib.hid hz
    have HM := Lib.hid hm
    have HBL := Lib.hid hbl
    have c0 := hc.c0
    have c1 := hc.c1
    have c2 := hc.c2
    have c3 := hc.c3
    have g3 := hc.f3
    have g2 := hc.f2
    clear hc hm hbl
    by_cases stop : 0 < left ∧ lev < b * 1000000
    · obtain ⟨s0, s1⟩ := stop
      clear g2
      have d0 : decide (0 < left) = true := decide_eq_true s0
      have d1 : decide (lev < b * 1000000) = true := decide_eq_true s1
      go_wp2_with (fail)
      go_loop [7] (fun s7 => ∃ st : Int, s7 = .int .u64 st ∧ 1 ≤ st ∧ st ≤ left ∧ st * r ≤ b * 1000000) (fun s7 => (left - intOf s7).toNat)
      case atStart => exact ⟨1, rfl, by omega, by omega, by omega⟩
      case round =>
        obtain ⟨st, rfl, p1, p2, p3⟩ := hrel
        have hst : st ≤ st * r := by
          have := Int.mul_le_mul_of_nonneg_left r1 (show 0 ≤ st by omega)
          omega
        have h2r : st * 2 * r = 2 * (st * r) := by rw [Int.mul_comm st 2, Int.mul_assoc]
        obtain ⟨Y, hY⟩ : ∃ Y, st * r = Y := ⟨_, rfl⟩
        obtain ⟨Z, hZ⟩ : ∃ Z, st * 2 * r = Z := ⟨_, rfl⟩
        have hYZ : Z = 2 * Y := by rw [← hZ, ← hY]; exact h2r
        rw [hY] at p3 hst
        have z0 : 0 ≤ Z := by omega
        have z1 : Z ≤ 2147483648000000 := by omega
        by_cases a : st * 2 ≤ left ∧ st * 2 * r ≤ b * 1000000
        · have a0 : decide (st * 2 ≤ left) = true := decide_eq_true a.1
          have a1 : decide (st * 2 * r ≤ b * 1000000) = true := decide_eq_true a.2
          obtain ⟨a2, a3⟩ := a
          have z0' : 0 ≤ st * 2 * r := by rw [hZ]; exact z0
          have z1' : st * 2 * r ≤ 2147483648000000 := by rw [hZ]; exact z1
          clear hY hZ hYZ h2r
          go_wp2_with (fail)
          go_round
          case rel => exact ⟨st * 2, rfl, by omega, by omega, a3⟩
          case measure => simp [intOf]; omega
        · have z0' : 0 ≤ st * 2 * r := by rw [hZ]; exact z0
          have z1' : st * 2 * r ≤ 2147483648000000 := by rw [hZ]; exact z1
          have y0' : 0 ≤ st * r := by rw [hY]; omega
          have y1' : st * r ≤ b * 1000000 := by rw [hY]; exact p3
          have HS : Hid (min (b * 1000000) (min (b * 1000000) (lev + st * r) + (left - st) * r) = T) := Lib.hid (step_fill r1 p1 p2 v0 HM.out)
          clear hY hZ hYZ h2r
          by_cases e : b * 1000000 < lev + st * r
          · have e' : decide (b * 1000000 < lev + st * r) = true := decide_eq_true e
            have hmin : min (b * 1000000) (lev + st * r) = b * 1000000 := by omega
            rw [hmin] at HS
            clear hmin
            by_cases a0 : st * 2 ≤ left
            · have a1 : ¬ st * 2 * r ≤ b * 1000000 := fun h => a ⟨a0, h⟩
              have a0' : decide (st * 2 ≤ left) = true := decide_eq_true a0
              have a1' : decide (st * 2 * r ≤ b * 1000000) = false := decide_eq_false a1
              clear a
              go_wp2_with (fail)
              go_roundw
              case rel => exact ⟨left - st, b * 1000000, rfl, by omega, by omega, by omega, Int.le_refl _, HS.out, (HC.out.s3 _).s3 _, (HZ.out.apart _ _ (by omega)).apart _ _ (by omega), (HBL.out.setCell (p := ⟨w.heap.size, 3, none⟩) (Nat.le_refl _) _).setCell (p := ⟨w.heap.size, 3, none⟩) (Nat.le_refl _) _⟩
              case measure => simp [intOf]; omega
            · have a0' : decide (st * 2 ≤ left) = false := decide_eq_false a0
              clear a
              go_wp2_with (fail)
              go_roundw
              case rel => exact ⟨left - st, b * 1000000, rfl, by omega, by omega, by omega, Int.le_refl _, HS.out, (HC.out.s3 _).s3 _, (HZ.out.apart _ _ (by omega)).apart _ _ (by omega), (HBL.out.setCell (p := ⟨w.heap.size, 3, none⟩) (Nat.le_refl _) _).setCell (p := ⟨w.heap.size, 3, none⟩) (Nat.le_refl _) _⟩
              case measure => simp [intOf]; omega
          · have e' : decide (b * 1000000 < lev + st * r) = false := decide_eq_false e
            have hmin : min (b * 1000000) (lev + st * r) = lev + st * r := by omega
            rw [hmin] at HS
            clear hmin
            by_cases a0 : st * 2 ≤ left
            · have a1 : ¬ st * 2 * r ≤ b * 1000000 := fun h => a ⟨a0, h⟩
              have a0' : decide (st * 2 ≤ left) = true := decide_eq_true a0
              have a1' : decide (st * 2 * r ≤ b * 1000000) = false := decide_eq_false a1
              clear a
              go_wp2_with (fail)
              go_roundw
              case rel => exact ⟨left - st, lev + st * r, rfl, by omega, by omega, by omega, by omega, HS.out, HC.out.s3 _, HZ.out.apart _ _ (by omega), HBL.out.setCell (p := ⟨w.heap.size, 3, none⟩) (Nat.le_refl _) _⟩
              case measure => simp [intOf]; omega
            · have a0' : decide (st * 2 ≤ left) = false := decide_eq_false a0
              clear a
              go_wp2_with (fail)
              go_roundw
              case rel => exact ⟨left - st, lev + st * r, rfl, by omega, by omega, by omega, by omega, HS.out, HC.out.s3 _, HZ.out.apart _ _ (by omega), HBL.out.setCell (p := ⟨w.heap.size, 3, none⟩) (Nat.le_refl _) _⟩
              case measure => simp [intOf]; omega
    · have hTl : lev = T := by
        have hM := HM.out
        have h3 : 0 ≤ left * r := Int.mul_nonneg f0 (by omega)
        by_cases q : left = 0
        · subst q
          simp only [Int.zero_mul] at hM
          omega
        · have : ¬ lev < b * 1000000 := fun h => stop ⟨by omega, h⟩
          omega
      subst hTl
      clear HM hz
      have z0 := HZ.out.f0
      have z1 := HZ.out.f1
      have z2 := HZ.out.f2
      have z3 := HZ.out.f3
      have y0 := HZ.out.c0
      have y1 := HZ.out.c1
      have y2 := HZ.out.c2
      have y3 := HZ.out.c3
      by_cases s0 : 0 < left
      · have d0 : decide (0 < left) = true := decide_eq_true s0
        have d1 : decide (lev < b * 1000000) = false := decide_eq_false fun h => stop ⟨s0, h⟩
        clear stop
        go_wp2_with (fail)
        refine bodyPost_ret (results_cell_row rfl _ _ (w.heap.size + 1) 43 #[.int .u64 r, .int .u64 b, .int .u64 now, .int .u64 lev] (0, 0) _ rfl (((((HZ.out.apart 2 (.int .u64 now) (by omega)).s0 r).s1 b).s2 now).s3 lev).heap Try.underlying43 rfl (by kernel_rfl)) rfl ?_
        exact ⟨rfl, ((((HBL.out.setCell (p := ⟨w.heap.size, 2, none⟩) (Nat.le_refl _) _).setCell (p := ⟨w.heap.size + 1, 0, none⟩) (by simp) _).setCell (p := ⟨w.heap.size + 1, 1, none⟩) (by simp) _).setCell (p := ⟨w.heap.size + 1, 2, none⟩) (by simp) _).setCell (p := ⟨w.heap.size + 1, 3, none⟩) (by simp) _⟩
      · have d0 : decide (0 < left) = false := decide_eq_false s0
        clear stop
        go_wp2_with (fail)
        refine bodyPost_ret (results_cell_row rfl _ _ (w.heap.size + 1) 43 #[.int .u64 r, .int .u64 b, .int .u64 now, .int .u64 lev] (0, 0) _ rfl (((((HZ.out.apart 2 (.int .u64 now) (by omega)).s0 r).s1 b).s2 now).s3 lev).heap Try.underlying43 rfl (by kernel_rfl)) rfl ?_
        exact ⟨rfl, ((((HBL.out.setCell (p := ⟨w.heap.size, 2, none⟩) (Nat.le_refl _) _).setCell (p := ⟨w.heap.size + 1, 0, none⟩) (by simp) _).setCell (p := ⟨w.heap.size + 1, 1, none⟩) (by simp) _).setCell (p := ⟨w.heap.size + 1, 2, none⟩) (by simp) _).setCell (p := ⟨w.heap.size + 1, 3, none⟩) (by simp) _⟩
theorem ref_c (o : Ok r b t l) (n1 : 0 ≤ now) (n2 : now < 18446744073709551616) :
    Calls Try.prog 16 #[.agg #[.int .u64 r, .int .u64 b, .int .u64 t, .int .u64 l], .int .u64 now] w fun e w' => e = .returned (.agg #[.int .u64 r, .int .u64 b, .int .u64 (tm t now), .int .u64 (lv r b t l now)]) ∧ Below w.heap.size w w' := by
  by_cases c : now ≤ t
  · have e1 : tm t now = t := if_pos c
    have e2 : lv r b t l now = l := if_pos c
    rw [e1, e2]
    exact ref_early w r b t l now c o
  · have e1 : tm t now = now := if_neg c
    rw [e1]
    exact ref_late w r b t l now o (by omega) n2
theorem results_row_tmp {P : Program} {fn : Func} {p u : Tmp} {ty : TypeId} (h : fn.results = #[.cell p ty, .tmp u]) (tmps : Array Value) (w : World) (g : Nat) (t : TypeId) (cs : Array Value) (fr : Nat × Nat) (d : TypeDesc) (x : Value)
    (hp : tmps.getD p undef = .pointer (some ⟨g, 0, none⟩)) (hg : w.heap[g]? = some (.cells cs t fr))
    (hu : P.underlying ty = some d) (hd : (match d with | .struct _ | .array _ _ => true | _ => false) = true) (hi : (P.info? ty).map (·.size) = some cs.size) (hx : tmps.getD u undef = x) :
    (results fn tmps).run P w = .ok (.tuple #[.agg cs, x]) w := by
  have hp' : tmps[p]?.getD undef = .pointer (some ⟨g, 0, none⟩) := by simpa using hp
  have hx' : tmps[u]?.getD undef = x := by simpa using hx
  simp [results, h, hp', hx', asAddr, run_loadVar_row w g t ty cs fr d hg hu hd hi]
set_option maxHeartbeats 8000000 in
theorem refgo_c (A : Option Addr) (n c : Nat) (zs : List Int) (hr : IntRow .u64 w A n zs) (hn : n ≤ 9223372036854775807) (o : Ok r b t l) (n1 : 0 ≤ now) (n2 : now < 18446744073709551616) :
    Calls Try.prog 17 #[.agg #[.int .u64 r, .int .u64 b, .int .u64 t, .int .u64 l], .int .u64 now, .slice A n c] w fun e w' => (pack (lv r b t l now) zs = none ∧ e = .returned (.tuple #[.agg #[.int .u64 r, .int .u64 b, .int .u64 t, .int .u64 l], .bool false]) ∨
      ∃ L, pack (lv r b t l now) zs = some L ∧ e = .returned (.tuple #[.agg #[.int .u64 r, .int .u64 b, .int .u64 (tm t now), .int .u64 L], .bool true])) ∧ Below w.heap.size w w' := by
  have ob := o.b2
  have ob1 := o.b1
  have hl := lv_ok now o
  have ac := ref_c (w.alloc (.cells #[.int .u64 r, .int .u64 b, .int .u64 t, .int .u64 l] 43) |>.alloc (.cells #[.int .u64 0, .int .u64 0, .int .u64 0, .int .u64 0] 43)) r b t l now o n1 n2
  generalize lv r b t l now = L0 at ac hl ⊢
  generalize tm t now = T at ac ⊢
  have HR := Lib.hid hr
  have HL := Lib.hid hl
  have hu43 := Try.underlying43
  clear hr hl
  go_enter Try.func17, Try.ntmps17
  go_wp2_with (fail)
  refine ac.mono ?_
  rintro e w1 ⟨rfl, b1⟩
  have HP : Hid (Rf w1 w.heap.size r b t l) := Lib.hid ((Rf.new2 w _ r b t l).below b1)
  have HZ : Hid (Rf w1 (w.heap.size + 1) 0 0 0 0) := Lib.hid (Rf.below (by have := Rf.new (w.alloc (.cells #[.int .u64 r, .int .u64 b, .int .u64 t, .int .u64 l] 43)) 0 0 0 0; simpa using this) b1)
  have hsz := b1.size
  simp at hsz
  have B1 : Hid (Below w.heap.size w w1) := Lib.hid ((((Below.refl _ _).alloc (Nat.le_refl _) _).alloc (by simp) _).trans (b1.mono (by simp; omega)))
  clear b1 ac
  go_wp2_with (fail)
  go_loopw [9] (fun i wr => ∃ (k : Nat) (Lk : Int), k ≤ n ∧ i = .int .i64 k ∧ 0 ≤ Lk ∧ Lk ≤ b * 1000000 ∧ pack Lk (zs.drop k) = pack L0 zs ∧ Rf wr w1.heap.size r b T Lk ∧ Rf wr w.heap.size r b t l ∧ Rf wr (w.heap.size + 1) 0 0 0 0 ∧ Below w.heap.size w wr) (fun i _ => n - (intOf i).toNat)
  case atStart => exact ⟨0, L0, Nat.zero_le _, rfl, HL.out.1, HL.out.2, rfl, Rf.new _ _ _ _ _, HP.out.below ((Below.refl _ _).alloc (Nat.le_refl _) _), HZ.out.below ((Below.refl _ _).alloc (Nat.le_refl _) _), B1.out.alloc B1.out.size _⟩
  case round =>
    obtain ⟨k, Lk, hk, rfl, l0, l1, hp, hq, hpp, hz, hbl⟩ := hrel
    have HPK := Lib.hid hp
    have HQ := Lib.hid hq
    have HP2 := Lib.hid hpp
    have HZ2 := Lib.hid hz
    have HBL := Lib.hid hbl
    clear HP HZ
    by_cases hlt : k < n
    · obtain ⟨bb, off, rfl, hbl2, hz2⟩ := HR.out.2.resolve_left (by omega)
      have hzk := hz2 k hlt
      have hcell := below_cell hbl hzk.1
      have hw := bounds64 hzk.2
      have hpk := pack_cons Lk zs k (by have := HR.out.1; omega)
      generalize zs.getD k 0 = x at *
      obtain ⟨x0, x1⟩ := hw
      have c3 := hq.c3
      have g3 := hq.f3
      have d1 := hpp.c1
      have i0 : (0 : Int) ≤ (k : Int) := by omega
      have i1 : (k : Int) < (n : Int) := by omega
      have HPC := Lib.hid hpk
      clear hpk hp hzk hz2
      by_cases big : b < x
      · have big' : decide (b < x) = true := decide_eq_true big
        have hnone : Hid (pack L0 zs = none) := Lib.hid (by rw [← HPK.out, HPC.out, if_neg (by omega)])
        have d0 := hpp.c0
        have d2 := hpp.c2
        have d3 := hpp.c3
        have y0 := hz.f0
        have y1 := hz.f1
        have y2 := hz.f2
        have y3 := hz.f3
        have e0 := hz.c0
        have e1 := hz.c1
        have e2 := hz.c2
        have e3 := hz.c3
        clear hq hpp hz hbl
        go_wp2_with (fail)
        go_quiet (fail)
        go_wp2_with (fail)
        refine bodyPost_ret (results_row_tmp rfl _ _ (w.heap.size + 1) 43 #[.int .u64 r, .int .u64 b, .int .u64 t, .int .u64 l] (0, 0) _ (.bool false) rfl (((((HZ2.out.drewN nq).s0 r).s1 b).s2 t).s3 l).heap Try.underlying43 rfl (by kernel_rfl) rfl) rfl ?_
        exact ⟨.inl ⟨hnone.out, rfl⟩, ((((below_drewN HBL.out _).setCell (p := ⟨w.heap.size + 1, 0, none⟩) (by simp) _).setCell (p := ⟨w.heap.size + 1, 1, none⟩) (by simp) _).setCell (p := ⟨w.heap.size + 1, 2, none⟩) (by simp) _).setCell (p := ⟨w.heap.size + 1, 3, none⟩) (by simp) _⟩
      · have big' : decide (b < x) = false := decide_eq_false big
        by_cases fit : x * 1000000 ≤ Lk
        · have fit' : decide (Lk < x * 1000000) = false := decide_eq_false (by omega)
          have HNX : Hid (pack (Lk - x * 1000000) (zs.drop (k + 1)) = pack L0 zs) := Lib.hid (by rw [← HPK.out, HPC.out, if_pos fit])
          clear hq hpp hz hbl
          go_wp2_with (fail)
          go_quiet (fail)
          go_wp2_with (fail)
          go_region
          all_goals
            go_wp2_with (fail)
            go_roundw
            case rel => exact ⟨k + 1, Lk - x * 1000000, by omega, by go_num, by omega, by omega, HNX.out, (HQ.out.drewN _).s3 _, (HP2.out.drewN _).apart _ _ (by omega), (HZ2.out.drewN _).apart _ _ (by omega), (below_drewN HBL.out _).setCell (p := ⟨w1.heap.size, 3, none⟩) (by simp; omega) _⟩
            case measure => simp [intOf]; omega
        · have fit' : decide (Lk < x * 1000000) = true := decide_eq_true (by omega)
          have hnone : Hid (pack L0 zs = none) := Lib.hid (by rw [← HPK.out, HPC.out, if_neg (by omega)])
          have d0 := hpp.c0
          have d2 := hpp.c2
          have d3 := hpp.c3
          have y0 := hz.f0
          have y1 := hz.f1
          have y2 := hz.f2
          have y3 := hz.f3
          have e0 := hz.c0
          have e1 := hz.c1
          have e2 := hz.c2
          have e3 := hz.c3
          clear hq hpp hz hbl
          go_wp2_with (fail)
          go_quiet (fail)
          go_wp2_with (fail)
          refine bodyPost_ret (results_row_tmp rfl _ _ (w.heap.size + 1) 43 #[.int .u64 r, .int .u64 b, .int .u64 t, .int .u64 l] (0, 0) _ (.bool false) rfl (((((HZ2.out.drewN nq).s0 r).s1 b).s2 t).s3 l).heap Try.underlying43 rfl (by kernel_rfl) rfl) rfl ?_
          exact ⟨.inl ⟨hnone.out, rfl⟩, ((((below_drewN HBL.out _).setCell (p := ⟨w.heap.size + 1, 0, none⟩) (by simp) _).setCell (p := ⟨w.heap.size + 1, 1, none⟩) (by simp) _).setCell (p := ⟨w.heap.size + 1, 2, none⟩) (by simp) _).setCell (p := ⟨w.heap.size + 1, 3, none⟩) (by simp) _⟩
    · have e : k = n := by omega
      have hdone : Hid (pack L0 zs = some Lk) := Lib.hid (by rw [← HPK.out, e, ← HR.out.1, List.drop_length]; rfl)
      have c0 := hq.c0
      have c1 := hq.c1
      have c2 := hq.c2
      have c3 := hq.c3
      have y0 := hz.f0
      have y1 := hz.f1
      have y2 := hz.f2
      have y3 := hz.f3
      have e0 := hz.c0
      have e1 := hz.c1
      have e2 := hz.c2
      have e3 := hz.c3
      clear hq hpp hz hbl hp e
      go_wp2_with (fail)
      refine bodyPost_ret (results_row_tmp rfl _ _ (w.heap.size + 1) 43 #[.int .u64 r, .int .u64 b, .int .u64 T, .int .u64 Lk] (0, 0) _ (.bool true) rfl ((((HZ2.out.s0 r).s1 b).s2 T).s3 Lk).heap Try.underlying43 rfl (by kernel_rfl) rfl) rfl ?_
      exact ⟨.inr ⟨Lk, hdone.out, rfl⟩, (((HBL.out.setCell (p := ⟨w.heap.size + 1, 0, none⟩) (by simp) _).setCell (p := ⟨w.heap.size + 1, 1, none⟩) (by simp) _).setCell (p := ⟨w.heap.size + 1, 2, none⟩) (by simp) _).setCell (p := ⟨w.heap.size + 1, 3, none⟩) (by simp) _⟩
end
end Go.Proofs.Ytkkkobmeoalgnaa
