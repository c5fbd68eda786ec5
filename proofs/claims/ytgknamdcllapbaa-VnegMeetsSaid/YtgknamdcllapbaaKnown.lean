/- The document's examples, and its errors: the walk of VnegKnown. -/
import Derived.Test.YtgknamdcllapbaaTakeRef
import Derived.OwnWalk
namespace Go.Proofs.Ytgknamdcllapbaa
set_option linter.unusedVariables false
set_option linter.unusedSimpArgs false
open Go.RowKit
theorem results_row_tmp {P : Program} {fn : Func} {p u : Tmp} {ty : TypeId} (h : fn.results = #[.cell p ty, .tmp u]) (tmps : Array Value) (w : World) (g : Nat) (t : TypeId) (cs : Array Value) (fr : Nat × Nat) (d : TypeDesc) (x : Value)
    (hp : tmps.getD p undef = .pointer (some ⟨g, 0, none⟩)) (hg : w.heap[g]? = some (.cells cs t fr))
    (hu : P.underlying ty = some d) (hd : (match d with | .struct _ | .array _ _ => true | _ => false) = true) (hi : (P.info? ty).map (·.size) = some cs.size) (hx : tmps.getD u undef = x) :
    (results fn tmps).run P w = .ok (.tuple #[.agg cs, x]) w := by
  have hp' : tmps[p]?.getD undef = .pointer (some ⟨g, 0, none⟩) := by simpa using hp
  have hx' : tmps[u]?.getD undef = x := by simpa using hx
  simp [results, h, hp', hx', asAddr, run_loadVar_row w g t ty cs fr d hg hu hd hi]
/-- The packet of no parts, in memory. -/
def NilP (w : World) (g : Nat) : Prop := w.heap[g]? = some (.cells #[.slice none 0 0, .slice none 0 0, .slice none 0 0] 32 (0, 0))
theorem NilP.set {w : World} {g : Nat} (i : Nat) (h : NilP w g) : NilP (w.setCell ⟨g, i, none⟩ (.slice none 0 0)) g := by
  have := blk_set (i := i) (.slice none 0 0) h
  unfold NilP
  rw [this]
  congr 2
  match i with
  | 0 => rfl
  | 1 => rfl
  | 2 => rfl
  | i + 3 => simp [Array.setIfInBounds]
set_option maxHeartbeats 8000000 in
theorem take_bad (w : World) (A : Option Addr) (n c : Nat) (zs : List Int) (hr : IntRow .u8 w A n zs) (hn : n ≤ 100000) (hc : n ≤ c) (hcm : c ≤ maxLen) (ht : takeOf zs = none) :
    Calls Try.prog 19 #[.slice A n c] w fun e w' => e = .returned (.tuple #[.agg #[.slice none 0 0, .slice none 0 0, .slice none 0 0], .int .i64 2]) ∧ Below w.heap.size w w' := by
  have hu32 := Try.underlying32
  have hb0 : Below w.heap.size w (w.alloc (.cells #[.slice none 0 0, .slice none 0 0, .slice none 0 0] 32)) := (Below.refl _ _).alloc (Nat.le_refl _) _
  have SC := Lib.hid (split_c (w.alloc (.cells #[.slice none 0 0, .slice none 0 0, .slice none 0 0] 32)) A n c zs (hr.below hb0) hn hc hcm)
  have HB0 := Lib.hid hb0
  have HZ := Lib.hid (row_byte hr)
  have LEN := Lib.hid hr.1
  have HTK := Lib.hid ht
  clear hr hb0 ht
  go_enter Try.func19, Try.ntmps19
  go_wp2_with (fail)
  refine SC.out.mono ?_
  rintro e w1 (⟨hs, ⟨x1, x2, x3, x4, rfl⟩, b1⟩ | ⟨v, d, s, r, hs, V1, V2, S3, k, m, rfl, o1, o2, hk, hkm, hmm, hS3, r3, b1⟩)
  · have N1 : NilP w1 w.heap.size := by unfold NilP; rw [b1.block _ (by simp)]; exact blk_new _ _
    have B1 := Lib.hid (nextB HB0.out b1)
    have HN := Lib.hid N1
    have f0 := blk_frozen N1 0
    have f1 := blk_frozen N1 1
    have f2 := blk_frozen N1 2
    have z0 : w1.cell? ⟨w.heap.size, 0, none⟩ = some (.slice none 0 0) := (blk_cell N1 0).trans rfl
    have z1 : w1.cell? ⟨w.heap.size, 1, none⟩ = some (.slice none 0 0) := (blk_cell N1 1).trans rfl
    have z2 : w1.cell? ⟨w.heap.size, 2, none⟩ = some (.slice none 0 0) := (blk_cell N1 2).trans rfl
    clear hs b1 N1
    go_wp2_with (fail)
    refine bodyPost_ret (results_row_tmp rfl _ _ w.heap.size 32 #[.slice none 0 0, .slice none 0 0, .slice none 0 0] (0, 0) _ (.int .i64 2) rfl (((HN.out.set 0).set 1).set 2) Try.underlying32 rfl (by kernel_rfl) rfl) rfl ?_
    exact ⟨rfl, ((B1.out.setCell (p := ⟨w.heap.size, 0, none⟩) (Nat.le_refl _) _).setCell (p := ⟨w.heap.size, 1, none⟩) (Nat.le_refl _) _).setCell (p := ⟨w.heap.size, 2, none⟩) (Nat.le_refl _) _⟩
  · have hk3 : k = r.length := r3.1.symm
    have hcond : ¬ (v = 0 ∧ 4 ≤ k ∧ k ≤ 256 ∧ k % 4 = 0) := by
      intro hh
      have h := HTK.out
      unfold takeOf at h
      rw [hs] at h
      simp only at h
      rw [← hk3, if_pos hh] at h
      cases h
    have hsl := split_len HZ.out hs
    obtain ⟨l1, l2, v0, v1, l3, m1, m2, m3⟩ := hsl
    have N1 : NilP w1 w.heap.size := by unfold NilP; rw [b1.block _ (by simp)]; exact blk_new _ _
    have B1 := Lib.hid (nextB HB0.out b1)
    have HN := Lib.hid N1
    have f0 := blk_frozen N1 0
    have f1 := blk_frozen N1 1
    have f2 := blk_frozen N1 2
    have z0 : w1.cell? ⟨w.heap.size, 0, none⟩ = some (.slice none 0 0) := (blk_cell N1 0).trans rfl
    have z1 : w1.cell? ⟨w.heap.size, 1, none⟩ = some (.slice none 0 0) := (blk_cell N1 1).trans rfl
    have z2 : w1.cell? ⟨w.heap.size, 2, none⟩ = some (.slice none 0 0) := (blk_cell N1 2).trans rfl
    have hkb : k ≤ 100000 := by have := LEN.out; omega
    clear hs b1 N1 o1 o2 r3 hk3 l1 l2 l3 m1 m2 m3 hk hkm hmm hS3
    by_cases vz : v = 0
    · subst vz
      by_cases k0 : k = 0
      · have t0 : ((k : Int) == 0) = true := by simp; omega
        clear hcond k0
        go_wp2_with (fail)
        refine bodyPost_ret (results_row_tmp rfl _ _ w.heap.size 32 #[.slice none 0 0, .slice none 0 0, .slice none 0 0] (0, 0) _ (.int .i64 2) rfl (((HN.out.set 0).set 1).set 2) Try.underlying32 rfl (by kernel_rfl) rfl) rfl ?_
        exact ⟨rfl, ((B1.out.setCell (p := ⟨w.heap.size, 0, none⟩) (Nat.le_refl _) _).setCell (p := ⟨w.heap.size, 1, none⟩) (Nat.le_refl _) _).setCell (p := ⟨w.heap.size, 2, none⟩) (Nat.le_refl _) _⟩
      · have t0 : ((k : Int) == 0) = false := by simp; omega
        by_cases k4 : k % 4 = 0
        · have t1 : ((k : Int) % 4 != 0) = false := by simp; omega
          have t2 : decide ((256 : Int) < (k : Int)) = true := decide_eq_true (by omega)
          clear hcond k0 k4
          go_wp2_with (fail)
          refine bodyPost_ret (results_row_tmp rfl _ _ w.heap.size 32 #[.slice none 0 0, .slice none 0 0, .slice none 0 0] (0, 0) _ (.int .i64 2) rfl (((HN.out.set 0).set 1).set 2) Try.underlying32 rfl (by kernel_rfl) rfl) rfl ?_
          exact ⟨rfl, ((B1.out.setCell (p := ⟨w.heap.size, 0, none⟩) (Nat.le_refl _) _).setCell (p := ⟨w.heap.size, 1, none⟩) (Nat.le_refl _) _).setCell (p := ⟨w.heap.size, 2, none⟩) (Nat.le_refl _) _⟩
        · have t1 : ((k : Int) % 4 != 0) = true := by simp; omega
          clear hcond k0 k4
          go_wp2_with (fail)
          refine bodyPost_ret (results_row_tmp rfl _ _ w.heap.size 32 #[.slice none 0 0, .slice none 0 0, .slice none 0 0] (0, 0) _ (.int .i64 2) rfl (((HN.out.set 0).set 1).set 2) Try.underlying32 rfl (by kernel_rfl) rfl) rfl ?_
          exact ⟨rfl, ((B1.out.setCell (p := ⟨w.heap.size, 0, none⟩) (Nat.le_refl _) _).setCell (p := ⟨w.heap.size, 1, none⟩) (Nat.le_refl _) _).setCell (p := ⟨w.heap.size, 2, none⟩) (Nat.le_refl _) _⟩
    · have tv : (v != 0) = true := by simpa using vz
      clear hcond vz
      go_wp2_with (fail)
      refine bodyPost_ret (results_row_tmp rfl _ _ w.heap.size 32 #[.slice none 0 0, .slice none 0 0, .slice none 0 0] (0, 0) _ (.int .i64 2) rfl (((HN.out.set 0).set 1).set 2) Try.underlying32 rfl (by kernel_rfl) rfl) rfl ?_
      exact ⟨rfl, ((B1.out.setCell (p := ⟨w.heap.size, 0, none⟩) (Nat.le_refl _) _).setCell (p := ⟨w.heap.size, 1, none⟩) (Nat.le_refl _) _).setCell (p := ⟨w.heap.size, 2, none⟩) (Nat.le_refl _) _⟩
theorem split_zero (n : Nat) : split (List.replicate n 0) = none := by
  unfold split
  rw [if_neg]
  rintro ⟨h1, h2⟩
  have : (List.replicate n (0 : Int)).getD 0 0 = 0 := by
    cases n <;> simp
  rw [this] at h2
  omega
theorem made_zero (k : IntKind) (n : Nat) : (madeCells (Value.int k 0).cells (n * 1)).toList = (List.replicate n (0 : Int)).map (Value.int k) := by
  rw [Nat.mul_one]
  show (madeCells #[Value.int k 0] n).toList = _
  rw [toList_madeCells_one, List.map_replicate]
set_option maxRecDepth 100000 in
set_option maxHeartbeats 20000000 in
theorem known_c (w : World) : Calls Try.prog 6 #[] w fun e w' => e = .returned (.bool true) ∧ Below w.heap.size w w' := by
  have hu32 := Try.underlying32
  obtain ⟨i0, hi, hz0, hz1, hz2⟩ := info_parts info5
  obtain ⟨j0, hj, hy0, hy1, hy2⟩ := info_parts info23
  have HI := Lib.hid hi
  have HJ := Lib.hid hj
  have HZ0 := Lib.hid hz0
  have HZ1 := Lib.hid hz1
  have HZ2 := Lib.hid hz2
  have HY0 := Lib.hid hy0
  have HY1 := Lib.hid hy1
  have HY2 := Lib.hid hy2
  clear hi hz0 hz1 hz2 hj hy0 hy1 hy2
  go_enter Try.func6, Try.ntmps6
  go_wp2_with (fail)
  refine (put_no none 0 0 none 0 0 none 0 0 w (by omega) (by omega) (by omega) (by omega)).mono ?_
  rintro e w1 ⟨rfl, b1⟩
  have B1 := Lib.hid b1
  clear b1
  go_wp2_with (refine wpList_make_full _ rfl _ _ 22 rfl w1.heap.size 23 j0 (.int .u32 0) 1 Try.underlying22 HJ.out HY0.out HY1.out .i64 .i64 65 65 65 rfl rfl rfl rfl (by rw [HY2.out]; omega) (by unfold maxLen; omega) (Nat.le_refl _) ?_; intro w2 ho2 hg2; have B2 : Hid (Below w.heap.size w w2) := Lib.hid (B1.out.grown hg2 B1.out.size (fun k hk => by cases hk)); clear ho2 hg2)
  refine (put_no none 0 0 none 0 0 (some ⟨w1.heap.size, 0, none⟩) 65 65 w2 (by omega) (by omega) (by omega) (by omega)).mono ?_
  rintro e w3 ⟨rfl, b3⟩
  have B3 := Lib.hid (nextB B2.out b3)
  clear b3
  go_wp2_with (fail)
  refine (take_bad w3 none 0 0 [] ⟨rfl, .inl rfl⟩ (by omega) (by omega) (by unfold maxLen; omega) (by decide +kernel)).mono ?_
  rintro e w4 ⟨rfl, b4⟩
  have B4 := Lib.hid (nextB B3.out b4)
  clear b4
  obtain ⟨w5, hw5⟩ : ∃ w5 : World, w4.alloc (.cells #[.slice none 0 0, .slice none 0 0, .slice none 0 0] 32) = w5 := ⟨_, rfl⟩
  have B5 : Hid (Below w.heap.size w w5) := Lib.hid (by rw [← hw5]; exact B4.out.alloc B4.out.size _)
  have HW5 := Lib.hid hw5
  clear hw5
  go_wp2_with (rw [HW5.out]; refine wpList_make_full _ rfl _ _ 30 rfl w5.heap.size 5 i0 (.int .u8 0) 1 Try.underlying30 HI.out HZ0.out HZ1.out .i64 .i64 1300 1300 1300 rfl rfl rfl rfl (by rw [HZ2.out]; omega) (by unfold maxLen; omega) (Nat.le_refl _) ?_; intro w6 ho6 hg6; have B6 : Hid (Below w.heap.size w w6) := Lib.hid (B5.out.grown hg6 B5.out.size (fun k hk => by cases hk)); have O6 := Lib.hid ho6; clear ho6 hg6)
  have R6 : IntRow .u8 w6 (some ⟨w5.heap.size, 0, none⟩) 1300 (List.replicate 1300 0) := by
    have h := O6.out
    rw [made_zero] at h
    obtain ⟨A, n, c, he, _, _, _, hr⟩ := own_row h (fun x hx => by rw [List.eq_of_mem_replicate hx]; exact wf8 (by omega) (by omega))
    cases he
    exact hr
  have hb6 : Below w6.heap.size w6 (w6.alloc (.cells #[.int .u32 1] 23)) := (Below.refl _ _).alloc (Nat.le_refl _) _
  refine (reply_c (w6.alloc (.cells #[.int .u32 1] 23)) (some ⟨w5.heap.size, 0, none⟩) 1300 1300 (List.replicate 1300 0) (some ⟨w6.heap.size, 0, none⟩) 1 1 [1] (R6.below hb6) (by omega) (by omega) (by unfold maxLen; omega) (row_block (blk_new w6 _) rfl (fun y hy => by simp at hy; exact wf32 (by omega) (by omega)) 1 rfl) (by omega)).mono ?_
  rintro e w7 hrep
  have hx : e = .returned (.tuple #[.slice none 0 0, .int .i64 4]) ∧ Below (w6.alloc (.cells #[.int .u32 1] 23)).heap.size (w6.alloc (.cells #[.int .u32 1] 23)) w7 := by
    rcases hrep with ⟨_, h, hb⟩ | ⟨d, s, ⟨v, r, hs, _⟩, _⟩ | ⟨d, s, V, ⟨v, r, hs, _⟩, _⟩
    · exact ⟨h, hb⟩
    · rw [split_zero] at hs; cases hs
    · rw [split_zero] at hs; cases hs
  obtain ⟨rfl, b7⟩ := hx
  have B7 : Hid (Below w.heap.size w w7) := Lib.hid (nextB B6.out (nextB hb6 b7))
  clear hrep b7 hb6 R6
  have nx8 := next_c ((w7.alloc (.cells #[.int .u32 7] 23)).alloc (.cells #[.int .u32 7] 23)) none 0 0 [] none 0 0 [] (some ⟨w7.heap.size, 0, none⟩) 1 1 [7] none 0 0 [] none 0 0 [] 7 (some ⟨w7.heap.size + 1, 0, none⟩) 1 1 [7] ⟨rfl, .inl rfl⟩ ⟨rfl, .inl rfl⟩ (row_block (blk_alloc _ (blk_new w7 _)) rfl (fun y hy => by simp at hy; exact wf32 (by omega) (by omega)) 1 rfl) ⟨rfl, .inl rfl⟩ ⟨rfl, .inl rfl⟩ (row_block (by simpa using blk_new (w7.alloc (.cells #[.int .u32 7] 23)) (.cells #[.int .u32 7] 23)) rfl (fun y hy => by simp at hy; exact wf32 (by omega) (by omega)) 1 rfl) (by omega) (by omega)
  rw [show nextOf [] [] [7] [] [] [7] 7 = (0, 6) from by decide +kernel] at nx8
  have hb8 : Below w7.heap.size w7 ((w7.alloc (.cells #[.int .u32 7] 23)).alloc (.cells #[.int .u32 7] 23)) := ((Below.refl _ _).alloc (Nat.le_refl _) _).alloc (by simp) _
  go_wp2_with (fail)
  refine nx8.mono ?_
  rintro e w8 ⟨rfl, bb8⟩
  have B8 : Hid (Below w.heap.size w w8) := Lib.hid (nextB B7.out (nextB hb8 bb8))
  clear nx8 hb8 bb8
  have nx9 := next_c (((w8.alloc (.cells #[.int .u32 7] 23)).alloc (.cells #[.int .u8 1] 5)).alloc (.cells #[.int .u32 7] 23)) none 0 0 [] none 0 0 [] (some ⟨w8.heap.size, 0, none⟩) 1 1 [7] none 0 0 [] (some ⟨w8.heap.size + 1, 0, none⟩) 1 1 [1] 8 (some ⟨w8.heap.size + 1 + 1, 0, none⟩) 1 1 [7] ⟨rfl, .inl rfl⟩ ⟨rfl, .inl rfl⟩ (row_block (blk_alloc _ (blk_alloc _ (blk_new w8 _))) rfl (fun y hy => by simp at hy; exact wf32 (by omega) (by omega)) 1 rfl) ⟨rfl, .inl rfl⟩ (row_block (blk_alloc _ (by simpa using blk_new (w8.alloc (.cells #[.int .u32 7] 23)) (.cells #[.int .u8 1] 5))) rfl (fun y hy => by simp at hy; exact wf8 (by omega) (by omega)) 1 rfl) (row_block (by simpa using blk_new ((w8.alloc (.cells #[.int .u32 7] 23)).alloc (.cells #[.int .u8 1] 5)) (.cells #[.int .u32 7] 23)) rfl (fun y hy => by simp at hy; exact wf32 (by omega) (by omega)) 1 rfl) (by omega) (by omega)
  rw [show nextOf [] [] [7] [] [1] [7] 8 = (0, 2) from by decide +kernel] at nx9
  have hb9 : Below w8.heap.size w8 (((w8.alloc (.cells #[.int .u32 7] 23)).alloc (.cells #[.int .u8 1] 5)).alloc (.cells #[.int .u32 7] 23)) := (((Below.refl _ _).alloc (Nat.le_refl _) _).alloc (by simp) _).alloc (by simp; omega) _
  go_wp2_with (fail)
  refine nx9.mono ?_
  rintro e w9 ⟨rfl, bb9⟩
  have B9 : Hid (Below w.heap.size w w9) := Lib.hid (nextB B8.out (nextB hb9 bb9))
  clear nx9 hb9 bb9
  have nx10 := next_c ((w9.alloc (.cells #[.int .u32 7] 23)).alloc (.cells #[.int .u32 9] 23)) none 0 0 [] none 0 0 [] (some ⟨w9.heap.size, 0, none⟩) 1 1 [7] none 0 0 [] none 0 0 [] 8 (some ⟨w9.heap.size + 1, 0, none⟩) 1 1 [9] ⟨rfl, .inl rfl⟩ ⟨rfl, .inl rfl⟩ (row_block (blk_alloc _ (blk_new w9 _)) rfl (fun y hy => by simp at hy; exact wf32 (by omega) (by omega)) 1 rfl) ⟨rfl, .inl rfl⟩ ⟨rfl, .inl rfl⟩ (row_block (by simpa using blk_new (w9.alloc (.cells #[.int .u32 7] 23)) (.cells #[.int .u32 9] 23)) rfl (fun y hy => by simp at hy; exact wf32 (by omega) (by omega)) 1 rfl) (by omega) (by omega)
  rw [show nextOf [] [] [7] [] [] [9] 8 = (0, 4) from by decide +kernel] at nx10
  have hb10 : Below w9.heap.size w9 ((w9.alloc (.cells #[.int .u32 7] 23)).alloc (.cells #[.int .u32 9] 23)) := ((Below.refl _ _).alloc (Nat.le_refl _) _).alloc (by simp) _
  go_wp2_with (fail)
  refine nx10.mono ?_
  rintro e w10 ⟨rfl, bb10⟩
  have B10 : Hid (Below w.heap.size w w10) := Lib.hid (nextB B9.out (nextB hb10 bb10))
  clear nx10 hb10 bb10
  have cc := choose_c [0, 168430090] [0, 168430090] (some ⟨w10.heap.size, 0, none⟩) 2 2 (some ⟨w10.heap.size + 1, 0, none⟩) 2 2 ((w10.alloc (.cells #[.int .u32 0, .int .u32 168430090] 23)).alloc (.cells #[.int .u32 0, .int .u32 168430090] 23)) (row_block (blk_alloc _ (blk_new w10 _)) rfl (fun y hy => by simp at hy; exact wf32 (by omega) (by omega)) 2 rfl) (by omega) (row_block (by simpa using blk_new (w10.alloc (.cells #[.int .u32 0, .int .u32 168430090] 23)) (.cells #[.int .u32 0, .int .u32 168430090] 23)) rfl (fun y hy => by simp at hy; exact wf32 (by omega) (by omega)) 2 rfl) (by omega)
  rw [show pick [0, 168430090] [0, 168430090] = (0, false) from by decide +kernel] at cc
  have hb11 : Below w10.heap.size w10 ((w10.alloc (.cells #[.int .u32 0, .int .u32 168430090] 23)).alloc (.cells #[.int .u32 0, .int .u32 168430090] 23)) := ((Below.refl _ _).alloc (Nat.le_refl _) _).alloc (by simp) _
  have HB11 := Lib.hid (nextB B10.out hb11)
  clear hb11
  go_wp2_with (fail)
  refine cc.mono ?_
  rintro e w11 ⟨rfl, rfl⟩
  clear cc
  go_wp2_with (fail)
  refine (works_c _).mono ?_
  rintro e w12 ⟨rfl, b12⟩
  have B12 := Lib.hid (nextB HB11.out b12)
  clear b12
  go_wp2_with (fail)
  go_ret
  exact ⟨rfl, B12.out⟩
end Go.Proofs.Ytgknamdcllapbaa
