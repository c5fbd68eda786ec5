/- The walk of VnegMeets. -/
import Derived.Test.YtgknamdcllapbaaMeetsP
import Derived.Test.YtgknamdcllapbaaZeros
import Derived.Test.YtgknamdcllapbaaNext
import Derived.Test.YtgknamdcllapbaaTake
import Derived.Test.YtgknamdcllapbaaArgs
namespace Go.Proofs.Ytgknamdcllapbaa
set_option linter.unusedVariables false
set_option linter.unusedSimpArgs false
open Go.RowKit
/-- The greater of two numbers, shut. -/
def mxi (x y : Int) : Int := if x < y then y else x
theorem mxi_two (x y : Int) : x ≤ mxi x y ∧ y ≤ mxi x y ∧ (mxi x y = x ∨ mxi x y = y) := by unfold mxi; split <;> omega
theorem max2_mxi (k k' : IntKind) (x y : Int) : Builtin.max2 (.int k x) (.int k' y) = pure (.int k (mxi x y)) := max2_int k k' x y
attribute [irreducible] mxi
attribute [local go_sem] max_two max2_mxi
theorem replied_ok {w w' : World} {zs mine d s r : List Int} {v : Int} {e : Ending} (h : Replied w zs mine e w') (hs : split zs = some (v, d, s, r)) (hl : 1200 ≤ zs.length) (h0 : v ≠ 0) (hn : v ∉ mine) (h1 : 1 ≤ mine.length) (h2 : mine.length ≤ 64) :
    ∃ V, e = .returned (.tuple #[V, .int .i64 0]) ∧ Made w (packet s d mine) V w' := by
  rcases h with ⟨hm, _⟩ | ⟨_, _, _, hne, _⟩ | ⟨d', s', V, hh, _, he, hm⟩
  · exfalso
    rcases hm with hm | ⟨v', d', s', r', hm, hx⟩
    · rw [hs] at hm; cases hm
    · rw [hs] at hm; cases hm
      rcases hx with hx | hx | hx
      · omega
      · exact h0 hx
      · exact hn hx
  · exact absurd ⟨h1, h2⟩ hne
  · obtain ⟨v', r', hs', _⟩ := hh
    rw [hs] at hs'; cases hs'
    exact ⟨V, he, hm⟩
set_option maxRecDepth 100000 in
set_option maxHeartbeats 40000000 in
theorem meets_c (w : World) (C : Option Addr) (cn cc : Nat) (client : List Int) (S : Option Addr) (sn sc : Nat) (server : List Int) (tried : Int) (D : Option Addr) (dn dc : Nat) (dst : List Int) (E : Option Addr) (en ec : Nat) (src : List Int) (M : Option Addr) (mn mc : Nat) (more : List Int)
    (a0 : Arg .u32 w C cn cc client) (a1 : Arg .u32 w S sn sc server) (r0 : 0 ≤ tried) (r1 : tried ≤ 4294967295) (a3 : Arg .u8 w D dn dc dst) (a4 : Arg .u8 w E en ec src) (a5 : Arg .u8 w M mn mc more) :
    Calls Try.prog 7 #[.slice C cn cc, .slice S sn sc, .int .u32 tried, .slice D dn dc, .slice E en ec, .slice M mn mc] w fun e w' => e = .returned (.bool true) ∧ Below w.heap.size w w' := by
  have hu32 := Try.underlying32
  obtain ⟨i0, hi, hz0, hz1, hz2⟩ := info_parts info5
  have HI := Lib.hid hi
  have HZ0 := Lib.hid hz0
  have HZ1 := Lib.hid hz1
  have HZ2 := Lib.hid hz2
  have A0 := Lib.hid a0
  have A1 := Lib.hid a1
  have A3 := Lib.hid a3
  have A4 := Lib.hid a4
  have A5 := Lib.hid a5
  have q0 := a0.reachm
  have q1 := a1.reachm
  have q3 := a3.reachm
  have q4 := a4.reachm
  have q5 := a5.reachm
  have hin := contains_c server tried S sn sc w a1.row (by omega)
  clear hi hz0 hz1 hz2 a0 a1 a3 a4 a5
  have hX := mxi_two dn en
  obtain ⟨X, hmx⟩ : ∃ X : Int, mxi dn en = X := ⟨_, rfl⟩
  rw [hmx] at hX
  by_cases g0 : 64 < cn
  · have HX := Lib.hid hX
    have u0 : decide ((64 : Int) < (cn : Int)) = true := by exact decide_eq_true (by omega)
    clear hX
    go_enter Try.func7, Try.ntmps7
    go_wp2_with (fail)
    refine (works_c _).mono ?_
    rintro e w1 ⟨rfl, b1⟩
    have B1 := Lib.hid b1
    clear b1
    go_wp2_with (fail)
    go_ret
    exact ⟨rfl, B1.out⟩
  by_cases g1 : 64 < sn
  · have HX := Lib.hid hX
    have u0 : decide ((64 : Int) < (cn : Int)) = false := by exact decide_eq_false (by omega)
    have u1 : decide ((64 : Int) < (sn : Int)) = true := by exact decide_eq_true (by omega)
    clear hX
    go_enter Try.func7, Try.ntmps7
    go_wp2_with (fail)
    refine (works_c _).mono ?_
    rintro e w1 ⟨rfl, b1⟩
    have B1 := Lib.hid b1
    clear b1
    go_wp2_with (fail)
    go_ret
    exact ⟨rfl, B1.out⟩
  by_cases g2 : sn = 0
  · have HX := Lib.hid hX
    have u0 : decide ((64 : Int) < (cn : Int)) = false := by exact decide_eq_false (by omega)
    have u1 : decide ((64 : Int) < (sn : Int)) = false := by exact decide_eq_false (by omega)
    have u2 : ((sn : Int) == 0) = true := by simp; omega
    clear hX
    go_enter Try.func7, Try.ntmps7
    go_wp2_with (fail)
    refine (works_c _).mono ?_
    rintro e w1 ⟨rfl, b1⟩
    have B1 := Lib.hid b1
    clear b1
    go_wp2_with (fail)
    go_ret
    exact ⟨rfl, B1.out⟩
  by_cases g3 : 255 < X
  · have HX := Lib.hid hX
    have u0 : decide ((64 : Int) < (cn : Int)) = false := by exact decide_eq_false (by omega)
    have u1 : decide ((64 : Int) < (sn : Int)) = false := by exact decide_eq_false (by omega)
    have u2 : ((sn : Int) == 0) = false := by simp; omega
    have u3 : decide ((255 : Int) < X) = true := by exact decide_eq_true (by omega)
    clear hX
    go_enter Try.func7, Try.ntmps7
    go_wp2_with (fail)
    refine (works_c _).mono ?_
    rintro e w1 ⟨rfl, b1⟩
    have B1 := Lib.hid b1
    clear b1
    go_wp2_with (fail)
    go_ret
    exact ⟨rfl, B1.out⟩
  by_cases g4 : 1000 < mn
  · have HX := Lib.hid hX
    have u0 : decide ((64 : Int) < (cn : Int)) = false := by exact decide_eq_false (by omega)
    have u1 : decide ((64 : Int) < (sn : Int)) = false := by exact decide_eq_false (by omega)
    have u2 : ((sn : Int) == 0) = false := by simp; omega
    have u3 : decide ((255 : Int) < X) = false := by exact decide_eq_false (by omega)
    have u4 : decide ((1000 : Int) < (mn : Int)) = true := by exact decide_eq_true (by omega)
    clear hX
    go_enter Try.func7, Try.ntmps7
    go_wp2_with (fail)
    refine (works_c _).mono ?_
    rintro e w1 ⟨rfl, b1⟩
    have B1 := Lib.hid b1
    clear b1
    go_wp2_with (fail)
    go_ret
    exact ⟨rfl, B1.out⟩
  by_cases g5 : tried = 0
  · have HX := Lib.hid hX
    have u0 : decide ((64 : Int) < (cn : Int)) = false := by exact decide_eq_false (by omega)
    have u1 : decide ((64 : Int) < (sn : Int)) = false := by exact decide_eq_false (by omega)
    have u2 : ((sn : Int) == 0) = false := by simp; omega
    have u3 : decide ((255 : Int) < X) = false := by exact decide_eq_false (by omega)
    have u4 : decide ((1000 : Int) < (mn : Int)) = false := by exact decide_eq_false (by omega)
    have u5 : (tried == 0) = true := by simp; omega
    clear hX
    go_enter Try.func7, Try.ntmps7
    go_wp2_with (fail)
    refine (works_c _).mono ?_
    rintro e w1 ⟨rfl, b1⟩
    have B1 := Lib.hid b1
    clear b1
    go_wp2_with (fail)
    go_ret
    exact ⟨rfl, B1.out⟩
  have u0 : decide ((64 : Int) < (cn : Int)) = false := by exact decide_eq_false (by omega)
  have u1 : decide ((64 : Int) < (sn : Int)) = false := by exact decide_eq_false (by omega)
  have u2 : ((sn : Int) == 0) = false := by simp; omega
  have u3 : decide ((255 : Int) < X) = false := by exact decide_eq_false (by omega)
  have u4 : decide ((1000 : Int) < (mn : Int)) = false := by exact decide_eq_false (by omega)
  have u5 : (tried == 0) = false := by simp; omega
  obtain ⟨T, hT⟩ : ∃ T, decide (tried ∈ server) = T := ⟨_, rfl⟩
  rw [hT] at hin
  have HIN := Lib.hid hin
  have HT := Lib.hid hT
  have HX : Hid (X ≤ 255 ∧ (dn : Int) ≤ X ∧ (en : Int) ≤ X) := Lib.hid ⟨by omega, hX.1, hX.2.1⟩
  clear hin hT
  go_enter Try.func7, Try.ntmps7
  go_wp2_with (fail)
  refine HIN.out.mono ?_
  rintro e w' ⟨rfl, rfl⟩
  clear HIN
  cases T
  case true =>
    go_wp2_with (fail)
    refine (works_c _).mono ?_
    rintro e w1 ⟨rfl, b1⟩
    have B1 := Lib.hid b1
    clear b1
    go_wp2_with (fail)
    go_ret
    exact ⟨rfl, B1.out⟩
  have hd255 : dn ≤ 255 := by have := HX.out; omega
  have he255 : en ≤ 255 := by have := HX.out; omega
  have hm1000 : mn ≤ 1000 := by omega
  have GS : Hid (1 ≤ server.length ∧ server.length ≤ 64 ∧ tried ≠ 0 ∧ tried ∉ server) := Lib.hid ⟨by rw [A1.out.row.1]; omega, by rw [A1.out.row.1]; omega, g5, of_decide_eq_false HT.out⟩
  have GC : Hid (cn ≤ 64) := Lib.hid (by omega)
  clear hX hmx g0 g1 g2 g3 g4 g5 u0 u1 u2 u3 u4 u5 HT HX
  go_upto_region 4 with (fail)
  obtain ⟨wA, hwA⟩ : ∃ wA : World, w.alloc (.cells #[.int .u8 195, .int .u8 (tried / 16777216), .int .u8 (tried / 65536 % 256), .int .u8 (tried / 256 % 256), .int .u8 (tried % 256), .int .u8 (dn : Int)] 5) = wA := ⟨_, rfl⟩
  have P0 : Hid (Pre w (195 :: four tried ++ [(dn : Int)]) (.slice (some ⟨w.heap.size, 0, none⟩) 6 6) wA) := Lib.hid (by rw [← hwA]; exact Pre.first w _ _ 6 (by simp [four]; omega) (by simp [four, maxLen]) (by simp [four]))
  have L3 := A3.out.row.1
  have L4 := A4.out.row.1
  have L5 := A5.out.row.1
  rw [hwA]
  clear hwA
  go_wp2_with (first
    | (at_builtin; refine wpList_append_pre w _ rfl (.tmp 71) (.tmp 72) rfl (.slice (some ⟨w.heap.size, 0, none⟩) 6 6) (195 :: four tried ++ [(dn : Int)]) rfl P0.out D dn dc dst rfl (A3.out.row.below P0.out.2) A3.out.nilc (by simp [four]; omega) ?_; intro V1 w1 hp1; have P1 := Lib.hid hp1; clear hp1)
    | (at_builtin; refine wpList_append_pre w _ rfl (.tmp 73) (.tmp 77) rfl V1 (195 :: four tried ++ [(dn : Int)] ++ dst) rfl (P1.out.alloc _) (some ⟨w1.heap.size, 0, none⟩) 1 1 [(en : Int)] rfl (row_block (blk_new w1 _) rfl (fun x hx => by simp at hx; subst hx; exact wf8 (by omega) (by omega)) 1 rfl) (fun h => by cases h) (by simp [four]; omega) ?_; intro V2 w2 hp2; have P2 := Lib.hid hp2; clear hp2)
    | (at_builtin; refine wpList_append_pre w _ rfl (.tmp 78) (.tmp 79) rfl V2 (195 :: four tried ++ [(dn : Int)] ++ dst ++ [(en : Int)]) rfl P2.out E en ec src rfl (A4.out.row.below P2.out.2) A4.out.nilc (by simp [four]; omega) ?_; intro V3 w3 hp3; have P3 := Lib.hid hp3; clear hp3)
    | (at_builtin; refine wpList_append_pre w _ rfl (.tmp 81) (.tmp 82) rfl V3 (195 :: four tried ++ [(dn : Int)] ++ dst ++ [(en : Int)] ++ src) rfl P3.out M mn mc more rfl (A5.out.row.below P3.out.2) A5.out.nilc (by simp [four]; omega) ?_; intro V4 w4 hp4; have P4 := Lib.hid hp4; clear hp4)
    | (at_builtin; refine wpList_append_pre_zeros w _ rfl (.tmp 83) (.const (.int .i64 1200)) rfl V4 (195 :: four tried ++ [(dn : Int)] ++ dst ++ [(en : Int)] ++ src ++ more) rfl P4.out (by simp [four]) 1200 (by omega) rfl (by simp [four]; omega) ?_; intro V5 w5 hp5; have P5 := Lib.hid hp5; clear hp5))
  have LS := A1.out.row.1
  have L0 := A0.out.row.1
  obtain ⟨ZS, hZS⟩ : ∃ ZS : List Int, 195 :: four tried ++ [(dn : Int)] ++ dst ++ [(en : Int)] ++ src ++ more ++ List.replicate 1200 0 = ZS := ⟨_, rfl⟩
  have hform : ZS = begins 195 tried dst src ++ (more ++ List.replicate 1200 0) := by rw [← hZS]; unfold begins; rw [L3, L4]; simp
  have hlen : ZS.length = 7 + dn + en + (mn + 1200) := by rw [hform, List.length_append, begins_length, List.length_append, List.length_replicate, L3, L4, L5]
  have SP : Hid (split ZS = some (tried, dst, src, more ++ List.replicate 1200 0)) := Lib.hid (by rw [hform]; exact split_begins 195 tried dst src _ (by omega) r0 r1)
  have hb5 : ∀ x ∈ ZS, 0 ≤ x ∧ x ≤ 255 := by
    rw [hform]
    intro x hx
    rcases List.mem_append.1 hx with h | h
    · exact begins_byte (by omega) (by omega) (row_byte A3.out.row) (row_byte A4.out.row) (by omega) (by omega) x h
    · rcases List.mem_append.1 h with h | h
      · exact row_byte A5.out.row x h
      · rw [List.eq_of_mem_replicate h]; omega
  rw [hZS] at P5
  obtain ⟨A5', n5, c5, rfl, hle5, hcm5, _, R5'⟩ := own_row P5.out.1 (fun x hx => wf8 (hb5 x hx).1 (hb5 x hx).2)
  have R5 := Lib.hid R5'
  have hn5 : ZS.length = n5 := R5'.1
  clear R5' hb5 hform hZS P0 P1 P2 P3 P4
  refine (reply_c w5 A5' n5 c5 ZS S sn sc server R5.out (by omega) hle5 hcm5 (A1.out.row.below P5.out.2) (by omega)).mono ?_
  rintro e w6 hrep
  obtain ⟨V6, rfl, hm6⟩ := replied_ok hrep SP.out (by omega) GS.out.2.2.1 GS.out.2.2.2 GS.out.1 GS.out.2.1
  have hpb := packet_byte (vs := server) (row_byte A4.out.row) (row_byte A3.out.row) (by omega) (by omega)
  obtain ⟨A6, n6, c6, rfl, hle6, hcm6, _, R6'⟩ := hm6.rv hpb
  have R6 := Lib.hid R6'
  have hn6 : n6 ≤ 1000 := by have h1 := R6'.1; have h2 := GS.out.2.1; rw [packet_length] at h1; omega
  have B6 : Hid (Below w.heap.size w w6) := Lib.hid (nextB P5.out.2 hm6.2)
  clear hrep hm6 hpb R6' SP R5 hn5 hle5 hcm5 hlen P5
  go_wp2_with (fail)
  refine (take_good w6 A6 n6 c6 _ R6.out (by omega) hle6 hcm6 src dst server (takeOf_packet src dst server GS.out.1 GS.out.2.1 (row_u32 A1.out.row))).mono ?_
  rintro e w7 ⟨G1, d1, G2, d2, G3, d3, he, o1, o2, o3, b7⟩
  rw [L4, L3, LS] at he
  rw [L4] at o1
  rw [L3] at o2
  rw [LS] at o3
  subst he
  have O1 := Lib.hid o1
  have O2 := Lib.hid o2
  have O3 := Lib.hid o3
  have B7 : Hid (Below w.heap.size w w7) := Lib.hid (nextB B6.out b7)
  clear o1 o2 o3 b7 R6 hn6 hle6 hcm6 B6
  go_upto_region 10 with (fail)
  obtain ⟨w8, hw8⟩ : ∃ w8 : World, w7.alloc (.cells #[.slice G1 en d1, .slice G2 dn d2, .slice G3 sn d3] 32) = w8 := ⟨_, rfl⟩
  have B78 : Below w7.heap.size w7 w8 := by rw [← hw8]; exact (Below.refl _ _).alloc (Nat.le_refl _) _
  have B8 : Hid (Below w.heap.size w w8) := Lib.hid (nextB B7.out B78)
  have box : w8.heap[w7.heap.size]? = some (.cells #[.slice G1 en d1, .slice G2 dn d2, .slice G3 sn d3] 32 (0, 0)) := by rw [← hw8]; exact blk_new w7 _
  rw [hw8]
  obtain ⟨A', n', c', he, _, _, _, rA'⟩ := own_row O1.out (fun x hx => wf8 (row_byte A4.out.row x hx).1 (row_byte A4.out.row x hx).2)
  cases he
  obtain ⟨A', n', c', he, _, _, _, rB'⟩ := own_row O2.out (fun x hx => wf8 (row_byte A3.out.row x hx).1 (row_byte A3.out.row x hx).2)
  cases he
  obtain ⟨A', n', c', he, _, _, _, rC'⟩ := own_row O3.out (fun x hx => wf32 (row_u32 A1.out.row x hx).1 (row_u32 A1.out.row x hx).2)
  cases he
  have RA := Lib.hid (rA'.below B78)
  have RB := Lib.hid (rB'.below B78)
  have RC := Lib.hid (rC'.below B78)
  have x0 : w8.cell? ⟨w7.heap.size, 0, none⟩ = some (.slice G1 en d1) := (blk_cell box 0).trans rfl
  have x1 : w8.cell? ⟨w7.heap.size, 1, none⟩ = some (.slice G2 dn d2) := (blk_cell box 1).trans rfl
  have x2 : w8.cell? ⟨w7.heap.size, 2, none⟩ = some (.slice G3 sn d3) := (blk_cell box 2).trans rfl
  have kA := conv_row d1 RA.out
  have kB := conv_row ec (A4.out.row.below B8.out)
  have kC := conv_row d2 RB.out
  have kD := conv_row dc (A3.out.row.below B8.out)
  have SQ := Lib.hid (sequal_c w8 G3 sn d3 server S sn sc server RC.out (A1.out.row.below B8.out) (by omega) (by omega))
  rw [show decide (server = server) = true from decide_eq_true rfl] at SQ
  generalize strOfNums src = SS at *
  generalize strOfNums dst = SD at *
  clear hw8 box B78 rA' rB' rC' O1 O2 O3 B7
  go_wp2_with (fail)
  refine SQ.out.mono ?_
  rintro e w9 ⟨rfl, b9⟩
  have B9 : Hid (Below w.heap.size w w9) := Lib.hid (nextB B8.out b9)
  have z0 := below_cell b9 x0
  have z1 := below_cell b9 x1
  have z2 := below_cell b9 x2
  have NX := next_c w9 G1 en d1 src G2 dn d2 dst G3 sn d3 server D dn dc dst E en ec src tried C cn cc client (RA.out.below b9) (RB.out.below b9) (RC.out.below b9) (A3.out.row.below B9.out) (A4.out.row.below B9.out) (A0.out.row.below B9.out) (by omega) (by omega)
  have hN' : nextOf src dst server dst src client tried = if (pick server client).2 = false then (0, 4) else ((pick server client).1, 0) := by
    unfold nextOf
    rw [if_neg (by simp), if_neg GS.out.2.2.2]
  rw [hN'] at NX
  obtain ⟨N1, N2, hN⟩ : ∃ N1 N2 : Int, (if (pick server client).2 = false then (0, 4) else ((pick server client).1, 0)) = (N1, N2) := ⟨_, _, rfl⟩
  rw [hN] at NX
  have HN := Lib.hid hN
  have NXH := Lib.hid NX
  clear hN' hN NX SQ kA kB kC kD x0 x1 x2 b9 RA RB RC B8
  go_wp2_with (fail)
  refine NXH.out.mono ?_
  rintro e wT ⟨rfl, bT⟩
  have BT : Hid (Below w.heap.size w wT) := Lib.hid (nextB B9.out bT)
  clear bT z0 z1 z2 NXH B9
  go_wp2_with (fail)
  go_loopw [134] (fun i wr => ∃ k : Nat, k ≤ cn ∧ i = .int .i64 k ∧ wr = wT ∧ pick server client = pick server (client.drop k)) (fun i _ => cn - (intOf i).toNat)
  case atStart => exact ⟨0, Nat.zero_le _, rfl, rfl, by rw [List.drop_zero]⟩
  case round =>
    obtain ⟨k, hk, rfl, rfl, hp⟩ := hrel
    have HP := Lib.hid hp
    clear hp
    by_cases hlt : k < cn
    · obtain ⟨b, off, rfl, hb, hz⟩ := (A0.out.row.below BT.out).2.resolve_left (by omega)
      have hcell := (hz k hlt).1
      have hwf := bd32 (hz k hlt).2
      have hpd := pick_drop server client k (by omega)
      have tl : decide ((k : Int) < (cn : Int)) = true := decide_eq_true (by omega)
      have g1 : (k : Int) + 1 ≤ 9223372036854775807 := by omega
      have hk0 : (0 : Int) ≤ (k : Int) := by omega
      clear hz hb
      generalize client.getD k 0 = x at *
      by_cases hx0 : x = 0
      · have t0 : (x != 0) = false := by simp [hx0]
        have hp2 : pick server client = pick server (client.drop (k + 1)) := by rw [HP.out, hpd, if_neg (fun h => h.1 hx0)]
        have HP2 := Lib.hid hp2
        clear hp2 hpd hx0 HP hk
        go_wp2_with (fail)
        go_roundw
        case rel => exact ⟨k + 1, by omega, by go_num, trivial, HP2.out⟩
        case measure => simp [intOf]; omega
      · have t0 : (x != 0) = true := by simpa using hx0
        have RR := reserved_i x wr hwf.1 hwf.2
        by_cases hres : res x = true
        · rw [hres] at RR
          have hp2 : pick server client = pick server (client.drop (k + 1)) := by rw [HP.out, hpd, if_neg (fun h => by rw [hres] at h; exact Bool.noConfusion h.2.1)]
          have HP2 := Lib.hid hp2
          have RRH := Lib.hid RR
          clear hp2 hpd hx0 HP hk RR hres
          go_wp2_with (fail)
          refine RRH.out.mono ?_
          rintro e w' ⟨rfl, rfl⟩
          go_wp2_with (fail)
          go_roundw
          case rel => exact ⟨k + 1, by omega, by go_num, trivial, HP2.out⟩
          case measure => simp [intOf]; omega
        · have hres' : res x = false := by simpa using hres
          rw [hres'] at RR
          have CN := contains_c server x S sn sc wr (A1.out.row.below BT.out) (by omega)
          by_cases hmem : x ∈ server
          · rw [decide_eq_true hmem] at CN
            have hpv : pick server client = (x, true) := by rw [HP.out, hpd, if_pos ⟨hx0, hres', hmem⟩]
            have hnn := HN.out
            rw [hpv, if_neg (by simp)] at hnn
            cases hnn
            have RRH := Lib.hid RR
            have CNH := Lib.hid CN
            clear hpv hpd hx0 HP hk RR CN hres hres' hmem HN
            go_wp2_with (fail)
            refine RRH.out.mono ?_
            rintro e w' ⟨rfl, rfl⟩
            go_wp2_with (fail)
            refine CNH.out.mono ?_
            rintro e w' ⟨rfl, rfl⟩
            go_wp2_with (fail)
            refine (works_c _).mono ?_
            rintro e wZ ⟨rfl, bZ⟩
            have BZ := Lib.hid (nextB BT.out bZ)
            clear bZ
            go_wp2_with (fail)
            go_ret
            exact ⟨rfl, BZ.out⟩
          · rw [decide_eq_false hmem] at CN
            have hp2 : pick server client = pick server (client.drop (k + 1)) := by rw [HP.out, hpd, if_neg (fun h => hmem h.2.2)]
            have HP2 := Lib.hid hp2
            have RRH := Lib.hid RR
            have CNH := Lib.hid CN
            clear hp2 hpd hx0 HP hk RR CN hres hres' hmem
            go_wp2_with (fail)
            refine RRH.out.mono ?_
            rintro e w' ⟨rfl, rfl⟩
            go_wp2_with (fail)
            refine CNH.out.mono ?_
            rintro e w' ⟨rfl, rfl⟩
            go_wp2_with (fail)
            go_roundw
            case rel => exact ⟨k + 1, by omega, by go_num, trivial, HP2.out⟩
            case measure => simp [intOf]; omega
    · have hkc : k = cn := by omega
      have tl : decide ((k : Int) < (cn : Int)) = false := decide_eq_false (by omega)
      have hpv : pick server client = (0, false) := by rw [HP.out, List.drop_of_length_le (by omega)]; rfl
      have hnn := HN.out
      rw [hpv, if_pos rfl] at hnn
      cases hnn
      clear hpv HP hk HN hkc
      go_wp2_with (fail)
      refine (works_c _).mono ?_
      rintro e wZ ⟨rfl, bZ⟩
      have BZ := Lib.hid (nextB BT.out bZ)
      clear bZ
      go_wp2_with (fail)
      go_ret
      exact ⟨rfl, BZ.out⟩
end Go.Proofs.Ytgknamdcllapbaa
