/- The walk of VnegReplies. -/
import Derived.Test.YtgknamdcllapbaaReply
namespace Go.Proofs.Ytgknamdcllapbaa
set_option linter.unusedVariables false
set_option linter.unusedSimpArgs false
open Go.RowKit
theorem str_ne {xs ys : List Int} (hx : ∀ x ∈ xs, 0 ≤ x ∧ x ≤ 255) (hy : ∀ y ∈ ys, 0 ≤ y ∧ y ≤ 255) (h : xs ≠ ys) : ¬ (strOfNums xs).toList = (strOfNums ys).toList := fun e => h (str_inj xs ys hx hy (by
  rw [ByteArray.toList_eq, ByteArray.toList_eq] at e
  exact WideShapes.bytes_inj e))
theorem heard_len {zs mine d s : List Int} (hz : ∀ x ∈ zs, 0 ≤ x ∧ x ≤ 255) (h : Heard zs mine d s) : d.length ≤ 255 ∧ s.length ≤ 255 ∧ (∀ x ∈ d, 0 ≤ x ∧ x ≤ 255) ∧ (∀ x ∈ s, 0 ≤ x ∧ x ≤ 255) := by
  obtain ⟨v, r, h1, _⟩ := h
  obtain ⟨l1, l2, _, _, _, m1, m2, _⟩ := split_len hz h1
  exact ⟨l1, l2, fun x hx => hz x (m1 x hx), fun x hx => hz x (m2 x hx)⟩
/-- What Reply gave, as two values. -/
def GotR (w0 w : World) (zs mine : List Int) (a b : Value) (w' : World) : Prop := Below w0.heap.size w0 w ∧ ∃ e, e = .returned (.tuple #[a, b]) ∧ Replied w zs mine e w'
/-- What Begin gave, as four values. -/
def GotB (w : World) (zs : List Int) (a b c d : Value) (w' : World) : Prop := ∃ e, e = .returned (.tuple #[a, b, c, d]) ∧ Begun w zs e w'
set_option maxRecDepth 100000 in
set_option maxHeartbeats 40000000 in
theorem replies_c (w : World) (A0 : Option Addr) (n0 c0 : Nat) (zs : List Int) (M : Option Addr) (mn mc : Nat) (mine : List Int) (A : Option Addr) (n c : Nat) (pd : List Int) (B : Option Addr) (m d : Nat) (ps : List Int) (E : Option Addr) (q g : Nat) (vs : List Int) (D : Option Addr) (dn dc : Nat) (dst : List Int) (S : Option Addr) (sn sc : Nat) (src : List Int) (tried : Int)
    (r0 : IntRow .u8 w A0 n0 zs) (hn0 : n0 ≤ c0) (hc0 : c0 ≤ maxLen) (r1 : IntRow .u32 w M mn mine) (hmn : mn ≤ 9223372036854775807) (r2 : IntRow .u8 w A n pd) (hn : n ≤ 9223372036854775807) (r3 : IntRow .u8 w B m ps) (hm : m ≤ 9223372036854775807) (r4 : IntRow .u32 w E q vs) (hq : q ≤ 9223372036854775807) (r5 : IntRow .u8 w D dn dst) (hdn : dn ≤ 9223372036854775807) (r6 : IntRow .u8 w S sn src) (hsn : sn ≤ 9223372036854775807)
    (reach : n + m + dn + sn ≤ 1000000000000000000) :
    Calls Try.prog 4 #[.slice A0 n0 c0, .slice M mn mc, .agg #[.slice A n c, .slice B m d, .slice E q g], .slice D dn dc, .slice S sn sc, .int .u32 tried] w fun e w' => e = .returned (.bool true) ∧ Below w.heap.size w w' := by
  have hu32 := Try.underlying32
  have R0 := Lib.hid r0
  have R1 := Lib.hid r1
  have R2 := Lib.hid r2
  have R3 := Lib.hid r3
  have R4 := Lib.hid r4
  have R5 := Lib.hid r5
  have R6 := Lib.hid r6
  have BW : Hid (Below w.heap.size w (w.alloc (.cells #[.slice A n c, .slice B m d, .slice E q g] 32))) := Lib.hid ((Below.refl _ _).alloc (Nat.le_refl _) _)
  clear r0 r1 r2 r3 r4 r5 r6
  by_cases g0 : n0 ≤ 3000 ∧ mn ≤ 200 ∧ q ≤ 200 ∧ n + m + dn + sn ≤ 3000
  · obtain ⟨k0, k1, k2, k3⟩ := g0
    have t0 : decide ((3000 : Int) < (n0 : Int)) = false := decide_eq_false (by omega)
    have t1 : decide ((200 : Int) < (mn : Int)) = false := decide_eq_false (by omega)
    have t2 : decide ((200 : Int) < (q : Int)) = false := decide_eq_false (by omega)
    have t3 : decide ((3000 : Int) < (n : Int) + (m : Int) + (dn : Int) + (sn : Int)) = false := decide_eq_false (by omega)
    go_enter Try.func4, Try.ntmps4
    go_upto_region 3 with (fail)
    obtain ⟨wb, hwb⟩ : ∃ wb : World, w.alloc (.cells #[.slice A n c, .slice B m d, .slice E q g] 32) = wb := ⟨_, rfl⟩
    have bx0 : Hid (wb.cell? ⟨w.heap.size, 0, none⟩ = some (.slice A n c)) := Lib.hid (by rw [← hwb]; exact (blk_cell (blk_new w _) 0).trans rfl)
    have bx1 : Hid (wb.cell? ⟨w.heap.size, 1, none⟩ = some (.slice B m d)) := Lib.hid (by rw [← hwb]; exact (blk_cell (blk_new w _) 1).trans rfl)
    have bx2 : Hid (wb.cell? ⟨w.heap.size, 2, none⟩ = some (.slice E q g)) := Lib.hid (by rw [← hwb]; exact (blk_cell (blk_new w _) 2).trans rfl)
    rw [hwb] at BW
    have lwb : w.heap.size < wb.heap.size := by rw [← hwb]; simp
    have HWB := Lib.hid hwb
    rw [hwb]
    clear hwb
    go_cut [13, 14] (fun s13 s14 wz => ∃ x13 x14, x13 = s13 ∧ x14 = s14 ∧ GotR wb wb zs mine x13 x14 wz)
    case first =>
      go_wp2_with (fail)
      refine (reply_c wb A0 n0 c0 zs M mn mc mine (R0.out.below BW.out) (by omega) hn0 hc0 (R1.out.below BW.out) hmn).mono ?_
      rintro e w1 hrp
      have hx : ∃ a b, e = .returned (.tuple #[a, b]) := by
        rcases hrp with ⟨_, h, _⟩ | ⟨_, _, _, _, h, _⟩ | ⟨_, _, _, _, _, h, _⟩ <;> exact ⟨_, _, h⟩
      obtain ⟨a, b, rfl⟩ := hx
      have HG : Hid (GotR wb wb zs mine a b w1) := Lib.hid ⟨Below.refl _ _, _, rfl, hrp⟩
      clear hrp
      go_wp2_with (fail)
      go_meet
      case rel => exact ⟨_, _, rfl, rfl, HG.out⟩
    case rest =>
      obtain ⟨v13, v14, rfl, rfl, hgot⟩ := hcut
      have GR := Lib.hid hgot
      clear hgot
      obtain ⟨w1, rfl⟩ : ∃ w1 : World, w1 = wc := ⟨_, rfl⟩
      have B1 : Hid (Below wb.heap.size wb w1) := Lib.hid (by
        obtain ⟨_, e, _, h⟩ := GR.out
        rcases h with ⟨_, _, h⟩ | ⟨_, _, _, _, _, h⟩ | ⟨_, _, _, _, _, _, h⟩
        · exact h
        · exact h
        · exact h.2)
      go_upto_region 4 with (fail)
      go_cut [15, 16, 17, 18] (fun s15 s16 s17 s18 wz => ∃ x15 x16 x17 x18, x15 = s15 ∧ x16 = s16 ∧ x17 = s17 ∧ x18 = s18 ∧ GotB w1 zs x15 x16 x17 x18 wz)
      case first =>
        go_wp2_with (fail)
        refine (refbegin_c w1 A0 n0 c0 zs ((R0.out.below BW.out).below B1.out) (by omega) hn0 hc0).mono ?_
        rintro e w2 hrp
        have hx : ∃ a b c d, e = .returned (.tuple #[a, b, c, d]) := by
          rcases hrp with ⟨_, h, _⟩ | ⟨_, _, _, _, _, _, _, _, _, _, _, _, _, _, h, _⟩ <;> exact ⟨_, _, _, _, h⟩
        obtain ⟨a, b, c, d, rfl⟩ := hx
        have HG : Hid (GotB w1 zs a b c d w2) := Lib.hid ⟨_, rfl, hrp⟩
        clear hrp
        go_wp2_with (fail)
        go_meet
        case rel => exact ⟨_, _, _, _, rfl, rfl, rfl, rfl, HG.out⟩
      case rest =>
        obtain ⟨v15, v16, v17, v18, rfl, rfl, rfl, rfl, hgot⟩ := hcut
        have GB := Lib.hid hgot
        clear hgot
        obtain ⟨w2, rfl⟩ : ∃ w2 : World, w2 = wc := ⟨_, rfl⟩
        have B2 : Hid (Below wb.heap.size wb w2) := Lib.hid (by
          obtain ⟨e, _, h⟩ := GB.out
          rcases h with ⟨_, _, h⟩ | ⟨_, _, _, _, _, _, _, _, _, _, _, _, _, _, _, _, _, _, _, _, _, h⟩
          · exact nextB B1.out h
          · exact nextB B1.out h)
        go_step
        go_step
        go_cut [12] (fun s12 wz => Below wb.heap.size wb wz)
        case first =>
          as_aux_lemma =>
            obtain ⟨-, e1, he1, hrp⟩ := GR.out
            obtain ⟨e2, he2, hbg⟩ := GB.out
            subst he1
            subst he2
            clear GR GB
            rcases hrp with ⟨hmu, h, hb1⟩ | ⟨hd, hs, hhe, hno, h, hb1⟩ | ⟨hd, hs, V, hhe, hok, h, hmade⟩
            · simp at h
              obtain ⟨rfl, rfl⟩ := h
              rcases hbg with ⟨hsn, h, hb2⟩ | ⟨v, d', s', r', A1, c1, A2, c2, hso, l1, l2, v0, v1, l3, h, ir1, ir2, q1, q2, q3, q4, hb2⟩
              · simp at h
                obtain ⟨rfl, rfl, rfl, rfl⟩ := h
                clear hmu hsn hb1 hb2
                go_wp2_with (fail)
                go_meet
                case rel => exact B2.out
              · simp at h
                obtain ⟨rfl, rfl, rfl, rfl⟩ := h
                have hcond : n0 < 1200 ∨ v = 0 ∨ v ∈ mine := by
                  rcases hmu with h | ⟨v', d2, s2, r2, h, hc⟩
                  · rw [hso] at h; cases h
                  · rw [hso] at h
                    cases h
                    rw [R0.out.1] at hc
                    exact hc
                obtain ⟨K, hK⟩ : ∃ K, 7 + d'.length + s'.length = K := ⟨_, rfl⟩
                have tk : decide (((7 : Int) + (d'.length : Int) + (s'.length : Int)) < 0) = false := decide_eq_false (by omega)
                have hcast : (((7 + d'.length + s'.length : Nat)) : Int) = (7 : Int) + (d'.length : Int) + (s'.length : Int) := by omega
                clear hmu hso hb1 hb2 l3 ir1 ir2 q1 q2 q3 q4 hK
                by_cases sh : n0 < 1200
                · have t4 : decide ((n0 : Int) < 1200) = true := decide_eq_true (by omega)
                  clear hcond
                  go_wp2_with (fail)
                  go_meet
                  case rel => exact B2.out
                · have t4 : decide ((n0 : Int) < 1200) = false := decide_eq_false (by omega)
                  by_cases vz : v = 0
                  · have t5 : (v == 0) = true := by simpa using vz
                    clear hcond vz
                    go_wp2_with (fail)
                    go_meet
                    case rel => exact B2.out
                  · have t5 : (v == 0) = false := by simpa using vz
                    have vm : v ∈ mine := by
                      rcases hcond with h | h | h
                      · exact absurd h sh
                      · exact absurd h vz
                      · exact h
                    have cc := has_c mine v M mn mc w2 ((R1.out.below BW.out).below B2.out) hmn
                    rw [show decide (v ∈ mine) = true from decide_eq_true vm] at cc
                    have CC := Lib.hid cc
                    clear hcond vz vm cc
                    go_wp2_with (fail)
                    refine CC.out.mono ?_
                    rintro e w3 ⟨rfl, rfl⟩
                    go_wp2_with (fail)
                    go_meet
                    case rel => exact B2.out
            · simp at h
              obtain ⟨rfl, rfl⟩ := h
              obtain ⟨vv, rr, hsp, hh1, hh2, hh3⟩ := hhe
              rcases hbg with ⟨hsn2, h, hb2⟩ | ⟨v, d', s', r', A1, c1, A2, c2, hso, l1, l2, v0, v1, l3, h, ir1, ir2, q1, q2, q3, q4, hb2⟩
              · rw [hsp] at hsn2; cases hsn2
              · simp at h
                obtain ⟨rfl, rfl, rfl, rfl⟩ := h
                rw [hsp] at hso
                cases hso
                rw [R0.out.1] at hh1
                have tk : decide (((7 : Int) + (hd.length : Int) + (hs.length : Int)) < 0) = false := decide_eq_false (by omega)
                have t4 : decide ((n0 : Int) < 1200) = false := decide_eq_false (by omega)
                have t5 : (vv == 0) = false := by simpa using hh2
                have cc := has_c mine vv M mn mc w2 ((R1.out.below BW.out).below B2.out) hmn
                rw [show decide (vv ∈ mine) = false from decide_eq_false hh3] at cc
                have CC := Lib.hid cc
                have HML := Lib.hid R1.out.1
                rw [R1.out.1] at hno
                clear hsp hh1 hh2 hh3 cc hb1 hb2 ir1 ir2 q1 q2 q3 q4 l3 HML
                by_cases z : mn = 0
                · have t6 : ((mn : Int) == 0) = true := by simp; omega
                  clear z hno
                  go_wp2_with (fail)
                  refine CC.out.mono ?_
                  rintro e w3 ⟨rfl, rfl⟩
                  go_wp2_with (fail)
                  go_meet
                  case rel => exact B2.out
                · have t6 : ((mn : Int) == 0) = false := by simp; omega
                  have t7 : decide ((64 : Int) < (mn : Int)) = true := decide_eq_true (by omega)
                  clear z hno
                  go_wp2_with (fail)
                  refine CC.out.mono ?_
                  rintro e w3 ⟨rfl, rfl⟩
                  go_wp2_with (fail)
                  go_meet
                  case rel => exact B2.out
            · simp at h
              obtain ⟨rfl, rfl⟩ := h
              obtain ⟨vv, rr, hsp, hh1, hh2, hh3⟩ := hhe
              rcases hbg with ⟨hsn2, h, hb2⟩ | ⟨v, d', s', r', A1, c1, A2, c2, hso, l1, l2, v0, v1, l3, h, ir1, ir2, q1, q2, q3, q4, hb2⟩
              · rw [hsp] at hsn2; cases hsn2
              · simp at h
                obtain ⟨rfl, rfl, rfl, rfl⟩ := h
                rw [hsp] at hso
                cases hso
                rw [R0.out.1] at hh1
                have tk : decide (((7 : Int) + (hd.length : Int) + (hs.length : Int)) < 0) = false := decide_eq_false (by omega)
                have t4 : decide ((n0 : Int) < 1200) = false := decide_eq_false (by omega)
                have t5 : (vv == 0) = false := by simpa using hh2
                have cc := has_c mine vv M mn mc w2 ((R1.out.below BW.out).below B2.out) hmn
                rw [show decide (vv ∈ mine) = false from decide_eq_false hh3] at cc
                have CC := Lib.hid cc
                have HML := Lib.hid R1.out.1
                rw [R1.out.1] at hok
                obtain ⟨ok1, ok2⟩ := hok
                have t6 : ((mn : Int) == 0) = false := by simp; omega
                have t7 : decide ((64 : Int) < (mn : Int)) = false := decide_eq_false (by omega)
                have hz := row_byte R0.out
                obtain ⟨l1', l2', _, _, _, m1, m2, _⟩ := split_len hz hsp
                have hdb : ∀ x ∈ hd, 0 ≤ x ∧ x ≤ 255 := fun x hx => hz x (m1 x hx)
                have hsb : ∀ x ∈ hs, 0 ≤ x ∧ x ≤ 255 := fun x hx => hz x (m2 x hx)
                have hpb := packet_byte (vs := mine) hsb hdb l2' l1'
                obtain ⟨VA, vn, vc, rfl, _, _, _, rV⟩ := hmade.rv hpb
                have rV2 := rV.below hb2
                have refb := refbytes_c (some A2) hs.length c2 hs (some A1) hd.length c1 hd M mn mc mine w2.drew
                have hdr : Below w2.heap.size w2 w2.drew := Below.drew (Below.refl _ _)
                have RB := Lib.hid (refb (ir2.below hdr) (fun h => by cases h) l2 (ir1.below hdr) (fun h => by cases h) l1 (((R1.out.below BW.out).below B2.out).below hdr) ok2)
                have kv := conv_row vc rV2
                obtain ⟨ST, hST⟩ : ∃ ST, strOfNums (packet hs hd mine) = ST := ⟨_, rfl⟩
                rw [hST] at kv
                have HST := Lib.hid hST
                have RV2 := Lib.hid rV2
                have PB := Lib.hid hpb
                have hb0 : Below w2.heap.size w2 w2 := Below.refl _ _
                clear hsp hh1 hh2 hh3 cc hb2 ir1 ir2 q1 q2 q3 q4 l3 HML refb hdr rV rV2 hpb hST hmade hz m1 m2 hdb hsb
                go_upto_region 5 with (go_at_call 15; refine CC.out.mono ?_; rintro e w3 ⟨rfl, rfl⟩)
                have kv2 : (convert 30 9 (.slice VA vn vc)).run Try.prog w2.drew = .ok (.string ST) w2.drew := (conv_row vc (RV2.out.below (Below.drew (Below.refl _ _)))).trans (by rw [HST.out])
                go_region_with ((go_at_call 16; refine RB.out.mono ?_; rintro e w5 ⟨V5, rfl, hm5⟩; have b5 := Lib.hid (nextB (Below.drew (Below.refl w2.heap.size w2)) hm5.2); obtain ⟨VB, vbn, vbc, rfl, _, _, _, rVB⟩ := hm5.rv PB.out; have kb := conv_row vbc rVB; rw [HST.out] at kb; have kv5 : (convert 30 9 (.slice VA vn vc)).run Try.prog w5 = .ok (.string ST) w5 := (conv_row vc (RV2.out.below b5.out)).trans (by rw [HST.out]); clear hm5 rVB))
                all_goals
                  have BF : Hid (Below wb.heap.size wb w5) := Lib.hid (nextB B2.out b5.out)
                  go_wp2_with (fail)
                  go_meet
                  case rel => exact BF.out
        case rest =>
          as_aux_lemma =>
            obtain ⟨w3, rfl⟩ : ∃ w3 : World, w3 = wc := ⟨_, rfl⟩
            have B3 := Lib.hid hcut
            have y0 := below_cell hcut bx0.out
            have y1 := below_cell hcut bx1.out
            have y2 := below_cell hcut bx2.out
            clear hcut GR GB B1 B2
            have NX := Lib.hid (next_c w3 A n c pd B m d ps E q g vs D dn dc dst S sn sc src tried M mn mc mine ((R2.out.below BW.out).below B3.out) ((R3.out.below BW.out).below B3.out) ((R4.out.below BW.out).below B3.out) ((R5.out.below BW.out).below B3.out) ((R6.out.below BW.out).below B3.out) ((R1.out.below BW.out).below B3.out) hq hmn)
            have hpd := row_byte R2.out
            have hps := row_byte R3.out
            have hds := row_byte R5.out
            have hsr := row_byte R6.out
            by_cases a : pd = src
            · by_cases b : ps = dst
              · by_cases t : tried ∈ vs
                · have HN : nextOf pd ps vs dst src mine tried = (0, 6) := by unfold nextOf; rw [if_neg (by simp [a, b]), if_pos t]
                  rw [HN] at NX
                  subst a
                  subst b
                  clear HN hpd hps hds hsr
                  go_wp2_with (fail)
                  refine NX.out.mono ?_
                  rintro e w4 ⟨rfl, b4⟩
                  have B4 : Hid (Below w.heap.size w w4) := Lib.hid (nextB (nextB BW.out B3.out) b4)
                  have z0 := below_cell b4 y0
                  have z1 := below_cell b4 y1
                  have z2 := below_cell b4 y2
                  have kA := conv_row c (R2.out.below B4.out)
                  have kB := conv_row d (R3.out.below B4.out)
                  have kD := conv_row dc (R5.out.below B4.out)
                  have kS := conv_row sc (R6.out.below B4.out)
                  have RC := Lib.hid (refchoose_c mine vs M mn mc E q g w4 (R1.out.below B4.out) hmn (R4.out.below B4.out) hq)
                  have HC := Lib.hid (has_c vs tried E q g w4 (R4.out.below B4.out) hq)
                  clear b4 y0 y1 y2 NX
                  rw [show decide (tried ∈ vs) = true from decide_eq_true t] at HC
                  obtain ⟨p, r, hp⟩ : ∃ p r, pick vs mine = (p, r) := ⟨_, _, rfl⟩
                  rw [hp] at RC
                  clear hp t
                  generalize strOfNums pd = SA at *
                  generalize strOfNums ps = SB at *
                  go_wp2_with (fail)
                  refine RC.out.mono ?_
                  rintro e w5 ⟨rfl, rfl⟩
                  go_wp2_with (fail)
                  refine HC.out.mono ?_
                  rintro e w5 ⟨rfl, rfl⟩
                  go_wp2_with (fail)
                  refine (works_c _).mono ?_
                  rintro e w6 ⟨rfl, b6⟩
                  have B6 := Lib.hid (nextB B4.out b6)
                  clear b6
                  go_wp2_with (fail)
                  go_ret
                  exact ⟨rfl, B6.out⟩
                · have HN : nextOf pd ps vs dst src mine tried = if (pick vs mine).2 = false then (0, 4) else ((pick vs mine).1, 0) := by unfold nextOf; rw [if_neg (by simp [a, b]), if_neg t]
                  rw [HN] at NX
                  subst a
                  subst b
                  clear HN hpd hps hds hsr
                  obtain ⟨p, r, hp⟩ : ∃ p r, pick vs mine = (p, r) := ⟨_, _, rfl⟩
                  rw [hp] at NX
                  have HP := Lib.hid hp
                  clear hp
                  cases r
                  all_goals
                    go_wp2_with (fail)
                    refine NX.out.mono ?_
                    rintro e w4 ⟨rfl, b4⟩
                    have B4 : Hid (Below w.heap.size w w4) := Lib.hid (nextB (nextB BW.out B3.out) b4)
                    have z0 := below_cell b4 y0
                    have z1 := below_cell b4 y1
                    have z2 := below_cell b4 y2
                    have kA := conv_row c (R2.out.below B4.out)
                    have kB := conv_row d (R3.out.below B4.out)
                    have kD := conv_row dc (R5.out.below B4.out)
                    have kS := conv_row sc (R6.out.below B4.out)
                    have RC := Lib.hid (refchoose_c mine vs M mn mc E q g w4 (R1.out.below B4.out) hmn (R4.out.below B4.out) hq)
                    have HC := Lib.hid (has_c vs tried E q g w4 (R4.out.below B4.out) hq)
                    clear b4 y0 y1 y2 NX
                    rw [show decide (tried ∈ vs) = false from decide_eq_false t] at HC
                    rw [HP.out] at RC
                    clear t
                    generalize strOfNums pd = SA at *
                    generalize strOfNums ps = SB at *
                    go_wp2_with (fail)
                    refine RC.out.mono ?_
                    rintro e w5 ⟨rfl, rfl⟩
                    go_wp2_with (fail)
                    refine HC.out.mono ?_
                    rintro e w5 ⟨rfl, rfl⟩
                    go_wp2_with (fail)
                    refine (works_c _).mono ?_
                    rintro e w6 ⟨rfl, b6⟩
                    have B6 := Lib.hid (nextB B4.out b6)
                    clear b6
                    go_wp2_with (fail)
                    go_ret
                    exact ⟨rfl, B6.out⟩
              · have HN : nextOf pd ps vs dst src mine tried = (0, 2) := by unfold nextOf; rw [if_pos (.inr b)]
                have hl := str_ne hps hds b
                have t9 : ((strOfNums ps).toList == (strOfNums dst).toList) = false := by simpa using hl
                rw [HN] at NX
                subst a
                clear HN hpd hps hds hsr b
                go_wp2_with (fail)
                refine NX.out.mono ?_
                rintro e w4 ⟨rfl, b4⟩
                have B4 : Hid (Below w.heap.size w w4) := Lib.hid (nextB (nextB BW.out B3.out) b4)
                have z0 := below_cell b4 y0
                have z1 := below_cell b4 y1
                have z2 := below_cell b4 y2
                have kA := conv_row c (R2.out.below B4.out)
                have kB := conv_row d (R3.out.below B4.out)
                have kD := conv_row dc (R5.out.below B4.out)
                have kS := conv_row sc (R6.out.below B4.out)
                have RC := Lib.hid (refchoose_c mine vs M mn mc E q g w4 (R1.out.below B4.out) hmn (R4.out.below B4.out) hq)
                have HC := Lib.hid (has_c vs tried E q g w4 (R4.out.below B4.out) hq)
                clear b4 y0 y1 y2 NX
                obtain ⟨p, r, hp⟩ : ∃ p r, pick vs mine = (p, r) := ⟨_, _, rfl⟩
                rw [hp] at RC
                clear hp HC
                generalize strOfNums pd = SA at *
                generalize strOfNums ps = SB at *
                generalize strOfNums dst = SD at *
                go_wp2_with (fail)
                refine RC.out.mono ?_
                rintro e w5 ⟨rfl, rfl⟩
                go_wp2_with (fail)
                refine (works_c _).mono ?_
                rintro e w6 ⟨rfl, b6⟩
                have B6 := Lib.hid (nextB B4.out b6)
                clear b6
                go_wp2_with (fail)
                go_ret
                exact ⟨rfl, B6.out⟩
            · have HN : nextOf pd ps vs dst src mine tried = (0, 2) := by unfold nextOf; rw [if_pos (.inl a)]
              have hl := str_ne hpd hsr a
              have t9 : ((strOfNums pd).toList == (strOfNums src).toList) = false := by simpa using hl
              rw [HN] at NX
              clear HN hpd hps hds hsr a
              go_wp2_with (fail)
              refine NX.out.mono ?_
              rintro e w4 ⟨rfl, b4⟩
              have B4 : Hid (Below w.heap.size w w4) := Lib.hid (nextB (nextB BW.out B3.out) b4)
              have z0 := below_cell b4 y0
              have z1 := below_cell b4 y1
              have z2 := below_cell b4 y2
              have kA := conv_row c (R2.out.below B4.out)
              have kB := conv_row d (R3.out.below B4.out)
              have kD := conv_row dc (R5.out.below B4.out)
              have kS := conv_row sc (R6.out.below B4.out)
              have RC := Lib.hid (refchoose_c mine vs M mn mc E q g w4 (R1.out.below B4.out) hmn (R4.out.below B4.out) hq)
              have HC := Lib.hid (has_c vs tried E q g w4 (R4.out.below B4.out) hq)
              clear b4 y0 y1 y2 NX
              obtain ⟨p, r, hp⟩ : ∃ p r, pick vs mine = (p, r) := ⟨_, _, rfl⟩
              rw [hp] at RC
              clear hp HC
              generalize strOfNums pd = SA at *
              generalize strOfNums ps = SB at *
              generalize strOfNums dst = SD at *
              generalize strOfNums src = SS at *
              go_wp2_with (fail)
              refine RC.out.mono ?_
              rintro e w5 ⟨rfl, rfl⟩
              go_wp2_with (fail)
              refine (works_c _).mono ?_
              rintro e w6 ⟨rfl, b6⟩
              have B6 := Lib.hid (nextB B4.out b6)
              clear b6
              go_wp2_with (fail)
              go_ret
              exact ⟨rfl, B6.out⟩
  · by_cases a0 : 3000 < n0
    · have t0 : decide ((3000 : Int) < (n0 : Int)) = true := decide_eq_true (by omega)
      clear g0
      go_enter Try.func4, Try.ntmps4
      go_wp2_with (fail)
      refine (works_c _).mono ?_
      rintro e w6 ⟨rfl, b6⟩
      have B6 := Lib.hid (nextB BW.out b6)
      clear b6
      go_wp2_with (fail)
      go_ret
      exact ⟨rfl, B6.out⟩
    · have t0 : decide ((3000 : Int) < (n0 : Int)) = false := decide_eq_false (by omega)
      by_cases a1 : 200 < mn
      · have t1 : decide ((200 : Int) < (mn : Int)) = true := decide_eq_true (by omega)
        clear g0
        go_enter Try.func4, Try.ntmps4
        go_wp2_with (fail)
        refine (works_c _).mono ?_
        rintro e w6 ⟨rfl, b6⟩
        have B6 := Lib.hid (nextB BW.out b6)
        clear b6
        go_wp2_with (fail)
        go_ret
        exact ⟨rfl, B6.out⟩
      · have t1 : decide ((200 : Int) < (mn : Int)) = false := decide_eq_false (by omega)
        by_cases a2 : 200 < q
        · have t2 : decide ((200 : Int) < (q : Int)) = true := decide_eq_true (by omega)
          clear g0
          go_enter Try.func4, Try.ntmps4
          go_wp2_with (fail)
          refine (works_c _).mono ?_
          rintro e w6 ⟨rfl, b6⟩
          have B6 := Lib.hid (nextB BW.out b6)
          clear b6
          go_wp2_with (fail)
          go_ret
          exact ⟨rfl, B6.out⟩
        · have t2 : decide ((200 : Int) < (q : Int)) = false := decide_eq_false (by omega)
          have t3 : decide ((3000 : Int) < (n : Int) + (m : Int) + (dn : Int) + (sn : Int)) = true := decide_eq_true (by omega)
          clear g0
          go_enter Try.func4, Try.ntmps4
          go_wp2_with (fail)
          refine (works_c _).mono ?_
          rintro e w6 ⟨rfl, b6⟩
          have B6 := Lib.hid (nextB BW.out b6)
          clear b6
          go_wp2_with (fail)
          go_ret
          exact ⟨rfl, B6.out⟩
end Go.Proofs.Ytgknamdcllapbaa
