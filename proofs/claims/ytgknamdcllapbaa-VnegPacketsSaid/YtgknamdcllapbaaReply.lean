/- What a server answers: the code. -/
import Derived.Test.YtgknamdcllapbaaNext
namespace Go.Proofs.Ytgknamdcllapbaa
set_option linter.unusedVariables false
set_option linter.unusedSimpArgs false
open Go.RowKit
theorem getD_byte {zs : List Int} (hz : ∀ x ∈ zs, 0 ≤ x ∧ x ≤ 255) (j : Nat) : 0 ≤ zs.getD j 0 ∧ zs.getD j 0 ≤ 255 := by
  rcases Nat.lt_or_ge j zs.length with h | h
  · rw [List.getD_eq_getElem?_getD, List.getElem?_eq_getElem h]; exact hz _ (List.getElem_mem _)
  · rw [List.getD_eq_getElem?_getD, List.getElem?_eq_none h]; simp
theorem split_len {zs : List Int} (hz : ∀ x ∈ zs, 0 ≤ x ∧ x ≤ 255) {v : Int} {d s r : List Int} (h : split zs = some (v, d, s, r)) :
    d.length ≤ 255 ∧ s.length ≤ 255 ∧ 0 ≤ v ∧ v ≤ 4294967295 ∧ r.length + d.length + s.length + 7 = zs.length ∧ (∀ x ∈ d, x ∈ zs) ∧ (∀ x ∈ s, x ∈ zs) ∧ (∀ x ∈ r, x ∈ zs) := by
  rw [split_alt] at h
  unfold alt at h
  have h5 := getD_byte hz 5
  have h6 := getD_byte hz (6 + (zs.getD 5 0).toNat)
  have hw := wp_range zs (getD_byte hz) 3 (by omega)
  have h4 := getD_byte hz 4
  have h41 : wp zs 4 = 256 * wp zs 3 + zs.getD 4 0 := rfl
  generalize zs.getD 5 0 = a at *
  generalize zs.getD (6 + a.toNat) 0 = b at *
  split at h
  · rename_i c
    rw [← wp_word zs (by omega)] at h
    simp only [Option.some.injEq, Prod.mk.injEq] at h
    obtain ⟨rfl, rfl, rfl, rfl⟩ := h
    refine ⟨?_, ?_, by omega, by omega, ?_, fun x hx => ?_, fun x hx => ?_, fun x hx => ?_⟩
    · rw [List.length_drop, List.length_take]; omega
    · rw [List.length_drop, List.length_take]; omega
    · simp only [List.length_drop, List.length_take]; omega
    · exact List.mem_of_mem_take (List.mem_of_mem_drop hx)
    · exact List.mem_of_mem_take (List.mem_of_mem_drop hx)
    · exact List.mem_of_mem_drop hx
  · cases h
/-- A server answers nothing. -/
def Mute (zs mine : List Int) : Prop := split zs = none ∨ ∃ v d s r, split zs = some (v, d, s, r) ∧ (zs.length < 1200 ∨ v = 0 ∨ v ∈ mine)
/-- It answers, if it has versions, and not too many. -/
def Heard (zs mine : List Int) (d s : List Int) : Prop := ∃ v r, split zs = some (v, d, s, r) ∧ ¬ zs.length < 1200 ∧ v ≠ 0 ∧ v ∉ mine
def Replied (w : World) (zs mine : List Int) (e : Ending) (w' : World) : Prop :=
  (Mute zs mine ∧ e = .returned (.tuple #[.slice none 0 0, .int .i64 4]) ∧ Below w.heap.size w w') ∨
  (∃ d s, Heard zs mine d s ∧ ¬ (1 ≤ mine.length ∧ mine.length ≤ 64) ∧ e = .returned (.tuple #[.slice none 0 0, .int .i64 2]) ∧ Below w.heap.size w w') ∨
  ∃ d s V, Heard zs mine d s ∧ (1 ≤ mine.length ∧ mine.length ≤ 64) ∧ e = .returned (.tuple #[V, .int .i64 0]) ∧ Made w (packet s d mine) V w'
theorem Made.base {w w1 w2 : World} {zs : List Int} {V : Value} (h : Made w1 zs V w2) (b : Below w.heap.size w w1) : Made w zs V w2 := ⟨own_mono h.1 b.size, nextB b h.2⟩
set_option maxHeartbeats 8000000 in
theorem reply_c (w : World) (A : Option Addr) (n c : Nat) (zs : List Int) (M : Option Addr) (mn mc : Nat) (mine : List Int) (hr : IntRow .u8 w A n zs) (hn : n ≤ 100000) (hc : n ≤ c) (hcm : c ≤ maxLen) (hm : IntRow .u32 w M mn mine) (hmn : mn ≤ 9223372036854775807) :
    Calls Try.prog 13 #[.slice A n c, .slice M mn mc] w (Replied w zs mine) := by
  have hz := row_byte hr
  have hlen := hr.1
  have hml := hm.1
  have sc := split_c w A n c zs hr hn hc hcm
  have HM := Lib.hid hm
  have SC := Lib.hid sc
  have HZ := Lib.hid hz
  clear sc hm hr hz
  have hu32 := Try.underlying32
  go_enter Try.func13, Try.ntmps13
  go_wp2_with (fail)
  refine SC.out.mono ?_
  rintro e w1 (⟨hs, ⟨x1, x2, x3, x4, rfl⟩, b1⟩ | ⟨v, d, s, r, hs, V1, V2, S3, k, m, rfl, o1, o2, hk, hkm, hmm, hS3, r3, b1⟩)
  · have HS : Hid (Mute zs mine) := Lib.hid (.inl hs)
    have B1 := Lib.hid b1
    clear hs b1
    go_wp2_with (fail)
    go_ret2
    exact .inl ⟨HS.out, rfl, B1.out⟩
  · have hsl := split_len HZ.out hs
    obtain ⟨l1, l2, v0, v1, l3, m1, m2, m3⟩ := hsl
    have HS := Lib.hid hs
    have rv1 := own_row o1 (fun x hx => by have := HZ.out x (m1 x hx); exact wf8 this.1 this.2)
    have rv2 := own_row o2 (fun x hx => by have := HZ.out x (m2 x hx); exact wf8 this.1 this.2)
    obtain ⟨A1, n1, c1, rfl, q1, q2, q3, R1⟩ := rv1
    obtain ⟨A2, n2, c2, rfl, p1, p2, p3, R2⟩ := rv2
    have B1 := Lib.hid b1
    have RR1 := Lib.hid R1
    have RR2 := Lib.hid R2
    have Q3 := Lib.hid q3
    have P3 := Lib.hid p3
    have L1 := R1.1
    have L2 := R2.1
    have hn1 : n1 ≤ 255 := by omega
    have hn2 : n2 ≤ 255 := by omega
    have LEN := Lib.hid hlen
    have MEN := Lib.hid hml
    clear hs b1 o1 o2 r3 R1 R2 q3 p3 m1 m2 m3 hlen hml l1 l2 l3 L1 L2
    by_cases sh : n < 1200
    · have t0 : decide ((n : Int) < 1200) = true := decide_eq_true (by omega)
      have HQ : Hid (Mute zs mine) := Lib.hid (.inr ⟨v, d, s, r, HS.out, .inl (by rw [LEN.out]; exact sh)⟩)
      go_wp2_with (fail)
      go_ret2
      exact .inl ⟨HQ.out, rfl, B1.out⟩
    · have t0 : decide ((n : Int) < 1200) = false := decide_eq_false (by omega)
      by_cases vz : v = 0
      · have t1 : (v == 0) = true := by simpa using vz
        have HQ : Hid (Mute zs mine) := Lib.hid (.inr ⟨v, d, s, r, HS.out, .inr (.inl vz)⟩)
        clear vz
        go_wp2_with (fail)
        go_ret2
        exact .inl ⟨HQ.out, rfl, B1.out⟩
      · have t1 : (v == 0) = false := by simpa using vz
        have cc := contains_c mine v M mn mc w1 (HM.out.below B1.out) hmn
        by_cases vm : v ∈ mine
        · have HQ : Hid (Mute zs mine) := Lib.hid (.inr ⟨v, d, s, r, HS.out, .inr (.inr vm)⟩)
          rw [show decide (v ∈ mine) = true from decide_eq_true vm] at cc
          clear vz vm
          go_wp2_with (fail)
          refine cc.mono ?_
          rintro e w2 ⟨rfl, rfl⟩
          go_wp2_with (fail)
          go_ret2
          exact .inl ⟨HQ.out, rfl, B1.out⟩
        · have HQ : Hid (Heard zs mine d s) := Lib.hid ⟨v, r, HS.out, by rw [LEN.out]; exact sh, vz, vm⟩
          rw [show decide (v ∈ mine) = false from decide_eq_false vm] at cc
          clear vz vm
          by_cases ok : 1 ≤ mn ∧ mn ≤ 64
          · have OK := Lib.hid ok
            go_wp2_with (fail)
            refine cc.mono ?_
            rintro e w2 ⟨rfl, rfl⟩
            go_wp2_with (fail)
            refine (put_ok A2 n2 c2 s A1 n1 c1 d M mn mc mine w1 RR2.out P3.out hn2 RR1.out Q3.out hn1 (HM.out.below B1.out) OK.out.1 OK.out.2).mono ?_
            rintro e w3 ⟨V, rfl, hmade⟩
            have MD := Lib.hid (hmade.base B1.out)
            clear hmade ok
            go_wp2_with (fail)
            go_ret2
            exact .inr (.inr ⟨d, s, V, HQ.out, by rw [MEN.out]; exact OK.out, rfl, MD.out⟩)
          · have OK := Lib.hid ok
            clear ok
            go_wp2_with (fail)
            refine cc.mono ?_
            rintro e w2 ⟨rfl, rfl⟩
            go_wp2_with (fail)
            refine (put_no A2 n2 c2 A1 n1 c1 M mn mc w1 (by omega) (by omega) hmn (fun h => OK.out ⟨h.2.2.1, h.2.2.2⟩)).mono ?_
            rintro e w3 ⟨rfl, b3⟩
            have B3 := Lib.hid (nextB B1.out b3)
            clear b3
            go_wp2_with (fail)
            go_ret2
            exact .inr (.inl ⟨d, s, HQ.out, by rw [MEN.out]; exact OK.out, rfl, B3.out⟩)
end Go.Proofs.Ytgknamdcllapbaa
