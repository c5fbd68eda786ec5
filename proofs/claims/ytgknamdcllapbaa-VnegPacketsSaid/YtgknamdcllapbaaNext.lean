/- What a client does with a packet; what a server answers: the code. -/
import Derived.Test.YtgknamdcllapbaaBegin
namespace Go.Proofs.Ytgknamdcllapbaa
set_option linter.unusedVariables false
set_option linter.unusedSimpArgs false
open Go.RowKit
attribute [local go_sem ↓] part_lh part_l part_lhm
theorem str_inj : ∀ (xs ys : List Int), (∀ x ∈ xs, 0 ≤ x ∧ x ≤ 255) → (∀ y ∈ ys, 0 ≤ y ∧ y ≤ 255) → strOfNums xs = strOfNums ys → xs = ys := by
  intro xs ys hx hy h
  have h2 : xs.map (fun n => UInt8.ofNat n.toNat) = ys.map (fun n => UInt8.ofNat n.toNat) := by
    have := congrArg (fun s : ByteArray => s.data.toList) h
    simpa [strOfNums] using this
  clear h
  induction xs generalizing ys with
  | nil => cases ys with
    | nil => rfl
    | cons y ys => simp at h2
  | cons x xs ih => cases ys with
    | nil => simp at h2
    | cons y ys =>
      simp only [List.map_cons, List.cons.injEq] at h2
      have a := hx x (List.mem_cons_self ..)
      have b := hy y (List.mem_cons_self ..)
      have e : x = y := by
        have h3 := congrArg UInt8.toNat h2.1
        simp only [UInt8.toNat_ofNat'] at h3
        omega
      rw [e, ih ys (fun z hz => hx z (List.mem_cons_of_mem _ hz)) (fun z hz => hy z (List.mem_cons_of_mem _ hz)) h2.2]
set_option maxHeartbeats 4000000 in
theorem equal_c (w : World) (A : Option Addr) (n c : Nat) (xs : List Int) (B : Option Addr) (m d : Nat) (ys : List Int) (hx : IntRow .u8 w A n xs) (hy : IntRow .u8 w B m ys) :
    Calls Try.prog 24 #[.slice A n c, .slice B m d] w fun e w' => e = .returned (.bool (decide (xs = ys))) ∧ w = w' := by
  have k1 := conv_row c hx
  have k2 := conv_row d hy
  by_cases h : xs = ys
  · subst h
    rw [show decide (xs = xs) = true from decide_eq_true rfl]
    generalize strOfNums xs = S at *
    clear hx hy
    go_enter Try.func24, Try.ntmps24
    go_wp2
    go_ret
    exact ⟨by simp, rfl⟩
  · have hs : strOfNums xs ≠ strOfNums ys := fun e => h (str_inj xs ys (row_byte hx) (row_byte hy) e)
    rw [show decide (xs = ys) = false from decide_eq_false h]
    generalize strOfNums xs = S at *
    generalize strOfNums ys = T at *
    clear hx hy h
    have hl : ¬ S.toList = T.toList := fun e => hs (by
      rw [ByteArray.toList_eq, ByteArray.toList_eq] at e
      exact WideShapes.bytes_inj e)
    have t1 : (S.toList == T.toList) = false := by simpa using hl
    go_enter Try.func24, Try.ntmps24
    go_wp2
    go_ret
    exact ⟨by simp [hl], rfl⟩
/-- What the client's answer is. -/
def nextOf (pd ps vs dst src mine : List Int) (tried : Int) : Int × Int :=
  if pd ≠ src ∨ ps ≠ dst then (0, 2) else if tried ∈ vs then (0, 6) else if (pick vs mine).2 = false then (0, 4) else ((pick vs mine).1, 0)
set_option maxHeartbeats 8000000 in
theorem next_c (w : World) (A : Option Addr) (n c : Nat) (pd : List Int) (B : Option Addr) (m d : Nat) (ps : List Int) (E : Option Addr) (q g : Nat) (vs : List Int) (D : Option Addr) (dn dc : Nat) (dst : List Int) (S : Option Addr) (sn sc : Nat) (src : List Int) (tried : Int) (M : Option Addr) (mn mc : Nat) (mine : List Int)
    (h1 : IntRow .u8 w A n pd) (h2 : IntRow .u8 w B m ps) (h3 : IntRow .u32 w E q vs) (h4 : IntRow .u8 w D dn dst) (h5 : IntRow .u8 w S sn src) (h6 : IntRow .u32 w M mn mine) (hq : q ≤ 9223372036854775807) (hm : mn ≤ 9223372036854775807) :
    Calls Try.prog 17 #[.agg #[.slice A n c, .slice B m d, .slice E q g], .slice D dn dc, .slice S sn sc, .int .u32 tried, .slice M mn mc] w fun e w' => e = .returned (.tuple #[.int .u32 (nextOf pd ps vs dst src mine tried).1, .int .i64 (nextOf pd ps vs dst src mine tried).2]) ∧ Below w.heap.size w w' := by
  have hb : Below w.heap.size w (w.alloc (.cells #[.slice A n c, .slice B m d, .slice E q g] 32)) := (Below.refl _ _).alloc (Nat.le_refl _) _
  have e1 := equal_c _ A n c pd S sn sc src (h1.below hb) (h5.below hb)
  have e2 := equal_c _ B m d ps D dn dc dst (h2.below hb) (h4.below hb)
  have e3 := contains_c vs tried E q g _ (h3.below hb) hq
  have e4 := choose_c mine vs M mn mc E q g _ (h6.below hb) hm (h3.below hb) hq
  have hu32 := Try.underlying32
  have E1 := Lib.hid e1
  have E2 := Lib.hid e2
  have E3 := Lib.hid e3
  have E4 := Lib.hid e4
  have HB := Lib.hid hb
  clear e1 e2 e3 e4 hb h1 h2 h3 h4 h5 h6
  by_cases a : pd = src
  · rw [show decide (pd = src) = true from decide_eq_true a] at E1
    by_cases b : ps = dst
    · rw [show decide (ps = dst) = true from decide_eq_true b] at E2
      by_cases t : tried ∈ vs
      · rw [show decide (tried ∈ vs) = true from decide_eq_true t] at E3
        have HN : Hid (nextOf pd ps vs dst src mine tried = (0, 6)) := Lib.hid (by unfold nextOf; rw [if_neg (by simp [a, b]), if_pos t])
        rw [HN.out]
        clear a b t
        go_enter Try.func17, Try.ntmps17
        go_wp2_with (fail)
        refine E1.out.mono ?_
        rintro e w1 ⟨rfl, rfl⟩
        go_wp2_with (fail)
        refine E2.out.mono ?_
        rintro e w1 ⟨rfl, rfl⟩
        go_wp2_with (fail)
        refine E3.out.mono ?_
        rintro e w1 ⟨rfl, rfl⟩
        go_wp2_with (fail)
        go_ret2
        exact ⟨rfl, HB.out⟩
      · rw [show decide (tried ∈ vs) = false from decide_eq_false t] at E3
        have HN : Hid (nextOf pd ps vs dst src mine tried = if (pick vs mine).2 = false then (0, 4) else ((pick vs mine).1, 0)) := Lib.hid (by unfold nextOf; rw [if_neg (by simp [a, b]), if_neg t])
        rw [HN.out]
        clear a b t HN
        generalize pick vs mine = P at *
        obtain ⟨p, r⟩ := P
        cases r
        all_goals
          go_enter Try.func17, Try.ntmps17
          go_wp2_with (fail)
          refine E1.out.mono ?_
          rintro e w1 ⟨rfl, rfl⟩
          go_wp2_with (fail)
          refine E2.out.mono ?_
          rintro e w1 ⟨rfl, rfl⟩
          go_wp2_with (fail)
          refine E3.out.mono ?_
          rintro e w1 ⟨rfl, rfl⟩
          go_wp2_with (fail)
          refine E4.out.mono ?_
          rintro e w1 ⟨rfl, rfl⟩
          go_wp2_with (fail)
          go_ret2
          exact ⟨by simp, HB.out⟩
    · rw [show decide (ps = dst) = false from decide_eq_false b] at E2
      have HN : Hid (nextOf pd ps vs dst src mine tried = (0, 2)) := Lib.hid (by unfold nextOf; rw [if_pos (.inr b)])
      rw [HN.out]
      clear a b
      go_enter Try.func17, Try.ntmps17
      go_wp2_with (fail)
      refine E1.out.mono ?_
      rintro e w1 ⟨rfl, rfl⟩
      go_wp2_with (fail)
      refine E2.out.mono ?_
      rintro e w1 ⟨rfl, rfl⟩
      go_wp2_with (fail)
      go_ret2
      exact ⟨rfl, HB.out⟩
  · rw [show decide (pd = src) = false from decide_eq_false a] at E1
    have HN : Hid (nextOf pd ps vs dst src mine tried = (0, 2)) := Lib.hid (by unfold nextOf; rw [if_pos (.inl a)])
    rw [HN.out]
    clear a
    go_enter Try.func17, Try.ntmps17
    go_wp2_with (fail)
    refine E1.out.mono ?_
    rintro e w1 ⟨rfl, rfl⟩
    go_wp2_with (fail)
    go_ret2
    exact ⟨rfl, HB.out⟩
end Go.Proofs.Ytgknamdcllapbaa
