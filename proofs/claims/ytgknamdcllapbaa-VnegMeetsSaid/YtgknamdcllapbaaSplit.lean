/- How a long packet begins, as the code reads it. -/
import Derived.Test.YtgknamdcllapbaaCid
namespace Go.Proofs.Ytgknamdcllapbaa
set_option linter.unusedVariables false
set_option linter.unusedSimpArgs false
open Go.RowKit
attribute [local go_sem ↓] part_lh part_l part_lhm
/-- A long packet's beginning: its version, both ids, what is behind. -/
def split (zs : List Int) : Option (Int × List Int × List Int × List Int) :=
  if 5 ≤ zs.length ∧ 128 ≤ zs.getD 0 0 then match cutId (zs.drop 5) with
    | none => none
    | some (d, r) => match cutId r with
      | none => none
      | some (s, r2) => some (word ((zs.take 5).drop 1), d, s, r2)
  else none
theorem bit_long (x : Int) (h0 : 0 ≤ x) (h1 : x ≤ 255) : (bits .and .u8 x 128 == 0) = decide (x < 128) := by
  obtain ⟨n, rfl⟩ := Int.eq_ofNat_of_zero_le h0
  have e : bits .and .u8 (n : Int) 128 = ((n &&& 128 : Nat) : Int) := (bits_nat .u8 8 (by decide) wraps_u8 n 128 (by omega) (by decide)).1
  rw [e]
  have h : n &&& 128 = n / 128 % 2 * 128 := by
    have h1 : (n &&& 128) / 2 ^ 7 = n / 2 ^ 7 % 2 := by
      rw [Nat.and_div_two_pow, show 128 / 2 ^ 7 = 2 ^ 1 - 1 from rfl, Nat.and_two_pow_sub_one_eq_mod]
    have h2 : (n &&& 128) % 2 ^ 7 = 0 := by
      rw [Nat.and_mod_two_pow, show 128 % 2 ^ 7 = 0 from rfl, Nat.and_zero]
    simp only [show (2 : Nat) ^ 7 = 128 from rfl] at h1 h2
    omega
  rw [h, Bool.eq_iff_iff, beq_iff_eq, decide_eq_true_iff]
  omega
set_option maxHeartbeats 8000000 in
theorem split_short (w : World) (A : Option Addr) (n c : Nat) (zs : List Int) (hr : IntRow .u8 w A n zs) (hn : n ≤ 100000) (hno : ¬ (5 ≤ zs.length ∧ 128 ≤ zs.getD 0 0)) :
    Calls Try.prog 23 #[.slice A n c] w fun e w' => (∃ x1 x2 x3 x4, e = .returned (.tuple #[x1, x2, x3, x4, .bool false])) ∧ Below w.heap.size w w' := by
  have hlen := hr.1
  by_cases a : n < 5
  · have t0 : decide ((n : Int) < 5) = true := decide_eq_true (by omega)
    clear hno hr
    go_enter Try.func23, Try.ntmps23
    go_wp2
    exact bodyPost_ret (v := .tuple #[.int .u32 0, .slice none 0 0, .slice none 0 0, .slice none 0 0, .bool false]) (by simp [results, Try.results23, go_sem]) rfl ⟨⟨_, _, _, _, rfl⟩, ((Below.refl _ _).alloc (Nat.le_refl _) _).alloc (by simp) _⟩
  · have t0 : decide ((n : Int) < 5) = false := decide_eq_false (by omega)
    obtain ⟨b, off, rfl, hb, hz⟩ := hr.2.resolve_left (by omega)
    have hcell := (hz 0 (by omega)).1
    have hd := bd8 (hz 0 (by omega)).2
    rw [Nat.add_zero] at hcell
    have hlow : zs.getD 0 0 < 128 := by
      rcases Int.lt_or_le (zs.getD 0 0) 128 with h | h
      · exact h
      · exact absurd ⟨by omega, h⟩ hno
    generalize zs.getD 0 0 = x at *
    have hbit := bit_long x hd.1 hd.2
    rw [show decide (x < 128) = true from decide_eq_true hlow] at hbit
    have i1 : 0 < n := by omega
    have i0 : (0 : Int) < (n : Int) := by omega
    clear hno hr hz hlow
    go_enter Try.func23, Try.ntmps23
    go_wp2
    exact bodyPost_ret (v := .tuple #[.int .u32 0, .slice none 0 0, .slice none 0 0, .slice none 0 0, .bool false]) (by simp [results, Try.results23, go_sem]) rfl ⟨⟨_, _, _, _, rfl⟩, ((Below.refl _ _).alloc (Nat.le_refl _) _).alloc (by simp) _⟩
/-- A call that reads how a packet begins: it does. -/
def Parsed (w : World) (zs : List Int) (v : Int) (d s r : List Int) (e : Ending) (w' : World) : Prop :=
  ∃ (V1 V2 : Value) (S : Addr) (k m : Nat), e = .returned (.tuple #[.int .u32 v, V1, V2, .slice (some S) k m, .bool true]) ∧ w'.ownsRow w.heap.size 5 1 V1 d.length (d.map (Value.int .u8)) ∧ w'.ownsRow w.heap.size 5 1 V2 s.length (s.map (Value.int .u8)) ∧ k ≤ zs.length ∧ k ≤ m ∧ m ≤ maxLen ∧ S.block < w.heap.size ∧ IntRow .u8 w' (some S) k r ∧ Below w.heap.size w w'
theorem cell_same {w : World} {p : Addr} {v : Value} (x : Value) (h : w.cell? p = some v) : (w.setCell p x).cell? p = some x := World.cell?_setCell_same' _ _ _ (by rw [h]; rfl)
theorem results_five {P : Program} {fn : Func} {a b c p q : Tmp} {ty uy : TypeId} (h : fn.results = #[.tmp a, .tmp b, .tmp c, .cell p ty, .cell q uy]) (tmps : Array Value) (w : World) {x1 x2 x3 x4 x5 : Value} {g k : Addr}
    (h1 : tmps.getD a undef = x1) (h2 : tmps.getD b undef = x2) (h3 : tmps.getD c undef = x3) (h4 : tmps.getD p undef = .pointer (some g)) (h5 : tmps.getD q undef = .pointer (some k))
    (l4 : (loadVar ty g).run P w = .ok x4 w) (l5 : (loadVar uy k).run P w = .ok x5 w) : (results fn tmps).run P w = .ok (.tuple #[x1, x2, x3, x4, x5]) w := by
  have h1' : tmps[a]?.getD undef = x1 := by simpa using h1
  have h2' : tmps[b]?.getD undef = x2 := by simpa using h2
  have h3' : tmps[c]?.getD undef = x3 := by simpa using h3
  have h4' : tmps[p]?.getD undef = .pointer (some g) := by simpa using h4
  have h5' : tmps[q]?.getD undef = .pointer (some k) := by simpa using h5
  simp [results, h, h1', h2', h3', h4', h5', asAddr, l4, l5, Sem.run_bind, Result.andThen]
set_option maxHeartbeats 16000000 in
theorem split_long (w : World) (A : Option Addr) (n c : Nat) (zs : List Int) (hr : IntRow .u8 w A n zs) (hn : n ≤ 100000) (hc : n ≤ c) (hcm : c ≤ maxLen) (hl5 : 5 ≤ zs.length) (h128 : 128 ≤ zs.getD 0 0) :
    Calls Try.prog 23 #[.slice A n c] w fun e w' => (split zs = none ∧ (∃ x1 x2 x3 x4, e = .returned (.tuple #[x1, x2, x3, x4, .bool false])) ∧ Below w.heap.size w w') ∨ ∃ v d s r, split zs = some (v, d, s, r) ∧ Parsed w zs v d s r e w' := by
  have hlen := hr.1
  have t0 : decide ((n : Int) < 5) = false := decide_eq_false (by omega)
  obtain ⟨b, off, rfl, hb, hz⟩ := hr.2.resolve_left (by omega)
  have hcell := (hz 0 (by omega)).1
  have hd := bd8 (hz 0 (by omega)).2
  rw [Nat.add_zero] at hcell
  have hsp : split zs = match cutId (zs.drop 5) with
    | none => none
    | some (d, r) => match cutId r with
      | none => none
      | some (s, r2) => some (word ((zs.take 5).drop 1), d, s, r2) := by unfold split; rw [if_pos ⟨hl5, h128⟩]
  have HSP := Lib.hid hsp
  have HRW := Lib.hid hr
  generalize zs.getD 0 0 = x at *
  have hbit := bit_long x hd.1 hd.2
  rw [show decide (x < 128) = false from decide_eq_false (by omega)] at hbit
  have i1 : 0 < n := by omega
  have i0 : (0 : Int) < (n : Int) := by omega
  have i5 : (5 : Int) ≤ (n : Int) := by omega
  obtain ⟨S5, hS5, hS5b⟩ := part_some b off 5 c
  obtain ⟨S1, hS1, hS1b⟩ := part_some b off 1 c
  have HS1 := Lib.hid hS1
  have hR5 := part_rest (lo := 5) (c := c) hr hc
  rw [hS5] at hR5
  have HR5 := Lib.hid hR5
  have i5c : (5 : Int) ≤ (c : Int) := by omega
  clear hr hz hsp hS1 hR5 hl5
  go_enter Try.func23, Try.ntmps23
  go_wp2_with (fail)
  obtain ⟨ws, hws⟩ : ∃ ws, (zs.take 5).drop 1 = ws := ⟨_, rfl⟩
  rw [hws] at HSP
  obtain ⟨wv, hwv⟩ : ∃ wv, word ws = wv := ⟨_, rfl⟩
  rw [hwv] at HSP
  have HW : Hid (IntRow .u8 w (some S1) 4 ws) := Lib.hid (by have := part_row (lo := 1) (hi := 5) (c := c) HRW.out (by omega) (by omega); rw [HS1.out, hws] at this; exact this)
  clear hws
  obtain ⟨w1, hw1⟩ : ∃ w1 : World, (w.alloc (.cells #[.slice (some S5) (n - 5) (c - 5)] 30)).alloc (.cells #[.bool true] 4) = w1 := ⟨_, rfl⟩
  have B1 : Hid (Below w.heap.size w w1) := Lib.hid (by rw [← hw1]; exact ((Below.refl _ _).alloc (Nat.le_refl _) _).alloc (by simp) _)
  have G1 : Hid (OkAt w1 (w.heap.size + 1) true) := Lib.hid (by rw [← hw1]; simpa [OkAt] using blk_new (w.alloc (.cells #[.slice (some S5) (n - 5) (c - 5)] 30)) (.cells #[.bool true] 4))
  have H1 : Hid (RestAt w1 w.heap.size (.slice (some S5) (n - 5) (c - 5))) := Lib.hid (by rw [← hw1]; exact blk_alloc _ (blk_new w _))
  have Z1 : w1.heap.size = w.heap.size + 2 := by rw [← hw1]; simp
  have HZ1 := Lib.hid Z1
  rw [hw1]
  clear hw1 Z1
  have hne : w.heap.size ≠ w.heap.size + 1 := by omega
  cases h1 : cutId (zs.drop 5) with
  | none =>
    have hnone : Hid (split zs = none) := Lib.hid (by rw [HSP.out, h1])
    refine (cid_bad w1 (w.heap.size + 1) w.heap.size (some S5) (n - 5) (c - 5) (zs.drop 5) G1.out H1.out (HR5.out.below B1.out) (by omega) (by omega) h1).mono ?_
    rintro e w2 ⟨rfl, g2, o2⟩
    have G2 := Lib.hid g2
    have O2 := Lib.hid o2
    clear g2 o2 h1
    go_wp2_with (fail)
    refine (cid_no w2 (w.heap.size + 1) w.heap.size G2.out).mono ?_
    rintro e w3 ⟨rfl, g3, o3⟩
    have G3 := Lib.hid g3
    have H3 : Hid (RestAt w3 w.heap.size (.slice (some S5) (n - 5) (c - 5))) := Lib.hid (by
      have hs2 := O2.out.size
      have hz := HZ1.out
      unfold RestAt
      rw [o3.block _ (by omega) hne, O2.out.block _ (by omega) hne]
      exact H1.out)
    have B3 : Hid (Below w.heap.size w w3) := Lib.hid ((B1.out.trans (O2.out.below (by omega) (by have := HZ1.out; omega))).trans (o3.below (by omega) (by have := O2.out.size; have := HZ1.out; omega)))
    clear g3 o3
    have x0 : w3.cell? ⟨w.heap.size + 1, 0, none⟩ = some (.bool false) := (blk_cell G3.out 0).trans rfl
    have x1 : w3.cell? ⟨w.heap.size, 0, none⟩ = some (.slice (some S5) (n - 5) (c - 5)) := (blk_cell H3.out 0).trans rfl
    have y0 : w3.frozen? ⟨w.heap.size + 1, 0, none⟩ = false := blk_frozen G3.out 0
    have y1 : w3.frozen? ⟨w.heap.size, 0, none⟩ = false := blk_frozen H3.out 0
    have hS1 := HS1.out
    have WC := Lib.hid fun wz (hz : Below w3.heap.size w3 wz) => word_c ws (some S1) (c - 1) wz ((HW.out.below B3.out).below hz)
    rw [hwv] at WC
    go_upto_region 6 with (fail)
    go_region_held3 (fun w' => w'.cell? ⟨w.heap.size + 1, 0, none⟩ = some (.bool false) ∧ w'.cell? ⟨w.heap.size, 0, none⟩ = some (.slice (some S5) (n - 5) (c - 5)) ∧ w'.frozen? ⟨w.heap.size + 1, 0, none⟩ = false ∧ w'.frozen? ⟨w.heap.size, 0, none⟩ = false)
      (first | (go_keep; done) | (go_split_ands; refine ⟨?_, ?_, ?_, ?_⟩ <;> first | (exact cell_same _ (by assumption)) | go_keep))
      ((go_at_call 27; refine (WC.out _ (Below.drew (Below.refl _ _))).mono ?_; rintro e w5 ⟨rfl, q, rfl⟩))
    all_goals
      go_split_ands
      clear x0 x1
      go_wp2_with (fail)
      have T6 : Two (w.heap.size + 1) w.heap.size w3 (((w3.drewN (1 + q)).setCell ⟨w.heap.size, 0, none⟩ (.slice (some S5) (n - 5) (c - 5))).setCell ⟨w.heap.size + 1, 0, none⟩ (.bool false)) := ((Two.drewN w3 (1 + q)).trans (Two.setH _ _ _)).trans (Two.setG _ _ _)
      have x0 : (((w3.drewN (1 + q)).setCell ⟨w.heap.size, 0, none⟩ (.slice (some S5) (n - 5) (c - 5))).setCell ⟨w.heap.size + 1, 0, none⟩ (.bool false)).cell? ⟨w.heap.size + 1, 0, none⟩ = some (.bool false) := by assumption
      have x1 : (((w3.drewN (1 + q)).setCell ⟨w.heap.size, 0, none⟩ (.slice (some S5) (n - 5) (c - 5))).setCell ⟨w.heap.size + 1, 0, none⟩ (.bool false)).cell? ⟨w.heap.size, 0, none⟩ = some (.slice (some S5) (n - 5) (c - 5)) := by assumption
      have B6 : Below w.heap.size w (((w3.drewN (1 + q)).setCell ⟨w.heap.size, 0, none⟩ (.slice (some S5) (n - 5) (c - 5))).setCell ⟨w.heap.size + 1, 0, none⟩ (.bool false)) := B3.out.trans (T6.below (by omega) (by omega) B3.out.size)
      refine bodyPost_ret (v := .tuple #[.int .u32 wv, .slice none 0 0, .slice none 0 0, .slice (some S5) (n - 5) (c - 5), .bool false]) (results_five rfl _ _ rfl rfl rfl rfl rfl (by simp [go_sem, x1, x0]) (by simp [go_sem, x0])) rfl ?_
      exact .inl ⟨hnone.out, ⟨_, _, _, _, rfl⟩, B6⟩
  | some dr =>
    obtain ⟨d, r⟩ := dr
    refine (cid_ok w1 (w.heap.size + 1) w.heap.size w.heap.size (some S5) (n - 5) (c - 5) (zs.drop 5) d r G1.out H1.out (HR5.out.below B1.out) (by omega) (by omega) (by omega) h1 (by omega) (fun p hp => by cases hp; omega) (by omega) (Nat.le_refl _)).mono ?_
    rintro e w2 ⟨V1, S2, k2, m2, rfl, ho2, g2, hh2, hk2, hkm2, hm2, hS2b, hr2, t2⟩
    have O1 := Lib.hid ho2
    have G2 := Lib.hid g2
    have H2 := Lib.hid hh2
    have R2 := Lib.hid hr2
    have T2 := Lib.hid t2
    have HC1 := Lib.hid h1
    have Z2 : w.heap.size + 2 ≤ w2.heap.size := by have := t2.size; have := HZ1.out; omega
    clear ho2 g2 hh2 hr2 t2 h1
    go_wp2_with (fail)
    cases h2 : cutId r with
    | none =>
      have hnone : Hid (split zs = none) := Lib.hid (by rw [HSP.out, HC1.out]; simp only; rw [h2])
      refine (cid_bad w2 (w.heap.size + 1) w.heap.size (some S2) k2 m2 r G2.out H2.out R2.out (by omega) (by omega) h2).mono ?_
      rintro e w3 ⟨rfl, g3, o3⟩
      have G3 := Lib.hid g3
      have H3 : Hid (RestAt w3 w.heap.size (.slice (some S2) k2 m2)) := Lib.hid (by
        unfold RestAt
        rw [o3.block _ (by omega) hne]
        exact H2.out)
      have B3 : Hid (Below w.heap.size w w3) := Lib.hid ((B1.out.trans (T2.out.below (by omega) (Nat.le_refl _) (by have := HZ1.out; omega))).trans (o3.below (by omega) (by omega)))
      clear g3 o3 h2
      have x0 : w3.cell? ⟨w.heap.size + 1, 0, none⟩ = some (.bool false) := (blk_cell G3.out 0).trans rfl
      have x1 : w3.cell? ⟨w.heap.size, 0, none⟩ = some (.slice (some S2) k2 m2) := (blk_cell H3.out 0).trans rfl
      have y0 : w3.frozen? ⟨w.heap.size + 1, 0, none⟩ = false := blk_frozen G3.out 0
      have y1 : w3.frozen? ⟨w.heap.size, 0, none⟩ = false := blk_frozen H3.out 0
      have hS1 := HS1.out
      have WC := Lib.hid fun wz (hz : Below w3.heap.size w3 wz) => word_c ws (some S1) (c - 1) wz ((HW.out.below B3.out).below hz)
      rw [hwv] at WC
      go_upto_region 6 with (fail)
      go_region_held3 (fun w' => w'.cell? ⟨w.heap.size + 1, 0, none⟩ = some (.bool false) ∧ w'.cell? ⟨w.heap.size, 0, none⟩ = some (.slice (some S2) k2 m2) ∧ w'.frozen? ⟨w.heap.size + 1, 0, none⟩ = false ∧ w'.frozen? ⟨w.heap.size, 0, none⟩ = false)
        (first | (go_keep; done) | (go_split_ands; refine ⟨?_, ?_, ?_, ?_⟩ <;> first | (exact cell_same _ (by assumption)) | go_keep))
        ((go_at_call 27; refine (WC.out _ (Below.drew (Below.refl _ _))).mono ?_; rintro e w5 ⟨rfl, q, rfl⟩))
      all_goals
        go_split_ands
        clear x0 x1
        go_wp2_with (fail)
        have T6 : Two (w.heap.size + 1) w.heap.size w3 (((w3.drewN (1 + q)).setCell ⟨w.heap.size, 0, none⟩ (.slice (some S2) k2 m2)).setCell ⟨w.heap.size + 1, 0, none⟩ (.bool false)) := ((Two.drewN w3 (1 + q)).trans (Two.setH _ _ _)).trans (Two.setG _ _ _)
        have x0 : (((w3.drewN (1 + q)).setCell ⟨w.heap.size, 0, none⟩ (.slice (some S2) k2 m2)).setCell ⟨w.heap.size + 1, 0, none⟩ (.bool false)).cell? ⟨w.heap.size + 1, 0, none⟩ = some (.bool false) := by assumption
        have x1 : (((w3.drewN (1 + q)).setCell ⟨w.heap.size, 0, none⟩ (.slice (some S2) k2 m2)).setCell ⟨w.heap.size + 1, 0, none⟩ (.bool false)).cell? ⟨w.heap.size, 0, none⟩ = some (.slice (some S2) k2 m2) := by assumption
        have B6 : Below w.heap.size w (((w3.drewN (1 + q)).setCell ⟨w.heap.size, 0, none⟩ (.slice (some S2) k2 m2)).setCell ⟨w.heap.size + 1, 0, none⟩ (.bool false)) := B3.out.trans (T6.below (by omega) (by omega) B3.out.size)
        refine bodyPost_ret (v := .tuple #[.int .u32 wv, V1, .slice none 0 0, .slice (some S2) k2 m2, .bool false]) (results_five rfl _ _ rfl rfl rfl rfl rfl (by simp [go_sem, x1, x0]) (by simp [go_sem, x0])) rfl ?_
        exact .inl ⟨hnone.out, ⟨_, _, _, _, rfl⟩, B6⟩
    | some sr =>
      obtain ⟨s, r2⟩ := sr
      have hsome : Hid (split zs = some (wv, d, s, r2)) := Lib.hid (by rw [HSP.out, HC1.out]; simp only; rw [h2])
      refine (cid_ok w2 (w.heap.size + 1) w.heap.size w.heap.size (some S2) k2 m2 r s r2 G2.out H2.out R2.out (by omega) (by omega) hm2 h2 (by omega) (fun p hp => by cases hp; exact hS2b) (by omega) (Nat.le_refl _)).mono ?_
      rintro e w3 ⟨V2, S3, k3, m3, rfl, ho3, g3, hh3, hk3, hkm3, hm3, hS3b, hr3, t3⟩
      have O2 := Lib.hid ho3
      have G3 := Lib.hid g3
      have H3 := Lib.hid hh3
      have R3 := Lib.hid hr3
      have T3 := Lib.hid t3
      have B3 : Hid (Below w.heap.size w w3) := Lib.hid ((B1.out.trans (T2.out.below (by omega) (Nat.le_refl _) (by have := HZ1.out; omega))).trans (t3.below (by omega) (Nat.le_refl _) (by omega)))
      clear ho3 g3 hh3 hr3 t3 h2
      have x0 : w3.cell? ⟨w.heap.size + 1, 0, none⟩ = some (.bool true) := (blk_cell G3.out 0).trans rfl
      have x1 : w3.cell? ⟨w.heap.size, 0, none⟩ = some (.slice (some S3) k3 m3) := (blk_cell H3.out 0).trans rfl
      have y0 : w3.frozen? ⟨w.heap.size + 1, 0, none⟩ = false := blk_frozen G3.out 0
      have y1 : w3.frozen? ⟨w.heap.size, 0, none⟩ = false := blk_frozen H3.out 0
      have hS1 := HS1.out
      have WC := Lib.hid fun wz (hz : Below w3.heap.size w3 wz) => word_c ws (some S1) (c - 1) wz ((HW.out.below B3.out).below hz)
      rw [hwv] at WC
      go_upto_region 6 with (fail)
      go_region_held3 (fun w' => w'.cell? ⟨w.heap.size + 1, 0, none⟩ = some (.bool true) ∧ w'.cell? ⟨w.heap.size, 0, none⟩ = some (.slice (some S3) k3 m3) ∧ w'.frozen? ⟨w.heap.size + 1, 0, none⟩ = false ∧ w'.frozen? ⟨w.heap.size, 0, none⟩ = false)
        (first | (go_keep; done) | (go_split_ands; refine ⟨?_, ?_, ?_, ?_⟩ <;> first | (exact cell_same _ (by assumption)) | go_keep))
        ((go_at_call 27; refine (WC.out _ (Below.drew (Below.refl _ _))).mono ?_; rintro e w5 ⟨rfl, q, rfl⟩))
      all_goals
        go_split_ands
        clear x0 x1
        go_wp2_with (fail)
        have T6 : Two (w.heap.size + 1) w.heap.size w3 (((w3.drewN (1 + q)).setCell ⟨w.heap.size, 0, none⟩ (.slice (some S3) k3 m3)).setCell ⟨w.heap.size + 1, 0, none⟩ (.bool true)) := ((Two.drewN w3 (1 + q)).trans (Two.setH _ _ _)).trans (Two.setG _ _ _)
        have x0 : (((w3.drewN (1 + q)).setCell ⟨w.heap.size, 0, none⟩ (.slice (some S3) k3 m3)).setCell ⟨w.heap.size + 1, 0, none⟩ (.bool true)).cell? ⟨w.heap.size + 1, 0, none⟩ = some (.bool true) := by assumption
        have x1 : (((w3.drewN (1 + q)).setCell ⟨w.heap.size, 0, none⟩ (.slice (some S3) k3 m3)).setCell ⟨w.heap.size + 1, 0, none⟩ (.bool true)).cell? ⟨w.heap.size, 0, none⟩ = some (.slice (some S3) k3 m3) := by assumption
        have B6 : Below w.heap.size w (((w3.drewN (1 + q)).setCell ⟨w.heap.size, 0, none⟩ (.slice (some S3) k3 m3)).setCell ⟨w.heap.size + 1, 0, none⟩ (.bool true)) := B3.out.trans (T6.below (by omega) (by omega) B3.out.size)
        refine bodyPost_ret (v := .tuple #[.int .u32 wv, V1, V2, .slice (some S3) k3 m3, .bool true]) (results_five rfl _ _ rfl rfl rfl rfl rfl (by simp [go_sem, x1, x0]) (by simp [go_sem, x0])) rfl ?_
        refine .inr ⟨wv, d, s, r2, hsome.out, V1, V2, S3, k3, m3, rfl, ?_, ?_, by omega, by omega, hm3, hS3b, ?_, B6⟩
        · exact own_mono (own_two (own_two O1.out T3.out (by have := HZ1.out; omega) (by have := HZ1.out; omega)) T6 (by have := HZ1.out; omega) (by have := HZ1.out; omega)) (by have := HZ1.out; omega)
        · exact own_mono (own_two O2.out T6 (by omega) (by omega)) (by omega)
        · exact R3.out.two T6 (fun p hp => by cases hp; constructor <;> omega)
end Go.Proofs.Ytgknamdcllapbaa
