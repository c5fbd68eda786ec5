/- The closure that reads an id. -/
import Derived.Test.YtgknamdcllapbaaWord
import Derived.Deep.DeepCutAuto
namespace Go.Proofs.Ytgknamdcllapbaa
set_option linter.unusedVariables false
set_option linter.unusedSimpArgs false
open Go.RowKit
attribute [local go_sem ↓] part_lh part_l part_lhm
/-- An id, behind how many bytes it has; what is behind it. -/
def cutId (zs : List Int) : Option (List Int × List Int) := if 0 < zs.length ∧ (zs.getD 0 0).toNat < zs.length then some ((zs.take (1 + (zs.getD 0 0).toNat)).drop 1, zs.drop (1 + (zs.getD 0 0).toNat)) else none
/-- Behind the world w only two blocks have turned. -/
structure Two (g h : Nat) (w w' : World) : Prop where
  os : w'.os = w.os
  tape : w'.tape = w.tape
  output : w'.output = w.output
  size : w.heap.size ≤ w'.heap.size
  block : ∀ k, k < w.heap.size → k ≠ g → k ≠ h → w'.heap[k]? = w.heap[k]?
theorem Two.refl (g h : Nat) (w : World) : Two g h w w := ⟨rfl, rfl, rfl, Nat.le_refl _, fun _ _ _ _ => rfl⟩
theorem Two.trans {g h : Nat} {a b c : World} (x : Two g h a b) (y : Two g h b c) : Two g h a c :=
  ⟨y.os.trans x.os, y.tape.trans x.tape, y.output.trans x.output, Nat.le_trans x.size y.size, fun i hi h1 h2 => (y.block i (Nat.lt_of_lt_of_le hi x.size) h1 h2).trans (x.block i hi h1 h2)⟩
theorem Two.of_below {g h : Nat} {w w' : World} (b : Below w.heap.size w w') : Two g h w w' := ⟨b.os, b.tape, b.output, b.size, fun k hk _ _ => b.block k hk⟩
theorem Two.setG {g h : Nat} (w : World) (i : Nat) (v : Value) : Two g h w (w.setCell ⟨g, i, none⟩ v) := ⟨rfl, rfl, rfl, by simp [World.setCell], fun k _ h1 _ => Below.heap_setCell _ _ _ _ h1⟩
theorem Two.setH {g h : Nat} (w : World) (i : Nat) (v : Value) : Two g h w (w.setCell ⟨h, i, none⟩ v) := ⟨rfl, rfl, rfl, by simp [World.setCell], fun k _ _ h2 => Below.heap_setCell _ _ _ _ h2⟩
theorem Two.drewN {g h : Nat} (w : World) (n : Nat) : Two g h w (w.drewN n) := ⟨rfl, rfl, rfl, Nat.le_refl _, fun _ _ _ _ => rfl⟩
theorem Two.below {g h C : Nat} {w w' : World} (x : Two g h w w') (h1 : C ≤ g) (h2 : C ≤ h) (h3 : C ≤ w.heap.size) : Below C w w' := ⟨x.os, x.tape, x.output, x.size, fun k hk => x.block k (by omega) (by omega) (by omega)⟩
theorem blk_two {g h k : Nat} {w w' : World} {o : Obj} (x : Two g h w w') (hk : w.heap[k]? = some o) (h1 : k ≠ g) (h2 : k ≠ h) : w'.heap[k]? = some o := (x.block k (blk_lt hk) h1 h2).trans hk
theorem IntRow.two {kd : IntKind} {g h : Nat} {w w' : World} {a : Option Addr} {len : Nat} {zs : List Int} (x : IntRow kd w a len zs) (t : Two g h w w') (hb : ∀ p, a = some p → p.block ≠ g ∧ p.block ≠ h) : IntRow kd w' a len zs := by
  obtain ⟨h1, h2⟩ := x
  refine ⟨h1, ?_⟩
  rcases h2 with h2 | ⟨b, off, e, hl, hc⟩
  · exact .inl h2
  · have := hb _ e
    refine .inr ⟨b, off, e, Nat.lt_of_lt_of_le hl t.size, fun j hj => ⟨?_, (hc j hj).2⟩⟩
    rw [World.cell?_of_block (w := w) (t.block b hl this.1 this.2)]
    exact (hc j hj).1
theorem own_form {w : World} {base : Nat} {e : TypeId} {v : Value} {n : Nat} {xs : List Value} (h : w.ownsRow base e 1 v n xs) : ∃ A c, v = .slice A n c := by
  rcases h.2 with ⟨rfl, h0⟩ | ⟨g, cap, cur, rfl, _⟩
  · exact ⟨none, 0, by rw [h0]⟩
  · exact ⟨_, _, rfl⟩
theorem own_two {g h : Nat} {w w' : World} {base : Nat} {e : TypeId} {v : Value} {n : Nat} {xs : List Value} (x : w.ownsRow base e 1 v n xs) (t : Two g h w w') (h1 : g < base) (h2 : h < base) : w'.ownsRow base e 1 v n xs := by
  refine ⟨x.1, ?_⟩
  rcases x.2 with h0 | ⟨k, cap, cur, h3, h4, h5, h6⟩
  · exact .inl h0
  · exact .inr ⟨k, cap, cur, h3, h4, blk_two t h5 (by omega) (by omega), h6⟩
def OkAt (w : World) (g : Nat) (o : Bool) : Prop := w.heap[g]? = some (.cells #[.bool o] 4 (0, 0))
def RestAt (w : World) (h : Nat) (v : Value) : Prop := w.heap[h]? = some (.cells #[v] 30 (0, 0))
set_option maxHeartbeats 4000000 in
theorem cid_no (w : World) (g h : Nat) (hg : OkAt w g false) :
    Calls Try.prog 29 #[.pointer (some ⟨g, 0, none⟩), .pointer (some ⟨h, 0, none⟩)] w fun e w' => e = .returned (.slice none 0 0) ∧ OkAt w' g false ∧ Only g w w' := by
  have c0 : w.cell? ⟨g, 0, none⟩ = some (.bool false) := (blk_cell hg 0).trans rfl
  have f0 : w.frozen? ⟨g, 0, none⟩ = false := blk_frozen hg 0
  have HG := Lib.hid hg
  clear hg
  go_enter Try.func29, Try.ntmps29
  go_wp2
  go_region
  all_goals
    go_wp2
    go_ret
    refine ⟨rfl, ?_, ?_⟩
    · first | exact blk_set _ HG.out
    · first | exact Only.set (Only.refl _ _) _ _ | exact Only.drew (Only.set (Only.refl _ _) _ _)
set_option maxHeartbeats 8000000 in
theorem cid_bad (w : World) (g h : Nat) (A : Option Addr) (n c : Nat) (zs : List Int) (hg : OkAt w g true) (hh : RestAt w h (.slice A n c)) (hr : IntRow .u8 w A n zs) (hn : n ≤ 100000) (hc : n ≤ c) (hcut : cutId zs = none) :
    Calls Try.prog 29 #[.pointer (some ⟨g, 0, none⟩), .pointer (some ⟨h, 0, none⟩)] w fun e w' => e = .returned (.slice none 0 0) ∧ OkAt w' g false ∧ Only g w w' := by
  have c0 : w.cell? ⟨g, 0, none⟩ = some (.bool true) := (blk_cell hg 0).trans rfl
  have f0 : w.frozen? ⟨g, 0, none⟩ = false := blk_frozen hg 0
  have c1 : w.cell? ⟨h, 0, none⟩ = some (.slice A n c) := (blk_cell hh 0).trans rfl
  have HG := Lib.hid hg
  by_cases z : n = 0
  · subst z
    have t0 : decide ((0 : Int) < ((0 : Nat) : Int)) = false := rfl
    have t1 : decide ((0 : Nat) < 0) = false := rfl
    clear hg hh hr hcut
    go_enter Try.func29, Try.ntmps29
    go_wp2
    go_region
    all_goals
      go_wp2
      go_ret
      refine ⟨rfl, ?_, ?_⟩
      · first | exact blk_set _ HG.out
      · first | exact Only.set (Only.refl _ _) _ _ | exact Only.drew (Only.set (Only.refl _ _) _ _)
  · obtain ⟨b, off, rfl, hb, hz⟩ := hr.2.resolve_left z
    have hcell := (hz 0 (by omega)).1
    have hd := bd8 (hz 0 (by omega)).2
    rw [Nat.add_zero] at hcell
    unfold cutId at hcut
    have hlen := hr.1
    clear hz
    generalize zs.getD 0 0 = d at *
    obtain ⟨dn, rfl⟩ := Int.eq_ofNat_of_zero_le hd.1
    have hge : n ≤ dn := by
      rcases Nat.lt_or_ge dn n with h | h
      · rw [if_pos (by simp; omega)] at hcut; cases hcut
      · exact h
    have t0 : decide ((0 : Int) < (n : Int)) = true := decide_eq_true (by omega)
    have t0' : decide (0 < n) = true := decide_eq_true (by omega)
    have t1 : decide ((dn : Int) < (n : Int)) = false := decide_eq_false (by omega)
    have t1' : decide (dn < n) = false := decide_eq_false (by omega)
    have i0 : (0 : Int) < (n : Int) := by omega
    clear hg hh hr hcut hlen
    go_enter Try.func29, Try.ntmps29
    go_wp2
    go_region
    all_goals
      go_wp2
      go_ret
      refine ⟨rfl, ?_, ?_⟩
      · first | exact blk_set _ HG.out
      · first | exact Only.set (Only.refl _ _) _ _ | exact Only.drew (Only.set (Only.refl _ _) _ _)
set_option maxHeartbeats 8000000 in
theorem cid_ok (w : World) (g h C : Nat) (A : Option Addr) (n c : Nat) (zs id r : List Int) (hg : OkAt w g true) (hh : RestAt w h (.slice A n c)) (hr : IntRow .u8 w A n zs) (hn : n ≤ 100000) (hc : n ≤ c) (hcm : c ≤ maxLen) (hcut : cutId zs = some (id, r)) (hgh : g ≠ h) (hA : ∀ p, A = some p → p.block < C) (hCg : C ≤ g) (hCh : C ≤ h) :
    Calls Try.prog 29 #[.pointer (some ⟨g, 0, none⟩), .pointer (some ⟨h, 0, none⟩)] w fun e w' => ∃ (V : Value) (S : Addr) (k m : Nat), e = .returned V ∧ w'.ownsRow w.heap.size 5 1 V id.length (id.map (Value.int .u8)) ∧ OkAt w' g true ∧ RestAt w' h (.slice (some S) k m) ∧ k ≤ n ∧ k ≤ m ∧ m ≤ maxLen ∧ S.block < C ∧ IntRow .u8 w' (some S) k r ∧ Two g h w w' := by
  have c0 : w.cell? ⟨g, 0, none⟩ = some (.bool true) := (blk_cell hg 0).trans rfl
  have f0 : w.frozen? ⟨g, 0, none⟩ = false := blk_frozen hg 0
  have c1 : w.cell? ⟨h, 0, none⟩ = some (.slice A n c) := (blk_cell hh 0).trans rfl
  have f1 : w.frozen? ⟨h, 0, none⟩ = false := blk_frozen hh 0
  have HG := Lib.hid hg
  have HH := Lib.hid hh
  have lg := blk_lt hg
  have lh := blk_lt hh
  have z : n ≠ 0 := by
    intro z
    unfold cutId at hcut
    rw [hr.1, z] at hcut
    simp at hcut
  obtain ⟨b, off, rfl, hb, hz⟩ := hr.2.resolve_left z
  have hbC := hA _ rfl
  simp only at hbC
  have hcell := (hz 0 (by omega)).1
  have hd := bd8 (hz 0 (by omega)).2
  rw [Nat.add_zero] at hcell
  unfold cutId at hcut
  have hlen := hr.1
  clear hz
  have hdx : ∃ dn : Nat, zs.getD 0 0 = dn := Int.eq_ofNat_of_zero_le hd.1
  obtain ⟨dn, hdn⟩ := hdx
  rw [hdn] at hcell hd hcut
  have hlt : dn < n := by
    rcases Nat.lt_or_ge dn n with h | h
    · exact h
    · rw [if_neg (by simp; omega)] at hcut; cases hcut
  rw [if_pos (by simp; omega)] at hcut
  have hid : (zs.take (1 + dn)).drop 1 = id ∧ zs.drop (1 + dn) = r := by simpa using hcut
  obtain ⟨hid, hrr⟩ := hid
  obtain ⟨S1, hS1, hS1b⟩ := part_some b off 1 c
  obtain ⟨S2, hS2, hS2b⟩ := part_some b off (1 + dn) c
  have HR1 : Hid (∀ wz, IntRow .u8 wz (some ⟨b, off, none⟩) n zs → IntRow .u8 wz (some S1) dn id) := Lib.hid fun wz h => by
    have := part_row (lo := 1) (hi := 1 + dn) (c := c) h (by omega) (by omega)
    rw [hS1, hid, show 1 + dn - 1 = dn from by omega] at this
    exact this
  have HR2 : Hid (∀ wz, IntRow .u8 wz (some ⟨b, off, none⟩) n zs → IntRow .u8 wz (some S2) (n - (1 + dn)) r) := Lib.hid fun wz h => by
    have := part_rest (lo := 1 + dn) (c := c) h hc
    rw [hS2, hrr] at this
    exact this
  have HRW := Lib.hid hr
  have t0 : decide ((0 : Int) < (n : Int)) = true := decide_eq_true (by omega)
  have t0' : decide (0 < n) = true := decide_eq_true (by omega)
  have t1 : decide ((dn : Int) < (n : Int)) = true := decide_eq_true (by omega)
  have t1' : decide (dn < n) = true := decide_eq_true (by omega)
  have i0 : (0 : Int) < (n : Int) := by omega
  have hwr : IntKind.i64.wrap (1 + (dn : Int)) = 1 + (dn : Int) := IntWalk.i64_in _ (by omega)
  have HS1 := Lib.hid hS1
  have HS2 := Lib.hid hS2
  clear hg hh hr hcut hlen hid hrr hdn hwr hS1 hS2 hA
  go_enter Try.func29, Try.ntmps29
  go_wp2
  go_region
  have hne1 : b ≠ g := by omega
  have hne2 : b ≠ h := by omega
  have T2 : Two g h w (w.setCell ⟨g, 0, none⟩ (.bool true)).drew := (Two.setG w 0 (.bool true)).trans ⟨rfl, rfl, rfl, Nat.le_refl _, fun _ _ _ _ => rfl⟩
  have G2 : OkAt (w.setCell ⟨g, 0, none⟩ (.bool true)).drew g true := blk_set (.bool true) HG.out
  have H2 : RestAt (w.setCell ⟨g, 0, none⟩ (.bool true)).drew h (.slice (some ⟨b, off, none⟩) n c) := (Below.heap_setCell w ⟨g, 0, none⟩ (.bool true) h (by simp; omega)).trans HH.out
  generalize (w.setCell ⟨g, 0, none⟩ (.bool true)).drew = w2 at *
  have R2 : IntRow .u8 w2 (some ⟨b, off, none⟩) n zs := HRW.out.two T2 (fun p hp => by cases hp; exact ⟨hne1, hne2⟩)
  have hcell2 : w2.cell? ⟨b, off, none⟩ = some (.int .u8 dn) := (World.cell?_of_block (w := w) (T2.block b hb hne1 hne2)).trans hcell
  have c0 : w2.cell? ⟨g, 0, none⟩ = some (.bool true) := (blk_cell G2 0).trans rfl
  have c1 : w2.cell? ⟨h, 0, none⟩ = some (.slice (some ⟨b, off, none⟩) n c) := (blk_cell H2 0).trans rfl
  have f1 : w2.frozen? ⟨h, 0, none⟩ = false := blk_frozen H2 0
  have hwr : IntKind.i64.wrap (1 + (dn : Int)) = 1 + (dn : Int) := IntWalk.i64_in _ (by omega)
  have hS1 := HS1.out
  have b1 : (1 : Int) ≤ 1 + (dn : Int) := by omega
  have b2 : (1 : Int) + (dn : Int) ≤ (c : Int) := by omega
  have i1 : 0 < n := by omega
  have hwd : IntKind.i64.wrap (dn : Int) = (dn : Int) := IntWalk.i64_in _ (by omega)
  have htn : (1 + (dn : Int)).toNat - 1 = dn := by omega
  have hb0 : Below w2.heap.size w2 w2 := Below.refl _ _
  have TT := Lib.hid T2
  have GG := Lib.hid G2
  have HH2 := Lib.hid H2
  have RR := Lib.hid R2
  have lb2 := Nat.lt_of_lt_of_le hb T2.size
  clear T2 G2 H2 R2 hcell
  go_upto_region 4 with (fail)
  go_region_held3 (fun w' => w'.cell? ⟨h, 0, none⟩ = some (.slice (some ⟨b, off, none⟩) n c) ∧ w'.cell? ⟨b, off, none⟩ = some (.int .u8 dn) ∧ Below w2.heap.size w2 w')
    (first | (go_split_ands; exact ⟨below_cell b5 (by assumption), below_cell b5 (by assumption), nextB (by assumption) b5⟩) | (go_split_ands; exact ⟨by assumption, by assumption, Below.drew (by assumption)⟩))
    ((go_at_call 30; go_split_ands; refine (clone_c id (some S1) dn (c - 1) _ (HR1.out _ (RR.out.below (by assumption))) (fun h => by cases h) (by omega)).mono ?_; rintro e w5 ⟨V, rfl, hm5⟩; have b5 := hm5.2))
  go_split_ands
  have hbw : Below w2.heap.size w2 w5 := by assumption
  have d1 : w5.cell? ⟨h, 0, none⟩ = some (.slice (some ⟨b, off, none⟩) n c) := by assumption
  have hid : id.length = dn := (HR1.out w2 RR.out).1
  obtain ⟨Av, cv, rfl⟩ := own_form hm5.1
  rw [hid]
  have lg2 : g < w2.heap.size := Nat.lt_of_lt_of_le lg TT.out.size
  have lh2 : h < w2.heap.size := Nat.lt_of_lt_of_le lh TT.out.size
  have HM5 := Lib.hid hm5
  have HBW := Lib.hid hbw
  have HID := Lib.hid hid
  have H5 : RestAt w5 h (.slice (some ⟨b, off, none⟩) n c) := by unfold RestAt; rw [hbw.block h lh2]; exact HH2.out
  have HH5 := Lib.hid H5
  have f5 : w5.frozen? ⟨h, 0, none⟩ = false := blk_frozen H5 0
  have htn2 : (1 + (dn : Int)).toNat = 1 + dn := by omega
  have hS2 := HS2.out
  have b3 : (1 : Int) + (dn : Int) ≤ (n : Int) := by omega
  have b4 : (0 : Int) ≤ 1 + (dn : Int) := by omega
  clear hm5 hbw hid H5 b5 hS1
  go_wp2_with (fail)
  go_ret
  have T5 : Two g h w w5 := TT.out.trans (Two.of_below HBW.out)
  have T6 : Two g h w5 (w5.setCell ⟨h, 0, none⟩ (.slice (some S2) (n - (1 + dn)) (c - (1 + dn)))) := Two.setH _ _ _
  refine ⟨_, S2, n - (1 + dn), c - (1 + dn), rfl, ?_, ?_, blk_set _ HH5.out, by omega, by omega, by omega, by omega, ?_, T5.trans T6⟩
  · have ho := HM5.out.1
    rw [HID.out]
    rw [HID.out] at ho
    exact own_two (own_mono ho TT.out.size) T6 lg lh
  · unfold OkAt
    rw [Below.heap_setCell _ _ _ _ (by simp; omega), HBW.out.block g lg2]
    exact GG.out
  · exact HR2.out _ (RR.out.two ((Two.of_below HBW.out).trans T6) (fun p hp => by cases hp; exact ⟨hne1, hne2⟩))
end Go.Proofs.Ytgknamdcllapbaa
