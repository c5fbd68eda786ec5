/- A packet's bytes: the code's and the document's. -/
import Derived.Test.YtgknamdcllapbaaChoose
namespace Go.Proofs.Ytgknamdcllapbaa
set_option linter.unusedVariables false
set_option linter.unusedSimpArgs false
open Go.RowKit
theorem info5 : (Try.prog.info? 5).map (fun i => (i.zero, i.size, i.bytes)) = some (some (.int .u8 0), 1, 1) := by kernel_rfl
/-- What a call that makes a slice of bytes answers. -/
def Made (w : World) (zs : List Int) (V : Value) (w' : World) : Prop := w'.ownsRow w.heap.size 5 1 V zs.length (zs.map (Value.int .u8)) ∧ Below w.heap.size w w'
set_option maxHeartbeats 4000000 in
theorem begin_c (first v : Int) (A : Option Addr) (n c : Nat) (dst : List Int) (B : Option Addr) (m d : Nat) (src : List Int) (w : World) (f0 : 0 ≤ first) (f1 : first ≤ 255) (v0 : 0 ≤ v) (v1 : v ≤ 4294967295)
    (hd : IntRow .u8 w A n dst) (hA : A = none → n = 0 ∧ c = 0) (hn : n ≤ 255) (hs : IntRow .u8 w B m src) (hB : B = none → m = 0 ∧ d = 0) (hm : m ≤ 255) :
    Calls Try.prog 25 #[.int .u8 first, .int .u32 v, .slice A n c, .slice B m d] w fun e w' => ∃ V, e = .returned V ∧ Made w (begins first v dst src) V w' := by
  have HD := Lib.hid hd
  have HS := Lib.hid hs
  have HA := Lib.hid hA
  have HB := Lib.hid hB
  obtain ⟨i0, hi, hz0, hz1, hz2⟩ := info_parts info5
  clear hd hs hA hB
  go_enter Try.func25, Try.ntmps25
  go_wp2_with (first | (at_builtin; refine wpList_append_rv _ rfl (.tmp 23) (.tmp 27) 30 rfl w.heap.size 5 i0 (.int .u8 0) 1 Try.underlying30 hi hz0 hz1 hz2 rfl (.slice (some ⟨w.heap.size, 0, none⟩) 5 5) 5 ((first :: four v).map (Value.int .u8)) rfl (own_block (zs := first :: four v) (Nat.le_refl _) (blk_alloc _ (blk_new w _)) (by simp [four]; omega) (by unfold maxLen; simp [four]) 5 (by simp [four])) (some ⟨w.heap.size + 1, 0, none⟩) 1 1 .u8 [(n : Int)] rfl (row_block (by simpa using blk_new (w.alloc _) _) rfl (fun x hx => by simp at hx; subst hx; exact wf8 (by omega) (by omega)) 1 rfl) (fun h => by cases h) (by unfold maxLen; omega) (by omega) (by first | omega | (simp; done) | (simp; omega)) ?_; intro V1 w1 ho1 hg1 hp1; have B1 : Hid (Below w.heap.size w w1) := Lib.hid (((((Below.refl _ w).alloc (Nat.le_refl _) _).alloc (by simp) _)).grown hg1 (by simp; omega) (fun k hk => by cases hk; exact Nat.le_refl _)); have O1 := Lib.hid ho1; have Z1 : w.heap.size ≤ w1.heap.size := B1.out.size; clear ho1 hg1 hp1) | (at_builtin; refine wpList_append_rv _ rfl (.tmp 28) (.tmp 29) 30 rfl w.heap.size 5 i0 (.int .u8 0) 1 Try.underlying30 hi hz0 hz1 hz2 rfl V1 (5 + 1) (((first :: four v).map (Value.int .u8)) ++ [(n : Int)].map (Value.int .u8)) rfl O1.out A n c .u8 dst rfl (HD.out.below B1.out) HA.out (by unfold maxLen; omega) (by omega) (by first | omega | (simp; done) | (simp; omega)) ?_; intro V2 w2 ho2 hg2 hp2; have B2 : Hid (Below w.heap.size w w2) := Lib.hid (B1.out.grown hg2 B1.out.size (fun k hk => (World.ownsRow.lt O1.out k hk).1)); have O2 := Lib.hid ho2; have Z2 : w.heap.size ≤ w2.heap.size := B2.out.size; clear ho2 hg2 hp2) | (at_builtin; refine wpList_append_rv _ rfl (.tmp 31) (.tmp 35) 30 rfl w.heap.size 5 i0 (.int .u8 0) 1 Try.underlying30 hi hz0 hz1 hz2 rfl V2 (5 + 1 + n) ((((first :: four v).map (Value.int .u8)) ++ [(n : Int)].map (Value.int .u8)) ++ dst.map (Value.int .u8)) rfl (World.ownsRow.alloc O2.out _) (some ⟨w2.heap.size, 0, none⟩) 1 1 .u8 [(m : Int)] rfl (row_block (blk_new w2 _) rfl (fun x hx => by simp at hx; subst hx; exact wf8 (by omega) (by omega)) 1 rfl) (fun h => by cases h) (by unfold maxLen; omega) (by omega) (by first | omega | (simp; done) | (simp; omega)) ?_; intro V3 w3 ho3 hg3 hp3; have B3 : Hid (Below w.heap.size w w3) := Lib.hid ((B2.out.alloc B2.out.size _).grown hg3 (by simp; omega) (fun k hk => (World.ownsRow.lt O2.out k hk).1)); have O3 := Lib.hid ho3; have Z3 : w.heap.size ≤ w3.heap.size := B3.out.size; clear ho3 hg3 hp3) | (at_builtin; refine wpList_append_rv _ rfl (.tmp 36) (.tmp 37) 30 rfl w.heap.size 5 i0 (.int .u8 0) 1 Try.underlying30 hi hz0 hz1 hz2 rfl V3 (5 + 1 + n + 1) (((((first :: four v).map (Value.int .u8)) ++ [(n : Int)].map (Value.int .u8)) ++ dst.map (Value.int .u8)) ++ [(m : Int)].map (Value.int .u8)) rfl O3.out B m d .u8 src rfl (HS.out.below B3.out) HB.out (by unfold maxLen; omega) (by omega) (by first | omega | (simp; done) | (simp; omega)) ?_; intro V4 w4 ho4 hg4 hp4; have B4 : Hid (Below w.heap.size w w4) := Lib.hid (B3.out.grown hg4 B3.out.size (fun k hk => (World.ownsRow.lt O3.out k hk).1)); have O4 := Lib.hid ho4; have Z4 : w.heap.size ≤ w4.heap.size := B4.out.size; clear ho4 hg4 hp4))
  go_ret
  refine ⟨V4, rfl, ?_, B4.out⟩
  have hl1 := HD.out.1
  have hl2 := HS.out.1
  have h4 := O4.out
  have e1 : (begins first v dst src).length = 5 + 1 + n + 1 + m := by rw [begins_length]; omega
  rw [e1]
  have e2 : (begins first v dst src).map (Value.int .u8) = (((((first :: four v).map (Value.int .u8)) ++ [(n : Int)].map (Value.int .u8)) ++ dst.map (Value.int .u8)) ++ [(m : Int)].map (Value.int .u8)) ++ src.map (Value.int .u8) := by
    unfold begins
    rw [hl1, hl2]
    simp
  rw [e2]
  exact h4
theorem own_mono {w : World} {C D : Nat} {e : TypeId} {size : Nat} {v : Value} {n : Nat} {xs : List Value} (h : w.ownsRow D e size v n xs) (hc : C ≤ D) : w.ownsRow C e size v n xs := by
  refine ⟨h.1, ?_⟩
  rcases h.2 with h0 | ⟨g, cap, cur, h1, h2, h3⟩
  · exact .inl h0
  · exact .inr ⟨g, cap, cur, h1, Nat.le_trans hc h2, h3⟩
/-- What has been made so far. -/
def Pre (w0 : World) (zs : List Int) (V : Value) (w : World) : Prop := w.ownsRow w0.heap.size 5 1 V zs.length (zs.map (Value.int .u8)) ∧ Below w0.heap.size w0 w
theorem Pre.step {w0 w w' : World} {zs ys : List Int} {V V' : Value} {m : Nat} {o : Obj} (h : Pre w0 zs V w) (hy : ys.length = m) (ho : w'.ownsRow w0.heap.size 5 1 V' (zs.length + m) (zs.map (Value.int .u8) ++ ys.map (Value.int .u8))) (hg : (w.alloc o).grownBy w' V.ownBlock) : Pre w0 (zs ++ ys) V' w' := by
  refine ⟨?_, (h.2.alloc h.2.size o).grown hg (by have := h.2.size; simp; omega) (fun k hk => (World.ownsRow.lt h.1 k hk).1)⟩
  rw [List.length_append, List.map_append, hy]
  exact ho
set_option maxHeartbeats 4000000 in
theorem put_ok (A : Option Addr) (n c : Nat) (dst : List Int) (B : Option Addr) (m d : Nat) (src : List Int) (E : Option Addr) (q g : Nat) (vs : List Int) (w : World)
    (hd : IntRow .u8 w A n dst) (hA : A = none → n = 0 ∧ c = 0) (hn : n ≤ 255) (hs : IntRow .u8 w B m src) (hB : B = none → m = 0 ∧ d = 0) (hm : m ≤ 255) (hv : IntRow .u32 w E q vs) (hq1 : 1 ≤ q) (hq : q ≤ 64) :
    Calls Try.prog 18 #[.agg #[.slice A n c, .slice B m d, .slice E q g]] w fun e w' => ∃ V, e = .returned (.tuple #[V, .int .i64 0]) ∧ Made w (packet dst src vs) V w' := by
  have bc := begin_c 192 0 A n c dst B m d src (w.alloc (.cells #[.slice A n c, .slice B m d, .slice E q g] 32)) (by omega) (by omega) (by omega) (by omega) (hd.below ((Below.refl _ _).alloc (Nat.le_refl _) _)) hA hn (hs.below ((Below.refl _ _).alloc (Nat.le_refl _) _)) hB hm
  have HV := Lib.hid hv
  have HL1 := Lib.hid hd.1
  have HL2 := Lib.hid hs.1
  have HB2 : Hid (∀ x ∈ begins 192 0 dst src, 0 ≤ x ∧ x ≤ 255) := Lib.hid (by
    refine begins_byte (by omega) (by omega) ?_ ?_ (by rw [hd.1]; exact hn) (by rw [hs.1]; exact hm)
    · intro x hx
      rcases hd.2 with h0 | ⟨_, _, _, _, hc⟩
      · have : dst = [] := List.eq_nil_of_length_eq_zero (by rw [hd.1]; exact h0)
        rw [this] at hx; cases hx
      · obtain ⟨j, hj, rfl⟩ := List.getElem_of_mem hx
        have := bd8 (hc j (by rw [← hd.1]; exact hj)).2
        rw [List.getD_eq_getElem?_getD, List.getElem?_eq_getElem hj] at this
        simpa using this
    · intro x hx
      rcases hs.2 with h0 | ⟨_, _, _, _, hc⟩
      · have : src = [] := List.eq_nil_of_length_eq_zero (by rw [hs.1]; exact h0)
        rw [this] at hx; cases hx
      · obtain ⟨j, hj, rfl⟩ := List.getElem_of_mem hx
        have := bd8 (hc j (by rw [← hs.1]; exact hj)).2
        rw [List.getD_eq_getElem?_getD, List.getElem?_eq_getElem hj] at this
        simpa using this)
  obtain ⟨i0, hi, hz0, hz1, hz2⟩ := info_parts info5
  have hu32 := Try.underlying32
  clear hd hA hs hB hv
  have t0 : decide ((255 : Int) < (n : Int)) = false := decide_eq_false (by omega)
  have t1 : decide ((255 : Int) < (m : Int)) = false := decide_eq_false (by omega)
  have t2 : ((q : Int) == 0) = false := by simp; omega
  have t3 : decide ((64 : Int) < (q : Int)) = false := decide_eq_false (by omega)
  go_enter Try.func18, Try.ntmps18
  go_wp2_with (fail)
  all_goals
    refine bc.mono ?_
    rintro e w1 ⟨V0, rfl, hmade⟩
    have hs1 := hmade.2.size
    simp at hs1
    have lw1 : w.heap.size < w1.heap.size := by omega
    have P0 : Hid (Pre w (begins 192 0 dst src) V0 w1) := Lib.hid ⟨own_mono hmade.1 (by simp), nextB ((Below.refl _ w).alloc (Nat.le_refl _) _) hmade.2⟩
    have e2 : w1.cell? ⟨w.heap.size, 2, none⟩ = some (.slice E q g) := (hmade.2.cell (p := ⟨w.heap.size, 2, none⟩) (by simp)).trans ((blk_cell (blk_new w _) 2).trans rfl)
    clear hmade hs1 bc
    go_wp2_with (fail)
    go_loopw [35, 4] (fun i v4 wr => ∃ (k : Nat) (V : Value), V = v4 ∧ k ≤ q ∧ i = .int .i64 k ∧ Pre w (begins 192 0 dst src ++ fours (vs.take k)) V wr) (fun i _ _ => q - (intOf i).toNat)
    case atStart => exact ⟨0, V0, rfl, Nat.zero_le _, rfl, by simpa [fours] using P0.out⟩
    case round =>
      obtain ⟨k, V, rfl, hk, rfl, hpre⟩ := hrel
      have HP := Lib.hid hpre
      have hlen : (begins 192 0 dst src ++ fours (vs.take k)).length = 7 + n + m + 4 * k := by
        rw [List.length_append, begins_length, fours_length, List.length_take, HL1.out, HL2.out, HV.out.1, Nat.min_eq_left hk]
      have HLN := Lib.hid hlen
      have hsz := hpre.2.size
      clear hpre hlen
      by_cases hlt : k < q
      · obtain ⟨b, off, rfl, hb, hz⟩ := HV.out.2.resolve_left (by omega)
        have hcell := below_cell HP.out.2 (hz k hlt).1
        have hx := bd32 (hz k hlt).2
        have HF : Hid (fours (vs.take (k + 1)) = fours (vs.take k) ++ four (vs.getD k 0)) := Lib.hid (fours_take vs k (by rw [HV.out.1]; exact hlt))
        clear hz
        generalize vs.getD k 0 = x at *
        obtain ⟨x0, x1⟩ := hx
        have hf : four x = [x / 16777216, x / 65536 % 256, x / 256 % 256, x % 256] := by simp [four]; omega
        have HFX := Lib.hid hf
        clear hf
        obtain ⟨N, hN⟩ : ∃ N, (begins 192 0 dst src ++ fours (vs.take k)).length = N := ⟨_, rfl⟩
        have HN := Lib.hid hN
        have hN2 : N ≤ 1000 := by rw [← HN.out, HLN.out]; omega
        clear hN
        go_wp2_with (at_builtin; refine wpList_append_rv _ rfl (.tmp 39) (.tmp 51) 30 rfl w.heap.size 5 i0 (.int .u8 0) 1 Try.underlying30 hi hz0 hz1 hz2 rfl V N ((begins 192 0 dst src ++ fours (vs.take k)).map (Value.int .u8)) rfl (World.ownsRow.alloc (by rw [← HN.out]; exact HP.out.1) _) (some ⟨wr.heap.size, 0, none⟩) 4 4 .u8 [x / 16777216, x / 65536 % 256, x / 256 % 256, x % 256] rfl (row_block (blk_new wr _) rfl (fun y hy => by simp at hy; exact wf8 (by omega) (by omega)) 4 rfl) (fun h => by cases h) (by unfold maxLen; omega) (by omega) (by simp; omega) ?_; intro V' w' ho hg hp; have HPN := Lib.hid (HP.out.step (ys := four x) (m := 4) rfl (by rw [HN.out, HFX.out]; exact ho) hg); clear ho hg hp)
        go_roundw
        case rel => exact ⟨k + 1, _, rfl, by omega, by go_num, by rw [HF.out, ← List.append_assoc]; exact HPN.out⟩
        case measure => simp [intOf]; omega
      · have e : k = q := by omega
        have hall : vs.take k = vs := List.take_of_length_le (by rw [HV.out.1, e]; exact Nat.le_refl _)
        have HD : Hid (Made w (packet dst src vs) V wr) := Lib.hid (by
          have := HP.out
          rw [hall] at this
          exact this)
        clear hall e
        go_wp2_with (fail)
        go_ret2
        exact ⟨V, rfl, HD.out⟩
set_option maxHeartbeats 4000000 in
theorem put_no (A : Option Addr) (n c : Nat) (B : Option Addr) (m d : Nat) (E : Option Addr) (q g : Nat) (w : World) (n0 : n ≤ 9223372036854775807) (m0 : m ≤ 9223372036854775807) (q0 : q ≤ 9223372036854775807) (h : ¬ (n ≤ 255 ∧ m ≤ 255 ∧ 1 ≤ q ∧ q ≤ 64)) :
    Calls Try.prog 18 #[.agg #[.slice A n c, .slice B m d, .slice E q g]] w fun e w' => e = .returned (.tuple #[.slice none 0 0, .int .i64 2]) ∧ Below w.heap.size w w' := by
  have hu32 := Try.underlying32
  by_cases a : 255 < n
  · have t0 : decide ((255 : Int) < (n : Int)) = true := decide_eq_true (by omega)
    clear h
    go_enter Try.func18, Try.ntmps18
    go_wp2_with (fail)
    all_goals (go_ret2; exact ⟨rfl, (Below.refl _ _).alloc (Nat.le_refl _) _⟩)
  · have t0 : decide ((255 : Int) < (n : Int)) = false := decide_eq_false (by omega)
    by_cases b : 255 < m
    · have t1 : decide ((255 : Int) < (m : Int)) = true := decide_eq_true (by omega)
      clear h
      go_enter Try.func18, Try.ntmps18
      go_wp2_with (fail)
      all_goals (go_ret2; exact ⟨rfl, (Below.refl _ _).alloc (Nat.le_refl _) _⟩)
    · have t1 : decide ((255 : Int) < (m : Int)) = false := decide_eq_false (by omega)
      by_cases e : q = 0
      · have t2 : ((q : Int) == 0) = true := by simp; omega
        clear h e
        go_enter Try.func18, Try.ntmps18
        go_wp2_with (fail)
        all_goals (go_ret2; exact ⟨rfl, (Below.refl _ _).alloc (Nat.le_refl _) _⟩)
      · have t2 : ((q : Int) == 0) = false := by simp; omega
        have t3 : decide ((64 : Int) < (q : Int)) = true := decide_eq_true (by omega)
        clear h e
        go_enter Try.func18, Try.ntmps18
        go_wp2_with (fail)
        all_goals (go_ret2; exact ⟨rfl, (Below.refl _ _).alloc (Nat.le_refl _) _⟩)
set_option maxHeartbeats 4000000 in
theorem refbytes_c (A : Option Addr) (n c : Nat) (dst : List Int) (B : Option Addr) (m d : Nat) (src : List Int) (E : Option Addr) (q g : Nat) (vs : List Int) (w : World)
    (hd : IntRow .u8 w A n dst) (hA : A = none → n = 0 ∧ c = 0) (hn : n ≤ 255) (hs : IntRow .u8 w B m src) (hB : B = none → m = 0 ∧ d = 0) (hm : m ≤ 255) (hv : IntRow .u32 w E q vs) (hq : q ≤ 64) :
    Calls Try.prog 16 #[.int .u8 192, .slice A n c, .slice B m d, .slice E q g] w fun e w' => ∃ V, e = .returned V ∧ Made w (packet dst src vs) V w' := by
  have HD := Lib.hid hd
  have HS := Lib.hid hs
  have HA := Lib.hid hA
  have HB := Lib.hid hB
  have HV := Lib.hid hv
  obtain ⟨i0, hi, hz0, hz1, hz2⟩ := info_parts info5
  clear hd hs hA hB hv
  go_enter Try.func16, Try.ntmps16
  go_wp2_with (first | (at_builtin; refine wpList_append_rv _ rfl (.tmp 16) (.tmp 17) 30 rfl w.heap.size 5 i0 (.int .u8 0) 1 Try.underlying30 hi hz0 hz1 hz2 rfl (.slice (some ⟨w.heap.size, 0, none⟩) 6 6) 6 (([192, 0, 0, 0, 0, (n : Int)] : List Int).map (Value.int .u8)) rfl (own_block (zs := ([192, 0, 0, 0, 0, (n : Int)] : List Int)) (Nat.le_refl _) (blk_new w _) rfl (by unfold maxLen; simp) 6 rfl) A n c .u8 dst rfl (HD.out.below ((Below.refl _ w).alloc (Nat.le_refl _) _)) HA.out (by unfold maxLen; omega) (by omega) (by first | omega | (simp; done) | (simp; omega)) ?_; intro V1 w1 ho1 hg1 hp1; have B1 : Hid (Below w.heap.size w w1) := Lib.hid (((Below.refl _ w).alloc (Nat.le_refl _) _).grown hg1 (by simp) (fun k hk => by cases hk; exact Nat.le_refl _)); have O1 := Lib.hid ho1; have Z1 : w.heap.size ≤ w1.heap.size := B1.out.size; clear ho1 hg1 hp1) | (at_builtin; refine wpList_append_rv _ rfl (.tmp 19) (.tmp 23) 30 rfl w.heap.size 5 i0 (.int .u8 0) 1 Try.underlying30 hi hz0 hz1 hz2 rfl V1 (6 + n) ((([192, 0, 0, 0, 0, (n : Int)] : List Int).map (Value.int .u8)) ++ dst.map (Value.int .u8)) rfl (World.ownsRow.alloc O1.out _) (some ⟨w1.heap.size, 0, none⟩) 1 1 .u8 [(m : Int)] rfl (row_block (blk_new w1 _) rfl (fun x hx => by simp at hx; subst hx; exact wf8 (by omega) (by omega)) 1 rfl) (fun h => by cases h) (by unfold maxLen; omega) (by omega) (by first | omega | (simp; done) | (simp; omega)) ?_; intro V2 w2 ho2 hg2 hp2; have B2 : Hid (Below w.heap.size w w2) := Lib.hid ((B1.out.alloc B1.out.size _).grown hg2 (by simp; omega) (fun k hk => (World.ownsRow.lt O1.out k hk).1)); have O2 := Lib.hid ho2; have Z2 : w.heap.size ≤ w2.heap.size := B2.out.size; clear ho2 hg2 hp2) | (at_builtin; refine wpList_append_rv _ rfl (.tmp 24) (.tmp 25) 30 rfl w.heap.size 5 i0 (.int .u8 0) 1 Try.underlying30 hi hz0 hz1 hz2 rfl V2 (6 + n + 1) (((([192, 0, 0, 0, 0, (n : Int)] : List Int).map (Value.int .u8)) ++ dst.map (Value.int .u8)) ++ [(m : Int)].map (Value.int .u8)) rfl O2.out B m d .u8 src rfl (HS.out.below B2.out) HB.out (by unfold maxLen; omega) (by omega) (by first | omega | (simp; done) | (simp; omega)) ?_; intro V3 w3 ho3 hg3 hp3; have B3 : Hid (Below w.heap.size w w3) := Lib.hid (B2.out.grown hg3 B2.out.size (fun k hk => (World.ownsRow.lt O2.out k hk).1)); have O3 := Lib.hid ho3; have Z3 : w.heap.size ≤ w3.heap.size := B3.out.size; clear ho3 hg3 hp3))
  have P0 : Hid (Pre w (begins 192 0 dst src) V3 w3) := Lib.hid (by
    refine ⟨?_, B3.out⟩
    have h4 := O3.out
    have hl1 := HD.out.1
    have hl2 := HS.out.1
    have e1 : (begins 192 0 dst src).length = 6 + n + 1 + m := by rw [begins_length]; omega
    have e2 : (begins 192 0 dst src).map (Value.int .u8) = (((([192, 0, 0, 0, 0, (n : Int)] : List Int).map (Value.int .u8)) ++ dst.map (Value.int .u8)) ++ [(m : Int)].map (Value.int .u8)) ++ src.map (Value.int .u8) := by
      unfold begins
      rw [hl1, hl2]
      simp [four]
    rw [e1, e2]
    exact h4)
  go_loopw [10, 9] (fun i v4 wr => ∃ (k : Nat) (V : Value), V = v4 ∧ k ≤ q ∧ i = .int .i64 k ∧ Pre w (begins 192 0 dst src ++ fours (vs.take k)) V wr) (fun i _ _ => q - (intOf i).toNat)
  case atStart => exact ⟨0, V3, rfl, Nat.zero_le _, rfl, by simpa [fours] using P0.out⟩
  case round =>
    obtain ⟨k, V, rfl, hk, rfl, hpre⟩ := hrel
    have HP := Lib.hid hpre
    have hlen : (begins 192 0 dst src ++ fours (vs.take k)).length = 7 + n + m + 4 * k := by
      rw [List.length_append, begins_length, fours_length, List.length_take, HD.out.1, HS.out.1, HV.out.1, Nat.min_eq_left hk]
    have HLN := Lib.hid hlen
    have hsz := hpre.2.size
    clear hpre hlen
    by_cases hlt : k < q
    · obtain ⟨b, off, rfl, hb, hz⟩ := HV.out.2.resolve_left (by omega)
      have hcell := below_cell HP.out.2 (hz k hlt).1
      have hx := bd32 (hz k hlt).2
      have HF : Hid (fours (vs.take (k + 1)) = fours (vs.take k) ++ four (vs.getD k 0)) := Lib.hid (fours_take vs k (by rw [HV.out.1]; exact hlt))
      clear hz
      generalize vs.getD k 0 = x at *
      obtain ⟨x0, x1⟩ := hx
      have hf : four x = [x / 16777216, x / 65536 % 256, x / 256 % 256, x % 256] := by simp [four]; omega
      have HFX := Lib.hid hf
      clear hf
      obtain ⟨N, hN⟩ : ∃ N, (begins 192 0 dst src ++ fours (vs.take k)).length = N := ⟨_, rfl⟩
      have HN := Lib.hid hN
      have hN2 : N ≤ 1000 := by rw [← HN.out, HLN.out]; omega
      clear hN
      go_wp2_with (at_builtin; refine wpList_append_rv _ rfl (.tmp 37) (.tmp 49) 30 rfl w.heap.size 5 i0 (.int .u8 0) 1 Try.underlying30 hi hz0 hz1 hz2 rfl V N ((begins 192 0 dst src ++ fours (vs.take k)).map (Value.int .u8)) rfl (World.ownsRow.alloc (by rw [← HN.out]; exact HP.out.1) _) (some ⟨wr.heap.size, 0, none⟩) 4 4 .u8 [x / 16777216, x / 65536 % 256, x / 256 % 256, x % 256] rfl (row_block (blk_new wr _) rfl (fun y hy => by simp at hy; exact wf8 (by omega) (by omega)) 4 rfl) (fun h => by cases h) (by unfold maxLen; omega) (by omega) (by simp; omega) ?_; intro V' w' ho hg hp; have HPN := Lib.hid (HP.out.step (ys := four x) (m := 4) rfl (by rw [HN.out, HFX.out]; exact ho) hg); clear ho hg hp)
      go_roundw
      case rel => exact ⟨k + 1, _, rfl, by omega, by go_num, by rw [HF.out, ← List.append_assoc]; exact HPN.out⟩
      case measure => simp [intOf]; omega
    · have e : k = q := by omega
      have hall : vs.take k = vs := List.take_of_length_le (by rw [HV.out.1, e]; exact Nat.le_refl _)
      have HE : Hid (Made w (packet dst src vs) V wr) := Lib.hid (by
        have := HP.out
        rw [hall] at this
        exact this)
      clear hall e
      go_wp2_with (fail)
      go_ret
      exact ⟨V, rfl, HE.out⟩
end Go.Proofs.Ytgknamdcllapbaa
