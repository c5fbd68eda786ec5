/- A packet as it comes, by the document; two lists of versions that are alike. -/
import Derived.Test.YtgknamdcllapbaaReply
namespace Go.Proofs.Ytgknamdcllapbaa
set_option linter.unusedVariables false
set_option linter.unusedSimpArgs false
open Go.RowKit
/-- The number of some bytes from a place on. -/
def wpAt (zs : List Int) (p : Nat) : Nat → Int
  | 0 => 0
  | k + 1 => 256 * wpAt zs p k + zs.getD (p + k) 0
/-- The versions from a place on. -/
def wordsFrom (zs : List Int) (p n : Nat) : List Int := (List.range n).map fun i => wpAt zs (p + 4 * i) 4
theorem wordsFrom_succ (zs : List Int) (p n : Nat) : wordsFrom zs p (n + 1) = wordsFrom zs p n ++ [wpAt zs (p + 4 * n) 4] := by
  unfold wordsFrom
  rw [List.range_succ, List.map_append]
  rfl
theorem wordsFrom_length (zs : List Int) (p n : Nat) : (wordsFrom zs p n).length = n := by simp [wordsFrom]
theorem wpAt_drop (zs : List Int) (p q : Nat) : ∀ k, wpAt (zs.drop p) q k = wpAt zs (p + q) k
  | 0 => rfl
  | k + 1 => by simp only [wpAt]; rw [wpAt_drop zs p q k, getD_drop, Nat.add_assoc]
theorem wordsFrom_drop (zs : List Int) (p n : Nat) : wordsFrom (zs.drop p) 0 n = wordsFrom zs p n := by
  unfold wordsFrom
  apply List.map_congr_left
  intro i _
  rw [wpAt_drop, Nat.zero_add]
theorem wpAt_range (zs : List Int) (hz : ∀ j, 0 ≤ zs.getD j 0 ∧ zs.getD j 0 ≤ 255) (p k : Nat) (hk : k ≤ 3) : 0 ≤ wpAt zs p k ∧ wpAt zs p k ≤ 16777215 := by
  have h0 := hz (p + 0)
  have h1 := hz (p + 1)
  have h2 := hz (p + 2)
  have : k = 0 ∨ k = 1 ∨ k = 2 ∨ k = 3 := by omega
  rcases this with rfl | rfl | rfl | rfl <;> simp only [wpAt] <;> omega
theorem wpAt_four (zs : List Int) (hz : ∀ j, 0 ≤ zs.getD j 0 ∧ zs.getD j 0 ≤ 255) (p : Nat) : 0 ≤ wpAt zs p 4 ∧ wpAt zs p 4 ≤ 4294967295 := by
  have h := wpAt_range zs hz p 3 (by omega)
  have h3 := hz (p + 3)
  have e : wpAt zs p 4 = 256 * wpAt zs p 3 + zs.getD (p + 3) 0 := rfl
  omega
theorem wordsFrom_range (zs : List Int) (hz : ∀ j, 0 ≤ zs.getD j 0 ∧ zs.getD j 0 ≤ 255) (p n : Nat) : ∀ x ∈ wordsFrom zs p n, 0 ≤ x ∧ x ≤ 4294967295 := by
  intro x hx
  obtain ⟨i, _, rfl⟩ := List.mem_map.1 hx
  exact wpAt_four zs hz _
/-- A packet as it comes. -/
def takeOf (zs : List Int) : Option (List Int × List Int × List Int) := match split zs with
  | none => none
  | some (v, d, s, r) => if v = 0 ∧ 4 ≤ r.length ∧ r.length ≤ 256 ∧ r.length % 4 = 0 then some (d, s, wordsFrom r 0 (r.length / 4)) else none
theorem split_rest {zs : List Int} {v : Int} {d s r : List Int} (h : split zs = some (v, d, s, r)) : r = zs.drop (7 + d.length + s.length) := by
  rw [split_alt] at h
  unfold alt at h
  split at h
  · rename_i c
    simp only [Option.some.injEq, Prod.mk.injEq] at h
    obtain ⟨_, rfl, rfl, rfl⟩ := h
    simp only [List.length_drop, List.length_take]
    congr 1
    omega
  · cases h
theorem info23 : (Try.prog.info? 23).map (fun i => (i.zero, i.size, i.bytes)) = some (some (.int .u32 0), 1, 4) := by kernel_rfl
/-- What the document's Take answers. -/
def TookRef (w : World) (zs : List Int) (e : Ending) (w' : World) : Prop :=
  (takeOf zs = none ∧ e = .returned (.tuple #[.slice none 0 0, .slice none 0 0, .slice none 0 0, .bool false]) ∧ Below w.heap.size w w') ∨
  ∃ d s vs A1 c1 A2 c2 V, takeOf zs = some (d, s, vs) ∧ e = .returned (.tuple #[.slice (some A1) d.length c1, .slice (some A2) s.length c2, V, .bool true]) ∧ IntRow .u8 w' (some A1) d.length d ∧ IntRow .u8 w' (some A2) s.length s ∧ w'.ownsRow w.heap.size 23 1 V vs.length (vs.map (Value.int .u32)) ∧ Below w.heap.size w w'
set_option maxHeartbeats 16000000 in
theorem reftake_c (w : World) (A : Option Addr) (n c : Nat) (zs : List Int) (hr : IntRow .u8 w A n zs) (hn : n ≤ 100000) (hc : n ≤ c) (hcm : c ≤ maxLen) :
    Calls Try.prog 20 #[.slice A n c] w (TookRef w zs) := by
  have hlen := hr.1
  have hz := getD_byte (row_byte hr)
  have BC := Lib.hid (refbegin_c w A n c zs hr hn hc hcm)
  have HRW := Lib.hid hr
  have HZ := Lib.hid hz
  have LEN := Lib.hid hlen
  obtain ⟨i0, hi, hz0, hz1, hz2⟩ := info_parts info23
  clear hr hz hlen
  go_enter Try.func20, Try.ntmps20
  go_wp2_with (fail)
  refine BC.out.mono ?_
  rintro e w1 (⟨hs, rfl, b1⟩ | ⟨v, d, s, r, A1, c1, A2, c2, hs, l1, l2, v0, v1, l3, rfl, ir1, ir2, q1, q2, q3, q4, b1⟩)
  · have HN : Hid (takeOf zs = none) := Lib.hid (by unfold takeOf; rw [hs])
    have B1 := Lib.hid b1
    clear hs b1
    go_wp2_with (fail)
    exact bodyPost_ret (v := .tuple #[.slice none 0 0, .slice none 0 0, .slice none 0 0, .bool false]) (by simp [results, Try.results20, go_sem]) rfl (.inl ⟨HN.out, rfl, B1.out⟩)
  · have B1 := Lib.hid b1
    have I1 := Lib.hid ir1
    have I2 := Lib.hid ir2
    have HS := Lib.hid hs
    have hrest := split_rest hs
    have HRE := Lib.hid hrest
    obtain ⟨p, hp⟩ : ∃ p, 7 + d.length + s.length = p := ⟨_, rfl⟩
    have HP := Lib.hid hp
    obtain ⟨m, hm⟩ : ∃ m, r.length = m := ⟨_, rfl⟩
    have hnm : n = p + m := by have := LEN.out; omega
    have HT : Hid (takeOf zs = if v = 0 ∧ 4 ≤ m ∧ m ≤ 256 ∧ m % 4 = 0 then some (d, s, wordsFrom zs p (m / 4)) else none) := Lib.hid (by
      unfold takeOf
      rw [HS.out]
      simp only
      rw [hm, HRE.out, HP.out, wordsFrom_drop])
    rw [hp]
    clear hs hrest b1 ir1 ir2 q1 q2 q3 q4 l3 hp hm
    have hnmH := Lib.hid hnm
    have hnm1 : p + m ≤ n := by omega
    have hnm2 : n ≤ p + m := by omega
    clear hnm
    have hsub : (n : Int) - (p : Int) = (m : Int) := by omega
    have tp : decide ((p : Int) < 0) = false := decide_eq_false (by omega)
    by_cases ok : v = 0 ∧ 4 ≤ m ∧ m ≤ 256 ∧ m % 4 = 0
    · have HTT : Hid (takeOf zs = some (d, s, wordsFrom zs p (m / 4))) := Lib.hid (by rw [HT.out, if_pos ok])
      obtain ⟨o1, o2, o3, o4⟩ := ok
      subst o1
      have t2 : decide ((m : Int) < 4) = false := decide_eq_false (by omega)
      have t3 : decide ((256 : Int) < (m : Int)) = false := decide_eq_false (by omega)
      have t4 : ((m : Int) % 4 != 0) = false := by simp; omega
      obtain ⟨K, hK⟩ : ∃ K, m / 4 = K := ⟨_, rfl⟩
      rw [hK] at HTT
      have hK4 : m = 4 * K := by omega
      have hK1 : 4 * K ≤ m := by omega
      have hK2 : m ≤ 4 * K := by omega
      clear HT hK hK4
      go_wp2_with (fail)
      go_loopw [9, 11] (fun a o wr => ∃ (i : Nat) (V : Value), V = o ∧ i ≤ K ∧ a = .int .i64 ((p + 4 * i : Nat) : Int) ∧ wr.ownsRow w1.heap.size 23 1 V i ((wordsFrom zs p i).map (Value.int .u32)) ∧ Below w1.heap.size w1 wr) (fun a _ _ => n - (intOf a).toNat)
      case atStart => exact ⟨0, _, rfl, Nat.zero_le _, rfl, World.ownsRow_nil _ _ _ _, Below.refl _ _⟩
      case round =>
        obtain ⟨i, V, rfl, hi2, rfl, hown, hbl⟩ := hrel
        have HO := Lib.hid hown
        have HB := Lib.hid hbl
        have hsz := hbl.size
        clear hown hbl
        by_cases hlt : i < K
        · obtain ⟨b, off, rfl, hb, hzz⟩ := HRW.out.2.resolve_left (by omega)
          have HZZ := Lib.hid hzz
          clear hzz
          go_wp2_with (fail)
          go_loop [12, 13] (fun x j => ∃ k : Nat, k ≤ 4 ∧ j = .int .i64 k ∧ x = .int .u32 (wpAt zs (p + 4 * i) k)) (fun _ j => 4 - (intOf j).toNat)
          case atStart => exact ⟨0, by omega, rfl, rfl⟩
          case round =>
            obtain ⟨k, hk, rfl, rfl⟩ := hrel
            by_cases hk4 : k < 4
            · have hcell := below_cell HB.out (below_cell B1.out (HZZ.out (p + 4 * i + k) (by omega)).1)
              have hby := HZ.out (p + 4 * i + k)
              have hwr := wpAt_range zs HZ.out (p + 4 * i) k (by omega)
              have hst : Hid (wpAt zs (p + 4 * i) (k + 1) = 256 * wpAt zs (p + 4 * i) k + zs.getD (p + 4 * i + k) 0) := Lib.hid rfl
              generalize zs.getD (p + 4 * i + k) 0 = y at *
              generalize wpAt zs (p + 4 * i) k = u at *
              obtain ⟨y0, y1⟩ := hby
              obtain ⟨u0, u1⟩ := hwr
              go_wp2_with (fail)
              go_round
              case rel => exact ⟨k + 1, by omega, by go_num, by rw [hst.out]⟩
              case measure => simp [intOf]; omega
            · have e4 : k = 4 := by omega
              subst e4
              have hf := wpAt_four zs HZ.out (p + 4 * i)
              have hsn := wordsFrom_succ zs p i
              have HSN := Lib.hid hsn
              clear hsn
              generalize wpAt zs (p + 4 * i) 4 = x at *
              obtain ⟨f0, f1⟩ := hf
              go_wp2_with (at_builtin; refine wpList_append_rv _ rfl (.tmp 62) (.tmp 64) 22 rfl w1.heap.size 23 i0 (.int .u32 0) 4 Try.underlying22 hi hz0 hz1 hz2 rfl V i ((wordsFrom zs p i).map (Value.int .u32)) rfl (World.ownsRow.alloc HO.out _) (some ⟨wr.heap.size, 0, none⟩) 1 1 .u32 [x] rfl (row_block (blk_new wr _) rfl (fun y hy => by simp at hy; subst hy; exact wf32 (by omega) (by omega)) 1 rfl) (fun h => by cases h) (by unfold maxLen; omega) (by omega) (by simp; omega) ?_; intro V' w' ho hg hp; have HO2 : Hid (w'.ownsRow w1.heap.size 23 1 V' (i + 1) ((wordsFrom zs p (i + 1)).map (Value.int .u32))) := Lib.hid (by rw [HSN.out, List.map_append]; exact ho); have HB2 : Hid (Below w1.heap.size w1 w') := Lib.hid ((HB.out.alloc HB.out.size _).grown hg (by simp; omega) (fun k hk => (World.ownsRow.lt HO.out k hk).1)); clear ho hg hp)
              go_roundw
              case rel => exact ⟨i + 1, _, rfl, by omega, by go_num, HO2.out, HB2.out⟩
              case measure => simp [intOf]; omega
        · have e : i = K := by omega
          subst e
          go_wp2_with (fail)
          refine bodyPost_ret (v := .tuple #[.slice (some A1) d.length c1, .slice (some A2) s.length c2, V, .bool true]) (by simp [results, Try.results20, go_sem]) rfl (.inr ⟨d, s, wordsFrom zs p i, A1, c1, A2, c2, V, HTT.out, rfl, I1.out.below HB.out, I2.out.below HB.out, ?_, nextB B1.out HB.out⟩)
          rw [wordsFrom_length]
          exact own_mono HO.out B1.out.size
    · have HTT : Hid (takeOf zs = none) := Lib.hid (by rw [HT.out, if_neg ok])
      clear HT
      by_cases vz : v = 0
      · subst vz
        by_cases o2 : m < 4
        · have t2 : decide ((m : Int) < 4) = true := decide_eq_true (by omega)
          clear ok
          go_wp2_with (fail)
          exact bodyPost_ret (v := .tuple #[.slice none 0 0, .slice none 0 0, .slice none 0 0, .bool false]) (by simp [results, Try.results20, go_sem]) rfl (.inl ⟨HTT.out, rfl, B1.out⟩)
        · have t2 : decide ((m : Int) < 4) = false := decide_eq_false (by omega)
          by_cases o3 : 256 < m
          · have t3 : decide ((256 : Int) < (m : Int)) = true := decide_eq_true (by omega)
            clear ok
            go_wp2_with (fail)
            exact bodyPost_ret (v := .tuple #[.slice none 0 0, .slice none 0 0, .slice none 0 0, .bool false]) (by simp [results, Try.results20, go_sem]) rfl (.inl ⟨HTT.out, rfl, B1.out⟩)
          · have t3 : decide ((256 : Int) < (m : Int)) = false := decide_eq_false (by omega)
            have t4 : ((m : Int) % 4 != 0) = true := by simp; omega
            clear ok
            go_wp2_with (fail)
            exact bodyPost_ret (v := .tuple #[.slice none 0 0, .slice none 0 0, .slice none 0 0, .bool false]) (by simp [results, Try.results20, go_sem]) rfl (.inl ⟨HTT.out, rfl, B1.out⟩)
      · have tv : (v != 0) = true := by simpa using vz
        clear ok vz
        go_wp2_with (fail)
        exact bodyPost_ret (v := .tuple #[.slice none 0 0, .slice none 0 0, .slice none 0 0, .bool false]) (by simp [results, Try.results20, go_sem]) rfl (.inl ⟨HTT.out, rfl, B1.out⟩)
set_option maxHeartbeats 4000000 in
theorem sequal_c (w : World) (A : Option Addr) (n c : Nat) (xs : List Int) (B : Option Addr) (m d : Nat) (ys : List Int) (hx : IntRow .u32 w A n xs) (hy : IntRow .u32 w B m ys) (hn : n ≤ 9223372036854775807) (hm : m ≤ 9223372036854775807) :
    Calls Try.prog 21 #[.slice A n c, .slice B m d] w fun e w' => e = .returned (.bool (decide (xs = ys))) ∧ Below w.heap.size w w' := by
  obtain ⟨T, hT⟩ : ∃ T, decide (xs = ys) = T := ⟨_, rfl⟩
  rw [hT]
  have HT := Lib.hid hT
  have HX := Lib.hid hx
  have HY := Lib.hid hy
  clear hT hx hy
  by_cases e : n = m
  · subst e
    have t0 : ((n : Int) != (n : Int)) = false := by simp
    go_enter Try.func21, Try.ntmps21
    go_wp2_with (fail)
    go_loopw [13] (fun i wr => ∃ k : Nat, k ≤ n ∧ i = .int .i64 k ∧ (∀ j, j < k → xs.getD j 0 = ys.getD j 0) ∧ Below w.heap.size w wr) (fun i _ => n - (intOf i).toNat)
    case atStart => exact ⟨0, Nat.zero_le _, rfl, fun j hj => by omega, Below.refl _ _⟩
    case round =>
      obtain ⟨k, hk, rfl, hall, hbl⟩ := hrel
      have HA := Lib.hid hall
      have HB := Lib.hid hbl
      clear hall hbl
      by_cases hlt : k < n
      · obtain ⟨b, off, rfl, hb, hz⟩ := HX.out.2.resolve_left (by omega)
        obtain ⟨b2, off2, rfl, hb2, hz2⟩ := HY.out.2.resolve_left (by omega)
        have c0 := below_cell HB.out (hz k hlt).1
        have c1 := below_cell HB.out (hz2 k hlt).1
        have hst : Hid (xs.getD k 0 = ys.getD k 0 → ∀ j, j < k + 1 → xs.getD j 0 = ys.getD j 0) := Lib.hid fun he j hj => by
          by_cases q : j = k
          · rw [q]; exact he
          · exact HA.out j (by omega)
        have hne : Hid (xs.getD k 0 ≠ ys.getD k 0 → xs ≠ ys) := Lib.hid fun h e => h (by rw [e])
        have i0 : (0 : Int) ≤ (k : Int) := by omega
        have i1 : (k : Int) < (n : Int) := by omega
        clear hz hz2
        generalize xs.getD k 0 = x at *
        generalize ys.getD k 0 = y at *
        by_cases q : x = y
        · have t1 : (x != y) = false := by simp [q]
          have HST := Lib.hid (hst.out q)
          subst q
          go_wp2_with (fail)
          go_quiet (fail)
          have BD := Lib.hid (below_drewN HB.out nq)
          go_wp2_with (fail)
          go_roundw
          case rel => exact ⟨k + 1, by omega, by go_num, HST.out, BD.out⟩
          case measure => simp [intOf]; omega
        · have t1 : (x != y) = true := by simpa using q
          have hf : T = false := by rw [← HT.out]; exact decide_eq_false (hne.out q)
          subst hf
          clear q
          go_wp2_with (fail)
          go_quiet (fail)
          have BD := Lib.hid (below_drewN HB.out nq)
          go_wp2_with (fail)
          go_ret
          exact ⟨rfl, BD.out⟩
      · have ht : T = true := by
          rw [← HT.out]
          refine decide_eq_true (List.ext_getElem (by rw [HX.out.1, HY.out.1]) fun j h1 h2 => ?_)
          have h3 := HA.out j (by have := HX.out.1; omega)
          rw [List.getD_eq_getElem?_getD, List.getElem?_eq_getElem h1, List.getD_eq_getElem?_getD, List.getElem?_eq_getElem h2] at h3
          exact h3
        subst ht
        go_wp2_with (fail)
        go_ret
        exact ⟨rfl, HB.out⟩
  · have t0 : ((n : Int) != (m : Int)) = true := by simp; omega
    have hf : T = false := by rw [← HT.out]; exact decide_eq_false (fun h => e (by rw [← HX.out.1, ← HY.out.1, h]))
    subst hf
    clear e
    go_enter Try.func21, Try.ntmps21
    go_wp2_with (fail)
    go_ret
    exact ⟨rfl, Below.refl _ _⟩
end Go.Proofs.Ytgknamdcllapbaa
