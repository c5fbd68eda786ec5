/- Which version is reserved, which is chosen: the code's answers. -/
import Derived.Test.YtgknamdcllapbaaBase
import Derived.Test.YtgknamdcllapbaaPlain
import Derived.Lib.EndianBits
namespace Go.Proofs.Ytgknamdcllapbaa
set_option linter.unusedVariables false
set_option linter.unusedSimpArgs false
open Go.RowKit
theorem and32 (n m : Nat) (h : n < 4294967296) (hm : m < 4294967296) : bits .and .u32 (n : Int) (m : Int) = ((n &&& m : Nat) : Int) := (bits_nat .u32 32 (by decide) wraps_u32 n m h hm).1
theorem or32 (n m : Nat) (h : n < 4294967296) (hm : m < 4294967296) : bits .or .u32 (n : Int) (m : Int) = ((n ||| m : Nat) : Int) := (bits_nat .u32 32 (by decide) wraps_u32 n m h hm).2
theorem res_bits (n : Nat) (h : n < 4294967296) : (bits .and .u32 (n : Int) 252645135 == 168430090) = res n := by
  have e := and32 n 252645135 h (by decide)
  have e2 : bits .and .u32 (n : Int) 252645135 = ((n &&& 252645135 : Nat) : Int) := e
  rw [e2]
  have k := nat_res n h
  unfold res
  rw [Bool.eq_iff_iff, beq_iff_eq, decide_eq_true_iff]
  generalize n &&& 252645135 = x at *
  omega
theorem res_grease (n : Nat) (h : n < 4294967296) : ∃ m : Nat, m < 4294967296 ∧ bits .or .u32 (bits .and .u32 (n : Int) 4042322160) 168430090 = (m : Int) ∧ res m = true := by
  have e2 : bits .and .u32 (n : Int) 4042322160 = ((n &&& 4042322160 : Nat) : Int) := and32 n 4042322160 h (by decide)
  have hx : n &&& 4042322160 ≤ 4042322160 := Nat.and_le_right
  have e3 : bits .or .u32 ((n &&& 4042322160 : Nat) : Int) 168430090 = (((n &&& 4042322160) ||| 168430090 : Nat) : Int) := or32 _ 168430090 (by omega) (by decide)
  have hy : (n &&& 4042322160) ||| 168430090 < 2 ^ 32 := Nat.or_lt_two_pow (by omega) (by decide)
  refine ⟨(n &&& 4042322160) ||| 168430090, by omega, by rw [e2, e3], ?_⟩
  have g0 := nat_grease n 0 (by decide)
  have g1 := nat_grease n 8 (by decide)
  have g2 := nat_grease n 16 (by decide)
  have g3 := nat_grease n 24 (by decide)
  unfold res
  rw [decide_eq_true_iff]
  generalize (n &&& 4042322160) ||| 168430090 = x at *
  simp only [Nat.pow_zero, Nat.div_one, show (2 : Nat) ^ 8 = 256 from rfl, show (2 : Nat) ^ 16 = 65536 from rfl, show (2 : Nat) ^ 24 = 16777216 from rfl] at g0 g1 g2 g3
  omega
set_option maxHeartbeats 4000000 in
theorem reserved_c (n : Nat) (w : World) (h : n < 4294967296) : Calls Try.prog 11 #[.int .u32 n] w fun e w' => e = .returned (.bool (res n)) ∧ w = w' := by
  have k := res_bits n h
  go_enter Try.func11, Try.ntmps11
  go_wp2
  go_ret
  exact ⟨rfl, rfl⟩
theorem pow_step (v : Int) (i : Nat) : v / 256 ^ i / 256 = v / 256 ^ (i + 1) := by
  rw [Int.ediv_ediv_of_nonneg (Int.pow_nonneg (by omega)), Int.pow_succ]
theorem pow_four {v : Int} : res v = decide (∀ j : Nat, j < 4 → v / 256 ^ j % 16 = 10) := by
  unfold res
  rw [decide_eq_decide]
  constructor
  · rintro ⟨h0, h1, h2, h3⟩ j hj
    have : j = 0 ∨ j = 1 ∨ j = 2 ∨ j = 3 := by omega
    rcases this with rfl | rfl | rfl | rfl
    · rw [Int.pow_zero, Int.ediv_one]; exact h0
    · exact h1
    · exact h2
    · exact h3
  · intro h
    have h0 := h 0 (by omega)
    rw [Int.pow_zero, Int.ediv_one] at h0
    exact ⟨h0, h 1 (by omega), h 2 (by omega), h 3 (by omega)⟩
set_option maxHeartbeats 4000000 in
theorem refres_c (v : Int) (w : World) (h0 : 0 ≤ v) (h1 : v ≤ 4294967295) : Calls Try.prog 12 #[.int .u32 v] w fun e w' => e = .returned (.bool (res v)) ∧ w = w' := by
  obtain ⟨R, hR⟩ : ∃ R, res v = R := ⟨_, rfl⟩
  rw [hR]
  have HR := Lib.hid hR
  clear hR
  go_enter Try.func12, Try.ntmps12
  go_wp2
  go_loop [0, 3] (fun x i => ∃ (k : Nat) (y : Int), k ≤ 4 ∧ i = .int .i64 k ∧ x = .int .u32 y ∧ y = v / 256 ^ k ∧ 0 ≤ y ∧ y ≤ 4294967295 ∧ ∀ j : Nat, j < k → v / 256 ^ j % 16 = 10) (fun _ i => 4 - (intOf i).toNat)
  case atStart => exact ⟨0, v, by omega, rfl, rfl, by rw [Int.pow_zero, Int.ediv_one], h0, h1, fun j hj => by omega⟩
  case round =>
    obtain ⟨k, y, hk, rfl, rfl, hy, y0, y1, hall⟩ := hrel
    have HY := Lib.hid hy
    have HA := Lib.hid hall
    clear hy hall
    by_cases hlt : k < 4
    · by_cases d : y % 16 = 10
      · have d' : (y % 16 != 10) = false := by simp [d]
        have hlast : Hid (∀ j : Nat, j < k + 1 → v / 256 ^ j % 16 = 10) := Lib.hid fun j hj => by
          by_cases e : j = k
          · rw [e, ← HY.out]; exact d
          · exact HA.out j (by omega)
        clear d
        go_wp2
        go_round
        case rel => exact ⟨k + 1, y / 256, by omega, by go_num, rfl, by rw [HY.out, pow_step], by omega, by omega, hlast.out⟩
        case measure => simp [intOf]; omega
      · have d' : (y % 16 != 10) = true := by simpa using d
        have hf : R = false := by
          rw [← HR.out, pow_four, decide_eq_false_iff_not]
          intro h
          exact d (by rw [HY.out]; exact h k hlt)
        subst hf
        clear d
        go_wp2
        go_ret
        exact ⟨rfl, rfl⟩
    · have e : k = 4 := by omega
      have ht : R = true := by
        rw [← HR.out, pow_four, decide_eq_true_iff]
        exact fun j hj => HA.out j (by omega)
      subst ht
      go_wp2
      go_ret
      exact ⟨rfl, rfl⟩
/-- An index, or a number below none. -/
def Found (xs : List Int) (v : Int) (w : World) (e : Ending) (w' : World) : Prop := ∃ r : Int, e = .returned (.int .i64 r) ∧ (0 ≤ r ↔ v ∈ xs) ∧ w = w'
set_option maxHeartbeats 4000000 in
theorem index_c (xs : List Int) (v : Int) (A : Option Addr) (n c : Nat) (w : World) (h : IntRow .u32 w A n xs) (hn : n ≤ 9223372036854775807) : Calls Try.prog 28 #[.slice A n c, .int .u32 v] w (Found xs v w) := by
  have HR := Lib.hid h
  clear h
  go_enter Try.func28, Try.ntmps28
  go_wp2
  go_loop [8] (fun i => ∃ k : Nat, k ≤ n ∧ i = .int .i64 k ∧ ∀ j, j < k → xs.getD j 0 ≠ v) (fun i => n - (intOf i).toNat)
  case atStart => exact ⟨0, Nat.zero_le _, rfl, fun j hj => by omega⟩
  case round =>
    obtain ⟨k, hk, rfl, hall⟩ := hrel
    have HA := Lib.hid hall
    clear hall
    by_cases hlt : k < n
    · obtain ⟨b, off, rfl, hb, hz⟩ := HR.out.2.resolve_left (by omega)
      have hcell := (hz k hlt).1
      have hin : Hid (xs.getD k 0 ∈ xs) := Lib.hid (by rw [List.getD_eq_getElem?_getD, List.getElem?_eq_getElem (by have := HR.out.1; omega)]; exact List.getElem_mem _)
      have hlast : Hid (xs.getD k 0 ≠ v → ∀ j, j < k + 1 → xs.getD j 0 ≠ v) := Lib.hid fun hne j hj => by
        by_cases e : j = k
        · rw [e]; exact hne
        · exact HA.out j (by omega)
      clear hz
      generalize xs.getD k 0 = x at *
      by_cases d : v = x
      · subst d
        go_wp2
        go_ret
        exact ⟨k, rfl, ⟨fun _ => hin.out, fun _ => by omega⟩, rfl⟩
      · have d' : (v == x) = false := by simpa using d
        have hl2 := Lib.hid (hlast.out (fun e => d e.symm))
        clear d
        go_wp2
        go_round
        case rel => exact ⟨k + 1, by omega, by go_num, hl2.out⟩
        case measure => simp [intOf]; omega
    · have hno : Hid (v ∉ xs) := Lib.hid fun hm => by
        obtain ⟨j, hj, hv⟩ := List.getElem_of_mem hm
        have h1 := HA.out j (by have := HR.out.1; omega)
        rw [List.getD_eq_getElem?_getD, List.getElem?_eq_getElem hj] at h1
        exact h1 hv
      go_wp2
      go_ret
      exact ⟨-1, rfl, ⟨fun h => by omega, fun h => absurd h hno.out⟩, rfl⟩
set_option maxHeartbeats 4000000 in
theorem contains_c (xs : List Int) (v : Int) (A : Option Addr) (n c : Nat) (w : World) (h : IntRow .u32 w A n xs) (hn : n ≤ 9223372036854775807) : Calls Try.prog 22 #[.slice A n c, .int .u32 v] w fun e w' => e = .returned (.bool (decide (v ∈ xs))) ∧ w = w' := by
  have hx := index_c xs v A n c w h hn
  obtain ⟨T, hT⟩ : ∃ T, decide (v ∈ xs) = T := ⟨_, rfl⟩
  rw [hT]
  have HT := Lib.hid hT
  clear h hT
  go_enter Try.func22, Try.ntmps22
  go_wp2_with (fail)
  refine hx.mono ?_
  rintro e w' ⟨r, rfl, hr, rfl⟩
  have hd : decide (0 ≤ r) = T := by rw [← HT.out, decide_eq_decide]; exact hr
  clear hr hx
  go_wp2_with (fail)
  go_ret
  exact ⟨rfl, rfl⟩
set_option maxHeartbeats 4000000 in
theorem has_c (xs : List Int) (v : Int) (A : Option Addr) (n c : Nat) (w : World) (h : IntRow .u32 w A n xs) (hn : n ≤ 9223372036854775807) : Calls Try.prog 15 #[.slice A n c, .int .u32 v] w fun e w' => e = .returned (.bool (decide (v ∈ xs))) ∧ w = w' := by
  have HR := Lib.hid h
  obtain ⟨T, hT⟩ : ∃ T, decide (v ∈ xs) = T := ⟨_, rfl⟩
  rw [hT]
  have HT := Lib.hid hT
  clear h hT
  go_enter Try.func15, Try.ntmps15
  go_wp2
  go_loop [5] (fun i => ∃ k : Nat, k ≤ n ∧ i = .int .i64 k ∧ ∀ j, j < k → xs.getD j 0 ≠ v) (fun i => n - (intOf i).toNat)
  case atStart => exact ⟨0, Nat.zero_le _, rfl, fun j hj => by omega⟩
  case round =>
    obtain ⟨k, hk, rfl, hall⟩ := hrel
    have HA := Lib.hid hall
    clear hall
    by_cases hlt : k < n
    · obtain ⟨b, off, rfl, hb, hz⟩ := HR.out.2.resolve_left (by omega)
      have hcell := (hz k hlt).1
      have hin : Hid (xs.getD k 0 ∈ xs) := Lib.hid (by rw [List.getD_eq_getElem?_getD, List.getElem?_eq_getElem (by have := HR.out.1; omega)]; exact List.getElem_mem _)
      have hlast : Hid (xs.getD k 0 ≠ v → ∀ j, j < k + 1 → xs.getD j 0 ≠ v) := Lib.hid fun hne j hj => by
        by_cases e : j = k
        · rw [e]; exact hne
        · exact HA.out j (by omega)
      clear hz
      generalize xs.getD k 0 = x at *
      by_cases d : x = v
      · subst d
        have ht : T = true := by rw [← HT.out, decide_eq_true_iff]; exact hin.out
        subst ht
        go_wp2
        go_ret
        exact ⟨rfl, rfl⟩
      · have d' : (x == v) = false := by simpa using d
        have hl2 := Lib.hid (hlast.out d)
        clear d
        go_wp2
        go_round
        case rel => exact ⟨k + 1, by omega, by go_num, hl2.out⟩
        case measure => simp [intOf]; omega
    · have ht : T = false := by
        rw [← HT.out, decide_eq_false_iff_not]
        intro hm
        obtain ⟨j, hj, hv⟩ := List.getElem_of_mem hm
        have h1 := HA.out j (by have := HR.out.1; omega)
        rw [List.getD_eq_getElem?_getD, List.getElem?_eq_getElem hj] at h1
        exact h1 hv
      subst ht
      go_wp2
      go_ret
      exact ⟨rfl, rfl⟩
theorem reserved_i (v : Int) (w : World) (h0 : 0 ≤ v) (h1 : v ≤ 4294967295) : Calls Try.prog 11 #[.int .u32 v] w fun e w' => e = .returned (.bool (res v)) ∧ w = w' := by
  obtain ⟨n, rfl⟩ := Int.eq_ofNat_of_zero_le h0
  exact reserved_c n w (by omega)
set_option maxHeartbeats 4000000 in
theorem choose_c (ms ts : List Int) (A : Option Addr) (n c : Nat) (B : Option Addr) (m d : Nat) (w : World) (h : IntRow .u32 w A n ms) (hn : n ≤ 9223372036854775807) (ht : IntRow .u32 w B m ts) (hm : m ≤ 9223372036854775807) :
    Calls Try.prog 9 #[.slice A n c, .slice B m d] w fun e w' => e = .returned (.tuple #[.int .u32 (pick ts ms).1, .bool (pick ts ms).2]) ∧ w = w' := by
  have HR := Lib.hid h
  have HS := Lib.hid ht
  obtain ⟨p, q, hp⟩ : ∃ p q, pick ts ms = (p, q) := ⟨_, _, rfl⟩
  rw [hp]
  have HP := Lib.hid hp
  clear h ht hp
  go_enter Try.func9, Try.ntmps9
  go_wp2
  go_loop [10] (fun i => ∃ k : Nat, k ≤ n ∧ i = .int .i64 k ∧ pick ts (ms.drop k) = (p, q)) (fun i => n - (intOf i).toNat)
  case atStart => exact ⟨0, Nat.zero_le _, rfl, HP.out⟩
  case round =>
    obtain ⟨k, hk, rfl, hrest⟩ := hrel
    have HA := Lib.hid hrest
    clear hrest
    by_cases hlt : k < n
    · obtain ⟨b, off, rfl, hb, hz⟩ := HR.out.2.resolve_left (by omega)
      have hcell := (hz k hlt).1
      have hx := bd32 (hz k hlt).2
      have hd := pick_drop ts ms k (by have := HR.out.1; omega)
      clear hz
      generalize ms.getD k 0 = x at *
      obtain ⟨x0, x1⟩ := hx
      have HD := Lib.hid hd
      clear hd
      by_cases z : x = 0
      · have HN : Hid (pick ts (ms.drop (k + 1)) = (p, q)) := Lib.hid (by rw [← HA.out, HD.out, if_neg (fun h => h.1 z)])
        have z' : (x != 0) = false := by simp [z]
        clear z
        go_wp2
        go_round
        case rel => exact ⟨k + 1, by omega, by go_num, HN.out⟩
        case measure => simp [intOf]; omega
      · have z' : (x != 0) = true := by simpa using z
        have rc := reserved_i x w x0 x1
        cases hr : res x with
        | true =>
          have HN : Hid (pick ts (ms.drop (k + 1)) = (p, q)) := Lib.hid (by rw [← HA.out, HD.out, if_neg (fun h => by rw [hr] at h; cases h.2.1)])
          rw [hr] at rc
          clear z hr
          go_wp2_with (fail)
          refine rc.mono ?_
          rintro e w' ⟨rfl, rfl⟩
          clear rc
          go_wp2_with (fail)
          go_round
          case rel => exact ⟨k + 1, by omega, by go_num, HN.out⟩
          case measure => simp [intOf]; omega
        | false =>
          have cc := contains_c ts x B m d w HS.out hm
          rw [hr] at rc
          by_cases hin : x ∈ ts
          · have HN : Hid ((x, true) = (p, q)) := Lib.hid (by rw [← HA.out, HD.out, if_pos ⟨z, hr, hin⟩])
            rw [show decide (x ∈ ts) = true from decide_eq_true hin] at cc
            clear z hr hin
            go_wp2_with (fail)
            refine rc.mono ?_
            rintro e w' ⟨rfl, rfl⟩
            clear rc
            go_wp2_with (fail)
            refine cc.mono ?_
            rintro e w' ⟨rfl, rfl⟩
            clear cc
            go_wp2_with (fail)
            go_ret2
            have h1 := HN.out
            cases h1
            exact ⟨rfl, rfl⟩
          · have HN : Hid (pick ts (ms.drop (k + 1)) = (p, q)) := Lib.hid (by rw [← HA.out, HD.out, if_neg (fun h => hin h.2.2)])
            rw [show decide (x ∈ ts) = false from decide_eq_false hin] at cc
            clear z hr hin
            go_wp2_with (fail)
            refine rc.mono ?_
            rintro e w' ⟨rfl, rfl⟩
            clear rc
            go_wp2_with (fail)
            refine cc.mono ?_
            rintro e w' ⟨rfl, rfl⟩
            clear cc
            go_wp2_with (fail)
            go_round
            case rel => exact ⟨k + 1, by omega, by go_num, HN.out⟩
            case measure => simp [intOf]; omega
    · have hend : Hid ((0, false) = (p, q)) := Lib.hid (by
        have e : ms.drop k = [] := by rw [List.drop_eq_nil_iff]; have := HR.out.1; omega
        rw [← HA.out, e]; rfl)
      go_wp2_with (fail)
      go_ret2
      have h1 := hend.out
      cases h1
      exact ⟨rfl, rfl⟩
set_option maxHeartbeats 4000000 in
theorem refchoose_c (ms ts : List Int) (A : Option Addr) (n c : Nat) (B : Option Addr) (m d : Nat) (w : World) (h : IntRow .u32 w A n ms) (hn : n ≤ 9223372036854775807) (ht : IntRow .u32 w B m ts) (hm : m ≤ 9223372036854775807) :
    Calls Try.prog 10 #[.slice A n c, .slice B m d] w fun e w' => e = .returned (.tuple #[.int .u32 (pick ts ms).1, .bool (pick ts ms).2]) ∧ w = w' := by
  have HR := Lib.hid h
  have HS := Lib.hid ht
  obtain ⟨p, q, hp⟩ : ∃ p q, pick ts ms = (p, q) := ⟨_, _, rfl⟩
  rw [hp]
  have HP := Lib.hid hp
  clear h ht hp
  go_enter Try.func10, Try.ntmps10
  go_wp2
  go_loop [6] (fun i => ∃ k : Nat, k ≤ n ∧ i = .int .i64 k ∧ pick ts (ms.drop k) = (p, q)) (fun i => n - (intOf i).toNat)
  case atStart => exact ⟨0, Nat.zero_le _, rfl, HP.out⟩
  case round =>
    obtain ⟨k, hk, rfl, hrest⟩ := hrel
    have HA := Lib.hid hrest
    clear hrest
    by_cases hlt : k < n
    · obtain ⟨b, off, rfl, hb, hz⟩ := HR.out.2.resolve_left (by omega)
      have hcell := (hz k hlt).1
      have hx := bd32 (hz k hlt).2
      have hd := pick_drop ts ms k (by have := HR.out.1; omega)
      clear hz
      generalize ms.getD k 0 = x at *
      obtain ⟨x0, x1⟩ := hx
      have HD := Lib.hid hd
      clear hd
      by_cases z : x = 0
      · have HN : Hid (pick ts (ms.drop (k + 1)) = (p, q)) := Lib.hid (by rw [← HA.out, HD.out, if_neg (fun h => h.1 z)])
        have z' : (x != 0) = false := by simp [z]
        clear z
        go_wp2
        go_round
        case rel => exact ⟨k + 1, by omega, by go_num, HN.out⟩
        case measure => simp [intOf]; omega
      · have z' : (x != 0) = true := by simpa using z
        have rc := refres_c x w x0 x1
        cases hr : res x with
        | true =>
          have HN : Hid (pick ts (ms.drop (k + 1)) = (p, q)) := Lib.hid (by rw [← HA.out, HD.out, if_neg (fun h => by rw [hr] at h; cases h.2.1)])
          rw [hr] at rc
          clear z hr
          go_wp2_with (fail)
          refine rc.mono ?_
          rintro e w' ⟨rfl, rfl⟩
          clear rc
          go_wp2_with (fail)
          go_round
          case rel => exact ⟨k + 1, by omega, by go_num, HN.out⟩
          case measure => simp [intOf]; omega
        | false =>
          have cc := has_c ts x B m d w HS.out hm
          rw [hr] at rc
          by_cases hin : x ∈ ts
          · have HN : Hid ((x, true) = (p, q)) := Lib.hid (by rw [← HA.out, HD.out, if_pos ⟨z, hr, hin⟩])
            rw [show decide (x ∈ ts) = true from decide_eq_true hin] at cc
            clear z hr hin
            go_wp2_with (fail)
            refine rc.mono ?_
            rintro e w' ⟨rfl, rfl⟩
            clear rc
            go_wp2_with (fail)
            refine cc.mono ?_
            rintro e w' ⟨rfl, rfl⟩
            clear cc
            go_wp2_with (fail)
            go_ret2
            have h1 := HN.out
            cases h1
            exact ⟨rfl, rfl⟩
          · have HN : Hid (pick ts (ms.drop (k + 1)) = (p, q)) := Lib.hid (by rw [← HA.out, HD.out, if_neg (fun h => hin h.2.2)])
            rw [show decide (x ∈ ts) = false from decide_eq_false hin] at cc
            clear z hr hin
            go_wp2_with (fail)
            refine rc.mono ?_
            rintro e w' ⟨rfl, rfl⟩
            clear rc
            go_wp2_with (fail)
            refine cc.mono ?_
            rintro e w' ⟨rfl, rfl⟩
            clear cc
            go_wp2_with (fail)
            go_round
            case rel => exact ⟨k + 1, by omega, by go_num, HN.out⟩
            case measure => simp [intOf]; omega
    · have hend : Hid ((0, false) = (p, q)) := Lib.hid (by
        have e : ms.drop k = [] := by rw [List.drop_eq_nil_iff]; have := HR.out.1; omega
        rw [← HA.out, e]; rfl)
      go_wp2_with (fail)
      go_ret2
      have h1 := hend.out
      cases h1
      exact ⟨rfl, rfl⟩
end Go.Proofs.Ytgknamdcllapbaa
