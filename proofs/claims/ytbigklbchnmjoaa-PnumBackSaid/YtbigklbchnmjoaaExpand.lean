/- The walks of pnum.Expand and its closures. -/
import Derived.Test.YtbigklbchnmjoaaPPnumTellsx2
import Derived.Test.YtbigklbchnmjoaaTry
import Derived.Laws.EntriesVeiled
import Derived.Test.YtbigklbchnmjoaaTryAny
import Derived.Lib.Hide
import Derived.BigCall
import Derived.WalkSpells
import Derived.WalkLawsBesides
namespace Go.Proofs.Ytbigklbchnmjoaa
set_option linter.unusedVariables false
open Go.RowKit Go.Proofs.YtbigklbchnmjoaaW.PrintWords Go.Proofs.YtbigklbchnmjoaaW.PrintLast Go.Proofs.YtbigklbchnmjoaaW.PrintMore
attribute [local go_sem] max2_int min2_int max_two min_two max_three min_three max_four min_four

theorem u64_in (z : Int) (h0 : 0 ≤ z) (h1 : z < 18446744073709551616) : IntKind.u64.wrap z = z := by
  have : IntKind.u64.wrap z = z % 18446744073709551616 := by simp [IntKind.wrap, IntKind.bits, IntKind.signed]
  omega
theorem u64_range (z : Int) : 0 ≤ IntKind.u64.wrap z ∧ IntKind.u64.wrap z < 18446744073709551616 := by
  have : IntKind.u64.wrap z = z % 18446744073709551616 := by simp [IntKind.wrap, IntKind.bits, IntKind.signed]
  omega

set_option maxHeartbeats 1000000 in
theorem expand_1_h_s (x y t : Int) (w : World) (hx : x = y) (h0 : 0 ≤ x) (h1 : x ≤ 4611686018427387903) (hy : y ≤ 4611686018427387903) (hy1 : y < 18446744073709551616) (h2 : 0 ≤ t) (h3 : t < 18446744073709551616) (h4 : 256 ≤ x - x % 256 + t % 256) :
    Calls Try.prog 11 #[.int .u64 y, .int .u64 t, .int .i64 1] w fun e w' => e = .returned (.int .u64 (expS 256 x t)) ∧ Below w.heap.size w w' := by
  subst hx
  go_enter Try.func11, Try.ntmps11
  go_wp2_with (fail)
  go_region
  go_wp2_with (fail)
  refine (try_any (x - x % 256 + t % 256 + 256) (x - x % 256 + t % 256) x true ⟨w.heap.size + 1, 0, none⟩ ⟨w.heap.size + 1 + 1, 0, none⟩ ⟨w.heap.size, 0, none⟩ _ w.heap.size (by simp) (by simp [go_sem]) (by simp [go_sem]) (by simp [go_sem]) (by simp [go_sem]) (by simp) (by simp) (by omega) (by omega) (by omega) (by omega) (by omega) (by omega)).mono ?_
  rintro e w1 ⟨rfl, A1⟩
  have hb1 := tryS_range (n := x - x % 256 + t % 256 + 256) (b := x - x % 256 + t % 256) (x := x) (m := true) (by omega) (by omega) (by omega) (by omega)
  generalize hB : tryS (x - x % 256 + t % 256 + 256) true (x - x % 256 + t % 256) x = b1 at *
  have HB := Lib.hid hB
  clear hB
  have hr := u64_in (x - x % 256 + t % 256 - 256) (by omega) (by omega)
  have hd : decide (256 ≤ x - x % 256 + t % 256) = true := by simpa using h4
  have HE : expS 256 x t = tryS (x - x % 256 + t % 256 - 256) true b1 x := by unfold expS; rw [HB.out, hr, hd]
  have HE' := Lib.hid HE
  clear HE hr hd
  go_wp2_with (fail)
  refine (try_any (x - x % 256 + t % 256 - 256) b1 x true ⟨w.heap.size + 1, 0, none⟩ ⟨w.heap.size + 1 + 1, 0, none⟩ ⟨w.heap.size, 0, none⟩ _ w.heap.size (by simp) A1.best A1.far A1.next A1.free (by simp) (by simp) (by omega) (by omega) (by omega) (by omega) (by omega) (by omega)).mono ?_
  rintro e w2 ⟨rfl, A2⟩
  have hc := A2.best
  go_wp2_with (fail)
  go_ret
  refine ⟨by rw [HE'.out]; rfl, Below.trans ?_ (A1.below.trans A2.below)⟩
  exact (((Below.refl _ _).alloc (by simp) _).alloc (by simp) _).alloc (by simp; omega) _ |>.drew

set_option maxHeartbeats 1000000 in
theorem expand_1_h_b (x y t : Int) (w : World) (hx : x = 4611686018427387903) (h0 : 0 ≤ x) (h1 : x ≤ 4611686018427387903) (hy : 4611686018427387903 < y) (hy1 : y < 18446744073709551616) (h2 : 0 ≤ t) (h3 : t < 18446744073709551616) (h4 : 256 ≤ x - x % 256 + t % 256) :
    Calls Try.prog 11 #[.int .u64 y, .int .u64 t, .int .i64 1] w fun e w' => e = .returned (.int .u64 (expS 256 x t)) ∧ Below w.heap.size w w' := by
  have HX := Lib.hid hx
  clear hx
  go_enter Try.func11, Try.ntmps11
  go_upto_region 5 with (fail)
  rw [← HX.out]
  go_wp2_with (fail)
  go_region
  go_wp2_with (fail)
  refine (try_any (x - x % 256 + t % 256 + 256) (x - x % 256 + t % 256) x true ⟨w.heap.size + 1, 0, none⟩ ⟨w.heap.size + 1 + 1, 0, none⟩ ⟨w.heap.size, 0, none⟩ _ w.heap.size (by simp) (by simp [go_sem]) (by simp [go_sem]) (by simp [go_sem]) (by simp [go_sem]) (by simp) (by simp) (by omega) (by omega) (by omega) (by omega) (by omega) (by omega)).mono ?_
  rintro e w1 ⟨rfl, A1⟩
  have hb1 := tryS_range (n := x - x % 256 + t % 256 + 256) (b := x - x % 256 + t % 256) (x := x) (m := true) (by omega) (by omega) (by omega) (by omega)
  generalize hB : tryS (x - x % 256 + t % 256 + 256) true (x - x % 256 + t % 256) x = b1 at *
  have HB := Lib.hid hB
  clear hB
  have hr := u64_in (x - x % 256 + t % 256 - 256) (by omega) (by omega)
  have hd : decide (256 ≤ x - x % 256 + t % 256) = true := by simpa using h4
  have HE : expS 256 x t = tryS (x - x % 256 + t % 256 - 256) true b1 x := by unfold expS; rw [HB.out, hr, hd]
  have HE' := Lib.hid HE
  clear HE hr hd
  go_wp2_with (fail)
  refine (try_any (x - x % 256 + t % 256 - 256) b1 x true ⟨w.heap.size + 1, 0, none⟩ ⟨w.heap.size + 1 + 1, 0, none⟩ ⟨w.heap.size, 0, none⟩ _ w.heap.size (by simp) A1.best A1.far A1.next A1.free (by simp) (by simp) (by omega) (by omega) (by omega) (by omega) (by omega) (by omega)).mono ?_
  rintro e w2 ⟨rfl, A2⟩
  have hc := A2.best
  go_wp2_with (fail)
  go_ret
  refine ⟨by rw [HE'.out]; rfl, Below.trans ?_ (A1.below.trans A2.below)⟩
  exact (((Below.refl _ _).alloc (by simp) _).alloc (by simp) _).alloc (by simp; omega) _ |>.drew

set_option maxHeartbeats 1000000 in
theorem expand_1_l_s (x y t : Int) (w : World) (hx : x = y) (h0 : 0 ≤ x) (h1 : x ≤ 4611686018427387903) (hy : y ≤ 4611686018427387903) (hy1 : y < 18446744073709551616) (h2 : 0 ≤ t) (h3 : t < 18446744073709551616) (h4 : ¬ 256 ≤ x - x % 256 + t % 256) :
    Calls Try.prog 11 #[.int .u64 y, .int .u64 t, .int .i64 1] w fun e w' => e = .returned (.int .u64 (expS 256 x t)) ∧ Below w.heap.size w w' := by
  subst hx
  go_enter Try.func11, Try.ntmps11
  go_wp2_with (fail)
  go_region
  go_wp2_with (fail)
  refine (try_any (x - x % 256 + t % 256 + 256) (x - x % 256 + t % 256) x true ⟨w.heap.size + 1, 0, none⟩ ⟨w.heap.size + 1 + 1, 0, none⟩ ⟨w.heap.size, 0, none⟩ _ w.heap.size (by simp) (by simp [go_sem]) (by simp [go_sem]) (by simp [go_sem]) (by simp [go_sem]) (by simp) (by simp) (by omega) (by omega) (by omega) (by omega) (by omega) (by omega)).mono ?_
  rintro e w1 ⟨rfl, A1⟩
  have hb1 := tryS_range (n := x - x % 256 + t % 256 + 256) (b := x - x % 256 + t % 256) (x := x) (m := true) (by omega) (by omega) (by omega) (by omega)
  generalize hB : tryS (x - x % 256 + t % 256 + 256) true (x - x % 256 + t % 256) x = b1 at *
  have HB := Lib.hid hB
  clear hB
  have hr := u64_range (x - x % 256 + t % 256 - 256)
  have HE : expS 256 x t = tryS (IntKind.u64.wrap (x - x % 256 + t % 256 - 256)) (decide (256 ≤ x - x % 256 + t % 256)) b1 x := by unfold expS; rw [HB.out]
  have HE' := Lib.hid HE
  clear HE
  go_wp2_with (fail)
  refine (try_any (IntKind.u64.wrap (x - x % 256 + t % 256 - 256)) b1 x (decide (256 ≤ x - x % 256 + t % 256)) ⟨w.heap.size + 1, 0, none⟩ ⟨w.heap.size + 1 + 1, 0, none⟩ ⟨w.heap.size, 0, none⟩ _ w.heap.size (by simp) A1.best A1.far A1.next A1.free (by simp) (by simp) hr.1 hr.2 (by omega) (by omega) (by omega) (by omega)).mono ?_
  rintro e w2 ⟨rfl, A2⟩
  have hc := A2.best
  go_wp2_with (fail)
  go_ret
  refine ⟨by rw [HE'.out]; rfl, Below.trans ?_ (A1.below.trans A2.below)⟩
  exact (((Below.refl _ _).alloc (by simp) _).alloc (by simp) _).alloc (by simp; omega) _ |>.drew

set_option maxHeartbeats 1000000 in
theorem expand_1_l_b (x y t : Int) (w : World) (hx : x = 4611686018427387903) (h0 : 0 ≤ x) (h1 : x ≤ 4611686018427387903) (hy : 4611686018427387903 < y) (hy1 : y < 18446744073709551616) (h2 : 0 ≤ t) (h3 : t < 18446744073709551616) (h4 : ¬ 256 ≤ x - x % 256 + t % 256) :
    Calls Try.prog 11 #[.int .u64 y, .int .u64 t, .int .i64 1] w fun e w' => e = .returned (.int .u64 (expS 256 x t)) ∧ Below w.heap.size w w' := by
  have HX := Lib.hid hx
  clear hx
  go_enter Try.func11, Try.ntmps11
  go_upto_region 5 with (fail)
  rw [← HX.out]
  go_wp2_with (fail)
  go_region
  go_wp2_with (fail)
  refine (try_any (x - x % 256 + t % 256 + 256) (x - x % 256 + t % 256) x true ⟨w.heap.size + 1, 0, none⟩ ⟨w.heap.size + 1 + 1, 0, none⟩ ⟨w.heap.size, 0, none⟩ _ w.heap.size (by simp) (by simp [go_sem]) (by simp [go_sem]) (by simp [go_sem]) (by simp [go_sem]) (by simp) (by simp) (by omega) (by omega) (by omega) (by omega) (by omega) (by omega)).mono ?_
  rintro e w1 ⟨rfl, A1⟩
  have hb1 := tryS_range (n := x - x % 256 + t % 256 + 256) (b := x - x % 256 + t % 256) (x := x) (m := true) (by omega) (by omega) (by omega) (by omega)
  generalize hB : tryS (x - x % 256 + t % 256 + 256) true (x - x % 256 + t % 256) x = b1 at *
  have HB := Lib.hid hB
  clear hB
  have hr := u64_range (x - x % 256 + t % 256 - 256)
  have HE : expS 256 x t = tryS (IntKind.u64.wrap (x - x % 256 + t % 256 - 256)) (decide (256 ≤ x - x % 256 + t % 256)) b1 x := by unfold expS; rw [HB.out]
  have HE' := Lib.hid HE
  clear HE
  go_wp2_with (fail)
  refine (try_any (IntKind.u64.wrap (x - x % 256 + t % 256 - 256)) b1 x (decide (256 ≤ x - x % 256 + t % 256)) ⟨w.heap.size + 1, 0, none⟩ ⟨w.heap.size + 1 + 1, 0, none⟩ ⟨w.heap.size, 0, none⟩ _ w.heap.size (by simp) A1.best A1.far A1.next A1.free (by simp) (by simp) hr.1 hr.2 (by omega) (by omega) (by omega) (by omega)).mono ?_
  rintro e w2 ⟨rfl, A2⟩
  have hc := A2.best
  go_wp2_with (fail)
  go_ret
  refine ⟨by rw [HE'.out]; rfl, Below.trans ?_ (A1.below.trans A2.below)⟩
  exact (((Below.refl _ _).alloc (by simp) _).alloc (by simp) _).alloc (by simp; omega) _ |>.drew

set_option maxHeartbeats 1000000 in
theorem expand_2_h_s (x y t : Int) (w : World) (hx : x = y) (h0 : 0 ≤ x) (h1 : x ≤ 4611686018427387903) (hy : y ≤ 4611686018427387903) (hy1 : y < 18446744073709551616) (h2 : 0 ≤ t) (h3 : t < 18446744073709551616) (h4 : 65536 ≤ x - x % 65536 + t % 65536) :
    Calls Try.prog 11 #[.int .u64 y, .int .u64 t, .int .i64 2] w fun e w' => e = .returned (.int .u64 (expS 65536 x t)) ∧ Below w.heap.size w w' := by
  subst hx
  go_enter Try.func11, Try.ntmps11
  go_wp2_with (fail)
  go_region
  go_wp2_with (fail)
  refine (try_any (x - x % 65536 + t % 65536 + 65536) (x - x % 65536 + t % 65536) x true ⟨w.heap.size + 1, 0, none⟩ ⟨w.heap.size + 1 + 1, 0, none⟩ ⟨w.heap.size, 0, none⟩ _ w.heap.size (by simp) (by simp [go_sem]) (by simp [go_sem]) (by simp [go_sem]) (by simp [go_sem]) (by simp) (by simp) (by omega) (by omega) (by omega) (by omega) (by omega) (by omega)).mono ?_
  rintro e w1 ⟨rfl, A1⟩
  have hb1 := tryS_range (n := x - x % 65536 + t % 65536 + 65536) (b := x - x % 65536 + t % 65536) (x := x) (m := true) (by omega) (by omega) (by omega) (by omega)
  generalize hB : tryS (x - x % 65536 + t % 65536 + 65536) true (x - x % 65536 + t % 65536) x = b1 at *
  have HB := Lib.hid hB
  clear hB
  have hr := u64_in (x - x % 65536 + t % 65536 - 65536) (by omega) (by omega)
  have hd : decide (65536 ≤ x - x % 65536 + t % 65536) = true := by simpa using h4
  have HE : expS 65536 x t = tryS (x - x % 65536 + t % 65536 - 65536) true b1 x := by unfold expS; rw [HB.out, hr, hd]
  have HE' := Lib.hid HE
  clear HE hr hd
  go_wp2_with (fail)
  refine (try_any (x - x % 65536 + t % 65536 - 65536) b1 x true ⟨w.heap.size + 1, 0, none⟩ ⟨w.heap.size + 1 + 1, 0, none⟩ ⟨w.heap.size, 0, none⟩ _ w.heap.size (by simp) A1.best A1.far A1.next A1.free (by simp) (by simp) (by omega) (by omega) (by omega) (by omega) (by omega) (by omega)).mono ?_
  rintro e w2 ⟨rfl, A2⟩
  have hc := A2.best
  go_wp2_with (fail)
  go_ret
  refine ⟨by rw [HE'.out]; rfl, Below.trans ?_ (A1.below.trans A2.below)⟩
  exact (((Below.refl _ _).alloc (by simp) _).alloc (by simp) _).alloc (by simp; omega) _ |>.drew

set_option maxHeartbeats 1000000 in
theorem expand_2_h_b (x y t : Int) (w : World) (hx : x = 4611686018427387903) (h0 : 0 ≤ x) (h1 : x ≤ 4611686018427387903) (hy : 4611686018427387903 < y) (hy1 : y < 18446744073709551616) (h2 : 0 ≤ t) (h3 : t < 18446744073709551616) (h4 : 65536 ≤ x - x % 65536 + t % 65536) :
    Calls Try.prog 11 #[.int .u64 y, .int .u64 t, .int .i64 2] w fun e w' => e = .returned (.int .u64 (expS 65536 x t)) ∧ Below w.heap.size w w' := by
  have HX := Lib.hid hx
  clear hx
  go_enter Try.func11, Try.ntmps11
  go_upto_region 5 with (fail)
  rw [← HX.out]
  go_wp2_with (fail)
  go_region
  go_wp2_with (fail)
  refine (try_any (x - x % 65536 + t % 65536 + 65536) (x - x % 65536 + t % 65536) x true ⟨w.heap.size + 1, 0, none⟩ ⟨w.heap.size + 1 + 1, 0, none⟩ ⟨w.heap.size, 0, none⟩ _ w.heap.size (by simp) (by simp [go_sem]) (by simp [go_sem]) (by simp [go_sem]) (by simp [go_sem]) (by simp) (by simp) (by omega) (by omega) (by omega) (by omega) (by omega) (by omega)).mono ?_
  rintro e w1 ⟨rfl, A1⟩
  have hb1 := tryS_range (n := x - x % 65536 + t % 65536 + 65536) (b := x - x % 65536 + t % 65536) (x := x) (m := true) (by omega) (by omega) (by omega) (by omega)
  generalize hB : tryS (x - x % 65536 + t % 65536 + 65536) true (x - x % 65536 + t % 65536) x = b1 at *
  have HB := Lib.hid hB
  clear hB
  have hr := u64_in (x - x % 65536 + t % 65536 - 65536) (by omega) (by omega)
  have hd : decide (65536 ≤ x - x % 65536 + t % 65536) = true := by simpa using h4
  have HE : expS 65536 x t = tryS (x - x % 65536 + t % 65536 - 65536) true b1 x := by unfold expS; rw [HB.out, hr, hd]
  have HE' := Lib.hid HE
  clear HE hr hd
  go_wp2_with (fail)
  refine (try_any (x - x % 65536 + t % 65536 - 65536) b1 x true ⟨w.heap.size + 1, 0, none⟩ ⟨w.heap.size + 1 + 1, 0, none⟩ ⟨w.heap.size, 0, none⟩ _ w.heap.size (by simp) A1.best A1.far A1.next A1.free (by simp) (by simp) (by omega) (by omega) (by omega) (by omega) (by omega) (by omega)).mono ?_
  rintro e w2 ⟨rfl, A2⟩
  have hc := A2.best
  go_wp2_with (fail)
  go_ret
  refine ⟨by rw [HE'.out]; rfl, Below.trans ?_ (A1.below.trans A2.below)⟩
  exact (((Below.refl _ _).alloc (by simp) _).alloc (by simp) _).alloc (by simp; omega) _ |>.drew

set_option maxHeartbeats 1000000 in
theorem expand_2_l_s (x y t : Int) (w : World) (hx : x = y) (h0 : 0 ≤ x) (h1 : x ≤ 4611686018427387903) (hy : y ≤ 4611686018427387903) (hy1 : y < 18446744073709551616) (h2 : 0 ≤ t) (h3 : t < 18446744073709551616) (h4 : ¬ 65536 ≤ x - x % 65536 + t % 65536) :
    Calls Try.prog 11 #[.int .u64 y, .int .u64 t, .int .i64 2] w fun e w' => e = .returned (.int .u64 (expS 65536 x t)) ∧ Below w.heap.size w w' := by
  subst hx
  go_enter Try.func11, Try.ntmps11
  go_wp2_with (fail)
  go_region
  go_wp2_with (fail)
  refine (try_any (x - x % 65536 + t % 65536 + 65536) (x - x % 65536 + t % 65536) x true ⟨w.heap.size + 1, 0, none⟩ ⟨w.heap.size + 1 + 1, 0, none⟩ ⟨w.heap.size, 0, none⟩ _ w.heap.size (by simp) (by simp [go_sem]) (by simp [go_sem]) (by simp [go_sem]) (by simp [go_sem]) (by simp) (by simp) (by omega) (by omega) (by omega) (by omega) (by omega) (by omega)).mono ?_
  rintro e w1 ⟨rfl, A1⟩
  have hb1 := tryS_range (n := x - x % 65536 + t % 65536 + 65536) (b := x - x % 65536 + t % 65536) (x := x) (m := true) (by omega) (by omega) (by omega) (by omega)
  generalize hB : tryS (x - x % 65536 + t % 65536 + 65536) true (x - x % 65536 + t % 65536) x = b1 at *
  have HB := Lib.hid hB
  clear hB
  have hr := u64_range (x - x % 65536 + t % 65536 - 65536)
  have HE : expS 65536 x t = tryS (IntKind.u64.wrap (x - x % 65536 + t % 65536 - 65536)) (decide (65536 ≤ x - x % 65536 + t % 65536)) b1 x := by unfold expS; rw [HB.out]
  have HE' := Lib.hid HE
  clear HE
  go_wp2_with (fail)
  refine (try_any (IntKind.u64.wrap (x - x % 65536 + t % 65536 - 65536)) b1 x (decide (65536 ≤ x - x % 65536 + t % 65536)) ⟨w.heap.size + 1, 0, none⟩ ⟨w.heap.size + 1 + 1, 0, none⟩ ⟨w.heap.size, 0, none⟩ _ w.heap.size (by simp) A1.best A1.far A1.next A1.free (by simp) (by simp) hr.1 hr.2 (by omega) (by omega) (by omega) (by omega)).mono ?_
  rintro e w2 ⟨rfl, A2⟩
  have hc := A2.best
  go_wp2_with (fail)
  go_ret
  refine ⟨by rw [HE'.out]; rfl, Below.trans ?_ (A1.below.trans A2.below)⟩
  exact (((Below.refl _ _).alloc (by simp) _).alloc (by simp) _).alloc (by simp; omega) _ |>.drew

set_option maxHeartbeats 1000000 in
theorem expand_2_l_b (x y t : Int) (w : World) (hx : x = 4611686018427387903) (h0 : 0 ≤ x) (h1 : x ≤ 4611686018427387903) (hy : 4611686018427387903 < y) (hy1 : y < 18446744073709551616) (h2 : 0 ≤ t) (h3 : t < 18446744073709551616) (h4 : ¬ 65536 ≤ x - x % 65536 + t % 65536) :
    Calls Try.prog 11 #[.int .u64 y, .int .u64 t, .int .i64 2] w fun e w' => e = .returned (.int .u64 (expS 65536 x t)) ∧ Below w.heap.size w w' := by
  have HX := Lib.hid hx
  clear hx
  go_enter Try.func11, Try.ntmps11
  go_upto_region 5 with (fail)
  rw [← HX.out]
  go_wp2_with (fail)
  go_region
  go_wp2_with (fail)
  refine (try_any (x - x % 65536 + t % 65536 + 65536) (x - x % 65536 + t % 65536) x true ⟨w.heap.size + 1, 0, none⟩ ⟨w.heap.size + 1 + 1, 0, none⟩ ⟨w.heap.size, 0, none⟩ _ w.heap.size (by simp) (by simp [go_sem]) (by simp [go_sem]) (by simp [go_sem]) (by simp [go_sem]) (by simp) (by simp) (by omega) (by omega) (by omega) (by omega) (by omega) (by omega)).mono ?_
  rintro e w1 ⟨rfl, A1⟩
  have hb1 := tryS_range (n := x - x % 65536 + t % 65536 + 65536) (b := x - x % 65536 + t % 65536) (x := x) (m := true) (by omega) (by omega) (by omega) (by omega)
  generalize hB : tryS (x - x % 65536 + t % 65536 + 65536) true (x - x % 65536 + t % 65536) x = b1 at *
  have HB := Lib.hid hB
  clear hB
  have hr := u64_range (x - x % 65536 + t % 65536 - 65536)
  have HE : expS 65536 x t = tryS (IntKind.u64.wrap (x - x % 65536 + t % 65536 - 65536)) (decide (65536 ≤ x - x % 65536 + t % 65536)) b1 x := by unfold expS; rw [HB.out]
  have HE' := Lib.hid HE
  clear HE
  go_wp2_with (fail)
  refine (try_any (IntKind.u64.wrap (x - x % 65536 + t % 65536 - 65536)) b1 x (decide (65536 ≤ x - x % 65536 + t % 65536)) ⟨w.heap.size + 1, 0, none⟩ ⟨w.heap.size + 1 + 1, 0, none⟩ ⟨w.heap.size, 0, none⟩ _ w.heap.size (by simp) A1.best A1.far A1.next A1.free (by simp) (by simp) hr.1 hr.2 (by omega) (by omega) (by omega) (by omega)).mono ?_
  rintro e w2 ⟨rfl, A2⟩
  have hc := A2.best
  go_wp2_with (fail)
  go_ret
  refine ⟨by rw [HE'.out]; rfl, Below.trans ?_ (A1.below.trans A2.below)⟩
  exact (((Below.refl _ _).alloc (by simp) _).alloc (by simp) _).alloc (by simp; omega) _ |>.drew

set_option maxHeartbeats 1000000 in
theorem expand_3_h_s (x y t : Int) (w : World) (hx : x = y) (h0 : 0 ≤ x) (h1 : x ≤ 4611686018427387903) (hy : y ≤ 4611686018427387903) (hy1 : y < 18446744073709551616) (h2 : 0 ≤ t) (h3 : t < 18446744073709551616) (h4 : 16777216 ≤ x - x % 16777216 + t % 16777216) :
    Calls Try.prog 11 #[.int .u64 y, .int .u64 t, .int .i64 3] w fun e w' => e = .returned (.int .u64 (expS 16777216 x t)) ∧ Below w.heap.size w w' := by
  subst hx
  go_enter Try.func11, Try.ntmps11
  go_wp2_with (fail)
  go_region
  go_wp2_with (fail)
  refine (try_any (x - x % 16777216 + t % 16777216 + 16777216) (x - x % 16777216 + t % 16777216) x true ⟨w.heap.size + 1, 0, none⟩ ⟨w.heap.size + 1 + 1, 0, none⟩ ⟨w.heap.size, 0, none⟩ _ w.heap.size (by simp) (by simp [go_sem]) (by simp [go_sem]) (by simp [go_sem]) (by simp [go_sem]) (by simp) (by simp) (by omega) (by omega) (by omega) (by omega) (by omega) (by omega)).mono ?_
  rintro e w1 ⟨rfl, A1⟩
  have hb1 := tryS_range (n := x - x % 16777216 + t % 16777216 + 16777216) (b := x - x % 16777216 + t % 16777216) (x := x) (m := true) (by omega) (by omega) (by omega) (by omega)
  generalize hB : tryS (x - x % 16777216 + t % 16777216 + 16777216) true (x - x % 16777216 + t % 16777216) x = b1 at *
  have HB := Lib.hid hB
  clear hB
  have hr := u64_in (x - x % 16777216 + t % 16777216 - 16777216) (by omega) (by omega)
  have hd : decide (16777216 ≤ x - x % 16777216 + t % 16777216) = true := by simpa using h4
  have HE : expS 16777216 x t = tryS (x - x % 16777216 + t % 16777216 - 16777216) true b1 x := by unfold expS; rw [HB.out, hr, hd]
  have HE' := Lib.hid HE
  clear HE hr hd
  go_wp2_with (fail)
  refine (try_any (x - x % 16777216 + t % 16777216 - 16777216) b1 x true ⟨w.heap.size + 1, 0, none⟩ ⟨w.heap.size + 1 + 1, 0, none⟩ ⟨w.heap.size, 0, none⟩ _ w.heap.size (by simp) A1.best A1.far A1.next A1.free (by simp) (by simp) (by omega) (by omega) (by omega) (by omega) (by omega) (by omega)).mono ?_
  rintro e w2 ⟨rfl, A2⟩
  have hc := A2.best
  go_wp2_with (fail)
  go_ret
  refine ⟨by rw [HE'.out]; rfl, Below.trans ?_ (A1.below.trans A2.below)⟩
  exact (((Below.refl _ _).alloc (by simp) _).alloc (by simp) _).alloc (by simp; omega) _ |>.drew

set_option maxHeartbeats 1000000 in
theorem expand_3_h_b (x y t : Int) (w : World) (hx : x = 4611686018427387903) (h0 : 0 ≤ x) (h1 : x ≤ 4611686018427387903) (hy : 4611686018427387903 < y) (hy1 : y < 18446744073709551616) (h2 : 0 ≤ t) (h3 : t < 18446744073709551616) (h4 : 16777216 ≤ x - x % 16777216 + t % 16777216) :
    Calls Try.prog 11 #[.int .u64 y, .int .u64 t, .int .i64 3] w fun e w' => e = .returned (.int .u64 (expS 16777216 x t)) ∧ Below w.heap.size w w' := by
  have HX := Lib.hid hx
  clear hx
  go_enter Try.func11, Try.ntmps11
  go_upto_region 5 with (fail)
  rw [← HX.out]
  go_wp2_with (fail)
  go_region
  go_wp2_with (fail)
  refine (try_any (x - x % 16777216 + t % 16777216 + 16777216) (x - x % 16777216 + t % 16777216) x true ⟨w.heap.size + 1, 0, none⟩ ⟨w.heap.size + 1 + 1, 0, none⟩ ⟨w.heap.size, 0, none⟩ _ w.heap.size (by simp) (by simp [go_sem]) (by simp [go_sem]) (by simp [go_sem]) (by simp [go_sem]) (by simp) (by simp) (by omega) (by omega) (by omega) (by omega) (by omega) (by omega)).mono ?_
  rintro e w1 ⟨rfl, A1⟩
  have hb1 := tryS_range (n := x - x % 16777216 + t % 16777216 + 16777216) (b := x - x % 16777216 + t % 16777216) (x := x) (m := true) (by omega) (by omega) (by omega) (by omega)
  generalize hB : tryS (x - x % 16777216 + t % 16777216 + 16777216) true (x - x % 16777216 + t % 16777216) x = b1 at *
  have HB := Lib.hid hB
  clear hB
  have hr := u64_in (x - x % 16777216 + t % 16777216 - 16777216) (by omega) (by omega)
  have hd : decide (16777216 ≤ x - x % 16777216 + t % 16777216) = true := by simpa using h4
  have HE : expS 16777216 x t = tryS (x - x % 16777216 + t % 16777216 - 16777216) true b1 x := by unfold expS; rw [HB.out, hr, hd]
  have HE' := Lib.hid HE
  clear HE hr hd
  go_wp2_with (fail)
  refine (try_any (x - x % 16777216 + t % 16777216 - 16777216) b1 x true ⟨w.heap.size + 1, 0, none⟩ ⟨w.heap.size + 1 + 1, 0, none⟩ ⟨w.heap.size, 0, none⟩ _ w.heap.size (by simp) A1.best A1.far A1.next A1.free (by simp) (by simp) (by omega) (by omega) (by omega) (by omega) (by omega) (by omega)).mono ?_
  rintro e w2 ⟨rfl, A2⟩
  have hc := A2.best
  go_wp2_with (fail)
  go_ret
  refine ⟨by rw [HE'.out]; rfl, Below.trans ?_ (A1.below.trans A2.below)⟩
  exact (((Below.refl _ _).alloc (by simp) _).alloc (by simp) _).alloc (by simp; omega) _ |>.drew

set_option maxHeartbeats 1000000 in
theorem expand_3_l_s (x y t : Int) (w : World) (hx : x = y) (h0 : 0 ≤ x) (h1 : x ≤ 4611686018427387903) (hy : y ≤ 4611686018427387903) (hy1 : y < 18446744073709551616) (h2 : 0 ≤ t) (h3 : t < 18446744073709551616) (h4 : ¬ 16777216 ≤ x - x % 16777216 + t % 16777216) :
    Calls Try.prog 11 #[.int .u64 y, .int .u64 t, .int .i64 3] w fun e w' => e = .returned (.int .u64 (expS 16777216 x t)) ∧ Below w.heap.size w w' := by
  subst hx
  go_enter Try.func11, Try.ntmps11
  go_wp2_with (fail)
  go_region
  go_wp2_with (fail)
  refine (try_any (x - x % 16777216 + t % 16777216 + 16777216) (x - x % 16777216 + t % 16777216) x true ⟨w.heap.size + 1, 0, none⟩ ⟨w.heap.size + 1 + 1, 0, none⟩ ⟨w.heap.size, 0, none⟩ _ w.heap.size (by simp) (by simp [go_sem]) (by simp [go_sem]) (by simp [go_sem]) (by simp [go_sem]) (by simp) (by simp) (by omega) (by omega) (by omega) (by omega) (by omega) (by omega)).mono ?_
  rintro e w1 ⟨rfl, A1⟩
  have hb1 := tryS_range (n := x - x % 16777216 + t % 16777216 + 16777216) (b := x - x % 16777216 + t % 16777216) (x := x) (m := true) (by omega) (by omega) (by omega) (by omega)
  generalize hB : tryS (x - x % 16777216 + t % 16777216 + 16777216) true (x - x % 16777216 + t % 16777216) x = b1 at *
  have HB := Lib.hid hB
  clear hB
  have hr := u64_range (x - x % 16777216 + t % 16777216 - 16777216)
  have HE : expS 16777216 x t = tryS (IntKind.u64.wrap (x - x % 16777216 + t % 16777216 - 16777216)) (decide (16777216 ≤ x - x % 16777216 + t % 16777216)) b1 x := by unfold expS; rw [HB.out]
  have HE' := Lib.hid HE
  clear HE
  go_wp2_with (fail)
  refine (try_any (IntKind.u64.wrap (x - x % 16777216 + t % 16777216 - 16777216)) b1 x (decide (16777216 ≤ x - x % 16777216 + t % 16777216)) ⟨w.heap.size + 1, 0, none⟩ ⟨w.heap.size + 1 + 1, 0, none⟩ ⟨w.heap.size, 0, none⟩ _ w.heap.size (by simp) A1.best A1.far A1.next A1.free (by simp) (by simp) hr.1 hr.2 (by omega) (by omega) (by omega) (by omega)).mono ?_
  rintro e w2 ⟨rfl, A2⟩
  have hc := A2.best
  go_wp2_with (fail)
  go_ret
  refine ⟨by rw [HE'.out]; rfl, Below.trans ?_ (A1.below.trans A2.below)⟩
  exact (((Below.refl _ _).alloc (by simp) _).alloc (by simp) _).alloc (by simp; omega) _ |>.drew

set_option maxHeartbeats 1000000 in
theorem expand_3_l_b (x y t : Int) (w : World) (hx : x = 4611686018427387903) (h0 : 0 ≤ x) (h1 : x ≤ 4611686018427387903) (hy : 4611686018427387903 < y) (hy1 : y < 18446744073709551616) (h2 : 0 ≤ t) (h3 : t < 18446744073709551616) (h4 : ¬ 16777216 ≤ x - x % 16777216 + t % 16777216) :
    Calls Try.prog 11 #[.int .u64 y, .int .u64 t, .int .i64 3] w fun e w' => e = .returned (.int .u64 (expS 16777216 x t)) ∧ Below w.heap.size w w' := by
  have HX := Lib.hid hx
  clear hx
  go_enter Try.func11, Try.ntmps11
  go_upto_region 5 with (fail)
  rw [← HX.out]
  go_wp2_with (fail)
  go_region
  go_wp2_with (fail)
  refine (try_any (x - x % 16777216 + t % 16777216 + 16777216) (x - x % 16777216 + t % 16777216) x true ⟨w.heap.size + 1, 0, none⟩ ⟨w.heap.size + 1 + 1, 0, none⟩ ⟨w.heap.size, 0, none⟩ _ w.heap.size (by simp) (by simp [go_sem]) (by simp [go_sem]) (by simp [go_sem]) (by simp [go_sem]) (by simp) (by simp) (by omega) (by omega) (by omega) (by omega) (by omega) (by omega)).mono ?_
  rintro e w1 ⟨rfl, A1⟩
  have hb1 := tryS_range (n := x - x % 16777216 + t % 16777216 + 16777216) (b := x - x % 16777216 + t % 16777216) (x := x) (m := true) (by omega) (by omega) (by omega) (by omega)
  generalize hB : tryS (x - x % 16777216 + t % 16777216 + 16777216) true (x - x % 16777216 + t % 16777216) x = b1 at *
  have HB := Lib.hid hB
  clear hB
  have hr := u64_range (x - x % 16777216 + t % 16777216 - 16777216)
  have HE : expS 16777216 x t = tryS (IntKind.u64.wrap (x - x % 16777216 + t % 16777216 - 16777216)) (decide (16777216 ≤ x - x % 16777216 + t % 16777216)) b1 x := by unfold expS; rw [HB.out]
  have HE' := Lib.hid HE
  clear HE
  go_wp2_with (fail)
  refine (try_any (IntKind.u64.wrap (x - x % 16777216 + t % 16777216 - 16777216)) b1 x (decide (16777216 ≤ x - x % 16777216 + t % 16777216)) ⟨w.heap.size + 1, 0, none⟩ ⟨w.heap.size + 1 + 1, 0, none⟩ ⟨w.heap.size, 0, none⟩ _ w.heap.size (by simp) A1.best A1.far A1.next A1.free (by simp) (by simp) hr.1 hr.2 (by omega) (by omega) (by omega) (by omega)).mono ?_
  rintro e w2 ⟨rfl, A2⟩
  have hc := A2.best
  go_wp2_with (fail)
  go_ret
  refine ⟨by rw [HE'.out]; rfl, Below.trans ?_ (A1.below.trans A2.below)⟩
  exact (((Below.refl _ _).alloc (by simp) _).alloc (by simp) _).alloc (by simp; omega) _ |>.drew

set_option maxHeartbeats 1000000 in
theorem expand_4_h_s (x y t : Int) (w : World) (hx : x = y) (h0 : 0 ≤ x) (h1 : x ≤ 4611686018427387903) (hy : y ≤ 4611686018427387903) (hy1 : y < 18446744073709551616) (h2 : 0 ≤ t) (h3 : t < 18446744073709551616) (h4 : 4294967296 ≤ x - x % 4294967296 + t % 4294967296) :
    Calls Try.prog 11 #[.int .u64 y, .int .u64 t, .int .i64 4] w fun e w' => e = .returned (.int .u64 (expS 4294967296 x t)) ∧ Below w.heap.size w w' := by
  subst hx
  go_enter Try.func11, Try.ntmps11
  go_wp2_with (fail)
  go_region
  go_wp2_with (fail)
  refine (try_any (x - x % 4294967296 + t % 4294967296 + 4294967296) (x - x % 4294967296 + t % 4294967296) x true ⟨w.heap.size + 1, 0, none⟩ ⟨w.heap.size + 1 + 1, 0, none⟩ ⟨w.heap.size, 0, none⟩ _ w.heap.size (by simp) (by simp [go_sem]) (by simp [go_sem]) (by simp [go_sem]) (by simp [go_sem]) (by simp) (by simp) (by omega) (by omega) (by omega) (by omega) (by omega) (by omega)).mono ?_
  rintro e w1 ⟨rfl, A1⟩
  have hb1 := tryS_range (n := x - x % 4294967296 + t % 4294967296 + 4294967296) (b := x - x % 4294967296 + t % 4294967296) (x := x) (m := true) (by omega) (by omega) (by omega) (by omega)
  generalize hB : tryS (x - x % 4294967296 + t % 4294967296 + 4294967296) true (x - x % 4294967296 + t % 4294967296) x = b1 at *
  have HB := Lib.hid hB
  clear hB
  have hr := u64_in (x - x % 4294967296 + t % 4294967296 - 4294967296) (by omega) (by omega)
  have hd : decide (4294967296 ≤ x - x % 4294967296 + t % 4294967296) = true := by simpa using h4
  have HE : expS 4294967296 x t = tryS (x - x % 4294967296 + t % 4294967296 - 4294967296) true b1 x := by unfold expS; rw [HB.out, hr, hd]
  have HE' := Lib.hid HE
  clear HE hr hd
  go_wp2_with (fail)
  refine (try_any (x - x % 4294967296 + t % 4294967296 - 4294967296) b1 x true ⟨w.heap.size + 1, 0, none⟩ ⟨w.heap.size + 1 + 1, 0, none⟩ ⟨w.heap.size, 0, none⟩ _ w.heap.size (by simp) A1.best A1.far A1.next A1.free (by simp) (by simp) (by omega) (by omega) (by omega) (by omega) (by omega) (by omega)).mono ?_
  rintro e w2 ⟨rfl, A2⟩
  have hc := A2.best
  go_wp2_with (fail)
  go_ret
  refine ⟨by rw [HE'.out]; rfl, Below.trans ?_ (A1.below.trans A2.below)⟩
  exact (((Below.refl _ _).alloc (by simp) _).alloc (by simp) _).alloc (by simp; omega) _ |>.drew

set_option maxHeartbeats 1000000 in
theorem expand_4_h_b (x y t : Int) (w : World) (hx : x = 4611686018427387903) (h0 : 0 ≤ x) (h1 : x ≤ 4611686018427387903) (hy : 4611686018427387903 < y) (hy1 : y < 18446744073709551616) (h2 : 0 ≤ t) (h3 : t < 18446744073709551616) (h4 : 4294967296 ≤ x - x % 4294967296 + t % 4294967296) :
    Calls Try.prog 11 #[.int .u64 y, .int .u64 t, .int .i64 4] w fun e w' => e = .returned (.int .u64 (expS 4294967296 x t)) ∧ Below w.heap.size w w' := by
  have HX := Lib.hid hx
  clear hx
  go_enter Try.func11, Try.ntmps11
  go_upto_region 5 with (fail)
  rw [← HX.out]
  go_wp2_with (fail)
  go_region
  go_wp2_with (fail)
  refine (try_any (x - x % 4294967296 + t % 4294967296 + 4294967296) (x - x % 4294967296 + t % 4294967296) x true ⟨w.heap.size + 1, 0, none⟩ ⟨w.heap.size + 1 + 1, 0, none⟩ ⟨w.heap.size, 0, none⟩ _ w.heap.size (by simp) (by simp [go_sem]) (by simp [go_sem]) (by simp [go_sem]) (by simp [go_sem]) (by simp) (by simp) (by omega) (by omega) (by omega) (by omega) (by omega) (by omega)).mono ?_
  rintro e w1 ⟨rfl, A1⟩
  have hb1 := tryS_range (n := x - x % 4294967296 + t % 4294967296 + 4294967296) (b := x - x % 4294967296 + t % 4294967296) (x := x) (m := true) (by omega) (by omega) (by omega) (by omega)
  generalize hB : tryS (x - x % 4294967296 + t % 4294967296 + 4294967296) true (x - x % 4294967296 + t % 4294967296) x = b1 at *
  have HB := Lib.hid hB
  clear hB
  have hr := u64_in (x - x % 4294967296 + t % 4294967296 - 4294967296) (by omega) (by omega)
  have hd : decide (4294967296 ≤ x - x % 4294967296 + t % 4294967296) = true := by simpa using h4
  have HE : expS 4294967296 x t = tryS (x - x % 4294967296 + t % 4294967296 - 4294967296) true b1 x := by unfold expS; rw [HB.out, hr, hd]
  have HE' := Lib.hid HE
  clear HE hr hd
  go_wp2_with (fail)
  refine (try_any (x - x % 4294967296 + t % 4294967296 - 4294967296) b1 x true ⟨w.heap.size + 1, 0, none⟩ ⟨w.heap.size + 1 + 1, 0, none⟩ ⟨w.heap.size, 0, none⟩ _ w.heap.size (by simp) A1.best A1.far A1.next A1.free (by simp) (by simp) (by omega) (by omega) (by omega) (by omega) (by omega) (by omega)).mono ?_
  rintro e w2 ⟨rfl, A2⟩
  have hc := A2.best
  go_wp2_with (fail)
  go_ret
  refine ⟨by rw [HE'.out]; rfl, Below.trans ?_ (A1.below.trans A2.below)⟩
  exact (((Below.refl _ _).alloc (by simp) _).alloc (by simp) _).alloc (by simp; omega) _ |>.drew

set_option maxHeartbeats 1000000 in
theorem expand_4_l_s (x y t : Int) (w : World) (hx : x = y) (h0 : 0 ≤ x) (h1 : x ≤ 4611686018427387903) (hy : y ≤ 4611686018427387903) (hy1 : y < 18446744073709551616) (h2 : 0 ≤ t) (h3 : t < 18446744073709551616) (h4 : ¬ 4294967296 ≤ x - x % 4294967296 + t % 4294967296) :
    Calls Try.prog 11 #[.int .u64 y, .int .u64 t, .int .i64 4] w fun e w' => e = .returned (.int .u64 (expS 4294967296 x t)) ∧ Below w.heap.size w w' := by
  subst hx
  go_enter Try.func11, Try.ntmps11
  go_wp2_with (fail)
  go_region
  go_wp2_with (fail)
  refine (try_any (x - x % 4294967296 + t % 4294967296 + 4294967296) (x - x % 4294967296 + t % 4294967296) x true ⟨w.heap.size + 1, 0, none⟩ ⟨w.heap.size + 1 + 1, 0, none⟩ ⟨w.heap.size, 0, none⟩ _ w.heap.size (by simp) (by simp [go_sem]) (by simp [go_sem]) (by simp [go_sem]) (by simp [go_sem]) (by simp) (by simp) (by omega) (by omega) (by omega) (by omega) (by omega) (by omega)).mono ?_
  rintro e w1 ⟨rfl, A1⟩
  have hb1 := tryS_range (n := x - x % 4294967296 + t % 4294967296 + 4294967296) (b := x - x % 4294967296 + t % 4294967296) (x := x) (m := true) (by omega) (by omega) (by omega) (by omega)
  generalize hB : tryS (x - x % 4294967296 + t % 4294967296 + 4294967296) true (x - x % 4294967296 + t % 4294967296) x = b1 at *
  have HB := Lib.hid hB
  clear hB
  have hr := u64_range (x - x % 4294967296 + t % 4294967296 - 4294967296)
  have HE : expS 4294967296 x t = tryS (IntKind.u64.wrap (x - x % 4294967296 + t % 4294967296 - 4294967296)) (decide (4294967296 ≤ x - x % 4294967296 + t % 4294967296)) b1 x := by unfold expS; rw [HB.out]
  have HE' := Lib.hid HE
  clear HE
  go_wp2_with (fail)
  refine (try_any (IntKind.u64.wrap (x - x % 4294967296 + t % 4294967296 - 4294967296)) b1 x (decide (4294967296 ≤ x - x % 4294967296 + t % 4294967296)) ⟨w.heap.size + 1, 0, none⟩ ⟨w.heap.size + 1 + 1, 0, none⟩ ⟨w.heap.size, 0, none⟩ _ w.heap.size (by simp) A1.best A1.far A1.next A1.free (by simp) (by simp) hr.1 hr.2 (by omega) (by omega) (by omega) (by omega)).mono ?_
  rintro e w2 ⟨rfl, A2⟩
  have hc := A2.best
  go_wp2_with (fail)
  go_ret
  refine ⟨by rw [HE'.out]; rfl, Below.trans ?_ (A1.below.trans A2.below)⟩
  exact (((Below.refl _ _).alloc (by simp) _).alloc (by simp) _).alloc (by simp; omega) _ |>.drew

set_option maxHeartbeats 1000000 in
theorem expand_4_l_b (x y t : Int) (w : World) (hx : x = 4611686018427387903) (h0 : 0 ≤ x) (h1 : x ≤ 4611686018427387903) (hy : 4611686018427387903 < y) (hy1 : y < 18446744073709551616) (h2 : 0 ≤ t) (h3 : t < 18446744073709551616) (h4 : ¬ 4294967296 ≤ x - x % 4294967296 + t % 4294967296) :
    Calls Try.prog 11 #[.int .u64 y, .int .u64 t, .int .i64 4] w fun e w' => e = .returned (.int .u64 (expS 4294967296 x t)) ∧ Below w.heap.size w w' := by
  have HX := Lib.hid hx
  clear hx
  go_enter Try.func11, Try.ntmps11
  go_upto_region 5 with (fail)
  rw [← HX.out]
  go_wp2_with (fail)
  go_region
  go_wp2_with (fail)
  refine (try_any (x - x % 4294967296 + t % 4294967296 + 4294967296) (x - x % 4294967296 + t % 4294967296) x true ⟨w.heap.size + 1, 0, none⟩ ⟨w.heap.size + 1 + 1, 0, none⟩ ⟨w.heap.size, 0, none⟩ _ w.heap.size (by simp) (by simp [go_sem]) (by simp [go_sem]) (by simp [go_sem]) (by simp [go_sem]) (by simp) (by simp) (by omega) (by omega) (by omega) (by omega) (by omega) (by omega)).mono ?_
  rintro e w1 ⟨rfl, A1⟩
  have hb1 := tryS_range (n := x - x % 4294967296 + t % 4294967296 + 4294967296) (b := x - x % 4294967296 + t % 4294967296) (x := x) (m := true) (by omega) (by omega) (by omega) (by omega)
  generalize hB : tryS (x - x % 4294967296 + t % 4294967296 + 4294967296) true (x - x % 4294967296 + t % 4294967296) x = b1 at *
  have HB := Lib.hid hB
  clear hB
  have hr := u64_range (x - x % 4294967296 + t % 4294967296 - 4294967296)
  have HE : expS 4294967296 x t = tryS (IntKind.u64.wrap (x - x % 4294967296 + t % 4294967296 - 4294967296)) (decide (4294967296 ≤ x - x % 4294967296 + t % 4294967296)) b1 x := by unfold expS; rw [HB.out]
  have HE' := Lib.hid HE
  clear HE
  go_wp2_with (fail)
  refine (try_any (IntKind.u64.wrap (x - x % 4294967296 + t % 4294967296 - 4294967296)) b1 x (decide (4294967296 ≤ x - x % 4294967296 + t % 4294967296)) ⟨w.heap.size + 1, 0, none⟩ ⟨w.heap.size + 1 + 1, 0, none⟩ ⟨w.heap.size, 0, none⟩ _ w.heap.size (by simp) A1.best A1.far A1.next A1.free (by simp) (by simp) hr.1 hr.2 (by omega) (by omega) (by omega) (by omega)).mono ?_
  rintro e w2 ⟨rfl, A2⟩
  have hc := A2.best
  go_wp2_with (fail)
  go_ret
  refine ⟨by rw [HE'.out]; rfl, Below.trans ?_ (A1.below.trans A2.below)⟩
  exact (((Below.refl _ _).alloc (by simp) _).alloc (by simp) _).alloc (by simp; omega) _ |>.drew
end Go.Proofs.Ytbigklbchnmjoaa
