/- Four bytes as a version; a part of a slice; a clone. -/
import Derived.Test.YtgknamdcllapbaaWorks
import Derived.Deep.RegionHeld3
namespace Go.Proofs.Ytgknamdcllapbaa
set_option linter.unusedVariables false
set_option linter.unusedSimpArgs false
open Go.RowKit
theorem or_join (p x y : Int) (hx0 : 0 ≤ x) (hx : x % p = 0) (hx1 : x < 4294967296) (hy0 : 0 ≤ y) (hy : y < p) (hp : p = 16777216 ∨ p = 65536 ∨ p = 256) : bits .or .u32 x y = x + y := by
  rcases hp with rfl | rfl | rfl
  · exact bits_join .u32 32 (by decide) wraps_u32 24 x y hx0 hx hx1 hy0 hy (by omega)
  · exact bits_join .u32 32 (by decide) wraps_u32 16 x y hx0 hx hx1 hy0 hy (by omega)
  · exact bits_join .u32 32 (by decide) wraps_u32 8 x y hx0 hx hx1 hy0 hy (by omega)
/-- Four bytes as a number. -/
def word (zs : List Int) : Int := zs.getD 0 0 * 16777216 + zs.getD 1 0 * 65536 + zs.getD 2 0 * 256 + zs.getD 3 0
set_option maxHeartbeats 4000000 in
theorem word_c (zs : List Int) (A : Option Addr) (c : Nat) (w : World) (h : IntRow .u8 w A 4 zs) : Calls Try.prog 27 #[.slice A 4 c] w fun e w' => e = .returned (.int .u32 (word zs)) ∧ ∃ q, w' = w.drewN q := by
  obtain ⟨b, off, rfl, hb, hz⟩ := h.2.resolve_left (by omega)
  have c0 := (hz 0 (by omega)).1
  have c1 := (hz 1 (by omega)).1
  have c2 := (hz 2 (by omega)).1
  have c3 := (hz 3 (by omega)).1
  have b0 := bd8 (hz 0 (by omega)).2
  have b1 := bd8 (hz 1 (by omega)).2
  have b2 := bd8 (hz 2 (by omega)).2
  have b3 := bd8 (hz 3 (by omega)).2
  have hw : word zs = zs.getD 0 0 * 16777216 + zs.getD 1 0 * 65536 + zs.getD 2 0 * 256 + zs.getD 3 0 := rfl
  rw [hw]
  clear hw hz h
  rw [Nat.add_zero] at c0
  generalize zs.getD 0 0 = x0 at *
  generalize zs.getD 1 0 = x1 at *
  generalize zs.getD 2 0 = x2 at *
  generalize zs.getD 3 0 = x3 at *
  go_enter Try.func27, Try.ntmps27
  go_wp2
  go_quiet (fail)
  go_wp2
  rw [or_join 16777216 (x0 * 16777216) (x1 * 65536) (by omega) (by omega) (by omega) (by omega) (by omega) (.inl rfl), or_join 65536 (x0 * 16777216 + x1 * 65536) (x2 * 256) (by omega) (by omega) (by omega) (by omega) (by omega) (.inr (.inl rfl)), or_join 256 (x0 * 16777216 + x1 * 65536 + x2 * 256) x3 (by omega) (by omega) (by omega) (by omega) (by omega) (.inr (.inr rfl))]
  go_ret
  exact ⟨rfl, _, rfl⟩
/-- Where a part of a slice begins. -/
def part (a : Option Addr) (lo cap : Nat) : Option Addr := if cap = lo then a else a.map (·.add lo)
theorem sliced_part (a : Option Addr) (l h m : Nat) : sliced a l h m 1 = .slice (part a l m) (h - l) (m - l) := by
  simp only [sliced, part, Nat.mul_one]
theorem part_lh (w : World) (a : Option Addr) (n c : Nat) (l h : Int) (h0 : 0 ≤ l) (h1 : l ≤ h) (h2 : h ≤ c) :
    (Instr.slice 30 (.slice a n c) (some (.int .i64 l)) (some (.int .i64 h)) none).run Try.prog w = .ok (.slice (part a l.toNat c) (h.toNat - l.toNat) (c - l.toNat)) w := by
  rw [run_slice_lh (w := w) 30 _ n c Try.underlying30 .i64 .i64 l h h0 h1 h2]
  have hs : (sizeOf (Try.prog.elem 30)).run Try.prog w = .ok 1 w := by kernel_rfl
  rw [hs]
  simp only [Result.andThen, sliced_part]
theorem part_l (w : World) (a : Option Addr) (n c : Nat) (l : Int) (h0 : 0 ≤ l) (h1 : l ≤ n) :
    (Instr.slice 30 (.slice a n c) (some (.int .i64 l)) none none).run Try.prog w = .ok (.slice (part a l.toNat c) (n - l.toNat) (c - l.toNat)) w := by
  rw [run_slice_l (w := w) 30 _ n c Try.underlying30 .i64 l h0 h1]
  have hs : (sizeOf (Try.prog.elem 30)).run Try.prog w = .ok 1 w := by kernel_rfl
  rw [hs]
  simp only [Result.andThen, sliced_part]
theorem part_lhm (w : World) (a : Option Addr) (n c : Nat) (l h m : Int) (h0 : 0 ≤ l) (h1 : l ≤ h) (h2 : h ≤ m) (h3 : m ≤ c) :
    (Instr.slice 30 (.slice a n c) (some (.int .i64 l)) (some (.int .i64 h)) (some (.int .i64 m))).run Try.prog w = .ok (.slice (part a l.toNat m.toNat) (h.toNat - l.toNat) (m.toNat - l.toNat)) w := by
  rw [run_slice_lhm (w := w) 30 _ n c Try.underlying30 .i64 .i64 .i64 l h m h0 h1 h2 h3]
  have hs : (sizeOf (Try.prog.elem 30)).run Try.prog w = .ok 1 w := by kernel_rfl
  rw [hs]
  simp only [Result.andThen, sliced_part]
theorem part_some (b off lo c : Nat) : ∃ S : Addr, part (some ⟨b, off, none⟩) lo c = some S ∧ S.block = b := by
  unfold part
  by_cases e : c = lo
  · rw [if_pos e]; exact ⟨_, rfl, rfl⟩
  · rw [if_neg e]; exact ⟨_, rfl, by simp [add_at]⟩
theorem part_row {k : IntKind} {w : World} {b off n lo hi c : Nat} {zs : List Int} (hr : IntRow k w (some ⟨b, off, none⟩) n zs) (h1 : hi ≤ n) (h2 : hi ≤ c) : IntRow k w (part (some ⟨b, off, none⟩) lo c) (hi - lo) ((zs.take hi).drop lo) := by
  obtain ⟨h3, h4⟩ := hr
  have hlen : ((zs.take hi).drop lo).length = hi - lo := by clear h4; rw [List.length_drop, List.length_take]; omega
  refine ⟨hlen, ?_⟩
  by_cases e : hi - lo = 0
  · exact .inl e
  · rcases h4 with h4 | ⟨b', off', e', hb, hc⟩
    · omega
    · cases e'
      refine .inr ⟨b, off + lo, by unfold part; rw [if_neg (by omega)]; simp [add_at], hb, fun j hj => ?_⟩
      have hg : ((zs.take hi).drop lo).getD j 0 = zs.getD (lo + j) 0 := by
        simp only [List.getD_eq_getElem?_getD, List.getElem?_drop, List.getElem?_take]
        rw [if_pos (by omega)]
      rw [hg, Nat.add_assoc]
      exact hc _ (by omega)
theorem part_rest {k : IntKind} {w : World} {b off n lo c : Nat} {zs : List Int} (hr : IntRow k w (some ⟨b, off, none⟩) n zs) (h2 : n ≤ c) : IntRow k w (part (some ⟨b, off, none⟩) lo c) (n - lo) (zs.drop lo) := by
  have h := part_row (lo := lo) (c := c) hr (Nat.le_refl n) h2
  rwa [List.take_of_length_le (by rw [hr.1]; exact Nat.le_refl _)] at h
attribute [irreducible] part
set_option maxHeartbeats 4000000 in
theorem clone_c (zs : List Int) (A : Option Addr) (n c : Nat) (w : World) (h : IntRow .u8 w A n zs) (hA : A = none → n = 0 ∧ c = 0) (hn : n ≤ 100000) : Calls Try.prog 30 #[.slice A n c] w fun e w' => ∃ V, e = .returned V ∧ Made w zs V w' := by
  have HR := Lib.hid h
  obtain ⟨i0, hi, hz0, hz1, hz2⟩ := info_parts info5
  cases A with
  | none =>
    obtain ⟨rfl, rfl⟩ := hA rfl
    have hz : zs = [] := List.eq_nil_of_length_eq_zero h.1
    subst hz
    clear h hA
    have hnil := Lib.run_eql_slice_nil (P := Try.prog) w 30 5 none 0 0 0 0 Try.underlying30
    simp only [Option.isNone_none] at hnil
    go_enter Try.func30, Try.ntmps30
    go_wp2_with (fail)
    go_ret
    exact ⟨_, rfl, World.ownsRow_nil _ _ _ _, Below.refl _ _⟩
  | some a =>
    clear h hA
    have hnil := Lib.run_eql_slice_nil (P := Try.prog) w 30 5 (some a) n c 0 0 Try.underlying30
    simp only [Option.isNone_some] at hnil
    go_enter Try.func30, Try.ntmps30
    go_wp2_with (at_builtin; refine wpList_append_rv _ rfl (.tmp 5) (.tmp 6) 30 rfl w.heap.size 5 i0 (.int .u8 0) 1 Try.underlying30 hi hz0 hz1 hz2 rfl (.slice (some ⟨w.heap.size, 0, none⟩) 0 0) 0 [] rfl (own_block (k := .u8) (zs := []) (Nat.le_refl _) (blk_new w _) rfl (by unfold maxLen; simp) 0 rfl) (some a) n c .u8 zs rfl (HR.out.below ((Below.refl _ _).alloc (Nat.le_refl _) _)) (fun h => by cases h) (by unfold maxLen; omega) (by omega) (by simp) ?_; intro V' w' ho hg hp; have HO := Lib.hid ho; have BB : Hid (Below w.heap.size w w') := Lib.hid (((Below.refl _ w).alloc (Nat.le_refl _) _).grown hg (by simp) (fun k hk => by cases hk; exact Nat.le_refl _)); clear ho hg hp)
    go_ret
    refine ⟨V', rfl, ?_, BB.out⟩
    have := HO.out
    rw [HR.out.1]
    simpa using this
end Go.Proofs.Ytgknamdcllapbaa
