/- slices.Chunk's iterator: at rows of 4 K bytes. -/
import Derived.RangeFuncBox
import Derived.RangeFuncLeaves
import Derived.Shelf.Abstract
import Derived.Shelf.RegionOpen
import Derived.WalkKit
import Derived.OwnWalkIn
import Derived.TacticsInMore
import Derived.LoopNIn
import Derived.LoopIn
import Derived.Maps.AppendAt
import Derived.Test.YtgknamdcllapbaaKnown
namespace Go.Proofs.Ytgknamdcllapbaa
set_option linter.unusedVariables false
set_option linter.unusedSimpArgs false
open Go.RowKit Go.Shelf
attribute [local go_sem] Oper.semAt_some min_two min2_int
attribute [local go_sem ↓] part_lh part_l part_lhm
/-- What the loop's body keeps: all that lay below n₀, but for block g. -/
structure Ke (g n₀ : Nat) (A B : World) : Prop where
  size : A.heap.size ≤ B.heap.size
  block : ∀ k, k < n₀ → k ≠ g → B.heap[k]? = A.heap[k]?
theorem Ke.trans {g n₀ : Nat} {A B C : World} (h : Ke g n₀ A B) (k : Ke g n₀ B C) : Ke g n₀ A C := ⟨Nat.le_trans h.size k.size, fun j h1 h2 => (k.block j h1 h2).trans (h.block j h1 h2)⟩
theorem Ke.put {g n₀ : Nat} {w : World} (hn : n₀ ≤ w.heap.size) (W : World) (l : Nat) (o o' : Obj) (hl : w.heap.size ≤ l) (h : W.heap[l]? = some o) (_ : o.isCells = false) (_ : o.isWalk = false) : Ke g n₀ W (W.putObj l o') :=
  ⟨(grownBy_putObj' W l o').size, fun k hk _ => World.putObj_heap_other (by omega)⟩
theorem Ke.cell {g n₀ : Nat} {A B : World} (h : Ke g n₀ A B) {p : Addr} (h1 : p.block < n₀) (h2 : p.block ≠ g) : B.cell? p = A.cell? p := World.cell?_of_block (w := A) (h.block p.block h1 h2)
def quad (S : Addr) (i : Nat) : Array Value := #[.slice (some (S.add (4 * i))) 4 4]
theorem drew_grown (W : World) : W.grownBy W.drew none := ⟨rfl, rfl, rfl, Nat.le_refl _, fun _ _ _ => rfl⟩
set_option maxRecDepth 100000 in
set_option maxHeartbeats 2000000 in
theorem chunk1_in (F : Fence) (n : Nat) (h31 : F.fn 31) (hro : F.round = none) (hn : 1 ≤ n) (l B1 B2 n₀ g : Nat) (S : Addr) (m K : Nat) (hK : 4 * K ≤ m) (hm : m ≤ maxLen) (h1 : B1 < n₀) (h2 : B2 < n₀) (e1 : B1 ≠ g) (e2 : B2 ≠ g)
    (J Jx : List {i : Nat // i < K} → World → Prop) (W : World) (hJ : AbidesFrom W.heap.size J)
    (hY : ∀ pre x W, J pre W → pre.length < K → YieldAt F (n - 1) Try.prog l (quad S x.val) W fun e W' =>
      (e = .returned (.bool true) ∧ J (pre ++ [x]) W' ∧ Ke g n₀ W W') ∨ (e = .returned (.bool false) ∧ Jx (pre ++ [x]) W'))
    (c1 : W.cell? ⟨B1, 0, none⟩ = some (.slice (some S) (4 * K) m)) (c2 : W.cell? ⟨B2, 0, none⟩ = some (.int .i64 4)) (h0 : J [] W) :
    CallsIn F n Try.prog 31 #[.func (.yield l) #[] #[], .pointer (some ⟨B1, 0, none⟩), .pointer (some ⟨B2, 0, none⟩)] W fun e W' => (∃ v, e = .returned v) ∧
      ((∃ ys : List {i : Nat // i < K}, ys.map (·.val) = List.range K ∧ J ys W') ∨ (∃ pre, True ∧ Jx pre W')) := by
  refine callsIn_of_wp Try.func31 rfl h31 ?_ hro
  simp only [Try.ntmps31, List.size_toArray, List.length_cons, List.length_nil, Nat.reduceAdd, Nat.reduceSub, Array.replicate_succ, Array.replicate_zero, List.push_toArray, List.append_toArray, List.nil_append, List.cons_append]
  have HJ := Lib.hid hJ
  have HY := Lib.hid hY
  have H0 := Lib.hid h0
  have hmx : Try.prog.follows .mixedOrders = true := by kernel_rfl
  unfold maxLen at hm
  clear hJ hY h0
  gi_wp2
  gi_loopw [4] (fun i wr => ∃ (k : Nat) (pre : List {i : Nat // i < K}), k ≤ K ∧ i = .int .i64 (4 * (k : Int)) ∧ pre.map (·.val) = List.range k ∧ J pre wr ∧ wr.cell? ⟨B1, 0, none⟩ = some (.slice (some S) (4 * K) m) ∧ wr.cell? ⟨B2, 0, none⟩ = some (.int .i64 4) ∧ W.heap.size ≤ wr.heap.size)
    (fun i _ => 4 * K - (intOf i).toNat)
  case atStart => exact ⟨0, [], Nat.zero_le _, rfl, rfl, H0.out, c1, c2, Nat.le_refl _⟩
  case round =>
    obtain ⟨k, pre, hk, rfl, hp, hJs, d1, d2, hsz⟩ := hrel
    have hlen : pre.length = k := by rw [← List.length_map (f := fun x : {i : Nat // i < K} => x.val), hp, List.length_range]
    by_cases hlt : k < K
    · have hjd : J pre wr.drew := HJ.out pre wr wr.drew none hJs (drew_grown wr) (fun r e => by cases e)
      obtain ⟨fn, tmps, assign, body, hy, hR⟩ := HY.out pre ⟨k, hlt⟩ wr.drew hjd (by rw [hlen]; exact hlt)
      dsimp only [quad] at hy
      have hc : decide (4 * (k : Int) < 4 * (K : Int)) = true := decide_eq_true (by omega)
      have hi1 : IntKind.i64.wrap (4 * (k : Int) + 4) = 4 * (k : Int) + 4 := IntWalk.i64_in _ (by omega)
      have t1 : (4 * (k : Int)).toNat = 4 * k := by omega
      have t2 : (4 * (k : Int) + 4).toNat = 4 * k + 4 := by omega
      have hne : ¬ m = 4 * k := by omega
      have hif : ¬ ((4 * K - 4 * k : Nat) : Int) < 4 := by omega
      gi_wp2
      gi_region
      rw [if_neg (by omega : ¬ ((4 * K - 4 * k : Nat) : Int) < 4)]
      have h40 : 4 * k + 4 - 4 * k = 4 := by omega
      have g1 : (0 : Int) ≤ 4 * (k : Int) := by omega
      have g2 : 4 * (k : Int) ≤ 4 * (k : Int) + 4 := by omega
      have g3 : 4 * (k : Int) + 4 ≤ m := by omega
      have hpart : part (some S) (4 * k) (4 * k + 4) = some (S.add (4 * k)) := by unfold part; rw [if_neg (by omega)]; rfl
      have hy2 := hy
      rw [← hpart] at hy2
      clear hpart HY HJ H0 hc hne t1 hjd
      gi_wp2
      all_goals (
        refine hR.mono ?_
        rintro e W3 (⟨rfl, hJ3, hk3⟩ | ⟨rfl, hJx3⟩)
        · have f1 : W3.cell? ⟨B1, 0, none⟩ = some (.slice (some S) (4 * K) m) := (hk3.cell (p := ⟨B1, 0, none⟩) h1 e1).trans d1
          have f2 : W3.cell? ⟨B2, 0, none⟩ = some (.int .i64 4) := (hk3.cell (p := ⟨B2, 0, none⟩) h2 e2).trans d2
          clear d1 d2
          gi_wp2
          go_roundw
          case rel => exact ⟨k + 1, _, by omega, by congr 1, by rw [List.map_append, hp, List.range_succ]; rfl, hJ3, f1, f2, Nat.le_trans hsz hk3.size⟩
          case measure => simp [intOf]; omega
        · gi_wp2
          refine bodyPost_ret (results_none rfl _ _ _) rfl ?_
          exact ⟨⟨_, rfl⟩, .inr ⟨_, trivial, hJx3⟩⟩)
    · obtain rfl : k = K := by omega
      clear hlt
      have hc : decide (4 * (k : Int) < 4 * (k : Int)) = false := decide_eq_false (by omega)
      gi_wp2
      go_end0
      exact ⟨⟨_, rfl⟩, .inl ⟨pre, hp, hJs⟩⟩
end Go.Proofs.Ytgknamdcllapbaa
