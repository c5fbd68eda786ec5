/- What a call does to one object; small laws on blocks. -/
import Derived.Test.YtkkkobmeoalgnaaRows
import Derived.WalkKit
import Derived.WalkSpells
import Derived.WalkLawsBesides
import Derived.Lib.Hide
import Derived.Deep.QuietTactic
import Derived.BigQuiet
import Derived.BigRegion
import Derived.RegionTactic
import Derived.ChangeAlike
import Derived.LoopTactic
import Derived.OwnWalk
import Derived.Deep.LoopGhost
import Derived.Deep.Draws
namespace Go.Proofs.Ytkkkobmeoalgnaa
set_option linter.unusedVariables false
set_option linter.unusedSimpArgs false
open Go.RowKit
/-- Behind the world w only block B has turned; there may be new blocks. -/
structure Only (B : Nat) (w w' : World) : Prop where
  os : w'.os = w.os
  tape : w'.tape = w.tape
  output : w'.output = w.output
  size : w.heap.size ≤ w'.heap.size
  block : ∀ k, k < w.heap.size → k ≠ B → w'.heap[k]? = w.heap[k]?
theorem max2_int (k k' : IntKind) (x y : Int) : Builtin.max2 (.int k x) (.int k' y) = pure (.int k (if x < y then y else x)) := by simp only [Builtin.max2, gt_iff_lt]
theorem min2_int (k k' : IntKind) (x y : Int) : Builtin.min2 (.int k x) (.int k' y) = pure (.int k (if y < x then y else x)) := by simp only [Builtin.min2]
theorem max_two (ats : Array TypeId) (ty : TypeId) (a b : Value) : Builtin.max_ ats ty #[a, b] = (Builtin.max2 a b >>= fun s => pure s) := by simp only [Builtin.max_, List.foldlM_cons, List.foldlM_nil]
theorem min_two (ats : Array TypeId) (ty : TypeId) (a b : Value) : Builtin.min_ ats ty #[a, b] = (Builtin.min2 a b >>= fun s => pure s) := by simp only [Builtin.min_, List.foldlM_cons, List.foldlM_nil]
theorem min_three (ats : Array TypeId) (ty : TypeId) (a b c : Value) : Builtin.min_ ats ty #[a, b, c] = (Builtin.min2 a b >>= fun s => Builtin.min2 s c >>= fun s => pure s) := by simp only [Builtin.min_, List.foldlM_cons, List.foldlM_nil]
theorem Only.refl (B : Nat) (w : World) : Only B w w := ⟨rfl, rfl, rfl, Nat.le_refl _, fun _ _ _ => rfl⟩
theorem Only.trans {B : Nat} {a b c : World} (h : Only B a b) (k : Only B b c) : Only B a c :=
  ⟨k.os.trans h.os, k.tape.trans h.tape, k.output.trans h.output, Nat.le_trans h.size k.size, fun i hi hne => (k.block i (Nat.lt_of_lt_of_le hi h.size) hne).trans (h.block i hi hne)⟩
theorem Only.set {B : Nat} {a w : World} (h : Only B a w) (i : Nat) (v : Value) : Only B a (w.setCell ⟨B, i, none⟩ v) :=
  h.trans ⟨rfl, rfl, rfl, by simp [World.setCell], fun k _ hne => Below.heap_setCell _ _ _ _ hne⟩
theorem Only.drew {B : Nat} {a w : World} (h : Only B a w) : Only B a w.drew := ⟨h.os, h.tape, h.output, h.size, h.block⟩
theorem Only.drewN {B : Nat} {a w : World} (h : Only B a w) (n : Nat) : Only B a (w.drewN n) := ⟨h.os, h.tape, h.output, h.size, h.block⟩
theorem Only.alloc {B : Nat} {a w : World} (h : Only B a w) (o : Obj) : Only B a (w.alloc o) :=
  h.trans ⟨rfl, rfl, rfl, by simp, fun k hk _ => Below.heap_alloc _ _ _ hk⟩
theorem Only.below {B C : Nat} {w w' : World} (h : Only B w w') (hC : C ≤ B) (hC2 : C ≤ w.heap.size) : Below C w w' :=
  ⟨h.os, h.tape, h.output, h.size, fun k hk => h.block k (by omega) (by omega)⟩
theorem Only.of_below {B : Nat} {w w' : World} (h : Below w.heap.size w w') : Only B w w' := ⟨h.os, h.tape, h.output, h.size, fun k hk _ => h.block k hk⟩
theorem Only.cell {B : Nat} {w w' : World} (h : Only B w w') {p : Addr} (hp : p.block < w.heap.size) (hne : p.block ≠ B) : w'.cell? p = w.cell? p := World.cell?_of_block (w := w) (h.block p.block hp hne)
theorem Only.frozen {B : Nat} {w w' : World} (h : Only B w w') {p : Addr} (hp : p.block < w.heap.size) (hne : p.block ≠ B) : w'.frozen? p = w.frozen? p := World.frozen?_of_block (w := w) (h.block p.block hp hne)
theorem below_drewN {B : Nat} {a w : World} (h : Below B a w) (k : Nat) : Below B a (w.drewN k) := ⟨h.os, h.tape, h.output, h.size, h.block⟩
theorem nextB {w w1 w2 : World} (h : Below w.heap.size w w1) (k : Below w1.heap.size w1 w2) : Below w.heap.size w w2 := h.trans (k.mono h.size)
theorem blk_set {w : World} {g i : Nat} {cs : Array Value} {t : TypeId} (v : Value) (h : w.heap[g]? = some (.cells cs t (0, 0))) : (w.setCell ⟨g, i, none⟩ v).heap[g]? = some (.cells (cs.setIfInBounds i v) t (0, 0)) := by
  simp [World.setCell, Array.getElem?_modify, h]
theorem blk_cell {w : World} {g : Nat} {cs : Array Value} {t : TypeId} (h : w.heap[g]? = some (.cells cs t (0, 0))) (i : Nat) : w.cell? ⟨g, i, none⟩ = cs[i]? := by
  simp [World.cell?, h]
theorem blk_frozen {w : World} {g : Nat} {cs : Array Value} {t : TypeId} (h : w.heap[g]? = some (.cells cs t (0, 0))) (i : Nat) : w.frozen? ⟨g, i, none⟩ = false := by
  simp [World.frozen?, h]
theorem blk_alloc {w : World} {g : Nat} {o : Obj} (o' : Obj) (h : w.heap[g]? = some o) : (w.alloc o').heap[g]? = some o := by
  have hlt : g < w.heap.size := by
    rcases Nat.lt_or_ge g w.heap.size with h' | h'
    · exact h'
    · rw [Array.getElem?_eq_none h'] at h; cases h
  rw [Below.heap_alloc _ _ _ hlt]; exact h
theorem blk_lt {w : World} {g : Nat} {o : Obj} (h : w.heap[g]? = some o) : g < w.heap.size := by
  rcases Nat.lt_or_ge g w.heap.size with h' | h'
  · exact h'
  · rw [Array.getElem?_eq_none h'] at h; cases h
theorem blk_new (w : World) (o : Obj) : (w.alloc o).heap[w.heap.size]? = some o := by
  show (w.heap.push o)[w.heap.size]? = _
  simp

/-- The object's fields. -/
def At (w : World) (B : Nat) (ra : Int) (bu : Int) (tk : Int) (le : Int) : Prop := w.heap[B]? = some (.cells #[.int .u64 ra, .int .u64 bu, .int .u64 tk, .int .u64 le] 49 (0, 0))
section
variable {w : World} {B : Nat} {ra : Int} {bu : Int} {tk : Int} {le : Int}
theorem At.c0 (h : At w B ra bu tk le) : w.cell? ⟨B, 0, none⟩ = some (.int .u64 ra) := (blk_cell h 0).trans rfl
theorem At.c1 (h : At w B ra bu tk le) : w.cell? ⟨B, 1, none⟩ = some (.int .u64 bu) := (blk_cell h 1).trans rfl
theorem At.c2 (h : At w B ra bu tk le) : w.cell? ⟨B, 2, none⟩ = some (.int .u64 tk) := (blk_cell h 2).trans rfl
theorem At.c3 (h : At w B ra bu tk le) : w.cell? ⟨B, 3, none⟩ = some (.int .u64 le) := (blk_cell h 3).trans rfl
theorem At.f0 (h : At w B ra bu tk le) : w.frozen? ⟨B, 0, none⟩ = false := blk_frozen h 0
theorem At.f1 (h : At w B ra bu tk le) : w.frozen? ⟨B, 1, none⟩ = false := blk_frozen h 1
theorem At.f2 (h : At w B ra bu tk le) : w.frozen? ⟨B, 2, none⟩ = false := blk_frozen h 2
theorem At.f3 (h : At w B ra bu tk le) : w.frozen? ⟨B, 3, none⟩ = false := blk_frozen h 3
theorem At.s0 (x : Int) (h : At w B ra bu tk le) : At (w.setCell ⟨B, 0, none⟩ (.int .u64 x)) B x bu tk le := blk_set _ h
theorem At.s1 (x : Int) (h : At w B ra bu tk le) : At (w.setCell ⟨B, 1, none⟩ (.int .u64 x)) B ra x tk le := blk_set _ h
theorem At.s2 (x : Int) (h : At w B ra bu tk le) : At (w.setCell ⟨B, 2, none⟩ (.int .u64 x)) B ra bu x le := blk_set _ h
theorem At.s3 (x : Int) (h : At w B ra bu tk le) : At (w.setCell ⟨B, 3, none⟩ (.int .u64 x)) B ra bu tk x := blk_set _ h
theorem At.drew (h : At w B ra bu tk le) : At w.drew B ra bu tk le := h
theorem At.drewN (n : Nat) (h : At w B ra bu tk le) : At (w.drewN n) B ra bu tk le := h
theorem At.lt (h : At w B ra bu tk le) : B < w.heap.size := blk_lt h
theorem At.below {w' : World} (h : At w B ra bu tk le) (hb : Below w.heap.size w w') : At w' B ra bu tk le := by
  have hl := h.lt
  unfold At at h ⊢
  rw [hb.block B hl]
  exact h
end
theorem At.new (w : World) (ra : Int) (bu : Int) (tk : Int) (le : Int) : At (w.alloc (.cells #[.int .u64 ra, .int .u64 bu, .int .u64 tk, .int .u64 le] 49)) w.heap.size ra bu tk le := blk_new _ _
attribute [irreducible] At
end Go.Proofs.Ytkkkobmeoalgnaa
