/- How a slice of the law's moves is read: a row of cells for each, with a row of numbers in it. -/
import Derived.Test.YtnacedbhognpbaaObj
import Derived.Deep.Slices
import Derived.Deep.Fields
import Derived.ChangeSame
import Derived.ProofKit
import Derived.OpenShut
namespace Go.Proofs.Ytnacedbhognpbaa
set_option linter.unusedVariables false
set_option linter.unusedSimpArgs false
open Go.RowKit Go.ChangeShapes Go.WideShapes Go.Deep
section
variable {H : Type} {enc : TypeId × Value → H} {P : Program} {w : World} {base : Nat} {spare : Nat → Bool} {held : Bool}
theorem open_slice_fields {t e : TypeId} {fs : Array Field} {fuel : Nat} {cs : List Value} {x : DataW H × List MemPlace} (ht : P.underlying t = some (.slice e)) (he : P.underlying e = some (.struct fs))
    (hone : oneCellFields P fs = true) (hC : P.cellsOf e = fs.size) (h : DataW.trod enc P w base spare held fuel t cs = some x) :
    (cs = [.slice none 0 0] ∧ x = (.nil, [])) ∨
    ∃ (a : Addr) (len cap m : Nat) (D : Nat → DataW H) (Pl : Nat → List MemPlace), cs = [.slice (some a) len cap] ∧ base ≤ a.block ∧ len ≤ cap ∧ cap ≤ maxLen ∧ m = (if spare a.block then cap else len) ∧
      x = (.slice ((List.range len).map D) ((List.range (m - len)).map fun j => D (len + j)), MemPlace.row a (m * fs.size) ++ (List.range m).flatMap Pl) ∧
      ∀ i, i < m → ∃ (ys : List (DataW H × List MemPlace)) (n : Nat), D i = .agg (ys.map (·.1)) ∧ Pl i = ys.flatMap (·.2) ∧ ys.length = fs.size ∧
        ∀ (j : Nat) (f : Field), fs[j]? = some f → ∃ (v : Value) (y : DataW H × List MemPlace), w.cell? (a.add (i * fs.size + j)) = some v ∧ ys[j]? = some y ∧ DataW.trod enc P w base spare held n f.type [v] = some y := by
  rcases open_slice ht h with h0 | ⟨a, len, cap, m, n, D, Pl, hcs, hb, hl, hm, hmm, hx, hi⟩
  · exact .inl h0
  · refine .inr ⟨a, len, cap, m, D, Pl, hcs, hb, hl, hm, hmm, by rw [hC] at hx; exact hx, fun i him => ?_⟩
    obtain ⟨cs', hc, ht'⟩ := hi i him
    rw [hC] at hc
    obtain ⟨ys, n', hn', hy, hlen, hyl, hf⟩ := DataW.trod_struct he ht'
    obtain ⟨_, hcl, hat⟩ := World.cells?_some hc
    simp only [Prod.mk.injEq] at hy
    refine ⟨ys, n', hy.1, hy.2, hyl, fun j f hj => ?_⟩
    obtain ⟨ho, hk⟩ := hone_of hone j f hj
    have hjl : j < fs.size := (Array.getElem?_eq_some_iff.1 hj).1
    have hcell := hat j hjl
    have hv : cs'[j]? = some (cs'[j]'(by omega)) := List.getElem?_eq_getElem (by omega)
    have h1 := hf j f hj
    rw [ho, hk] at h1
    have hone' : (cs'.drop j).take 1 = [cs'[j]'(by omega)] := by
      rw [List.drop_eq_getElem_cons (by omega)]
      rfl
    rw [hone'] at h1
    have hys : ys[j]? = some (ys[j]'(by omega)) := List.getElem?_eq_getElem (by omega)
    refine ⟨_, _, ?_, hys, h1.trans hys⟩
    rw [← Go.Deep.add_add, hcell, hv]
end

theorem cell_lt {w : World} {p : Addr} {v : Value} (h : w.cell? p = some v) : p.block < w.heap.size ∧ p.spot = none := by
  unfold World.cell? at h
  refine ⟨?_, ?_⟩
  · rcases Nat.lt_or_ge p.block w.heap.size with h' | h'
    · exact h'
    · rw [Array.getElem?_eq_none h'] at h; cases h
  · split at h
    · split at h
      · cases h
      · rename_i h'; simpa using h'
    · cases h
theorem add_at (b off i : Nat) : (⟨b, off, none⟩ : Addr).add i = ⟨b, off + i, none⟩ := by
  unfold Addr.add
  split
  · rename_i h; subst h; rfl
  · rfl
/-- A row of numbers of a kind in memory, up to its length. -/
def IntRow (k : IntKind) (w : World) (a : Option Addr) (len : Nat) (zs : List Int) : Prop :=
  zs.length = len ∧ (len = 0 ∨ ∃ b off, a = some ⟨b, off, none⟩ ∧ b < w.heap.size ∧ ∀ j, j < len → w.cell? ⟨b, off + j, none⟩ = some (.int k (zs.getD j 0)) ∧ (Lit.int k (zs.getD j 0)).wf = true)
section
variable {H : Type} {enc : TypeId × Value → H} {P : Program} {w : World} {base : Nat} {spare : Nat → Bool} {held : Bool}
theorem open_row {t e : TypeId} {k : IntKind} {n : Nat} {v : Value} {y : DataW H × List MemPlace} (ht : P.underlying t = some (.slice e)) (he : P.underlying e = some (.int k)) (hc : P.cellsOf e = 1)
    (h : DataW.trod enc P w base spare held n t [v] = some y) : ∃ a len cap zs, v = .slice a len cap ∧ len ≤ maxLen ∧ IntRow k w a len zs := by
  rcases open_ints ht he hc h with ⟨hcs, _⟩ | ⟨x, l, c, zs, hcs, _, hl, hm, hz, _, hcell, hwz⟩
  · simp at hcs
    exact ⟨none, 0, 0, [], hcs, by unfold maxLen; omega, rfl, .inl rfl⟩
  · simp at hcs
    refine ⟨some x, l, c, zs.take l, hcs, by omega, ?_, ?_⟩
    · have hzl : l ≤ zs.length := by rw [hz]; split <;> omega
      simp; omega
    · by_cases h0 : l = 0
      · exact .inl h0
      · right
        have hzl : l ≤ zs.length := by rw [hz]; split <;> omega
        have h1 := hcell 0 (by omega)
        obtain ⟨hb, hsp⟩ := cell_lt h1
        have hx : x = ⟨x.block, x.off, none⟩ := by
          have : x.add 0 = x := by unfold Addr.add; rw [if_pos rfl]
          rw [this] at hsp
          cases x
          simp at hsp
          subst hsp
          rfl
        have hb' : x.block < w.heap.size := by
          have : x.add 0 = x := by unfold Addr.add; rw [if_pos rfl]
          rw [this] at hb
          exact hb
        refine ⟨x.block, x.off, by rw [← hx], hb', fun j hj => ?_⟩
        have hg : (zs.take l).getD j 0 = zs.getD j 0 := by simp [List.getElem?_take, hj]
        rw [hg]
        have h2 := hcell j (by omega)
        rw [hx, add_at] at h2
        refine ⟨h2, hwz _ ?_⟩
        rw [List.getD_eq_getElem?_getD, List.getElem?_eq_getElem (by omega)]
        exact List.getElem_mem _
end
/-- One of the law's moves in memory. -/
def DoAt (w : World) (b off i : Nat) : Prop := ∃ (kd n : Int) (a : Option Addr) (len cap : Nat) (zs : List Int),
  w.cell? ⟨b, off + i * 3, none⟩ = some (.int .u8 kd) ∧ w.cell? ⟨b, off + i * 3 + 1, none⟩ = some (.int .i64 n) ∧ w.cell? ⟨b, off + i * 3 + 2, none⟩ = some (.slice a len cap) ∧
  (0 ≤ kd ∧ kd ≤ 255) ∧ (-9223372036854775808 ≤ n ∧ n ≤ 9223372036854775807) ∧ len ≤ maxLen ∧ IntRow .i64 w a len zs
def DoRow (w : World) (a : Option Addr) (len : Nat) : Prop := len ≤ maxLen ∧ (len = 0 ∨ ∃ b off, a = some ⟨b, off, none⟩ ∧ b < w.heap.size ∧ ∀ i, i < len → DoAt w b off i)
theorem open_dos {H : Type} {enc : TypeId × Value → H} {w : World} {base : Nat} {spare : Nat → Bool} {held : Bool} {a : Option Addr} {len cap : Nat} {d : DataW H} {ps : List MemPlace}
    (h : DataW.Trod enc Try.prog w base spare held 35 (.slice a len cap) d ps) : DoRow w a len := by
  obtain ⟨fuel, hf⟩ := h
  rcases open_slice_fields Try.underlying35 Try.underlying39 (by kernel_rfl) (by kernel_rfl) hf with ⟨hcs, _⟩ | ⟨x, l, c, m, D, Pl, hcs, _, hl, hm, hmm, _, hi⟩
  · simp [Value.cells] at hcs
    obtain ⟨rfl, rfl, rfl⟩ := hcs
    exact ⟨by unfold maxLen; omega, .inl rfl⟩
  · simp [Value.cells] at hcs
    obtain ⟨rfl, rfl, rfl⟩ := hcs
    refine ⟨by omega, ?_⟩
    have hml : len ≤ m := by rw [hmm]; split <;> omega
    by_cases h0 : len = 0
    · exact .inl h0
    · right
      have hx : x = ⟨x.block, x.off, none⟩ ∧ x.block < w.heap.size := by
        obtain ⟨ys, n, _, _, _, hf0⟩ := hi 0 (by omega)
        obtain ⟨v, y, hc0, _, _⟩ := hf0 0 _ rfl
        obtain ⟨hb, hsp⟩ := cell_lt hc0
        have : x.add (0 * 3 + 0) = x := by unfold Addr.add; rw [if_pos rfl]
        have hb' : x.block < w.heap.size := by
          have e : x.add (0 * (#[{ name := "Kind", type := 5, offset := 0, embedded := false, tag := "", pkgPath := "", byteOffset := 0 }, { name := "N", type := 3, offset := 1, embedded := false, tag := "", pkgPath := "", byteOffset := 8 }, { name := "L", type := 37, offset := 2, embedded := false, tag := "", pkgPath := "", byteOffset := 16 }] : Array Field).size + 0) = x := this
          rw [e] at hb
          exact hb
        have hsp' : x.spot = none := by
          have e : x.add (0 * (#[{ name := "Kind", type := 5, offset := 0, embedded := false, tag := "", pkgPath := "", byteOffset := 0 }, { name := "N", type := 3, offset := 1, embedded := false, tag := "", pkgPath := "", byteOffset := 8 }, { name := "L", type := 37, offset := 2, embedded := false, tag := "", pkgPath := "", byteOffset := 16 }] : Array Field).size + 0) = x := this
          rw [e] at hsp
          exact hsp
        exact ⟨by cases x; simp at hsp'; subst hsp'; rfl, hb'⟩
      refine ⟨x.block, x.off, by rw [← hx.1], hx.2, fun i hil => ?_⟩
      obtain ⟨ys, n, _, _, _, hfs⟩ := hi i (by omega)
      obtain ⟨v0, y0, c0, _, t0⟩ := hfs 0 _ rfl
      obtain ⟨v1, y1, c1, _, t1⟩ := hfs 1 _ rfl
      obtain ⟨v2, y2, c2, _, t2⟩ := hfs 2 _ rfl
      obtain ⟨k0, e0, _, w0⟩ := DataW.trod_int Try.underlying5 t0
      obtain ⟨k1, e1, _, w1⟩ := DataW.trod_int Try.underlying3 t1
      obtain ⟨ia, il, ic, zs, e2, hil2, hr⟩ := open_row Try.underlying37 Try.underlying3 (by kernel_rfl) t2
      simp at e0 e1
      subst e0
      subst e1
      subst e2
      rw [hx.1, add_at] at c0 c1 c2
      exact ⟨k0, k1, ia, il, ic, zs, c0, c1, c2, bounds_u8 w0, bounds_i64 w1, hil2, hr⟩
end Go.Proofs.Ytnacedbhognpbaa
