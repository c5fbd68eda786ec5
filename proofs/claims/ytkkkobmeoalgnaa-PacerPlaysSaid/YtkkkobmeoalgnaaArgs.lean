/- How a slice of the law's moves is read: a row of cells for each, with a row of numbers in it. -/
import Derived.Test.YtkkkobmeoalgnaaObj
import Derived.Deep.Slices
import Derived.Deep.Fields
import Derived.ChangeSame
import Derived.ProofKit
import Derived.OpenShut
import Derived.SizedLaws
namespace Go.Proofs.Ytkkkobmeoalgnaa
set_option linter.unusedVariables false
set_option linter.unusedSimpArgs false
open Go.RowKit Go.ChangeShapes Go.WideShapes Go.Deep
section
variable {H : Type} {enc : TypeId × Value → H} {P : Program} {w : World} {base : Nat} {spare : Nat → Bool} {held : Bool}
theorem open_slice_fields {t e : TypeId} {fs : Array Field} {fuel : Nat} {cs : List Value} {x : DataW H × List MemPlace} (ht : P.underlying t = some (.slice e)) (he : P.underlying e = some (.struct fs))
    (hone : oneCellFields P fs = true) (hC : P.cellsOf e = fs.size) (h : DataW.trod enc P w base spare held fuel t cs = some x) :
    (cs = [.slice none 0 0] ∧ x = (.nil, [])) ∨
    ∃ (a : Addr) (len cap m : Nat) (D : Nat → DataW H) (Pl : Nat → List MemPlace), cs = [.slice (some a) len cap] ∧ base ≤ a.block ∧ len ≤ cap ∧ cap ≤ maxLen ∧ m = (if spare a.block then cap else len) ∧
      x = (.slice ((List.range len).map D) ((List.range (m - len)).map fun j => D (len + j)), MemPlace.row a (m * fs.size) ++ (List.range m).flatMap Pl) ∧
      ∀ i, i < m → ∃ (ys : List (DataW H × List MemPlace)) (n : Nat), D i = .agg (ys.map (·.1)) ∧ Pl i = ys.flatMap (·.2) ∧ ys.length = fs.size ∧
        ∀ (j : Nat) (f : Field), fs[j]? = some f → ∃ (v : Value) (y : DataW H × List MemPlace), w.cell? (a.add (i * fs.size + j)) = some v ∧ ys[j]? = some y ∧ DataW.trod enc P w base spare held n f.type [v] = some y := by
  rcases open_slice ht h with h0 | ⟨a, len, cap, m, n, D, Pl, hcs, hb, hl, hm, hmm, hx, hi⟩
  · exact .inl h0
  · refine .inr ⟨a, len, cap, m, D, Pl, hcs, hb, hl, hm, hmm, by rw [hC] at hx; exact hx, fun i him => ?_⟩
    obtain ⟨cs', hc, ht'⟩ := hi i him
    rw [hC] at hc
    obtain ⟨ys, n', hn', hy, hlen, hyl, hf⟩ := DataW.trod_struct he ht'
    obtain ⟨_, hcl, hat⟩ := World.cells?_some hc
    simp only [Prod.mk.injEq] at hy
    refine ⟨ys, n', hy.1, hy.2, hyl, fun j f hj => ?_⟩
    obtain ⟨ho, hk⟩ := hone_of hone j f hj
    have hjl : j < fs.size := (Array.getElem?_eq_some_iff.1 hj).1
    have hcell := hat j hjl
    have hv : cs'[j]? = some (cs'[j]'(by omega)) := List.getElem?_eq_getElem (by omega)
    have h1 := hf j f hj
    rw [ho, hk] at h1
    have hone' : (cs'.drop j).take 1 = [cs'[j]'(by omega)] := by
      rw [List.drop_eq_getElem_cons (by omega)]
      rfl
    rw [hone'] at h1
    have hys : ys[j]? = some (ys[j]'(by omega)) := List.getElem?_eq_getElem (by omega)
    refine ⟨_, _, ?_, hys, h1.trans hys⟩
    rw [← Go.Deep.add_add, hcell, hv]
end

theorem weights_all {H : Type} {P : Program} {e : TypeId} : ∀ {l : List (DataW H)} {d : DataW H}, d ∈ l → ∀ n ∈ d.weights P e, n ∈ DataW.weightsAll P e l
  | [], d, h, _, _ => by cases h
  | x :: r, d, h, n, hn => by
    unfold DataW.weightsAll
    rw [List.mem_append]
    rcases List.mem_cons.1 h with rfl | h
    · exact .inl hn
    · exact .inr (weights_all h n hn)
theorem cell_lt {w : World} {p : Addr} {v : Value} (h : w.cell? p = some v) : p.block < w.heap.size ∧ p.spot = none := by
  unfold World.cell? at h
  refine ⟨?_, ?_⟩
  · rcases Nat.lt_or_ge p.block w.heap.size with h' | h'
    · exact h'
    · rw [Array.getElem?_eq_none h'] at h; cases h
  · split at h
    · split at h
      · cases h
      · rename_i h'; simpa using h'
    · cases h
theorem add_at (b off i : Nat) : (⟨b, off, none⟩ : Addr).add i = ⟨b, off + i, none⟩ := by
  unfold Addr.add
  split
  · rename_i h; subst h; rfl
  · rfl
theorem below_cell {w w' : World} {p : Addr} {v : Value} (hb : Below w.heap.size w w') (h : w.cell? p = some v) : w'.cell? p = some v := by
  rw [hb.cell (cell_lt h).1]; exact h
/-- A row of numbers of a kind in memory, up to its length. -/
def IntRow (k : IntKind) (w : World) (a : Option Addr) (len : Nat) (zs : List Int) : Prop :=
  zs.length = len ∧ (len = 0 ∨ ∃ b off, a = some ⟨b, off, none⟩ ∧ b < w.heap.size ∧ ∀ j, j < len → w.cell? ⟨b, off + j, none⟩ = some (.int k (zs.getD j 0)) ∧ (Lit.int k (zs.getD j 0)).wf = true)
theorem IntRow.below {k : IntKind} {w w' : World} {a : Option Addr} {len : Nat} {zs : List Int} (h : IntRow k w a len zs) (hb : Below w.heap.size w w') : IntRow k w' a len zs := by
  obtain ⟨h1, h2⟩ := h
  refine ⟨h1, ?_⟩
  rcases h2 with h2 | ⟨b, off, e, hl, hc⟩
  · exact .inl h2
  · exact .inr ⟨b, off, e, Nat.lt_of_lt_of_le hl hb.size, fun j hj => ⟨below_cell hb (hc j hj).1, (hc j hj).2⟩⟩
section
variable {H : Type} {enc : TypeId × Value → H} {P : Program} {w : World} {base : Nat} {spare : Nat → Bool} {held : Bool}
theorem open_row {t e : TypeId} {k : IntKind} {n : Nat} {v : Value} {y : DataW H × List MemPlace} (ht : P.underlying t = some (.slice e)) (he : P.underlying e = some (.int k)) (hc : P.cellsOf e = 1)
    (h : DataW.trod enc P w base spare held n t [v] = some y) : ∃ a len cap zs, v = .slice a len cap ∧ len ≤ cap ∧ cap ≤ maxLen ∧ IntRow k w a len zs ∧ (a = none → len = 0 ∧ cap = 0) ∧ (len = 0 ∨ ∃ u s, y.1 = .slice u s ∧ len ≤ u.length + s.length) := by
  rcases open_ints ht he hc h with ⟨hcs, _⟩ | ⟨x, l, c, zs, hcs, _, hl, hm, hz, hx, hcell, hwz⟩
  · simp at hcs
    exact ⟨none, 0, 0, [], hcs, by omega, by unfold maxLen; omega, ⟨rfl, .inl rfl⟩, fun _ => ⟨rfl, rfl⟩, .inl rfl⟩
  · simp at hcs
    have hzl : l ≤ zs.length := by rw [hz]; split <;> omega
    refine ⟨some x, l, c, zs.take l, hcs, hl, hm, ⟨by simp; omega, ?_⟩, (fun h => by cases h), .inr ⟨_, _, by rw [hx], by simp [lits]; omega⟩⟩
    by_cases h0 : l = 0
    · exact .inl h0
    · right
      have h1 := hcell 0 (by omega)
      obtain ⟨hb, hsp⟩ := cell_lt h1
      have e0 : x.add 0 = x := by unfold Addr.add; rw [if_pos rfl]
      rw [e0] at hsp hb
      have hx' : x = ⟨x.block, x.off, none⟩ := by
        cases x
        simp at hsp
        subst hsp
        rfl
      refine ⟨x.block, x.off, by rw [← hx'], hb, fun j hj => ?_⟩
      have hg : (zs.take l).getD j 0 = zs.getD j 0 := by simp [List.getElem?_take, hj]
      rw [hg]
      have h2 := hcell j (by omega)
      rw [hx', add_at] at h2
      refine ⟨h2, hwz _ ?_⟩
      rw [List.getD_eq_getElem?_getD, List.getElem?_eq_getElem (by omega)]
      exact List.getElem_mem _
theorem open_ints_row {t e : TypeId} {k : IntKind} {a : Option Addr} {len cap : Nat} {d : DataW H} {ps : List MemPlace} (ht : P.underlying t = some (.slice e)) (he : P.underlying e = some (.int k)) (hc : P.cellsOf e = 1)
    (h : DataW.Trod enc P w base spare held t (.slice a len cap) d ps) : len ≤ maxLen ∧ (a = none → len = 0 ∧ cap = 0) ∧ ∃ zs, IntRow k w a len zs := by
  obtain ⟨fuel, hf⟩ := h
  have hf' : DataW.trod enc P w base spare held fuel t [.slice a len cap] = some (d, ps) := by simpa [Value.cells] using hf
  obtain ⟨a', l', c', zs, e1, h1, h2, h3, h4, _⟩ := open_row ht he hc hf'
  simp at e1
  obtain ⟨rfl, rfl, rfl⟩ := e1
  exact ⟨by omega, h4, zs, h3⟩
end
/-- One of the law's moves in memory. -/
def DoAt (w : World) (b off i : Nat) : Prop := ∃ (x0 : Int) (x1 : Int) (x2 : Int) (a : Option Addr) (len cap : Nat) (zs : List Int),
  w.cell? ⟨b, off + i * 4, none⟩ = some (.int .u8 x0) ∧ w.cell? ⟨b, off + i * 4 + 1, none⟩ = some (.int .u64 x1) ∧ w.cell? ⟨b, off + i * 4 + 2, none⟩ = some (.int .u64 x2) ∧ w.cell? ⟨b, off + i * 4 + 3, none⟩ = some (.slice a len cap) ∧ (Lit.int .u8 x0).wf = true ∧ (Lit.int .u64 x1).wf = true ∧ (Lit.int .u64 x2).wf = true ∧ len * 8 ≤ 140737488351232 ∧ IntRow .u64 w a len zs
theorem DoAt.below {w w' : World} {b off i : Nat} (h : DoAt w b off i) (hb : Below w.heap.size w w') : DoAt w' b off i := by
  obtain ⟨x0, x1, x2, a, len, cap, zs, h0, h1, h2, h3, h4, h5, h6, h7, h8⟩ := h
  exact ⟨x0, x1, x2, a, len, cap, zs, below_cell hb h0, below_cell hb h1, below_cell hb h2, below_cell hb h3, h4, h5, h6, h7, h8.below hb⟩
def DoRow (w : World) (a : Option Addr) (len : Nat) : Prop := len ≤ maxLen ∧ (len = 0 ∨ ∃ b off, a = some ⟨b, off, none⟩ ∧ b < w.heap.size ∧ ∀ i, i < len → DoAt w b off i)
theorem DoRow.below {w w' : World} {a : Option Addr} {len : Nat} (h : DoRow w a len) (hb : Below w.heap.size w w') : DoRow w' a len := by
  obtain ⟨h1, h2⟩ := h
  refine ⟨h1, ?_⟩
  rcases h2 with h2 | ⟨b, off, e, hl, hc⟩
  · exact .inl h2
  · exact .inr ⟨b, off, e, Nat.lt_of_lt_of_le hl hb.size, fun i hi => (hc i hi).below hb⟩
theorem open_dos {H : Type} {enc : TypeId × Value → H} {w : World} {base : Nat} {spare : Nat → Bool} {held : Bool} {a : Option Addr} {len cap : Nat} {d : DataW H} {ps : List MemPlace} {ts : List TypeId} {ds : List (DataW H)} {j : Nat}
    (hsz : (DataW.weightsEach Try.prog ts ds).all (· ≤ reachBytes) = true) (htj : ts[j]? = some 32) (hdj : ds[j]? = some d)
    (h : DataW.Trod enc Try.prog w base spare held 32 (.slice a len cap) d ps) : DoRow w a len := by
  obtain ⟨fuel, hf⟩ := h
  rcases open_slice_fields Try.underlying32 Try.underlying35 (by kernel_rfl) (by kernel_rfl) hf with ⟨hcs, _⟩ | ⟨x, l, c, m, D, Pl, hcs, _, hl, hm, hmm, hx, hi⟩
  · simp [Value.cells] at hcs
    obtain ⟨rfl, rfl, rfl⟩ := hcs
    exact ⟨by unfold maxLen; omega, .inl rfl⟩
  · simp [Value.cells] at hcs
    obtain ⟨rfl, rfl, rfl⟩ := hcs
    refine ⟨by omega, ?_⟩
    have hml : len ≤ m := by rw [hmm]; split <;> omega
    have hd : d = .slice ((List.range len).map D) ((List.range (m - len)).map fun j => D (len + j)) := (Prod.mk.inj hx).1
    have hw : ∀ n ∈ d.weights Try.prog 32, n ≤ 140737488351232 := by
      intro n hn
      have := List.all_eq_true.1 hsz n (DataW.weights_mem_each htj hdj n hn)
      exact of_decide_eq_true this
    by_cases h0 : len = 0
    · exact .inl h0
    · right
      have hx : x = ⟨x.block, x.off, none⟩ ∧ x.block < w.heap.size := by
        obtain ⟨ys, n, _, _, _, hf0⟩ := hi 0 (by omega)
        obtain ⟨v, y, hc0, _, _⟩ := hf0 0 _ rfl
        obtain ⟨hb, hsp⟩ := cell_lt hc0
        have e0 : ∀ q, x.add (0 * q + 0) = x := by intro q; unfold Addr.add; rw [if_pos (by omega)]
        rw [e0] at hb hsp
        exact ⟨by cases x; simp at hsp; subst hsp; rfl, hb⟩
      refine ⟨x.block, x.off, by rw [← hx.1], hx.2, fun i hil => ?_⟩
      obtain ⟨ys, n, hD, _, hys, hfs⟩ := hi i (by omega)
      obtain ⟨v0, y0, c0, g0, t0⟩ := hfs 0 _ rfl
      obtain ⟨v1, y1, c1, g1, t1⟩ := hfs 1 _ rfl
      obtain ⟨v2, y2, c2, g2, t2⟩ := hfs 2 _ rfl
      obtain ⟨v3, y3, c3, g3, t3⟩ := hfs 3 _ rfl
      obtain ⟨k0, e0, _, w0⟩ := DataW.trod_int Try.underlying5 t0
      simp at e0
      subst e0
      obtain ⟨k1, e1, _, w1⟩ := DataW.trod_int Try.underlying22 t1
      simp at e1
      subst e1
      obtain ⟨k2, e2, _, w2⟩ := DataW.trod_int Try.underlying22 t2
      simp at e2
      subst e2
      obtain ⟨ia, il, ic, zs, e3, hil1, hil2, hr, _, hre⟩ := open_row Try.underlying23 Try.underlying22 (by kernel_rfl) t3
      subst e3
      have hreach : il * 8 ≤ 140737488351232 := by
        rcases hre with hre | ⟨u, sp, hy, hle⟩
        · omega
        · have hmem : D i ∈ (List.range len).map D := List.mem_map.2 ⟨i, by simpa using hil, rfl⟩
          have h1 : (u.length + sp.length) * 8 ∈ (DataW.slice u sp).weights Try.prog 23 := by
            unfold DataW.weights
            rw [Try.underlying23]
            exact List.mem_cons.2 (.inl (by rw [show Try.prog.bytesOf 22 = 8 from by kernel_rfl]))
          have h2 : (u.length + sp.length) * 8 ∈ (D i).weights Try.prog 35 := by
            rw [hD]
            unfold DataW.weights
            rw [Try.underlying35]
            refine DataW.weights_mem_each (j := 3) (t := 23) (d := y3.1) rfl ?_ _ (by rw [hy]; exact h1)
            rw [List.getElem?_map, g3]; rfl
          have h3 : (u.length + sp.length) * 8 ∈ d.weights Try.prog 32 := by
            rw [hd]
            unfold DataW.weights
            rw [Try.underlying32]
            exact List.mem_cons.2 (.inr (List.mem_append.2 (.inl (weights_all hmem _ h2))))
          have h4 := hw _ h3
          omega
      rw [hx.1, add_at] at c0 c1 c2 c3
      exact ⟨k0, k1, k2, ia, il, ic, zs, c0, c1, c2, c3, w0, w1, w2, hreach, hr⟩
end Go.Proofs.Ytkkkobmeoalgnaa
