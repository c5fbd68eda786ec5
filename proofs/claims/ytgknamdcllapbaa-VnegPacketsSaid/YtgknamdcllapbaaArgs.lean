/- How the law's arguments are read: bytes, versions, a packet. -/
import Derived.Test.YtgknamdcllapbaaBase
import Derived.Lib.SmallJoins
namespace Go.Proofs.Ytgknamdcllapbaa
set_option linter.unusedVariables false
set_option linter.unusedSimpArgs false
open Go.RowKit Go.ChangeShapes Go.WideShapes Go.Deep
/-- A slice of numbers as an argument. -/
structure Arg (k : IntKind) (w : World) (a : Option Addr) (len cap : Nat) (zs : List Int) : Prop where
  lec : len ≤ cap
  capm : cap ≤ maxLen
  nilc : a = none → len = 0 ∧ cap = 0
  reachm : len ≤ 140737488351232
  row : IntRow k w a len zs
section
variable {H : Type} {enc : TypeId × Value → H} {w : World} {base : Nat} {spare : Nat → Bool} {held : Bool}
theorem arg_of {k : IntKind} {t e : TypeId} {n : Nat} {v : Value} {y : DataW H × List MemPlace} (ht : Try.prog.underlying t = some (.slice e)) (he : Try.prog.underlying e = some (.int k)) (hc : Try.prog.cellsOf e = 1) (hb : 1 ≤ Try.prog.bytesOf e)
    (h : DataW.trod enc Try.prog w base spare held n t [v] = some y) (hw : ∀ x ∈ y.1.weights Try.prog t, x ≤ 140737488351232) : ∃ a len cap zs, v = .slice a len cap ∧ Arg k w a len cap zs := by
  obtain ⟨a, len, cap, zs, rfl, h1, h2, h3, h4, h5⟩ := open_row ht he hc h
  refine ⟨a, len, cap, zs, rfl, h1, h2, h4, ?_, h3⟩
  rcases h5 with h5 | ⟨u, s, hy, hle⟩
  · omega
  · have hm : (u.length + s.length) * Try.prog.bytesOf e ∈ y.1.weights Try.prog t := by
      rw [hy]
      unfold DataW.weights
      rw [ht]
      exact List.mem_cons.2 (.inl rfl)
    have h6 := hw _ hm
    have h7 : u.length + s.length ≤ (u.length + s.length) * Try.prog.bytesOf e := Nat.le_mul_of_pos_right _ hb
    omega
theorem weights_le {ts : List TypeId} {ds : List (DataW H)} {d : DataW H} {j : Nat} {t : TypeId} (hsz : (DataW.weightsEach Try.prog ts ds).all (· ≤ reachBytes) = true) (htj : ts[j]? = some t) (hdj : ds[j]? = some d) : ∀ x ∈ d.weights Try.prog t, x ≤ 140737488351232 := by
  intro x hx
  have := List.all_eq_true.1 hsz x (DataW.weights_mem_each htj hdj x hx)
  exact of_decide_eq_true this
theorem one_cells {t : TypeId} {v : Value} {d : DataW H} {ps : List MemPlace} {a : Option Addr} {len cap : Nat} (h : DataW.Trod enc Try.prog w base spare held t (.slice a len cap) d ps) : ∃ n, DataW.trod enc Try.prog w base spare held n t [.slice a len cap] = some (d, ps) := by
  obtain ⟨n, hn⟩ := h
  exact ⟨n, by simpa [Value.cells] using hn⟩
theorem open_bytes {ts : List TypeId} {ds : List (DataW H)} {d : DataW H} {j : Nat} {ps : List MemPlace} {a : Option Addr} {len cap : Nat} (hsz : (DataW.weightsEach Try.prog ts ds).all (· ≤ reachBytes) = true) (htj : ts[j]? = some 30) (hdj : ds[j]? = some d)
    (h : DataW.Trod enc Try.prog w base spare held 30 (.slice a len cap) d ps) : ∃ zs, Arg .u8 w a len cap zs := by
  obtain ⟨n, hn⟩ := one_cells (v := .slice none 0 0) h
  obtain ⟨a', l', c', zs, e, ha⟩ := arg_of (y := (d, ps)) Try.underlying30 Try.underlying5 (by kernel_rfl) (of_decide_eq_true (by kernel_rfl)) hn (weights_le hsz htj hdj)
  cases e
  exact ⟨zs, ha⟩
theorem open_words {ts : List TypeId} {ds : List (DataW H)} {d : DataW H} {j : Nat} {ps : List MemPlace} {a : Option Addr} {len cap : Nat} (hsz : (DataW.weightsEach Try.prog ts ds).all (· ≤ reachBytes) = true) (htj : ts[j]? = some 22) (hdj : ds[j]? = some d)
    (h : DataW.Trod enc Try.prog w base spare held 22 (.slice a len cap) d ps) : ∃ zs, Arg .u32 w a len cap zs := by
  obtain ⟨n, hn⟩ := one_cells (v := .slice none 0 0) h
  obtain ⟨a', l', c', zs, e, ha⟩ := arg_of (y := (d, ps)) Try.underlying22 Try.underlying23 (by kernel_rfl) (of_decide_eq_true (by kernel_rfl)) hn (weights_le hsz htj hdj)
  cases e
  exact ⟨zs, ha⟩
theorem open_packet {r : Reach} {b0 : Nat} {ts : List TypeId} {ds : List (DataW H)} {d : DataW H} {j : Nat} {ps : List MemPlace} {v : Value} (hsz : (DataW.weightsEach Try.prog ts ds).all (· ≤ reachBytes) = true) (htj : ts[j]? = some 32) (hdj : ds[j]? = some d)
    (hv : Value.okWide Try.prog w r b0 32 v) (h : DataW.Trod enc Try.prog w base spare held 32 v d ps) :
    ∃ A n c B m e E q g xs ys vs, v = .agg #[.slice A n c, .slice B m e, .slice E q g] ∧ Arg .u8 w A n c xs ∧ Arg .u8 w B m e ys ∧ Arg .u32 w E q g vs := by
  obtain ⟨v0, v1, v2, y0, y1, y2, n, rfl, hd, _, t0, t1, t2⟩ := Joins.open_agg3 Try.underlying32 (by kernel_rfl) (by kernel_rfl) hv h
  have hw := weights_le hsz htj hdj
  have hww : ∀ (i : Nat) (t : TypeId) (y : DataW H), [30, 30, 22][i]? = some t → [y0.1, y1.1, y2.1][i]? = some y → ∀ x ∈ y.weights Try.prog t, x ≤ 140737488351232 := by
    intro i t y hi hy x hx
    refine hw x ?_
    rw [hd]
    unfold DataW.weights
    rw [Try.underlying32]
    exact DataW.weights_mem_each (j := i) (t := t) (d := y) hi hy x hx
  obtain ⟨a0, n0, c0, z0, rfl, p0⟩ := arg_of (k := .u8) Try.underlying30 Try.underlying5 (by kernel_rfl) (of_decide_eq_true (by kernel_rfl)) t0 (hww 0 30 _ rfl rfl)
  obtain ⟨a1, n1, c1, z1, rfl, p1⟩ := arg_of (k := .u8) Try.underlying30 Try.underlying5 (by kernel_rfl) (of_decide_eq_true (by kernel_rfl)) t1 (hww 1 30 _ rfl rfl)
  obtain ⟨a2, n2, c2, z2, rfl, p2⟩ := arg_of (k := .u32) Try.underlying22 Try.underlying23 (by kernel_rfl) (of_decide_eq_true (by kernel_rfl)) t2 (hww 2 22 _ rfl rfl)
  exact ⟨_, _, _, _, _, _, _, _, _, z0, z1, z2, rfl, p0, p1, p2⟩
end
end Go.Proofs.Ytgknamdcllapbaa
