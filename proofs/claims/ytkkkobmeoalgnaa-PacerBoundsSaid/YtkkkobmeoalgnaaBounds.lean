/- What goes between two ticks. -/
import Derived.Test.YtkkkobmeoalgnaaMany
import Derived.Test.YtkkkobmeoalgnaaPlainB
import Derived.Maps.AppendAt
namespace Go.Proofs.Ytkkkobmeoalgnaa
set_option linter.unusedVariables false
set_option linter.unusedSimpArgs false
open Go.RowKit
theorem Only.grow {B : Nat} {w w' : World} (h : Only B w w') : w.grownBy w' (some B) := ⟨h.os, h.tape, h.output, h.size, fun k hk hne => h.block k hk (fun e => hne (by rw [e]))⟩
theorem At.grown {w w' : World} {B : Nat} {ra bu tk le : Int} {row : Option Nat} (h : At w B ra bu tk le) (hg : w.grownBy w' row) (hne : some B ≠ row) : At w' B ra bu tk le := by
  have hl := h.lt
  unfold At at h ⊢
  rw [hg.block B hl hne]
  exact h
/-- A slice of numbers that the call has made. -/
def Own64 (w : World) (C : Nat) (v : Value) (zs : List Int) : Prop := w.ownsRow C 22 1 v zs.length (zs.map (Value.int .u64))
theorem Own64.kept {w w' : World} {C : Nat} {v : Value} {zs : List Int} {row : Option Nat} (h : Own64 w C v zs) (hg : w.grownBy w' row) (hne : v.ownBlock = none ∨ v.ownBlock ≠ row) : Own64 w' C v zs := World.ownsRow.kept h hg hne
theorem Own64.lt {w : World} {C : Nat} {v : Value} {zs : List Int} (h : Own64 w C v zs) (k : Nat) (hk : v.ownBlock = some k) : C ≤ k ∧ k < w.heap.size := World.ownsRow.lt h k hk
theorem Own64.alloc {w : World} {C : Nat} {v : Value} {zs : List Int} (h : Own64 w C v zs) (o : Obj) : Own64 (w.alloc o) C v zs := World.ownsRow.alloc h o
theorem getD_map (zs : List Int) (j : Nat) (h : j < zs.length) : (zs.map (Value.int .u64))[j]? = some (.int .u64 (zs.getD j 0)) := by
  simp [List.getD_eq_getElem?_getD, List.getElem?_eq_getElem h]
theorem Own64.row {w : World} {C : Nat} {v : Value} {zs : List Int} (h : Own64 w C v zs) (hz : ∀ j, j < zs.length → 0 ≤ zs.getD j 0 ∧ zs.getD j 0 < 18446744073709551616) : ∃ A c, v = .slice A zs.length c ∧ IntRow .u64 w A zs.length zs := by
  have h' : w.ownsRow C 22 1 v zs.length (zs.map (Value.int .u64)) := h
  rcases h'.2 with ⟨rfl, h0⟩ | ⟨g, cap, cur, rfl, _, hg, _⟩
  · exact ⟨none, 0, by rw [h0], rfl, .inl h0⟩
  · refine ⟨_, _, rfl, rfl, .inr ⟨g, 0, rfl, blk_lt hg, fun j hj => ?_⟩⟩
    have hw := hz j hj
    refine ⟨?_, ?_⟩
    · have := World.ownsRow.cells h' (g := g) rfl j (.int .u64 (zs.getD j 0)) (getD_map zs j hj)
      rw [add_at] at this
      exact this
    · have : IntKind.u64.min ≤ zs.getD j 0 ∧ zs.getD j 0 ≤ IntKind.u64.max := ⟨hw.1, Int.le_of_lt_add_one hw.2⟩
      simpa [Lit.wf] using this
/-- The pacer and the two lists, as they stand. -/
def Book (w0 : World) (C B : Nat) (r b now : Int) (most : Nat) (va vn : Value) (w : World) : Prop :=
  ∃ (t l : Int) (ats ns : List Int), At w B r b t l ∧ Ok r b t l ∧ t ≤ now ∧ Fed r (b * 1000000) t l ats ns ∧ ns.length ≤ most ∧ Own64 w C va ats ∧ Own64 w C vn ns ∧ (∀ k, va.ownBlock = some k → vn.ownBlock ≠ some k) ∧ Below w0.heap.size w0 w ∧ C ≤ w.heap.size
theorem Own64.apart {w : World} {C : Nat} {v : Value} {zs : List Int} (h : Own64 w C v zs) {B : Nat} (hB : B < C) : v.ownBlock = none ∨ v.ownBlock ≠ some B := .inr fun e => by have := (h.lt B e).1; omega
theorem Book.alloc {w0 : World} {C B : Nat} {r b now : Int} {most : Nat} {va vn : Value} {w : World} (h : Book w0 C B r b now most va vn w) (o : Obj) : Book w0 C B r b now most va vn (w.alloc o) := by
  obtain ⟨t, l, ats, ns, h1, h2, h3, h4, h5, h6, h7, h8, h9, h10⟩ := h
  exact ⟨t, l, ats, ns, h1.below ((Below.refl _ _).alloc (Nat.le_refl _) _), h2, h3, h4, h5, h6.alloc _, h7.alloc _, h8, h9.alloc h9.size _, by simp; omega⟩
theorem Book.later {w0 : World} {C B : Nat} {r b now now' : Int} {most most' : Nat} {va vn : Value} {w : World} (h : Book w0 C B r b now most va vn w) (hn : now ≤ now') (hm : most ≤ most') : Book w0 C B r b now' most' va vn w := by
  obtain ⟨t, l, ats, ns, h1, h2, h3, h4, h5, h6, h7, h8, h9, h10⟩ := h
  exact ⟨t, l, ats, ns, h1, h2, by omega, h4, by omega, h6, h7, h8, h9, h10⟩
theorem apart_new {w : World} {C : Nat} {v v' u : Value} {us : List Int} (hu : Own64 w C u us) (hv : ∀ k, v.ownBlock = some k → u.ownBlock ≠ some k) (hw : v'.ownBlock = v.ownBlock ∨ v'.ownBlock = some w.heap.size) : ∀ k, v'.ownBlock = some k → u.ownBlock ≠ some k := by
  intro k hk hu2
  rcases hw with hw | hw
  · exact hv k (hw ▸ hk) hu2
  · rw [hw] at hk
    cases hk
    have := (hu.lt _ hu2).2
    omega
theorem news_one {w : World} {g : Nat} {x : Value} {t : TypeId} (h : w.heap[g]? = some (.cells #[x] t (0, 0))) : ∀ (j : Nat) (u : Value), [x][j]? = some u → w.cell? ((⟨g, 0, none⟩ : Addr).add j) = some u := by
  intro j u hj
  have hj0 : j = 0 := by
    have := (List.getElem?_eq_some_iff.1 hj).1
    simp at this
    exact this
  subst hj0
  rw [add_at]
  simp at hj
  subst hj
  exact (blk_cell h 0).trans rfl
theorem one_int (k : IntKind) (x : Int) : ∀ u ∈ [Value.int k x], u.oneCell' = true := by
  intro u hu
  simp at hu
  subst hu
  rfl
theorem info22 : (Try.prog.info? 22).map (fun i => (i.zero, i.size, i.bytes)) = some (some (.int .u64 0), 1, 8) := by kernel_rfl
/-- A packet has gone. -/
theorem lv_min {r b t l now : Int} (o : Ok r b t l) (h : t ≤ now) : lv r b t l now = min (b * 1000000) (l + (now - t) * r) := by
  unfold lv
  by_cases c : now ≤ t
  · have e : now = t := by omega
    rw [if_pos c, e]
    have : (t - t) * r = 0 := by rw [Int.sub_self, Int.zero_mul]
    rw [this]
    have := o.l2
    omega
  · rw [if_neg c]
theorem tm_late {t now : Int} (h : t ≤ now) : tm t now = now := by
  unfold tm; split <;> omega
theorem one_pack {L x L' : Int} (h : pack L [x] = some L') : x * 1000000 ≤ L ∧ L' = L - x * 1000000 := by
  simp only [pack] at h
  split at h
  · rename_i c
    exact ⟨c, (Option.some.inj h).symm⟩
  · cases h
theorem fed_one {r b t l now x L : Int} {ats ns : List Int} (o : Ok r b t l) (h : t ≤ now) (f : Fed r (b * 1000000) t l ats ns) (x0 : 0 ≤ x) (hp : pack (lv r b t l now) [x] = some L) : Fed r (b * 1000000) now L (ats ++ [now]) (ns ++ [x]) := by
  obtain ⟨g, rfl⟩ := one_pack hp
  have hl := lv_ok now o
  have := o.b2
  have := o.r1
  exact f.more now x (lv r b t l now) (by omega) o.t1 h x0 (by omega) o.l1 (lv_min o h) g
theorem Own64.second {w4 w5 : World} {C : Nat} {vA vN : Value} {ns : List Int} {X : Obj} (oN : Own64 w4 C vN ns) (ap : ∀ k, vA.ownBlock = some k → vN.ownBlock ≠ some k) (g5 : (w4.alloc X).grownBy w5 vA.ownBlock) : Own64 w5 C vN ns := by
  refine (oN.alloc X).kept g5 ?_
  cases hv : vN.ownBlock with
  | none => exact .inl rfl
  | some k => exact .inr fun e => ap k e.symm hv
theorem Book.below {w0 : World} {C B : Nat} {r b now : Int} {most : Nat} {va vn : Value} {w w' : World} (h : Book w0 C B r b now most va vn w) (hb : Below w.heap.size w w') : Book w0 C B r b now most va vn w' := by
  obtain ⟨t, l, ats, ns, h1, h2, h3, h4, h5, h6, h7, h8, h9, h10⟩ := h
  have g : w.grownBy w' none := ⟨hb.os, hb.tape, hb.output, hb.size, fun k hk _ => hb.block k hk⟩
  refine ⟨t, l, ats, ns, h1.below hb, h2, h3, h4, h5, h6.kept g ?_, h7.kept g ?_, h8, nextB h9 hb, Nat.le_trans h10 hb.size⟩
  · cases hv : va.ownBlock <;> simp
  · cases hv : vn.ownBlock <;> simp
theorem Book.gone {w0 w4 w5 w6 : World} {C B : Nat} {r b t l N x L : Int} {most : Nat} {vA vN vA' vN' : Value} {ats ns : List Int} {X Y : Obj}
    (o : Ok r b t l) (ht : t ≤ N) (N1 : N < 18446744073709551616) (f : Fed r (b * 1000000) t l ats ns) (hlen : ns.length ≤ most) (x0 : 0 ≤ x) (hp : pack (lv r b t l N) [x] = some L)
    (a4 : At w4 B r b (tm t N) L) (bel : Below w0.heap.size w0 w4) (y0 : 0 ≤ L) (y1 : L ≤ b * 1000000) (hw : w0.heap.size ≤ C) (hBC : B < C) (hC4 : C ≤ w4.heap.size)
    (ap : ∀ k, vA.ownBlock = some k → vN.ownBlock ≠ some k) (oA : Own64 w4 C vA ats) (oN : Own64 w4 C vN ns)
    (o5 : w5.ownsRow C 22 1 vA' (ats.length + 1) (ats.map (Value.int .u64) ++ [.int .u64 N])) (g5 : (w4.alloc X).grownBy w5 vA.ownBlock) (p5 : vA'.ownBlock = vA.ownBlock ∨ vA'.ownBlock = some (w4.alloc X).heap.size)
    (o6 : w6.ownsRow C 22 1 vN' (ns.length + 1) (ns.map (Value.int .u64) ++ [.int .u64 x])) (g6 : (w5.alloc Y).grownBy w6 vN.ownBlock) (p6 : vN'.ownBlock = vN.ownBlock ∨ vN'.ownBlock = some (w5.alloc Y).heap.size) :
    Book w0 C B r b N (most + 1) vA' vN' w6 := by
  have s5 := g5.size
  have s6 := g6.size
  simp at s5 s6
  have b0 := bel.size
  have q5 : Own64 w5 C vA' (ats ++ [N]) := by
    unfold Own64
    simpa using o5
  have q6 : Own64 w6 C vN' (ns ++ [x]) := by
    unfold Own64
    simpa using o6
  have oN5 := oN.second ap g5
  have ap5 : ∀ k, vA'.ownBlock = some k → vN.ownBlock ≠ some k := apart_new (oN.alloc X) ap p5
  have ap6 : ∀ k, vN'.ownBlock = some k → vA'.ownBlock ≠ some k := apart_new (q5.alloc Y) (fun k hk hk2 => ap5 k hk2 hk) p6
  have oa := ok_after o (by have := o.t1; omega) N1
  rw [tm_late ht] at a4 oa
  have a5 : At (w4.alloc X) B r b N L := a4.below ((Below.refl _ _).alloc (Nat.le_refl _) _)
  have a6 : At w5 B r b N L := a5.grown g5 (fun e => by have := (oA.lt B e.symm).1; omega)
  have a7 : At (w5.alloc Y) B r b N L := a6.below ((Below.refl _ _).alloc (Nat.le_refl _) _)
  have a8 : At w6 B r b N L := a7.grown g6 (fun e => by have := (oN.lt B e.symm).1; omega)
  have e5 : Below w0.heap.size w0 w5 := (bel.alloc bel.size X).grown g5 (by simp; omega) (fun k hk => by have := (oA.lt k hk).1; omega)
  have e6 : Below w0.heap.size w0 w6 := (e5.alloc e5.size Y).grown g6 (by simp; omega) (fun k hk => by have := (oN.lt k hk).1; omega)
  refine ⟨N, L, ats ++ [N], ns ++ [x], a8, ⟨oa.r1, oa.r2, oa.b1, oa.b2, oa.t1, oa.t2, y0, y1⟩, Int.le_refl _, fed_one o ht f x0 hp, by simp; omega, (q5.alloc Y).kept g6 ?_, q6, fun k hk hk2 => ap6 k hk2 hk, e6, by omega⟩
  cases hv : vA'.ownBlock with
  | none => exact .inl rfl
  | some k => exact .inr fun e => ap5 k hv e.symm
end Go.Proofs.Ytkkkobmeoalgnaa
