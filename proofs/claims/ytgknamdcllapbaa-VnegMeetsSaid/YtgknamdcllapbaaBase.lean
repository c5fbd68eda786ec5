/- Small laws on blocks; rows of numbers in memory. -/
import Derived.Test.YtgknamdcllapbaaRows
import Derived.WalkKit
import Derived.WalkSpells
import Derived.WalkLawsBesides
import Derived.Lib.Hide
import Derived.Deep.QuietTactic
import Derived.BigQuiet
import Derived.BigRegion
import Derived.RegionTactic
import Derived.ChangeAlike
import Derived.LoopTactic
import Derived.OwnWalk
import Derived.Deep.LoopGhost
import Derived.Deep.Draws
import Derived.Deep.Slices
import Derived.Deep.Fields
import Derived.ChangeSame
import Derived.ProofKit
import Derived.OpenShut
import Derived.SizedLaws
import Derived.Maps.AppendAt
import Derived.Laws.AppendOwnNone
import Derived.Laws.BytesArg
namespace Go.Proofs.Ytgknamdcllapbaa
set_option linter.unusedVariables false
set_option linter.unusedSimpArgs false
open Go.RowKit Go.ChangeShapes Go.WideShapes Go.Deep
/-- Behind the world w only block B has turned; there may be new blocks. -/
structure Only (B : Nat) (w w' : World) : Prop where
  os : w'.os = w.os
  tape : w'.tape = w.tape
  output : w'.output = w.output
  size : w.heap.size ≤ w'.heap.size
  block : ∀ k, k < w.heap.size → k ≠ B → w'.heap[k]? = w.heap[k]?
theorem max2_int (k k' : IntKind) (x y : Int) : Builtin.max2 (.int k x) (.int k' y) = pure (.int k (if x < y then y else x)) := by simp only [Builtin.max2, gt_iff_lt]
theorem min2_int (k k' : IntKind) (x y : Int) : Builtin.min2 (.int k x) (.int k' y) = pure (.int k (if y < x then y else x)) := by simp only [Builtin.min2]
theorem max_two (ats : Array TypeId) (ty : TypeId) (a b : Value) : Builtin.max_ ats ty #[a, b] = (Builtin.max2 a b >>= fun s => pure s) := by simp only [Builtin.max_, List.foldlM_cons, List.foldlM_nil]
theorem min_two (ats : Array TypeId) (ty : TypeId) (a b : Value) : Builtin.min_ ats ty #[a, b] = (Builtin.min2 a b >>= fun s => pure s) := by simp only [Builtin.min_, List.foldlM_cons, List.foldlM_nil]
theorem min_three (ats : Array TypeId) (ty : TypeId) (a b c : Value) : Builtin.min_ ats ty #[a, b, c] = (Builtin.min2 a b >>= fun s => Builtin.min2 s c >>= fun s => pure s) := by simp only [Builtin.min_, List.foldlM_cons, List.foldlM_nil]
theorem Only.refl (B : Nat) (w : World) : Only B w w := ⟨rfl, rfl, rfl, Nat.le_refl _, fun _ _ _ => rfl⟩
theorem Only.trans {B : Nat} {a b c : World} (h : Only B a b) (k : Only B b c) : Only B a c :=
  ⟨k.os.trans h.os, k.tape.trans h.tape, k.output.trans h.output, Nat.le_trans h.size k.size, fun i hi hne => (k.block i (Nat.lt_of_lt_of_le hi h.size) hne).trans (h.block i hi hne)⟩
theorem Only.set {B : Nat} {a w : World} (h : Only B a w) (i : Nat) (v : Value) : Only B a (w.setCell ⟨B, i, none⟩ v) :=
  h.trans ⟨rfl, rfl, rfl, by simp [World.setCell], fun k _ hne => Below.heap_setCell _ _ _ _ hne⟩
theorem Only.drew {B : Nat} {a w : World} (h : Only B a w) : Only B a w.drew := ⟨h.os, h.tape, h.output, h.size, h.block⟩
theorem Only.drewN {B : Nat} {a w : World} (h : Only B a w) (n : Nat) : Only B a (w.drewN n) := ⟨h.os, h.tape, h.output, h.size, h.block⟩
theorem Only.alloc {B : Nat} {a w : World} (h : Only B a w) (o : Obj) : Only B a (w.alloc o) :=
  h.trans ⟨rfl, rfl, rfl, by simp, fun k hk _ => Below.heap_alloc _ _ _ hk⟩
theorem Only.below {B C : Nat} {w w' : World} (h : Only B w w') (hC : C ≤ B) (hC2 : C ≤ w.heap.size) : Below C w w' :=
  ⟨h.os, h.tape, h.output, h.size, fun k hk => h.block k (by omega) (by omega)⟩
theorem Only.of_below {B : Nat} {w w' : World} (h : Below w.heap.size w w') : Only B w w' := ⟨h.os, h.tape, h.output, h.size, fun k hk _ => h.block k hk⟩
theorem Only.cell {B : Nat} {w w' : World} (h : Only B w w') {p : Addr} (hp : p.block < w.heap.size) (hne : p.block ≠ B) : w'.cell? p = w.cell? p := World.cell?_of_block (w := w) (h.block p.block hp hne)
theorem Only.frozen {B : Nat} {w w' : World} (h : Only B w w') {p : Addr} (hp : p.block < w.heap.size) (hne : p.block ≠ B) : w'.frozen? p = w.frozen? p := World.frozen?_of_block (w := w) (h.block p.block hp hne)
theorem below_drewN {B : Nat} {a w : World} (h : Below B a w) (k : Nat) : Below B a (w.drewN k) := ⟨h.os, h.tape, h.output, h.size, h.block⟩
theorem nextB {w w1 w2 : World} (h : Below w.heap.size w w1) (k : Below w1.heap.size w1 w2) : Below w.heap.size w w2 := h.trans (k.mono h.size)
theorem blk_set {w : World} {g i : Nat} {cs : Array Value} {t : TypeId} (v : Value) (h : w.heap[g]? = some (.cells cs t (0, 0))) : (w.setCell ⟨g, i, none⟩ v).heap[g]? = some (.cells (cs.setIfInBounds i v) t (0, 0)) := by
  simp [World.setCell, Array.getElem?_modify, h]
theorem blk_cell {w : World} {g : Nat} {cs : Array Value} {t : TypeId} (h : w.heap[g]? = some (.cells cs t (0, 0))) (i : Nat) : w.cell? ⟨g, i, none⟩ = cs[i]? := by
  simp [World.cell?, h]
theorem blk_frozen {w : World} {g : Nat} {cs : Array Value} {t : TypeId} (h : w.heap[g]? = some (.cells cs t (0, 0))) (i : Nat) : w.frozen? ⟨g, i, none⟩ = false := by
  simp [World.frozen?, h]
theorem blk_alloc {w : World} {g : Nat} {o : Obj} (o' : Obj) (h : w.heap[g]? = some o) : (w.alloc o').heap[g]? = some o := by
  have hlt : g < w.heap.size := by
    rcases Nat.lt_or_ge g w.heap.size with h' | h'
    · exact h'
    · rw [Array.getElem?_eq_none h'] at h; cases h
  rw [Below.heap_alloc _ _ _ hlt]; exact h
theorem blk_lt {w : World} {g : Nat} {o : Obj} (h : w.heap[g]? = some o) : g < w.heap.size := by
  rcases Nat.lt_or_ge g w.heap.size with h' | h'
  · exact h'
  · rw [Array.getElem?_eq_none h'] at h; cases h
theorem blk_new (w : World) (o : Obj) : (w.alloc o).heap[w.heap.size]? = some o := by
  show (w.heap.push o)[w.heap.size]? = _
  simp

theorem weights_all {H : Type} {P : Program} {e : TypeId} : ∀ {l : List (DataW H)} {d : DataW H}, d ∈ l → ∀ n ∈ d.weights P e, n ∈ DataW.weightsAll P e l
  | [], d, h, _, _ => by cases h
  | x :: r, d, h, n, hn => by
    unfold DataW.weightsAll
    rw [List.mem_append]
    rcases List.mem_cons.1 h with rfl | h
    · exact .inl hn
    · exact .inr (weights_all h n hn)
theorem cell_lt {w : World} {p : Addr} {v : Value} (h : w.cell? p = some v) : p.block < w.heap.size ∧ p.spot = none := by
  unfold World.cell? at h
  refine ⟨?_, ?_⟩
  · rcases Nat.lt_or_ge p.block w.heap.size with h' | h'
    · exact h'
    · rw [Array.getElem?_eq_none h'] at h; cases h
  · split at h
    · split at h
      · cases h
      · rename_i h'; simpa using h'
    · cases h
theorem add_at (b off i : Nat) : (⟨b, off, none⟩ : Addr).add i = ⟨b, off + i, none⟩ := by
  unfold Addr.add
  split
  · rename_i h; subst h; rfl
  · rfl
theorem below_cell {w w' : World} {p : Addr} {v : Value} (hb : Below w.heap.size w w') (h : w.cell? p = some v) : w'.cell? p = some v := by
  rw [hb.cell (cell_lt h).1]; exact h
/-- A row of numbers of a kind in memory, up to its length. -/
def IntRow (k : IntKind) (w : World) (a : Option Addr) (len : Nat) (zs : List Int) : Prop :=
  zs.length = len ∧ (len = 0 ∨ ∃ b off, a = some ⟨b, off, none⟩ ∧ b < w.heap.size ∧ ∀ j, j < len → w.cell? ⟨b, off + j, none⟩ = some (.int k (zs.getD j 0)) ∧ (Lit.int k (zs.getD j 0)).wf = true)
theorem IntRow.below {k : IntKind} {w w' : World} {a : Option Addr} {len : Nat} {zs : List Int} (h : IntRow k w a len zs) (hb : Below w.heap.size w w') : IntRow k w' a len zs := by
  obtain ⟨h1, h2⟩ := h
  refine ⟨h1, ?_⟩
  rcases h2 with h2 | ⟨b, off, e, hl, hc⟩
  · exact .inl h2
  · exact .inr ⟨b, off, e, Nat.lt_of_lt_of_le hl hb.size, fun j hj => ⟨below_cell hb (hc j hj).1, (hc j hj).2⟩⟩
section
variable {H : Type} {enc : TypeId × Value → H} {P : Program} {w : World} {base : Nat} {spare : Nat → Bool} {held : Bool}
theorem open_row {t e : TypeId} {k : IntKind} {n : Nat} {v : Value} {y : DataW H × List MemPlace} (ht : P.underlying t = some (.slice e)) (he : P.underlying e = some (.int k)) (hc : P.cellsOf e = 1)
    (h : DataW.trod enc P w base spare held n t [v] = some y) : ∃ a len cap zs, v = .slice a len cap ∧ len ≤ cap ∧ cap ≤ maxLen ∧ IntRow k w a len zs ∧ (a = none → len = 0 ∧ cap = 0) ∧ (len = 0 ∨ ∃ u s, y.1 = .slice u s ∧ len ≤ u.length + s.length) := by
  rcases open_ints ht he hc h with ⟨hcs, _⟩ | ⟨x, l, c, zs, hcs, _, hl, hm, hz, hx, hcell, hwz⟩
  · simp at hcs
    exact ⟨none, 0, 0, [], hcs, by omega, by unfold maxLen; omega, ⟨rfl, .inl rfl⟩, fun _ => ⟨rfl, rfl⟩, .inl rfl⟩
  · simp at hcs
    have hzl : l ≤ zs.length := by rw [hz]; split <;> omega
    refine ⟨some x, l, c, zs.take l, hcs, hl, hm, ⟨by simp; omega, ?_⟩, (fun h => by cases h), .inr ⟨_, _, by rw [hx], by simp [lits]; omega⟩⟩
    by_cases h0 : l = 0
    · exact .inl h0
    · right
      have h1 := hcell 0 (by omega)
      obtain ⟨hb, hsp⟩ := cell_lt h1
      have e0 : x.add 0 = x := by unfold Addr.add; rw [if_pos rfl]
      rw [e0] at hsp hb
      have hx' : x = ⟨x.block, x.off, none⟩ := by
        cases x
        simp at hsp
        subst hsp
        rfl
      refine ⟨x.block, x.off, by rw [← hx'], hb, fun j hj => ?_⟩
      have hg : (zs.take l).getD j 0 = zs.getD j 0 := by simp [List.getElem?_take, hj]
      rw [hg]
      have h2 := hcell j (by omega)
      rw [hx', add_at] at h2
      refine ⟨h2, hwz _ ?_⟩
      rw [List.getD_eq_getElem?_getD, List.getElem?_eq_getElem (by omega)]
      exact List.getElem_mem _
theorem open_ints_row {t e : TypeId} {k : IntKind} {a : Option Addr} {len cap : Nat} {d : DataW H} {ps : List MemPlace} (ht : P.underlying t = some (.slice e)) (he : P.underlying e = some (.int k)) (hc : P.cellsOf e = 1)
    (h : DataW.Trod enc P w base spare held t (.slice a len cap) d ps) : len ≤ maxLen ∧ (a = none → len = 0 ∧ cap = 0) ∧ ∃ zs, IntRow k w a len zs := by
  obtain ⟨fuel, hf⟩ := h
  have hf' : DataW.trod enc P w base spare held fuel t [.slice a len cap] = some (d, ps) := by simpa [Value.cells] using hf
  obtain ⟨a', l', c', zs, e1, h1, h2, h3, h4, _⟩ := open_row ht he hc hf'
  simp at e1
  obtain ⟨rfl, rfl, rfl⟩ := e1
  exact ⟨by omega, h4, zs, h3⟩
end

theorem one_cell (k : IntKind) (zs : List Int) : ∀ u ∈ zs.map (Value.int k), u.oneCell' = true := by
  intro u hu
  obtain ⟨x, _, rfl⟩ := List.mem_map.1 hu
  rfl
theorem getD_map (k : IntKind) (zs : List Int) (j : Nat) (h : j < zs.length) : (zs.map (Value.int k))[j]? = some (.int k (zs.getD j 0)) := by
  simp [List.getD_eq_getElem?_getD, List.getElem?_eq_getElem h]
/-- append onto a row of the call's own, of whatever row of numbers. -/
theorem wpList_append_rv {P : Program} (w : World) {ops : Array Oper} {rest : List Oper} {o : Oper} {a : Act} {Q : Exit → Act → World → Prop} (hgd : o.guard = none) (s x : Operand) (t : TypeId)
    (ho : o.op = .call { callee := .builtin .append, args := #[s, x], argTypes := #[t, t] })
    (base : Nat) (e : TypeId) (i : TypeInfo) (z : Value) (bytes : Nat) (ht : P.underlying t = some (.slice e)) (hi : P.info? e = some i) (hz : i.zero = some z)
    (hsize : i.size = 1) (hby : i.bytes = bytes) (hzs : z.cells.size = 1)
    (v : Value) (n : Nat) (xs : List Value) (hs : a.eval s = v) (hown : w.ownsRow base e 1 v n xs)
    (A : Option Addr) (m c : Nat) (k : IntKind) (zs : List Int) (hx : a.eval x = .slice A m c) (hr : IntRow k w A m zs) (hnil : A = none → m = 0 ∧ c = 0)
    (h63 : n + m ≤ maxLen) (hbytes : (n + m) * bytes ≤ 140737488355328) (hbase : base ≤ w.heap.size)
    (h : ∀ v' w', w'.ownsRow base e 1 v' (n + m) (xs ++ zs.map (Value.int k)) → w.grownBy w' v.ownBlock → (v'.ownBlock = v.ownBlock ∨ v'.ownBlock = some w.heap.size) → wpList P ops Q rest (a.put o.dst v') w') :
    wpList P ops Q (o :: rest) a w := by
  cases A with
  | none =>
    obtain ⟨rfl, rfl⟩ := hnil rfl
    have hz0 : zs = [] := List.eq_nil_of_length_eq_zero hr.1
    subst hz0
    exact wpList_append_own_none hgd s x t ho base e i 1 ht hi v n xs hs hown hx (h v w (by simpa using hown) ⟨rfl, rfl, rfl, Nat.le_refl _, fun _ _ _ => rfl⟩ (.inl rfl))
  | some ad =>
    refine wpList_append_own_at w hgd s x t ho base e i z 1 bytes ht hi hz hsize hby hzs (by decide) v n xs hs hown ad m c (zs.map (Value.int k)) hx (by simp [hr.1]) ?_ (one_cell k zs) h63 hbytes hbase (fun v' w' h1 h2 _ h4 => h v' w' h1 h2 h4)
    intro j u hu
    have hj : j < zs.length := by
      have := (List.getElem?_eq_some_iff.1 hu).1
      simpa using this
    rw [getD_map k zs j hj] at hu
    cases hu
    rcases hr.2 with h0 | ⟨b, off, hb, _, hc⟩
    · have := hr.1; omega
    · cases hb
      rw [add_at]
      exact (hc j (by rw [← hr.1]; exact hj)).1
/-- A slice of numbers, wherever it lies. -/
def RV (k : IntKind) (w : World) (v : Value) (zs : List Int) : Prop := ∃ A n c, v = .slice A n c ∧ n ≤ c ∧ c ≤ maxLen ∧ (A = none → n = 0 ∧ c = 0) ∧ IntRow k w A n zs
theorem RV.below {k : IntKind} {w w' : World} {v : Value} {zs : List Int} (h : RV k w v zs) (hb : Below w.heap.size w w') : RV k w' v zs := by
  obtain ⟨A, n, c, h1, h2, h3, h4, h5⟩ := h
  exact ⟨A, n, c, h1, h2, h3, h4, h5.below hb⟩
theorem RV.nil (k : IntKind) (w : World) : RV k w (.slice none 0 0) [] := ⟨none, 0, 0, rfl, Nat.le_refl _, by unfold maxLen; omega, fun _ => ⟨rfl, rfl⟩, rfl, .inl rfl⟩
/-- A row of the call's own is a row. -/
theorem own_row {k : IntKind} {w : World} {base : Nat} {e : TypeId} {v : Value} {n : Nat} {zs : List Int} (h : w.ownsRow base e 1 v n (zs.map (Value.int k))) (hw : ∀ x ∈ zs, (Lit.int k x).wf = true) : RV k w v zs := by
  have hlen : zs.length = n := by simpa using h.1
  rcases h.2 with ⟨rfl, h0⟩ | ⟨g, cap, cur, rfl, hb, hg, hn, hm, hs, htake⟩
  · have : zs = [] := List.eq_nil_of_length_eq_zero (by omega)
    subst this
    exact RV.nil k w
  · refine ⟨_, _, _, rfl, hn, hm, (fun h => by cases h), hlen, .inr ⟨g, 0, rfl, blk_lt hg, fun j hj => ⟨?_, ?_⟩⟩⟩
    · have := World.ownsRow.cells h (g := g) rfl j (.int k (zs.getD j 0)) (getD_map k zs j (by omega))
      rw [add_at] at this
      exact this
    · rw [List.getD_eq_getElem?_getD, List.getElem?_eq_getElem (by omega)]
      exact hw _ (List.getElem_mem _)
/-- A block that was just made owns its numbers. -/
theorem own_block {k : IntKind} {w : World} {base g : Nat} {e : TypeId} {zs : List Int} {cs : Array Value} (hb : base ≤ g) (h : w.heap[g]? = some (.cells cs e (0, 0))) (hc : cs.toList = zs.map (Value.int k)) (hm : zs.length ≤ maxLen) (n : Nat) (hn : zs.length = n) : w.ownsRow base e 1 (.slice (some ⟨g, 0, none⟩) n n) n (zs.map (Value.int k)) := by
  subst hn
  have hsz : cs.size = zs.length := by rw [← Array.length_toList, hc]; simp
  exact ⟨by simp, .inr ⟨g, _, cs, rfl, hb, h, Nat.le_refl _, hm, by rw [hsz, Nat.mul_one], by rw [Nat.mul_one, hc, List.take_of_length_le (by simp)]⟩⟩
theorem row_block {k : IntKind} {w : World} {g : Nat} {e : TypeId} {zs : List Int} {cs : Array Value} (h : w.heap[g]? = some (.cells cs e (0, 0))) (hc : cs.toList = zs.map (Value.int k)) (hw : ∀ x ∈ zs, (Lit.int k x).wf = true) (n : Nat) (hn : zs.length = n) : IntRow k w (some ⟨g, 0, none⟩) n zs := by
  refine ⟨hn, .inr ⟨g, 0, rfl, blk_lt h, fun j hj => ⟨?_, ?_⟩⟩⟩
  · rw [blk_cell h, Nat.zero_add, ← Array.getElem?_toList, hc]
    exact getD_map k zs j (by omega)
  · rw [List.getD_eq_getElem?_getD, List.getElem?_eq_getElem (by omega)]
    exact hw _ (List.getElem_mem _)
theorem Own.kept {w w' : World} {C : Nat} {e : TypeId} {v : Value} {n : Nat} {xs : List Value} {row : Option Nat} (h : w.ownsRow C e 1 v n xs) (hg : w.grownBy w' row) (hne : v.ownBlock = none ∨ v.ownBlock ≠ row) : w'.ownsRow C e 1 v n xs := World.ownsRow.kept h hg hne
theorem wf8 {x : Int} (h0 : 0 ≤ x) (h1 : x ≤ 255) : (Lit.int .u8 x).wf = true := by
  have : IntKind.u8.min ≤ x ∧ x ≤ IntKind.u8.max := ⟨h0, h1⟩
  simpa [Lit.wf] using this
theorem wf32 {x : Int} (h0 : 0 ≤ x) (h1 : x ≤ 4294967295) : (Lit.int .u32 x).wf = true := by
  have : IntKind.u32.min ≤ x ∧ x ≤ IntKind.u32.max := ⟨h0, h1⟩
  simpa [Lit.wf] using this
theorem bd8 {x : Int} (h : (Lit.int .u8 x).wf = true) : 0 ≤ x ∧ x ≤ 255 := bounds_u8 h
theorem bd32 {x : Int} (h : (Lit.int .u32 x).wf = true) : 0 ≤ x ∧ x ≤ 4294967295 := bounds_u32 h
/-- The string of a row of bytes. -/
theorem conv_row {w : World} {A : Option Addr} {n : Nat} {zs : List Int} (c : Nat) (h : IntRow .u8 w A n zs) : (convert 30 9 (.slice A n c)).run Try.prog w = .ok (.string (strOfNums zs)) w := by
  rcases h.2 with h0 | ⟨b, off, rfl, _, hc⟩
  · subst h0
    have hz : zs = [] := List.eq_nil_of_length_eq_zero h.1
    subst hz
    rw [run_convert_bytes_string w 30 9 5 A 0 c Try.underlying30 Try.underlying5 Try.underlying9]
    cases A <;> simp [Conv.bytesToString, loadCells]
    all_goals rfl
  · exact run_convert_bytes_arg w 30 5 Try.underlying30 Try.underlying5 b off n c zs h.1 (fun i hi => (hc i hi).1) 9 Try.underlying9
end Go.Proofs.Ytgknamdcllapbaa
