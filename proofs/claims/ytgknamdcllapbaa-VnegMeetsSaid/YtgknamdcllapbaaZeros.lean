/- append(s, make([]byte, k)...) onto a row of the call's own. -/
import Derived.Test.YtgknamdcllapbaaPut
import Derived.Lib.AppendZerosOnto
namespace Go.Proofs.Ytgknamdcllapbaa
set_option linter.unusedVariables false
set_option linter.unusedSimpArgs false
open Go.RowKit Go.ChangeShapes Go.WideShapes Go.Deep
theorem zeros_list (z : Value) (k : Nat) : (Builtin.zeroCells #[z] k).toList = List.replicate k z := by
  apply List.ext_getElem
  · simp [Builtin.zeroCells]
  · intro i h1 h2
    simp [Builtin.zeroCells, Nat.mod_one]
theorem run_append_room_zeros {P : Program} (w : World) (t tn ty e : TypeId) (i : TypeInfo) (z : Value) (kq kn : IntKind) (ht : P.underlying t = some (.slice e)) (htn : P.underlying tn = some (.int kn)) (hi : P.info? e = some i) (hz : i.zero = some z)
    (hs : i.size = 1) (hzc : z.cells = #[z]) (h1 : z.oneCell' = true)
    (g sLen sCap : Nat) (cur : Array Value) (hg : w.heap[g]? = some (.cells cur e (0, 0)))
    (k : Nat) (h0 : 0 < k) (hroom : sLen + k ≤ sCap) (hfit : sLen + k ≤ cur.size) (h63 : (k : Int) ≤ 9223372036854775807) (h48 : k * i.bytes ≤ 281474976710656) :
    (Builtin.append_ #[t, tn] ty #[.slice (some ⟨g, 0, none⟩) sLen sCap, .int kq k]).run P w =
      .ok (.slice (some ⟨g, 0, none⟩) (sLen + k) sCap) (w.setRow g (cur.toList.take sLen ++ List.replicate k z ++ cur.toList.drop (sLen + k)).toArray) := by
  have hk : k ≠ 0 := by omega
  have hw : IntKind.i64.wrap (k : Int) = k := by rw [IntKind.wrap_i64]; omega
  have h48i : ¬ (281474976710656 < (k : Int) * (i.bytes : Int)) := by
    rw [← Int.natCast_mul]
    omega
  have hneg : ¬ ((k : Int) < 0) := by omega
  have hst := run_storeCells_at P g sLen e (List.replicate k z) 0 cur w hg (by simpa using hfit) (fun v hv => by rw [List.eq_of_mem_replicate hv]; exact h1)
  simp only [Nat.add_zero, List.length_replicate] at hst
  simp [Builtin.append_, run_underlying ht, run_underlying htn, sizeOf, typeInfo, zeroValue, hi, hz, asInt, asIntOf, hw, hk, hneg, h48i, hs, hroom, Addr.add_lit, hzc, zeros_list, hst]
theorem run_append_own_zeros {P : Program} (w : World) (base : Nat) (t tn ty e : TypeId) (i : TypeInfo) (z : Value) (bytes : Nat) (kq kn : IntKind) (ht : P.underlying t = some (.slice e)) (htn : P.underlying tn = some (.int kn)) (hi : P.info? e = some i) (hz : i.zero = some z)
    (hsize : i.size = 1) (hby : i.bytes = bytes) (hzc : z.cells = #[z]) (h1 : z.oneCell' = true)
    (g : Nat) (n cap : Nat) (xs : List Value) (hown : w.ownsRow base e 1 (.slice (some ⟨g, 0, none⟩) n cap) n xs) (k : Nat) (h0 : 0 < k)
    (h63 : n + k ≤ maxLen) (hbytes : (n + k) * bytes ≤ 140737488355328) (hbase : base ≤ w.heap.size) :
    ∃ v' w', (Builtin.append_ #[t, tn] ty #[.slice (some ⟨g, 0, none⟩) n cap, .int kq k]).run P w = .ok v' w' ∧ w'.ownsRow base e 1 v' (n + k) (xs ++ List.replicate k z) ∧ w.grownBy w' (some g) := by
  subst hby
  have hlen : (xs ++ List.replicate k z).length = (n + k) * 1 := by rw [List.length_append, hown.1, List.length_replicate]; omega
  have hk48 : k * i.bytes ≤ 281474976710656 := Nat.le_trans (Nat.mul_le_mul_right _ (Nat.le_add_left k n)) (by omega)
  have hm63 : n + k ≤ 9223372036854775807 := by simp only [maxLen] at h63; omega
  rcases hown.2 with ⟨h, _⟩ | ⟨g', cap', cur, h, hbg, hg, hnc, hcm, hcs, htake⟩
  · cases h
  · cases h
    by_cases hroom : n + k ≤ cap
    · have hr := run_append_room_zeros (P := P) w t tn ty e i z kq kn ht htn hi hz hsize hzc h1 g n cap cur hg k h0 hroom (by rw [hcs]; omega) (by omega) hk48
      refine ⟨_, _, hr, ⟨hlen, .inr ⟨g, cap, _, rfl, hbg, setRow_heap w g cur _ e _ hg, hroom, hcm, ?_, ?_⟩⟩, ⟨rfl, rfl, rfl, by simp, fun j _ hj => setRow_other w g j _ (fun e => hj (by simp [e]))⟩⟩
      · simp only [List.size_toArray, List.length_append, List.length_take, List.length_drop, Array.length_toList, List.length_replicate]
        omega
      · rw [Nat.mul_one] at htake
        rw [htake, ← hlen]
        exact List.take_left
    · have hold : (Builtin.firstCells i.size n (.slice (some ⟨g, 0, none⟩) n cap)).run P w.drew = .ok xs.toArray w.drew := by
        refine run_firstCells_some (P := P) w.drew i.size n ⟨g, 0, none⟩ n cap xs (by rw [hsize]; exact hown.1) ?_
        exact fun j u hu => hown.cells (g := g) rfl j u hu
      have hr := Lib.run_append_grow_zeros (P := P) w t tn ty e i z kq kn ht htn hi hz (some ⟨g, 0, none⟩) n cap xs hold k h0 (by omega) (by omega) (by omega) hk48 (growslice_fits (by omega) hbytes)
      have hge := grownCap_ge w (n + k) cap e
      have hcm' : grownCap w (n + k) cap e ≤ maxLen := grownCap_le_maxLen w (n + k) cap e h63
      refine ⟨_, _, hr, ⟨hlen, .inr ⟨w.heap.size, _, _, rfl, hbase, heap_alloc_new w.drew _, hge, hcm', ?_, ?_⟩⟩, ⟨rfl, rfl, rfl, by simp, fun j hj _ => heap_alloc_old w.drew _ hj⟩⟩
      · have := hown.1
        simp only [Array.size_append, List.size_toArray, size_zeroCells, hzc, List.size_toArray, List.length_cons, List.length_nil]
        omega
      · simp only [Array.toList_append, hzc, zeros_list]
        rw [← hlen]
        exact List.take_left
theorem Pre.alloc {w0 w : World} {zs : List Int} {V : Value} (h : Pre w0 zs V w) (o : Obj) : Pre w0 zs V (w.alloc o) := ⟨World.ownsRow.alloc h.1 o, h.2.alloc h.2.size o⟩
theorem Pre.first (w : World) (zs : List Int) (cs : Array Value) (n : Nat) (hc : cs.toList = zs.map (Value.int .u8)) (hm : zs.length ≤ maxLen) (hn : zs.length = n) : Pre w zs (.slice (some ⟨w.heap.size, 0, none⟩) n n) (w.alloc (.cells cs 5)) :=
  ⟨by rw [hn]; exact own_block (zs := zs) (Nat.le_refl _) (blk_new w _) hc hm n hn, (Below.refl _ _).alloc (Nat.le_refl _) _⟩
theorem Pre.some {w0 w : World} {zs : List Int} {V : Value} (h : Pre w0 zs V w) (hz : 0 < zs.length) : ∃ g cap, V = .slice (some ⟨g, 0, none⟩) zs.length cap := by
  rcases h.1.2 with ⟨_, h0⟩ | ⟨g, cap, cur, rfl, _⟩
  · omega
  · exact ⟨g, cap, rfl⟩
/-- append onto what has been made so far. -/
theorem wpList_append_pre {ops : Array Oper} {rest : List Oper} {o : Oper} {a : Act} {Q : Exit → Act → World → Prop} (w0 w : World) (hgd : o.guard = none) (s x : Operand)
    (ho : o.op = .call { callee := .builtin .append, args := #[s, x], argTypes := #[30, 30] }) (V : Value) (zs : List Int) (hs : a.eval s = V) (hp : Pre w0 zs V w)
    (A : Option Addr) (m c : Nat) (ys : List Int) (hx : a.eval x = .slice A m c) (hr : IntRow .u8 w A m ys) (hnil : A = none → m = 0 ∧ c = 0) (hlen : zs.length + m ≤ 100000)
    (h : ∀ V' w', Pre w0 (zs ++ ys) V' w' → wpList Try.prog ops Q rest (a.put o.dst V') w') : wpList Try.prog ops Q (o :: rest) a w := by
  obtain ⟨i0, hi, hz0, hz1, hz2⟩ := info_parts info5
  refine wpList_append_rv w hgd s x 30 ho w0.heap.size 5 i0 (.int .u8 0) 1 Try.underlying30 hi hz0 hz1 hz2 rfl V zs.length (zs.map (Value.int .u8)) hs hp.1 A m c .u8 ys hx hr hnil (by unfold maxLen; omega) (by omega) hp.2.size ?_
  intro V' w' h1 h2 _
  refine h V' w' ⟨?_, hp.2.grown h2 hp.2.size (fun k hk => (World.ownsRow.lt hp.1 k hk).1)⟩
  rw [List.length_append, List.map_append, hr.1]
  exact h1
/-- .. as many zeros. -/
theorem wpList_append_pre_zeros {ops : Array Oper} {rest : List Oper} {o : Oper} {a : Act} {Q : Exit → Act → World → Prop} (w0 w : World) (hgd : o.guard = none) (s x : Operand)
    (ho : o.op = .call { callee := .builtin .append, args := #[s, x], argTypes := #[30, 3] }) (V : Value) (zs : List Int) (hs : a.eval s = V) (hp : Pre w0 zs V w) (hz : 0 < zs.length)
    (k : Nat) (hk : 0 < k) (hx : a.eval x = .int .i64 k) (hlen : zs.length + k ≤ 100000)
    (h : ∀ V' w', Pre w0 (zs ++ List.replicate k 0) V' w' → wpList Try.prog ops Q rest (a.put o.dst V') w') : wpList Try.prog ops Q (o :: rest) a w := by
  obtain ⟨i0, hi, hz0, hz1, hz2⟩ := info_parts info5
  obtain ⟨g, cap, rfl⟩ := hp.some hz
  obtain ⟨V', w', hr, h1, h2⟩ := run_append_own_zeros (P := Try.prog) w w0.heap.size 30 3 o.type 5 i0 (.int .u8 0) 1 .i64 .i64 Try.underlying30 Try.underlying3 hi hz0 hz1 hz2 rfl rfl g zs.length cap _ hp.1 k hk (by unfold maxLen; omega) (by omega) hp.2.size
  refine Lib.wpList_append_run w hgd s x 30 3 ho _ _ hs hx V' w' hr (h V' w' ⟨?_, hp.2.grown h2 hp.2.size (fun j hj => ?_)⟩)
  · rw [List.length_append, List.map_append, List.length_replicate, List.map_replicate]
    exact h1
  · cases hj
    exact (World.ownsRow.lt hp.1 g rfl).1
end Go.Proofs.Ytgknamdcllapbaa
