/- Take, where there is a packet. -/
import Derived.Test.YtgknamdcllapbaaChunk
import Derived.RangeFuncCalls
namespace Go.Proofs.Ytgknamdcllapbaa
set_option linter.unusedVariables false
set_option linter.unusedSimpArgs false
open Go.RowKit Go.Shelf
attribute [local go_sem] Oper.semAt_some
attribute [local go_sem ↓] part_lh part_l part_lhm
/-- append, shut: so that the walk hands it to a law. -/
def App (ats : Array TypeId) (ty : TypeId) (args : Array Value) : Sem Value := Builtin.append_ ats ty args
theorem app_fold (ats : Array TypeId) (ty : TypeId) (args : Array Value) : Builtin.append_ ats ty args = App ats ty args := rfl
theorem app_open (ats : Array TypeId) (ty : TypeId) (args : Array Value) : App ats ty args = Builtin.append_ ats ty args := rfl
attribute [irreducible] App
attribute [local go_sem ↓] app_fold
theorem chunk_in (F : Fence) (n : Nat) (h26 : F.fn 26) (hro : F.round = none) (S : Addr) (k m : Nat) (w : World) :
    CallsIn F n Try.prog 26 #[.slice (some S) k m, .int .i64 4] w fun e w' => e = .returned (.func (.func 31) #[] #[.pointer (some ⟨w.heap.size, 0, none⟩), .pointer (some ⟨w.heap.size + 1, 0, none⟩)]) ∧ w' = (w.alloc (.cells #[.slice (some S) k m] 30)).alloc (.cells #[.int .i64 4] 3) := by
  refine callsIn_of_wp Try.func26 rfl h26 ?_ hro
  simp only [Try.ntmps26, List.size_toArray, List.length_cons, List.length_nil, Nat.reduceAdd, Nat.reduceSub, Array.replicate_succ, Array.replicate_zero, List.push_toArray, List.append_toArray, List.nil_append, List.cons_append]
  gi_wp2
  go_ret
  exact ⟨rfl, rfl⟩
theorem chunk_stops (F : Fence) (n : Nat) (h31 : F.fn 31) (hro : F.round = none) (hn : 1 ≤ n) (w : World) (B1 B2 n₀ g : Nat) (S : Addr) (m K : Nat) (hK : 4 * K ≤ m) (hm : m ≤ maxLen) (h1 : B1 < n₀) (h2 : B2 < n₀) (e1 : B1 ≠ g) (e2 : B2 ≠ g) (hn0 : n₀ ≤ w.heap.size)
    (k : Nat) (hk : k = 4 * K) (c1 : w.cell? ⟨B1, 0, none⟩ = some (.slice (some S) k m)) (c2 : w.cell? ⟨B2, 0, none⟩ = some (.int .i64 4)) :
    SeqStopsK F n Try.prog 31 #[.pointer (some ⟨B1, 0, none⟩), .pointer (some ⟨B2, 0, none⟩)] (fun x : {i : Nat // i < K} => quad S x.val) (Ke g n₀) (fun ys => ys.map (·.val) = List.range K) (fun _ => True) K w := by
  subst hk
  exact fun l J Jx W hW hJ _ hY h0 => chunk1_in F n h31 hro hn l B1 B2 n₀ g S m K hK hm h1 h2 e1 e2 J Jx W hJ hY ((hW.cell (p := ⟨B1, 0, none⟩) (by show B1 < _; omega)).trans c1) ((hW.cell (p := ⟨B2, 0, none⟩) (by show B2 < _; omega)).trans c2) h0
theorem quad_row {w : World} {S : Addr} {r : List Int} {k : Nat} (h : IntRow .u8 w (some S) k r) (i : Nat) (hi : 4 * i + 4 ≤ k) : IntRow .u8 w (some (S.add (4 * i))) 4 ((r.take (4 * i + 4)).drop (4 * i)) := by
  obtain ⟨h1, h2⟩ := h
  obtain ⟨b, off, e, hb, hc⟩ := h2.resolve_left (by omega)
  cases e
  refine ⟨by rw [List.length_drop, List.length_take]; omega, .inr ⟨b, off + 4 * i, by rw [add_at], hb, fun j hj => ?_⟩⟩
  have h := hc (4 * i + j) (by omega)
  have e : ((r.take (4 * i + 4)).drop (4 * i)).getD j 0 = r.getD (4 * i + j) 0 := by
    rw [List.getD_eq_getElem?_getD, List.getD_eq_getElem?_getD, List.getElem?_drop, List.getElem?_take, if_pos (by omega)]
  rw [e, Nat.add_assoc]
  exact h
theorem quad_word {r : List Int} (i : Nat) (hz : ∀ x ∈ r, 0 ≤ x ∧ x ≤ 255) (hi : 4 * i + 4 ≤ r.length) : word ((r.take (4 * i + 4)).drop (4 * i)) = wpAt r (0 + 4 * i) 4 := by
  have e : ∀ j, j < 4 → ((r.take (4 * i + 4)).drop (4 * i)).getD j 0 = r.getD (4 * i + j) 0 := by
    intro j hj
    rw [List.getD_eq_getElem?_getD, List.getD_eq_getElem?_getD, List.getElem?_drop, List.getElem?_take, if_pos (by omega)]
  unfold word
  rw [e 0 (by omega), e 1 (by omega), e 2 (by omega), e 3 (by omega)]
  simp only [wpAt, Nat.zero_add, Nat.add_zero]
  omega
theorem takeOf_some {zs d s vs : List Int} (h : takeOf zs = some (d, s, vs)) : ∃ r K, split zs = some (0, d, s, r) ∧ r.length = 4 * K ∧ 1 ≤ K ∧ K ≤ 64 ∧ vs = wordsFrom r 0 K := by
  unfold takeOf at h
  rcases hs : split zs with _ | ⟨v, d', s', r⟩
  · rw [hs] at h; cases h
  · rw [hs] at h
    simp only at h
    split at h
    · rename_i hc
      simp only [Option.some.injEq, Prod.mk.injEq] at h
      obtain ⟨rfl, rfl, rfl⟩ := h
      obtain ⟨rfl, h4, h5, h6⟩ := hc
      exact ⟨r, r.length / 4, rfl, by omega, by omega, by omega, rfl⟩
    · cases h
theorem own_slice {w : World} {base e size k : Nat} {v : Value} {xs : List Value} (h : w.ownsRow base e size v k xs) : ∃ A c, v = .slice A k c := by
  rcases h.2 with ⟨rfl, rfl⟩ | ⟨g, cap, cur, rfl, _⟩
  · exact ⟨_, _, rfl⟩
  · exact ⟨_, _, rfl⟩
theorem own_same {w w' : World} {C : Nat} {e : TypeId} {size : Nat} {v : Value} {n : Nat} {xs : List Value} (h : w.ownsRow C e size v n xs) (hs : ∀ k, C ≤ k → k < w.heap.size → w'.heap[k]? = w.heap[k]?) : w'.ownsRow C e size v n xs := by
  refine ⟨h.1, ?_⟩
  rcases h.2 with h0 | ⟨g, cap, cur, h1, h2, h3, h4⟩
  · exact .inl h0
  · exact .inr ⟨g, cap, cur, h1, h2, (hs g h2 (blk_lt h3)).trans h3, h4⟩
theorem own_not {w : World} {C g : Nat} {cs : Array Value} {t e : TypeId} {v : Value} {n : Nat} {xs : List Value} (h : w.ownsRow C e 1 v n xs) (hg : w.heap[g]? = some (.cells cs t (0, 0))) (hte : t ≠ e) : some g ≠ v.ownBlock := by
  rcases h.2 with ⟨rfl, _⟩ | ⟨b, cap, cur, rfl, _, hb, _⟩
  · simp [Value.ownBlock]
  · intro e'
    obtain rfl : g = b := by simpa [Value.ownBlock] using e'
    rw [hg] at hb
    simp at hb
    exact hte hb.2
theorem pk_appended {W w1 : World} {g n₀ q : Nat} {V1 V2 v v' : Value} {k m : Nat} {xs ys : List Value} {tmp : Obj} (hv : W.heap[g]? = some (.cells #[V1, V2, v] 32 (0, 0))) (hrow : W.ownsRow n₀ 23 1 v k xs) (hgn : g < n₀) (hn₀ : n₀ ≤ W.heap.size)
    (hown' : w1.ownsRow n₀ 23 1 v' m ys) (hgrow : ((W.drewN q).alloc tmp).grownBy w1 v.ownBlock) :
    w1.heap[g]? = some (.cells #[V1, V2, v] 32 (0, 0)) ∧ (w1.setCell ⟨g, 2, none⟩ v').heap[g]? = some (.cells #[V1, V2, v'] 32 (0, 0)) ∧ (w1.setCell ⟨g, 2, none⟩ v').ownsRow n₀ 23 1 v' m ys ∧
      KeepsFrom n₀ W (w1.setCell ⟨g, 2, none⟩ v') ∧ Ke g n₀ W (w1.setCell ⟨g, 2, none⟩ v') ∧ Below g W (w1.setCell ⟨g, 2, none⟩ v') := by
  have hrow' : ((W.drewN q).alloc tmp).ownsRow n₀ 23 1 v k xs := World.ownsRow.alloc (show (W.drewN q).ownsRow n₀ 23 1 v k xs from hrow) tmp
  have hv' : ((W.drewN q).alloc tmp).heap[g]? = some (.cells #[V1, V2, v] 32 (0, 0)) := blk_alloc _ (show (W.drewN q).heap[g]? = _ from hv)
  have hv1 : w1.heap[g]? = some (.cells #[V1, V2, v] 32 (0, 0)) := (hgrow.block g (blk_lt hv') (own_not hrow hv (by decide))).trans hv'
  have hbase : ∀ j, v.ownBlock = some j → n₀ ≤ j := by
    intro j ej
    rcases hrow.2 with ⟨rfl, _⟩ | ⟨b, cap, cur, rfl, hb, _, _⟩
    · simp [Value.ownBlock] at ej
    · obtain rfl : b = j := by simpa [Value.ownBlock] using ej
      exact hb
  have bel : Below n₀ W w1 := (((below_drewN (Below.refl n₀ W) q).alloc hn₀ tmp).grown hgrow (by simp; omega) hbase)
  have bel2 : Below g W (w1.setCell ⟨g, 2, none⟩ v') := Below.setCell (p := ⟨g, 2, none⟩) (bel.mono (show g ≤ n₀ by omega)) (Nat.le_refl g) v'
  refine ⟨hv1, blk_set (i := 2) v' hv1, ?_, ?_, ?_, bel2⟩
  · refine own_same hown' (fun j h1 h2 => ?_)
    exact Below.heap_setCell w1 ⟨g, 2, none⟩ v' j (show j ≠ g by omega)
  · have k1 : KeepsOthers W (w1.setCell ⟨g, 2, none⟩ v') := by
      refine ((show KeepsOthers W (W.drewN q) from ⟨Nat.le_refl _, fun _ _ h _ => h⟩).trans (KeepsOthers.alloc (W.drewN q) tmp)).trans ((KeepsOthers.of_grownBy hgrow fun j o ej hj => ?_).trans (KeepsOthers.setCell _ _ _))
      rcases hrow'.2 with ⟨rfl, _⟩ | ⟨b, cap, cur, rfl, _, hgb, _⟩
      · simp [Value.ownBlock] at ej
      · obtain rfl : b = j := by simpa [Value.ownBlock] using ej
        rw [hgb] at hj; cases hj; rfl
    exact k1.from _
  · refine ⟨bel2.size, fun j h1 h2 => ?_⟩
    refine (Below.heap_setCell _ _ _ j (show j ≠ g from h2)).trans (bel.block j h1)

/-- Where there is a packet. -/
def Took (w : World) (d s vs : List Int) (e : Ending) (w' : World) : Prop :=
  ∃ A1 c1 A2 c2 A3 c3, e = .returned (.tuple #[.agg #[.slice A1 d.length c1, .slice A2 s.length c2, .slice A3 vs.length c3], .int .i64 0]) ∧ w'.ownsRow w.heap.size 5 1 (.slice A1 d.length c1) d.length (d.map (Value.int .u8)) ∧
    w'.ownsRow w.heap.size 5 1 (.slice A2 s.length c2) s.length (s.map (Value.int .u8)) ∧ w'.ownsRow w.heap.size 23 1 (.slice A3 vs.length c3) vs.length (vs.map (Value.int .u32)) ∧ Below w.heap.size w w'
/-- What the loop has laid. -/
def Laid (g n₀ : Nat) (V1 V2 : Value) (r : List Int) {K : Nat} (pre : List {i : Nat // i < K}) (W : World) : Prop :=
  n₀ ≤ W.heap.size ∧ ∃ v, W.heap[g]? = some (.cells #[V1, V2, v] 32 (0, 0)) ∧ W.ownsRow n₀ 23 1 v pre.length ((pre.map fun x => wpAt r (0 + 4 * x.val) 4).map (Value.int .u32))
theorem laid_own (g n₀ : Nat) (V1 V2 : Value) (r : List Int) (K : Nat) : Own (Laid (K := K) g n₀ V1 V2 r) := by
  rintro s X Y row ⟨hn, v, hv, hr⟩ hg hrow
  refine ⟨Nat.le_trans hn hg.size, v, (hg.block g (blk_lt hv) (fun e' => ?_)).trans hv, hr.kept hg ?_⟩
  · obtain ⟨o, ho, hc⟩ := hrow g e'.symm
    rw [hv] at ho; cases ho; cases hc
  · rcases hr.2 with ⟨rfl, _⟩ | ⟨b, cap, cur, rfl, _, hgb, _⟩
    · exact .inl rfl
    · refine .inr fun e' => ?_
      obtain ⟨o, ho, hc⟩ := hrow b (by simpa [Value.ownBlock] using e'.symm)
      rw [hgb] at ho; cases ho; cases hc
set_option maxRecDepth 100000 in
set_option maxHeartbeats 8000000 in
theorem take_good (w : World) (A : Option Addr) (n c : Nat) (zs : List Int) (hr : IntRow .u8 w A n zs) (hn : n ≤ 100000) (hc : n ≤ c) (hcm : c ≤ maxLen) (d s vs : List Int) (ht : takeOf zs = some (d, s, vs)) :
    Calls Try.prog 19 #[.slice A n c] w (Took w d s vs) := by
  obtain ⟨r, K, hs, hrl, hK1, hK2, rfl⟩ := takeOf_some ht
  have hz := row_byte hr
  obtain ⟨-, -, -, -, -, -, -, hzr⟩ := split_len hz hs
  have hzr' : ∀ x ∈ r, 0 ≤ x ∧ x ≤ 255 := fun x hx => hz x (hzr x hx)
  obtain ⟨j0, hj, hy0, hy1, hy2⟩ := info_parts info23
  have hu32 := Try.underlying32
  have hb0 : Below w.heap.size w (w.alloc (.cells #[.slice none 0 0, .slice none 0 0, .slice none 0 0] 32)) := (Below.refl _ _).alloc (Nat.le_refl _) _
  have SC : Calls Try.prog 23 #[.slice A n c] (w.alloc (.cells #[.slice none 0 0, .slice none 0 0, .slice none 0 0] 32)) fun e w' => Parsed (w.alloc (.cells #[.slice none 0 0, .slice none 0 0, .slice none 0 0] 32)) zs 0 d s r e w' := by
    refine (split_c (w.alloc (.cells #[.slice none 0 0, .slice none 0 0, .slice none 0 0] 32)) A n c zs (hr.below hb0) hn hc hcm).mono ?_
    rintro e w' (⟨h, _⟩ | ⟨v', d', s', r', h, h2⟩)
    · rw [hs] at h; cases h
    · rw [hs] at h
      simp only [Option.some.injEq, Prod.mk.injEq] at h
      obtain ⟨rfl, rfl, rfl, rfl⟩ := h
      exact h2
  have SC := Lib.hid SC
  have HB0 := Lib.hid hb0
  have HJ := Lib.hid hj
  have HY0 := Lib.hid hy0
  have HY1 := Lib.hid hy1
  have HY2 := Lib.hid hy2
  have HZR := Lib.hid hzr'
  have HRL := Lib.hid hrl
  have HK1 := Lib.hid hK1
  have HK2 := Lib.hid hK2
  clear hb0 hj hy0 hy1 hy2 hzr' hzr hz hr ht hs hrl hK1 hK2
  refine (callsIn_wide (n := 5)).1 ?_
  refine callsIn_of_wp_marks Try.func19 rfl trivial ?_ rfl
  simp only [Try.ntmps19, List.size_toArray, List.length_cons, List.length_nil, Nat.reduceAdd, Nat.reduceSub, Array.replicate_succ, Array.replicate_zero, List.push_toArray, List.append_toArray, List.nil_append, List.cons_append]
  gi_wp2_with (
    refine ⟨trivial, ?_⟩
    gi_at_call 23
    refine (callsIn_wide.2 SC.out).mono ?_
    rintro e w1 ⟨V1, V2, S3, k, m, rfl, o1, o2, hk, hkm, hmm, hS3, r3, b1⟩
    obtain ⟨A1, c1, rfl⟩ := own_slice o1
    obtain ⟨A2, c2, rfl⟩ := own_slice o2
    have hk3 : k = 4 * K := r3.1.symm.trans HRL.out
    have O1 := Lib.hid o1
    have O2 := Lib.hid o2
    have R3 := Lib.hid r3
    have B1 := Lib.hid b1
    have HK3 := Lib.hid hk3
    have HKM := Lib.hid hkm
    have HMM := Lib.hid hmm
    have hk1 : 4 ≤ k := by have := HK1.out; omega
    have hk2 : k ≤ 256 := by have := HK2.out; omega
    have t0 : ((k : Int) == 0) = false := by simp; omega
    have t1 : ((k : Int) % 4 != 0) = false := by simp; omega
    have t2 : decide ((256 : Int) < (k : Int)) = false := decide_eq_false (by omega)
    clear o1 o2 r3 b1 hk3 hk hkm hmm hS3 hk1 hk2)
  gi_wp2_with (
    refine ⟨trivial, ?_⟩
    gi_at_call 26
    refine (chunk_in Fence.wide _ trivial rfl _ _ _ _).mono ?_
    rintro e w' ⟨rfl, rfl⟩)
  obtain ⟨W0, hW0⟩ : ∃ W0 : World, ((w1.alloc (.cells #[.slice A1 d.length c1, .slice A2 s.length c2, .slice none 0 0] 32)).alloc (.cells #[.slice (some S3) k m] 30)).alloc (.cells #[.int .i64 4] 3) = W0 := ⟨_, rfl⟩
  have sz0 : W0.heap.size = w1.heap.size + 3 := by rw [← hW0]; simp
  have p0 : W0.heap[w1.heap.size]? = some (.cells #[.slice A1 d.length c1, .slice A2 s.length c2, .slice none 0 0] 32 (0, 0)) := by rw [← hW0]; exact blk_alloc _ (blk_alloc _ (blk_new w1 _))
  have q1 : W0.cell? ⟨w1.heap.size + 1, 0, none⟩ = some (.slice (some S3) k m) := by
    rw [← hW0]; exact (blk_cell (cs := #[.slice (some S3) k m]) (t := 30) (blk_alloc _ (by simpa using blk_new (w1.alloc (.cells #[.slice A1 d.length c1, .slice A2 s.length c2, .slice none 0 0] 32)) (.cells #[.slice (some S3) k m] 30))) 0).trans rfl
  have q2 : W0.cell? ⟨w1.heap.size + 1 + 1, 0, none⟩ = some (.int .i64 4) := by
    rw [← hW0]; exact (blk_cell (cs := #[.int .i64 4]) (t := 3) (by simpa using blk_new ((w1.alloc (.cells #[.slice A1 d.length c1, .slice A2 s.length c2, .slice none 0 0] 32)).alloc (.cells #[.slice (some S3) k m] 30)) (.cells #[.int .i64 4] 3)) 0).trans rfl
  have bW0 : Below w1.heap.size w1 W0 := by rw [← hW0]; exact (((Below.refl _ _).alloc (Nat.le_refl _) _).alloc (by simp) _).alloc (by simp; omega) _
  rw [hW0]
  have hsz1 : w.heap.size + 1 ≤ w1.heap.size := by have := B1.out.size; simpa using this
  have HSZ := Lib.hid sz0
  refine wpIn_rangeFunc_ownG rfl (by omega) (gf := 31) (lb := #[.pointer (some ⟨w1.heap.size + 1, 0, none⟩), .pointer (some ⟨w1.heap.size + 1 + 1, 0, none⟩)]) rfl trivial (enters_of Try.func31 (by kernel_rfl) rfl)
    (chunk_stops Fence.wide _ trivial rfl (by omega) W0 (w1.heap.size + 1) (w1.heap.size + 1 + 1) (w1.heap.size + 3) w1.heap.size S3 m K (by rw [← HK3.out]; exact HKM.out) HMM.out (by omega) (by omega) (by omega) (by omega) (by omega) k HK3.out q1 q2)
    Ke.trans (Ke.put (by omega)) (Below.refl _ _) (fun _ => rfl)
    (fun pre W => Laid w1.heap.size (w1.heap.size + 3) (.slice A1 d.length c1) (.slice A2 s.length c2) r pre W ∧ Below w1.heap.size w1 W)
    (fun _ _ _ => False)
    (OwnFrom.and (Own.from (laid_own _ _ _ _ _ _) _) (ownFrom_below (Nat.le_refl _) (by omega)))
    (fun _ _ _ _ _ hs _ _ => hs)
    ⟨⟨by omega, _, p0, World.ownsRow_nil _ _ _ _⟩, bW0⟩
    (fun x => { tmps := #[.slice A n c, undef, .pointer (some ⟨w.heap.size, 0, none⟩), .int .i64 0, .int .u32 0, .slice A1 d.length c1, .slice A2 s.length c2, .slice (some S3) k m, .bool true, .pointer (some ⟨w1.heap.size, 0, none⟩), (.slice (some (S3.add (4 * x.val))) 4 4), .tuple #[.int .u32 0, .slice A1 d.length c1, .slice A2 s.length c2, .slice (some S3) k m, .bool true], .slice A n c, .tuple #[.int .u32 0, .slice A1 d.length c1, .slice A2 s.length c2, .slice (some S3) k m, .bool true], .int .u32 0, .slice A1 d.length c1, .slice A2 s.length c2, .slice (some S3) k m, .bool true, .bool true, .bool false, .bool false, .int .u32 0, .bool false, .bool false, .bool false, .slice (some S3) k m, .int .i64 k, .bool false, .bool false, .bool false, .slice (some S3) k m, .int .i64 k, .int .i64 ((k : Int) % 4), .bool false, .bool false, .bool false, .slice (some S3) k m, .int .i64 k, .bool false, .bool false, undef, .slice A1 d.length c1, .slice A2 s.length c2, .agg #[.slice A1 d.length c1, .slice A2 s.length c2, .slice none 0 0], .slice (some S3) k m, .func (.func 31) #[] #[.pointer (some ⟨w1.heap.size + 1, 0, none⟩), .pointer (some ⟨w1.heap.size + 1 + 1, 0, none⟩)], (.slice (some (S3.add (4 * x.val))) 4 4), undef, undef, undef, undef, undef, undef, undef, undef], defers := [] }) ?assign ?body ?done ?stop
  case assign =>
    intro l x W K' hK'
    simp only [quad]
    gi_wp2
    exact hK'
  case stop =>
    rintro D c pre W _ _ h _
    exact h.elim
  case body =>
    rintro l pre x W ⟨⟨hN, v, hv, hrow⟩, hB⟩ hlt
    obtain ⟨A3, c3, rfl⟩ := own_slice hrow
    have hmx : Try.prog.follows .mixedOrders = true := by kernel_rfl
    have hx := x.property
    have hc3 : W.cell? ⟨w1.heap.size, 2, none⟩ = some (.slice A3 pre.length c3) := (blk_cell hv 2).trans rfl
    have hf3 : W.frozen? ⟨w1.heap.size, 2, none⟩ = false := blk_frozen hv 2
    have hq := quad_row (R3.out.below hB) x.val (by have := HK3.out; omega)
    have hqw := quad_word x.val HZR.out (by have := HRL.out; omega)
    have HV := Lib.hid hv
    have HROW := Lib.hid hrow
    have HB := Lib.hid hB
    have HN := Lib.hid hN
    have hgs : w1.heap.size < W.heap.size := by omega
    have HX := Lib.hid hx
    have HLT := Lib.hid hlt
    have HQ : Hid (IntRow .u8 W.drew (some (S3.add (4 * x.val))) 4 ((r.take (4 * x.val + 4)).drop (4 * x.val))) := Lib.hid hq
    have HQW := Lib.hid hqw
    clear hv hrow hB hN hx hlt hq hqw t0 t1 t2 sz0 p0 q1 q2 bW0 hW0
    have HAPP : Hid (∀ Q, ∃ v' w2, (App #[22, 22] 22 #[.slice A3 pre.length c3, .slice (some ⟨W.heap.size, 0, none⟩) 1 1]).run Try.prog ((W.drewN Q).alloc (.cells #[.int .u32 (wpAt r (4 * x.val) 4)] 23)) = .ok v' w2 ∧
        w2.ownsRow (w1.heap.size + 3) 23 1 v' (pre.length + 1) ((pre.map fun x => wpAt r (0 + 4 * x.val) 4).map (Value.int .u32) ++ [.int .u32 (wpAt r (4 * x.val) 4)]) ∧ ((W.drewN Q).alloc (.cells #[.int .u32 (wpAt r (4 * x.val) 4)] 23)).grownBy w2 (Value.slice A3 pre.length c3).ownBlock) := Lib.hid (by
      intro Q
      obtain ⟨v', w2, hrun, h1, h2, _⟩ := run_append_own (P := Try.prog) (w := (W.drewN Q).alloc (.cells #[.int .u32 (wpAt r (4 * x.val) 4)] 23)) (w1.heap.size + 3) 22 22 23 j0 (.int .u32 0) 1 4 Try.underlying22 HJ.out HY0.out HY1.out HY2.out rfl (by decide) _ _ _ (World.ownsRow.alloc (show (W.drewN Q).ownsRow (w1.heap.size + 3) 23 1 _ _ _ from HROW.out) _) ⟨W.heap.size, 0, none⟩ 1 1 [.int .u32 (wpAt r (4 * x.val) 4)] rfl
        (fun j u hju => by
          cases j with
          | zero =>
            simp only [List.getElem?_cons_zero, Option.some.injEq] at hju
            subst hju
            exact (blk_cell (blk_new (W.drewN Q) (.cells #[.int .u32 (wpAt r (4 * x.val) 4)] 23)) 0).trans rfl
          | succ j => simp at hju) (fun u hu => by simp at hu; subst hu; rfl)
        (by have := HLT.out; have := HK2.out; unfold maxLen; omega) (by have := HLT.out; have := HK2.out; omega) (by have := HN.out; simp only [World.size_alloc]; show w1.heap.size + 3 ≤ W.heap.size + 1; omega)
      exact ⟨v', w2, by rw [app_open]; exact hrun, h1, h2⟩)
    gi_wp2
    gi_region_with_o (
      first
        | (refine ⟨trivial, ?_⟩
           gi_at_call 27
           refine (CallsIn.inRound l (callsIn_wide.2 (word_c _ _ _ W.drew HQ.out))).mono ?_
           rintro e w' ⟨rfl, q, rfl⟩
           have hc7 : ((W.drewN (1 + q)).alloc (.cells #[.int .u32 (wpAt r (4 * x.val) 4)] 23)).cell? ⟨w1.heap.size, 2, none⟩ = some (.slice A3 pre.length c3) := (blk_cell (blk_alloc _ (show (W.drewN (1 + q)).heap[w1.heap.size]? = _ from HV.out)) 2).trans rfl
           rw [HQW.out])
        | (obtain ⟨v', w2, hrun, ho, hg⟩ := HAPP.out (1 + q)
           rw [hrun]
           obtain ⟨g', cap', rfl⟩ := ownsRow_succ ho
           have PK := Lib.hid (pk_appended HV.out HROW.out (show w1.heap.size < w1.heap.size + 3 by omega) HN.out ho hg)
           have hc9 := (blk_cell PK.out.1 2).trans rfl
           have hf9 := blk_frozen PK.out.1 2
           have HO := Lib.hid ho
           clear ho hg hrun))
    all_goals gi_wp2
    all_goals exact ⟨by rw [HSZ.out]; exact PK.out.2.2.2.1, PK.out.2.2.2.2.1, ⟨Nat.le_trans HN.out PK.out.2.2.2.2.1.size, _, PK.out.2.1, by have h := PK.out.2.2.1; simpa [List.map_append, Nat.zero_add] using h⟩, HB.out.trans PK.out.2.2.2.2.2⟩
  case done =>
    rintro D ys W hD hys ⟨⟨hN, v, hv, hrow⟩, hB⟩ hK'
    obtain ⟨A3, c3, rfl⟩ := own_slice hrow
    have hnil : W.heap[w.heap.size]? = some (.cells #[.slice none 0 0, .slice none 0 0, .slice none 0 0] 32 (0, 0)) := by
      rw [hB.block _ (by omega), B1.out.block _ (by simp)]; exact blk_new _ _
    have hDn : D ≠ w.heap.size := by omega
    have hD3 : w1.heap.size + 3 ≤ D := by omega
    have e0 : W.cell? ⟨w1.heap.size, 0, none⟩ = some (.slice A1 d.length c1) := (blk_cell hv 0).trans rfl
    have e1 : W.cell? ⟨w1.heap.size, 1, none⟩ = some (.slice A2 s.length c2) := (blk_cell hv 1).trans rfl
    have e2 : W.cell? ⟨w1.heap.size, 2, none⟩ = some (.slice A3 ys.length c3) := (blk_cell hv 2).trans rfl
    have z0 : W.cell? ⟨w.heap.size, 0, none⟩ = some (.slice none 0 0) := (blk_cell hnil 0).trans rfl
    have z1 : W.cell? ⟨w.heap.size, 1, none⟩ = some (.slice none 0 0) := (blk_cell hnil 1).trans rfl
    have z2 : W.cell? ⟨w.heap.size, 2, none⟩ = some (.slice none 0 0) := (blk_cell hnil 2).trans rfl
    have f0 := blk_frozen hnil 0
    have f1 := blk_frozen hnil 1
    have f2 := blk_frozen hnil 2
    have HV := Lib.hid hv
    have HROW := Lib.hid hrow
    have HB := Lib.hid hB
    have HNIL := Lib.hid hnil
    have HK := Lib.hid hK'
    have HYS := Lib.hid hys
    have HD3 := Lib.hid hD3
    have HDN := Lib.hid hDn
    have HS1 := Lib.hid hsz1
    clear hv hrow hB hnil hK' hys hN t0 t1 t2 sz0 p0 q1 q2 bW0 hW0 hD hD3 hDn hsz1
    gi_wp2
    have hsame : ∀ k', k' ≠ w.heap.size → (((W.setCell ⟨w.heap.size, 0, none⟩ (.slice A1 d.length c1)).setCell ⟨w.heap.size, 1, none⟩ (.slice A2 s.length c2)).setCell ⟨w.heap.size, 2, none⟩ (.slice A3 ys.length c3)).heap[k']? = W.heap[k']? := fun k' hk' =>
      ((Below.heap_setCell _ ⟨w.heap.size, 2, none⟩ _ k' hk').trans (Below.heap_setCell _ ⟨w.heap.size, 1, none⟩ _ k' hk')).trans (Below.heap_setCell _ ⟨w.heap.size, 0, none⟩ _ k' hk')
    have hKD := (hsame D HDN.out).trans HK.out
    have hblk : (((W.setCell ⟨w.heap.size, 0, none⟩ (.slice A1 d.length c1)).setCell ⟨w.heap.size, 1, none⟩ (.slice A2 s.length c2)).setCell ⟨w.heap.size, 2, none⟩ (.slice A3 ys.length c3)).heap[w.heap.size]? = some (.cells #[.slice A1 d.length c1, .slice A2 s.length c2, .slice A3 ys.length c3] 32 (0, 0)) :=
      blk_set (i := 2) (.slice A3 ys.length c3) (blk_set (i := 1) (.slice A2 s.length c2) (blk_set (i := 0) (.slice A1 d.length c1) HNIL.out))
    have hbel : Below w.heap.size w (((W.setCell ⟨w.heap.size, 0, none⟩ (.slice A1 d.length c1)).setCell ⟨w.heap.size, 1, none⟩ (.slice A2 s.length c2)).setCell ⟨w.heap.size, 2, none⟩ (.slice A3 ys.length c3)) :=
      (((((nextB HB0.out B1.out).trans (HB.out.mono (by have := HS1.out; omega))).setCell (p := ⟨w.heap.size, 0, none⟩) (Nat.le_refl _) _).setCell (p := ⟨w.heap.size, 1, none⟩) (Nat.le_refl _) _).setCell (p := ⟨w.heap.size, 2, none⟩) (Nat.le_refl _) _)
    generalize (((W.setCell ⟨w.heap.size, 0, none⟩ (.slice A1 d.length c1)).setCell ⟨w.heap.size, 1, none⟩ (.slice A2 s.length c2)).setCell ⟨w.heap.size, 2, none⟩ (.slice A3 ys.length c3)) = W9 at *
    refine ⟨by simp, .inl ⟨_, _, rfl, run_takeDeferred hKD, ?_⟩⟩
    have hput : ∀ k', k' ≠ D → (W9.putObj D (.deferred none)).heap[k']? = W9.heap[k']? := fun k' hk' => World.putObj_heap_other hk'
    refine ⟨_, results_row_tmp rfl _ _ w.heap.size 32 #[.slice A1 d.length c1, .slice A2 s.length c2, .slice A3 ys.length c3] (0, 0) _ (.int .i64 0) rfl ((hput _ (by have := HDN.out; omega)).trans hblk) Try.underlying32 rfl (by kernel_rfl) rfl, ?_⟩
    have hlen : ys.length = (wordsFrom r 0 K).length := by rw [wordsFrom_length, ← List.length_map (f := fun x : {i : Nat // i < K} => x.val), HYS.out, List.length_range]
    have hmap : (ys.map fun x => wpAt r (0 + 4 * x.val) 4) = wordsFrom r 0 K := by
      unfold wordsFrom
      rw [← HYS.out, List.map_map]
      rfl
    have hold : ∀ k', (w.alloc (.cells #[.slice none 0 0, .slice none 0 0, .slice none 0 0] 32)).heap.size ≤ k' → k' < w1.heap.size → (W9.putObj D (.deferred none)).heap[k']? = w1.heap[k']? := fun k' h1 h2 => by
      rw [hput k' (by have := HD3.out; omega), hsame k' (by simp at h1; omega), HB.out.block k' h2]
    have hown3 : (W9.putObj D (.deferred none)).ownsRow (w1.heap.size + 3) 23 1 (.slice A3 ys.length c3) ys.length ((ys.map fun x => wpAt r (0 + 4 * x.val) 4).map (Value.int .u32)) :=
      ownsRow_putObj (own_same HROW.out (fun k' h1 h2 => hsame k' (by have := HS1.out; omega))) _ hKD rfl
    rw [hmap, hlen] at hown3
    refine ⟨A1, c1, A2, c2, A3, c3, by rw [hlen], own_mono (own_same O1.out hold) (by simp), own_mono (own_same O2.out hold) (by simp), own_mono hown3 (by have := HS1.out; omega), hbel.trans (belowK_b (w := w) (Nat.le_refl _) W9 D _ _ (by have := HD3.out; have := HS1.out; omega) hKD rfl rfl)⟩
end Go.Proofs.Ytgknamdcllapbaa
