/- The walk of VnegPackets. -/
import Derived.Test.YtgknamdcllapbaaReply
import Derived.Test.YtgknamdcllapbaaTake
import Derived.Test.YtgknamdcllapbaaArgs
import Derived.Deep.RegionHeld3
namespace Go.Proofs.Ytgknamdcllapbaa
set_option linter.unusedVariables false
set_option linter.unusedSimpArgs false
open Go.RowKit
theorem own_some {w : World} {base x y : Nat} {e : TypeId} {V : Value} {n : Nat} {xs : List Value} (h : w.ownsRow base e 1 V n xs) (hp : V.ownBlock = some x ∨ V.ownBlock = some y) :
    ∃ gg cap cur, V = .slice (some ⟨gg, 0, none⟩) n cap ∧ base ≤ gg ∧ w.heap[gg]? = some (.cells cur e (0, 0)) ∧ n ≤ cap ∧ cap ≤ maxLen ∧ cur.size = cap := by
  rcases h.2 with ⟨rfl, _⟩ | ⟨gg, cap, cur, rfl, h1, h2, h3, h4, h5, _⟩
  · rcases hp with hp | hp <;> simp [Value.ownBlock] at hp
  · exact ⟨gg, cap, cur, rfl, h1, h2, h3, h4, by rw [h5, Nat.mul_one]⟩
theorem region_hide {P : Program} {id : Nat} {ops : Array Oper} {b : Bool} {Q : Exit → Act → World → Prop} {a : Act} {w : World} (h : ∀ ops', ops' = ops → (Code.region id ops' b).wp P Q a w) : (Code.region id ops b).wp P Q a w := h ops rfl
/-- What is shown under a stronger condition on the world holds under a weaker one. -/
theorem wpAnyH_mono {P : Program} {md : Region.Mode} {ops : Array Oper} {Q : Exit → Act → World → Prop} {S S2 : World → Prop} (h : ∀ w, S2 w → S w) : ∀ (fuel : Nat) (listed : Array Bool) (a : Act) (w : World), wpAnyH P md ops Q S2 fuel listed a w → wpAnyH P md ops Q S fuel listed a w
  | 0, _, _, _, hh => hh
  | fuel + 1, _, _, _, hh => ⟨hh.1, fun i hi => wpOp_mono (fun a' w' h' => ⟨h _ h'.1, wpAnyH_mono h fuel _ a' w' h'.2⟩) (hh.2 i hi)⟩
section
variable {P : Program} {ops lit : Array Oper} {Q : Exit → Act → World → Prop} {md : Region.Mode} {S : World → Prop} {oi : Oper} {v : Value} {fuel : Nat} {listed : Array Bool} {a : Act} {w : World}
/-- An operation that yields is taken first, the region's operations behind a letter. -/
theorem takeY (i : Nat) (hops : ops = lit) (hi : lit[i]? = some oi) (hs : Region.noSelect lit = true) (hf : Region.free md lit listed i = true) (hr : (Region.ready md lit listed).contains i = true)
    (hw : Region.wanted oi (yielded lit a.tmps) = true) (hS : S w) (hy : ∀ w', S w' → (execOp a.eval oi).run P w' = .ok (.value v) w') (hQ : ∀ c a w, Q (.panic c) (a.put oi.dst v) w → Q (.panic c) a w)
    (h : wpAnyH P md ops Q S fuel (listed.setIfInBounds i true) (a.put oi.dst v) w) : wpAnyH P md ops Q S (fuel + 1) listed a w := by
  subst hops
  exact wpAnyH_take hi hs hf hr hQ (.inl ⟨hw, hy⟩) hS h
/-- .. one that is not wanted. -/
theorem takeN (i : Nat) (hops : ops = lit) (hi : lit[i]? = some oi) (hs : Region.noSelect lit = true) (hf : Region.free md lit listed i = true) (hr : (Region.ready md lit listed).contains i = true)
    (hw : Region.wanted oi (yielded lit a.tmps) = false) (hS : S w) (hQ : ∀ c a w, Q (.panic c) (a.put oi.dst undef) w → Q (.panic c) a w)
    (h : wpAnyH P md ops Q S fuel (listed.setIfInBounds i true) (a.put oi.dst undef) w) : wpAnyH P md ops Q S (fuel + 1) listed a w := by
  subst hops
  exact wpAnyH_take hi hs hf hr hQ (.inr ⟨hw, rfl⟩) hS h
/-- The one operation that may come up, carried out; behind it another condition may serve. -/
theorem callH (i : Nat) (hops : ops = lit) (hi : lit[i]? = some oi) (hr : Region.ready md lit listed = [i]) (hw : Region.wanted oi (yielded lit a.tmps) = true)
    (h : ∀ K : Act → World → Prop, Shut (∀ a w, S w → wpAnyH P md ops Q S fuel (listed.setIfInBounds i true) a w → K a w) → Oper.wp P oi a w K Q) : wpAnyH P md ops Q S (fuel + 1) listed a w := by
  subst hops
  refine wpAnyH_all hr (by simp) fun j hj => ?_
  simp only [List.mem_cons, List.not_mem_nil, or_false] at hj
  subst hj
  unfold wpOp
  simp only [hi, hw, if_true]
  exact .inl (h _ (fun a w h1 h2 => ⟨h1, h2⟩))
end
set_option maxRecDepth 100000 in
set_option maxHeartbeats 40000000 in
theorem packets_c (w : World) (A : Option Addr) (n c : Nat) (pd : List Int) (B : Option Addr) (m d : Nat) (ps : List Int) (E : Option Addr) (q g : Nat) (vs : List Int) (D : Option Addr) (bn bc : Nat) (zs : List Int)
    (a1 : Arg .u8 w A n c pd) (a2 : Arg .u8 w B m d ps) (a3 : Arg .u32 w E q g vs) (a4 : Arg .u8 w D bn bc zs) :
    Calls Try.prog 5 #[.agg #[.slice A n c, .slice B m d, .slice E q g], .slice D bn bc] w fun e w' => e = .returned (.bool true) ∧ Below w.heap.size w w' := by
  have hu32 := Try.underlying32
  obtain ⟨i0, hi, hz0, hz1, hz2⟩ := info_parts info5
  have HI := Lib.hid hi
  have HZ0 := Lib.hid hz0
  have HZ1 := Lib.hid hz1
  have HZ2 := Lib.hid hz2
  have AA := Lib.hid a1
  have AB := Lib.hid a2
  have AE := Lib.hid a3
  have AD := Lib.hid a4
  have rn := a1.reachm
  have rm := a2.reachm
  have rq := a3.reachm
  have rb := a4.reachm
  have BW : Hid (Below w.heap.size w (w.alloc (.cells #[.slice A n c, .slice B m d, .slice E q g] 32))) := Lib.hid ((Below.refl _ _).alloc (Nat.le_refl _) _)
  clear hi hz0 hz1 hz2 a1 a2 a3 a4
  by_cases g0 : n + m ≤ 600 ∧ bn ≤ 900 ∧ q ≤ 200
  · obtain ⟨k0, k1, k2⟩ := g0
    have t0 : decide ((600 : Int) < (n : Int) + (m : Int)) = false := decide_eq_false (by omega)
    have t1 : decide ((900 : Int) < (bn : Int)) = false := decide_eq_false (by omega)
    have t2 : decide ((200 : Int) < (q : Int)) = false := decide_eq_false (by omega)
    go_enter Try.func5, Try.ntmps5
    go_upto_region 3 with (fail)
    obtain ⟨wb, hwb⟩ : ∃ wb : World, w.alloc (.cells #[.slice A n c, .slice B m d, .slice E q g] 32) = wb := ⟨_, rfl⟩
    have bx0 : wb.cell? ⟨w.heap.size, 0, none⟩ = some (.slice A n c) := by rw [← hwb]; exact (blk_cell (blk_new w _) 0).trans rfl
    have bx1 : wb.cell? ⟨w.heap.size, 1, none⟩ = some (.slice B m d) := by rw [← hwb]; exact (blk_cell (blk_new w _) 1).trans rfl
    have bx2 : wb.cell? ⟨w.heap.size, 2, none⟩ = some (.slice E q g) := by rw [← hwb]; exact (blk_cell (blk_new w _) 2).trans rfl
    rw [hwb] at BW
    have lwb : w.heap.size < wb.heap.size := by rw [← hwb]; simp
    have HWB := Lib.hid hwb
    rw [hwb]
    clear hwb t0 t1 t2
    by_cases may : n ≤ 255 ∧ m ≤ 255 ∧ 1 ≤ q ∧ q ≤ 64
    · have MAY := Lib.hid may
      obtain ⟨y0, y1, y2, y3⟩ := may
      have PO := Lib.hid (put_ok A n c pd B m d ps E q g vs wb (AA.out.row.below BW.out) AA.out.nilc y0 (AB.out.row.below BW.out) AB.out.nilc y1 (AE.out.row.below BW.out) y2 y3)
      have u0 : decide ((n : Int) ≤ 255) = true := decide_eq_true (by omega)
      have u1 : decide ((m : Int) ≤ 255) = true := decide_eq_true (by omega)
      have u2 : decide ((1 : Int) ≤ (q : Int)) = true := decide_eq_true (by omega)
      have u3 : decide ((q : Int) ≤ 64) = true := decide_eq_true (by omega)
      clear y0 y1 y2 y3
      go_wp2_with (fail)
      refine PO.out.mono ?_
      rintro e w1 ⟨V, rfl, mk⟩
      have hpb := packet_byte (vs := vs) (row_byte AA.out.row) (row_byte AB.out.row) (by have := MAY.out; rw [AA.out.row.1]; omega) (by have := MAY.out; rw [AB.out.row.1]; omega)
      obtain ⟨VA, vn, vc, rfl, _, _, _, rV⟩ := mk.rv hpb
      have b1 := mk.2
      have B1 := Lib.hid b1
      have RV1 := Lib.hid rV
      have PB := Lib.hid hpb
      have z0 := below_cell b1 bx0
      have z1 := below_cell b1 bx1
      have z2 := below_cell b1 bx2
      clear mk hpb rV b1 bx0 bx1 bx2 PO
      have hdr : Below w1.heap.size w1 w1.drew := Below.drew (Below.refl _ _)
      have bAll : Hid (Below w.heap.size w w1) := Lib.hid (nextB BW.out B1.out)
      have RB := Lib.hid (refbytes_c A n c pd B m d ps E q g vs w1.drew ((AA.out.row.below bAll.out).below hdr) AA.out.nilc MAY.out.1 ((AB.out.row.below bAll.out).below hdr) AB.out.nilc MAY.out.2.1 ((AE.out.row.below bAll.out).below hdr) MAY.out.2.2.2)
      obtain ⟨ST, hST⟩ : ∃ ST, strOfNums (packet pd ps vs) = ST := ⟨_, rfl⟩
      have HST := Lib.hid hST
      clear hST hdr
      go_upto_region 5 with (fail)
      have kv2 : (convert 30 9 (.slice VA vn vc)).run Try.prog w1.drew = .ok (.string ST) w1.drew := (conv_row vc (RV1.out.below (Below.drew (Below.refl _ _)))).trans (by rw [HST.out])
      refine region_hide ?_
      intro ops hops
      have hsz : ops.size = 31 := by rw [hops]; rfl
      refine wp_region_held_drew (S := fun w' => w'.cell? ⟨w.heap.size, 0, none⟩ = some (.slice A n c) ∧ w'.cell? ⟨w.heap.size, 1, none⟩ = some (.slice B m d) ∧ w'.cell? ⟨w.heap.size, 2, none⟩ = some (.slice E q g) ∧ (convert 30 9 (.slice VA vn vc)).run Try.prog w' = .ok (.string ST) w') (by kernel_rfl) ⟨z0, z1, z2, kv2⟩ (fun hHeld => ?_)
      rw [hsz]
      refine takeY 0 hops (v := ?v0) (by simp only [List.getElem?_toArray, List.getElem?_cons_zero, List.getElem?_cons_succ]; rfl) (by kernel_rfl) (by kernel_rfl) (by kernel_rfl) (by rfl) hHeld ?y0 ?q0 ?_
      case y0 => (intro w' hSw; (try dsimp only at hSw); go_simp; try (with_reducible rfl))
      case q0 => exact fun _ _ _ h => h
      simp only [Act.put, List.setIfInBounds_toArray, List.set_cons_zero, List.set_cons_succ]
      refine takeY 1 hops (v := ?v1) (by simp only [List.getElem?_toArray, List.getElem?_cons_zero, List.getElem?_cons_succ]; rfl) (by kernel_rfl) (by kernel_rfl) (by kernel_rfl) (by rfl) hHeld ?y1 ?q1 ?_
      case y1 => (intro w' hSw; (try dsimp only at hSw); go_simp; try (with_reducible rfl))
      case q1 => exact fun _ _ _ h => h
      simp only [Act.put, List.setIfInBounds_toArray, List.set_cons_zero, List.set_cons_succ]
      refine takeY 2 hops (v := ?v2) (by simp only [List.getElem?_toArray, List.getElem?_cons_zero, List.getElem?_cons_succ]; rfl) (by kernel_rfl) (by kernel_rfl) (by kernel_rfl) (by rfl) hHeld ?y2 ?q2 ?_
      case y2 => (intro w' hSw; (try dsimp only at hSw); go_simp; try (with_reducible rfl))
      case q2 => exact fun _ _ _ h => h
      simp only [Act.put, List.setIfInBounds_toArray, List.set_cons_zero, List.set_cons_succ]
      refine takeY 3 hops (v := ?v3) (by simp only [List.getElem?_toArray, List.getElem?_cons_zero, List.getElem?_cons_succ]; rfl) (by kernel_rfl) (by kernel_rfl) (by kernel_rfl) (by rfl) hHeld ?y3 ?q3 ?_
      case y3 => (intro w' hSw; (try dsimp only at hSw); go_simp; try (with_reducible rfl))
      case q3 => exact fun _ _ _ h => h
      simp only [Act.put, List.setIfInBounds_toArray, List.set_cons_zero, List.set_cons_succ]
      refine takeY 4 hops (v := ?v4) (by simp only [List.getElem?_toArray, List.getElem?_cons_zero, List.getElem?_cons_succ]; rfl) (by kernel_rfl) (by kernel_rfl) (by kernel_rfl) (by rfl) hHeld ?y4 ?q4 ?_
      case y4 => (intro w' hSw; (try dsimp only at hSw); go_simp; try (with_reducible rfl))
      case q4 => exact fun _ _ _ h => h
      simp only [Act.put, List.setIfInBounds_toArray, List.set_cons_zero, List.set_cons_succ]
      refine takeY 5 hops (v := ?v5) (by simp only [List.getElem?_toArray, List.getElem?_cons_zero, List.getElem?_cons_succ]; rfl) (by kernel_rfl) (by kernel_rfl) (by kernel_rfl) (by rfl) hHeld ?y5 ?q5 ?_
      case y5 => (intro w' hSw; (try dsimp only at hSw); go_simp; try (with_reducible rfl))
      case q5 => exact fun _ _ _ h => h
      simp only [Act.put, List.setIfInBounds_toArray, List.set_cons_zero, List.set_cons_succ]
      refine takeY 6 hops (v := ?v6) (by simp only [List.getElem?_toArray, List.getElem?_cons_zero, List.getElem?_cons_succ]; rfl) (by kernel_rfl) (by kernel_rfl) (by kernel_rfl) (by rfl) hHeld ?y6 ?q6 ?_
      case y6 => (intro w' hSw; (try dsimp only at hSw); go_simp; try (with_reducible rfl))
      case q6 => exact fun _ _ _ h => h
      simp only [Act.put, List.setIfInBounds_toArray, List.set_cons_zero, List.set_cons_succ]
      refine takeY 7 hops (v := ?v7) (by simp only [List.getElem?_toArray, List.getElem?_cons_zero, List.getElem?_cons_succ]; rfl) (by kernel_rfl) (by kernel_rfl) (by kernel_rfl) (by rfl) hHeld ?y7 ?q7 ?_
      case y7 => (intro w' hSw; (try dsimp only at hSw); go_simp; try (with_reducible rfl))
      case q7 => exact fun _ _ _ h => h
      simp only [Act.put, List.setIfInBounds_toArray, List.set_cons_zero, List.set_cons_succ]
      refine takeY 8 hops (v := ?v8) (by simp only [List.getElem?_toArray, List.getElem?_cons_zero, List.getElem?_cons_succ]; rfl) (by kernel_rfl) (by kernel_rfl) (by kernel_rfl) (by rfl) hHeld ?y8 ?q8 ?_
      case y8 => (intro w' hSw; (try dsimp only at hSw); go_simp; try (with_reducible rfl))
      case q8 => exact fun _ _ _ h => h
      simp only [Act.put, List.setIfInBounds_toArray, List.set_cons_zero, List.set_cons_succ]
      refine takeY 9 hops (v := ?v9) (by simp only [List.getElem?_toArray, List.getElem?_cons_zero, List.getElem?_cons_succ]; rfl) (by kernel_rfl) (by kernel_rfl) (by kernel_rfl) (by rfl) hHeld ?y9 ?q9 ?_
      case y9 => (intro w' hSw; (try dsimp only at hSw); go_simp; try (with_reducible rfl))
      case q9 => exact fun _ _ _ h => h
      simp only [Act.put, List.setIfInBounds_toArray, List.set_cons_zero, List.set_cons_succ]
      refine takeY 10 hops (v := ?v10) (by simp only [List.getElem?_toArray, List.getElem?_cons_zero, List.getElem?_cons_succ]; rfl) (by kernel_rfl) (by kernel_rfl) (by kernel_rfl) (by rfl) hHeld ?y10 ?q10 ?_
      case y10 => (intro w' hSw; (try dsimp only at hSw); go_simp; try (with_reducible rfl))
      case q10 => exact fun _ _ _ h => h
      simp only [Act.put, List.setIfInBounds_toArray, List.set_cons_zero, List.set_cons_succ]
      refine takeY 11 hops (v := ?v11) (by simp only [List.getElem?_toArray, List.getElem?_cons_zero, List.getElem?_cons_succ]; rfl) (by kernel_rfl) (by kernel_rfl) (by kernel_rfl) (by rfl) hHeld ?y11 ?q11 ?_
      case y11 => (intro w' hSw; (try dsimp only at hSw); go_simp; try (with_reducible rfl))
      case q11 => exact fun _ _ _ h => h
      simp only [Act.put, List.setIfInBounds_toArray, List.set_cons_zero, List.set_cons_succ]
      refine takeY 12 hops (v := ?v12) (by simp only [List.getElem?_toArray, List.getElem?_cons_zero, List.getElem?_cons_succ]; rfl) (by kernel_rfl) (by kernel_rfl) (by kernel_rfl) (by rfl) hHeld ?y12 ?q12 ?_
      case y12 => (intro w' hSw; (try dsimp only at hSw); go_simp; try (with_reducible rfl))
      case q12 => exact fun _ _ _ h => h
      simp only [Act.put, List.setIfInBounds_toArray, List.set_cons_zero, List.set_cons_succ]
      refine callH 13 hops (by simp only [List.getElem?_toArray, List.getElem?_cons_zero, List.getElem?_cons_succ]; rfl) (by kernel_rfl) (by rfl) ?_
      intro K5 hK5
      go_simp
      refine RB.out.mono ?_
      rintro e w5 ⟨V5, rfl, hm5⟩
      have b5 := Lib.hid (show Below w1.drew.heap.size w1.drew w5 from hm5.2)
      obtain ⟨VB, vbn, vbc, rfl, _, _, _, rVB⟩ := hm5.rv PB.out
      have kb := conv_row vbc rVB
      rw [HST.out] at kb
      have kv5 : (convert 30 9 (.slice VA vn vc)).run Try.prog w5 = .ok (.string ST) w5 := (conv_row vc (RV1.out.below (nextB (Below.drew (Below.refl w1.heap.size w1)) b5.out))).trans (by rw [HST.out])
      have hS5 := And.intro (below_cell b5.out hHeld.1) (And.intro (below_cell b5.out hHeld.2.1) (And.intro (below_cell b5.out hHeld.2.2.1) kv5))
      refine hK5.out _ _ hS5 ?_
      refine wpAnyH_mono (S2 := fun w' => w' = w5) (fun w' h => by subst h; exact hS5) _ _ _ _ ?_
      clear hK5 K5 hm5 rVB kv5 hS5 hHeld kv2 RB
      have hHeld : w5 = w5 := rfl
      try simp only [Act.put, List.setIfInBounds_toArray, List.set_cons_zero, List.set_cons_succ]
      refine takeY 14 hops (v := ?v14) (by simp only [List.getElem?_toArray, List.getElem?_cons_zero, List.getElem?_cons_succ]; rfl) (by kernel_rfl) (by kernel_rfl) (by kernel_rfl) (by rfl) hHeld ?y14 ?q14 ?_
      case y14 => (intro w' hSw; subst hSw; go_simp; try (with_reducible rfl))
      case q14 => exact fun _ _ _ h => h
      simp only [Act.put, List.setIfInBounds_toArray, List.set_cons_zero, List.set_cons_succ]
      refine takeY 15 hops (v := ?v15) (by simp only [List.getElem?_toArray, List.getElem?_cons_zero, List.getElem?_cons_succ]; rfl) (by kernel_rfl) (by kernel_rfl) (by kernel_rfl) (by rfl) hHeld ?y15 ?q15 ?_
      case y15 => (intro w' hSw; subst hSw; go_simp; try (with_reducible rfl))
      case q15 => exact fun _ _ _ h => h
      simp only [Act.put, List.setIfInBounds_toArray, List.set_cons_zero, List.set_cons_succ]
      refine takeY 16 hops (v := ?v16) (by simp only [List.getElem?_toArray, List.getElem?_cons_zero, List.getElem?_cons_succ]; rfl) (by kernel_rfl) (by kernel_rfl) (by kernel_rfl) (by rfl) hHeld ?y16 ?q16 ?_
      case y16 => (intro w' hSw; subst hSw; go_simp; try (with_reducible rfl))
      case q16 => exact fun _ _ _ h => h
      simp only [Act.put, List.setIfInBounds_toArray, List.set_cons_zero, List.set_cons_succ]
      refine takeY 17 hops (v := ?v17) (by simp only [List.getElem?_toArray, List.getElem?_cons_zero, List.getElem?_cons_succ]; rfl) (by kernel_rfl) (by kernel_rfl) (by kernel_rfl) (by rfl) hHeld ?y17 ?q17 ?_
      case y17 => (intro w' hSw; subst hSw; go_simp; try (with_reducible rfl))
      case q17 => exact fun _ _ _ h => h
      simp only [Act.put, List.setIfInBounds_toArray, List.set_cons_zero, List.set_cons_succ]
      refine takeY 18 hops (v := ?v18) (by simp only [List.getElem?_toArray, List.getElem?_cons_zero, List.getElem?_cons_succ]; rfl) (by kernel_rfl) (by kernel_rfl) (by kernel_rfl) (by rfl) hHeld ?y18 ?q18 ?_
      case y18 => (intro w' hSw; subst hSw; go_simp; try (with_reducible rfl))
      case q18 => exact fun _ _ _ h => h
      simp only [Act.put, List.setIfInBounds_toArray, List.set_cons_zero, List.set_cons_succ]
      refine takeY 19 hops (v := ?v19) (by simp only [List.getElem?_toArray, List.getElem?_cons_zero, List.getElem?_cons_succ]; rfl) (by kernel_rfl) (by kernel_rfl) (by kernel_rfl) (by rfl) hHeld ?y19 ?q19 ?_
      case y19 => (intro w' hSw; subst hSw; go_simp; try (with_reducible rfl))
      case q19 => exact fun _ _ _ h => h
      simp only [Act.put, List.setIfInBounds_toArray, List.set_cons_zero, List.set_cons_succ]
      refine takeY 20 hops (v := ?v20) (by simp only [List.getElem?_toArray, List.getElem?_cons_zero, List.getElem?_cons_succ]; rfl) (by kernel_rfl) (by kernel_rfl) (by kernel_rfl) (by rfl) hHeld ?y20 ?q20 ?_
      case y20 => (intro w' hSw; subst hSw; go_simp; try (with_reducible rfl))
      case q20 => exact fun _ _ _ h => h
      simp only [Act.put, List.setIfInBounds_toArray, List.set_cons_zero, List.set_cons_succ]
      refine takeY 21 hops (v := ?v21) (by simp only [List.getElem?_toArray, List.getElem?_cons_zero, List.getElem?_cons_succ]; rfl) (by kernel_rfl) (by kernel_rfl) (by kernel_rfl) (by rfl) hHeld ?y21 ?q21 ?_
      case y21 => (intro w' hSw; subst hSw; go_simp; try (with_reducible rfl))
      case q21 => exact fun _ _ _ h => h
      simp only [Act.put, List.setIfInBounds_toArray, List.set_cons_zero, List.set_cons_succ]
      refine takeN 22 hops (by simp only [List.getElem?_toArray, List.getElem?_cons_zero, List.getElem?_cons_succ]; rfl) (by kernel_rfl) (by kernel_rfl) (by kernel_rfl) (by rfl) hHeld ?q22 ?_
      case q22 => exact fun _ _ _ h => h
      simp only [Act.put, List.setIfInBounds_toArray, List.set_cons_zero, List.set_cons_succ]
      refine takeN 23 hops (by simp only [List.getElem?_toArray, List.getElem?_cons_zero, List.getElem?_cons_succ]; rfl) (by kernel_rfl) (by kernel_rfl) (by kernel_rfl) (by rfl) hHeld ?q23 ?_
      case q23 => exact fun _ _ _ h => h
      simp only [Act.put, List.setIfInBounds_toArray, List.set_cons_zero, List.set_cons_succ]
      refine takeN 24 hops (by simp only [List.getElem?_toArray, List.getElem?_cons_zero, List.getElem?_cons_succ]; rfl) (by kernel_rfl) (by kernel_rfl) (by kernel_rfl) (by rfl) hHeld ?q24 ?_
      case q24 => exact fun _ _ _ h => h
      simp only [Act.put, List.setIfInBounds_toArray, List.set_cons_zero, List.set_cons_succ]
      refine takeN 25 hops (by simp only [List.getElem?_toArray, List.getElem?_cons_zero, List.getElem?_cons_succ]; rfl) (by kernel_rfl) (by kernel_rfl) (by kernel_rfl) (by rfl) hHeld ?q25 ?_
      case q25 => exact fun _ _ _ h => h
      simp only [Act.put, List.setIfInBounds_toArray, List.set_cons_zero, List.set_cons_succ]
      refine takeN 26 hops (by simp only [List.getElem?_toArray, List.getElem?_cons_zero, List.getElem?_cons_succ]; rfl) (by kernel_rfl) (by kernel_rfl) (by kernel_rfl) (by rfl) hHeld ?q26 ?_
      case q26 => exact fun _ _ _ h => h
      simp only [Act.put, List.setIfInBounds_toArray, List.set_cons_zero, List.set_cons_succ]
      refine takeN 27 hops (by simp only [List.getElem?_toArray, List.getElem?_cons_zero, List.getElem?_cons_succ]; rfl) (by kernel_rfl) (by kernel_rfl) (by kernel_rfl) (by rfl) hHeld ?q27 ?_
      case q27 => exact fun _ _ _ h => h
      simp only [Act.put, List.setIfInBounds_toArray, List.set_cons_zero, List.set_cons_succ]
      refine takeN 28 hops (by simp only [List.getElem?_toArray, List.getElem?_cons_zero, List.getElem?_cons_succ]; rfl) (by kernel_rfl) (by kernel_rfl) (by kernel_rfl) (by rfl) hHeld ?q28 ?_
      case q28 => exact fun _ _ _ h => h
      simp only [Act.put, List.setIfInBounds_toArray, List.set_cons_zero, List.set_cons_succ]
      refine takeY 29 hops (v := ?v29) (by simp only [List.getElem?_toArray, List.getElem?_cons_zero, List.getElem?_cons_succ]; rfl) (by kernel_rfl) (by kernel_rfl) (by kernel_rfl) (by rfl) hHeld ?y29 ?q29 ?_
      case y29 => (intro w' hSw; subst hSw; go_simp; try (with_reducible rfl))
      case q29 => exact fun _ _ _ h => h
      simp only [Act.put, List.setIfInBounds_toArray, List.set_cons_zero, List.set_cons_succ]
      refine takeY 30 hops (v := ?v30) (by simp only [List.getElem?_toArray, List.getElem?_cons_zero, List.getElem?_cons_succ]; rfl) (by kernel_rfl) (by kernel_rfl) (by kernel_rfl) (by rfl) hHeld ?y30 ?q30 ?_
      case y30 => (intro w' hSw; subst hSw; go_simp; try (with_reducible rfl))
      case q30 => exact fun _ _ _ h => h
      simp only [Act.put, List.setIfInBounds_toArray, List.set_cons_zero, List.set_cons_succ]
      refine wpAnyH_done (by rw [hops]; kernel_rfl) ?_ _
      clear hHeld hops hsz ops
      go_upto_region 7 with (fail)
      have B5 : Hid (Below w.heap.size w w5) := Lib.hid (nextB bAll.out (nextB (Below.drew (Below.refl w1.heap.size w1)) b5.out))
      clear z0 z1 z2 u0 u1 u2 u3 B1 bAll b5 kb RV1 PB HST MAY
      as_aux_lemma =>
            go_wp2_with (at_builtin; refine wpList_append_rv _ rfl (.tmp 93) (.tmp 94) 30 rfl w5.heap.size 5 i0 (.int .u8 0) 1 Try.underlying30 HI.out HZ0.out HZ1.out HZ2.out rfl (.slice (some ⟨w5.heap.size, 0, none⟩) 0 0) 0 [] rfl (own_block (k := .u8) (zs := []) (Nat.le_refl _) (blk_new w5 _) rfl (by unfold maxLen; simp) 0 rfl) D bn bc .u8 zs rfl ((AD.out.row.below B5.out).below ((Below.refl _ _).alloc (Nat.le_refl _) _)) AD.out.nilc (by unfold maxLen; omega) (by omega) (by simp) ?_; intro V' w6 ho hg hp; obtain ⟨gg, cap, cur, rfl, q1, q2, q3, q4, q5⟩ := own_some ho hp; have HO := Lib.hid ho; have B6 : Hid (Below w5.heap.size w5 w6) := Lib.hid (((Below.refl _ w5).alloc (Nat.le_refl _) _).grown hg (by simp) (fun k hk => by cases hk; exact Nat.le_refl _)); have Q2 := Lib.hid q2; have Q5 := Lib.hid q5; clear ho hg hp q2 q5)
            have HO2 : w6.ownsRow w5.heap.size 5 1 (.slice (some ⟨gg, 0, none⟩) bn cap) bn (zs.map (Value.int .u8)) := by simpa using HO.out
            have hzb := row_byte AD.out.row
            have rl : IntRow .u8 w6 (some ⟨gg, 0, none⟩) bn zs := by
              obtain ⟨A', n', c', he, _, _, _, hr⟩ := own_row HO2 (fun x hx => wf8 (hzb x hx).1 (hzb x hx).2)
              cases he
              exact hr
            have hcs : ∀ j, j < bn → ∃ y, w6.cell? ⟨gg, j, none⟩ = some (.int .u8 y) := fun j hj => by
              obtain ⟨b', o', e', _, hc'⟩ := rl.2.resolve_left (by omega)
              cases e'
              exact ⟨_, by have := (hc' j hj).1; rwa [Nat.zero_add] at this⟩
            have HCS := Lib.hid hcs
            have RL := Lib.hid rl
            have hg6 : gg < w6.heap.size := blk_lt Q2.out
            clear HO HO2 hzb rl hcs
            rcases ht : takeOf zs with _ | ⟨dd, ss, vv⟩
            · have HT := Lib.hid ht
              clear ht
              refine (take_bad w6 (some ⟨gg, 0, none⟩) bn cap zs RL.out (by omega) (by omega) q4 HT.out).mono ?_
              rintro e w7 ⟨rfl, b7⟩
              have B7 := Lib.hid b7
              clear b7
              go_upto_region 9 with (fail)
              obtain ⟨w8, hw8⟩ : ∃ w8 : World, w7.alloc (.cells #[.slice none 0 0, .slice none 0 0, .slice none 0 0] 32) = w8 := ⟨_, rfl⟩
              have B8 : Hid (Below w6.heap.size w6 w8) := Lib.hid (by rw [← hw8]; exact B7.out.alloc B7.out.size _)
              have box : w8.heap[w7.heap.size]? = some (.cells #[.slice none 0 0, .slice none 0 0, .slice none 0 0] 32 (0, 0)) := by rw [← hw8]; exact blk_new w7 _
              have hbg : gg ≠ w7.heap.size := by have := B7.out.size; omega
              have HBG := Lib.hid hbg
              have BOX := Lib.hid box
              rw [hw8]
              clear hw8 box hbg
              have cg : w8.heap[gg]? = some (.cells cur 5 (0, 0)) := (B8.out.block gg hg6).trans Q2.out
              have CG := Lib.hid cg
              clear cg
              go_wp2_with (fail)
              go_loopw [103] (fun i wr => ∃ k : Nat, k ≤ bn ∧ i = .int .i64 k ∧ Only gg w8 wr ∧ ∀ j, j < bn → ∃ y, wr.cell? ⟨gg, j, none⟩ = some (.int .u8 y) ∧ wr.frozen? ⟨gg, j, none⟩ = false) (fun i _ => bn - (intOf i).toNat)
              case atStart =>
                refine ⟨0, Nat.zero_le _, rfl, Only.refl _ _, fun j hj => ?_⟩
                obtain ⟨y, hy⟩ := HCS.out j hj
                exact ⟨y, below_cell B8.out hy, blk_frozen CG.out j⟩
              case round =>
                obtain ⟨k, hk, rfl, honly, hall⟩ := hrel
                have HON := Lib.hid honly
                have HAL := Lib.hid hall
                clear honly hall
                by_cases hlt : k < bn
                · obtain ⟨y, hy, hf⟩ := HAL.out k hlt
                  have tl : decide ((k : Int) < (bn : Int)) = true := decide_eq_true (by omega)
                  have g1 : (k : Int) + 1 ≤ 9223372036854775807 := by omega
                  clear hk
                  go_wp2_with (fail)
                  go_roundw
                  case rel =>
                    refine ⟨k + 1, by omega, by simp, HON.out.set k _, fun j hj => ?_⟩
                    obtain ⟨z, hz, hfz⟩ := HAL.out j hj
                    by_cases e : j = k
                    · subst e
                      exact ⟨_, cell_same _ hz, by rw [World.frozen?_setCell]; exact hfz⟩
                    · exact ⟨z, by rw [World.cell?_setCell_other _ _ _ _ (by simp [e])]; exact hz, by rw [World.frozen?_setCell]; exact hfz⟩
                  case measure => simp [intOf]; omega
                · have hkb : k = bn := by omega
                  have tl : decide ((k : Int) < (bn : Int)) = false := decide_eq_false (by omega)
                  have B9 : Hid (Below w.heap.size w wr) := Lib.hid ((nextB B5.out (nextB B6.out B8.out)).trans (HON.out.below (by have := B5.out.size; omega) (nextB B5.out (nextB B6.out B8.out)).size))
                  have bx9 : wr.heap[w7.heap.size]? = some (.cells #[.slice none 0 0, .slice none 0 0, .slice none 0 0] 32 (0, 0)) := (HON.out.block _ (blk_lt BOX.out) (fun e => HBG.out e.symm)).trans BOX.out
                  have BX9 := Lib.hid bx9
                  clear bx9
                  go_wp2_with (fail)
                  refine (reftake_c wr D bn bc zs (AD.out.row.below B9.out) (by omega) AD.out.lec AD.out.capm).mono ?_
                  rintro e wA (⟨_, rfl, bA⟩ | ⟨_, _, _, _, _, _, _, _, h, _⟩)
                  · have bxA : wA.heap[w7.heap.size]? = some (.cells #[.slice none 0 0, .slice none 0 0, .slice none 0 0] 32 (0, 0)) := (bA.block _ (blk_lt BX9.out)).trans BX9.out
                    have x0 : wA.cell? ⟨w7.heap.size, 0, none⟩ = some (.slice none 0 0) := (blk_cell bxA 0).trans rfl
                    have x1 : wA.cell? ⟨w7.heap.size, 1, none⟩ = some (.slice none 0 0) := (blk_cell bxA 1).trans rfl
                    have x2 : wA.cell? ⟨w7.heap.size, 2, none⟩ = some (.slice none 0 0) := (blk_cell bxA 2).trans rfl
                    have kn := conv_row (w := wA) (A := none) (n := 0) (zs := []) 0 ⟨rfl, .inl rfl⟩
                    have SQ := Lib.hid (sequal_c wA none 0 0 [] none 0 0 [] ⟨rfl, .inl rfl⟩ ⟨rfl, .inl rfl⟩ (by omega) (by omega))
                    rw [show decide (([] : List Int) = []) = true from rfl] at SQ
                    have BA := Lib.hid (nextB B9.out bA)
                    generalize strOfNums [] = SN at *
                    clear bA bxA
                    go_wp2_with (fail)
                    refine SQ.out.mono ?_
                    rintro e wB ⟨rfl, bB⟩
                    have BB := Lib.hid (nextB BA.out bB)
                    clear bB
                    go_wp2_with (fail)
                    refine (works_c _).mono ?_
                    rintro e wC ⟨rfl, bC⟩
                    have BC := Lib.hid (nextB BB.out bC)
                    clear bC
                    go_wp2_with (fail)
                    go_ret
                    exact ⟨rfl, BC.out⟩
                  · rw [HT.out] at h
                    cases h
            · have HT := Lib.hid ht
              have HRG : Hid ((∀ x ∈ dd, 0 ≤ x ∧ x ≤ 255) ∧ (∀ x ∈ ss, 0 ≤ x ∧ x ≤ 255) ∧ ∀ x ∈ vv, 0 ≤ x ∧ x ≤ 4294967295) := Lib.hid (by
                obtain ⟨r, K, hs, _, _, _, rfl⟩ := takeOf_some ht
                have hz := row_byte AD.out.row
                obtain ⟨-, -, -, -, -, m1, m2, m3⟩ := split_len hz hs
                exact ⟨fun x hx => hz x (m1 x hx), fun x hx => hz x (m2 x hx), wordsFrom_range r (getD_byte (fun x hx => hz x (m3 x hx))) 0 K⟩)
              have HVL : Hid (vv.length ≤ 64) := Lib.hid (by
                obtain ⟨r, K, hs, _, _, hK, rfl⟩ := takeOf_some ht
                rw [wordsFrom_length]; exact hK)
              clear ht
              refine (take_good w6 (some ⟨gg, 0, none⟩) bn cap zs RL.out (by omega) (by omega) q4 dd ss vv HT.out).mono ?_
              rintro e w7 ⟨A1, c1, A2, c2, A3, c3, rfl, o1, o2, o3, b7⟩
              have B7 := Lib.hid b7
              have O1 := Lib.hid o1
              have O2 := Lib.hid o2
              have O3 := Lib.hid o3
              clear b7 o1 o2 o3
              go_upto_region 9 with (fail)
              obtain ⟨w8, hw8⟩ : ∃ w8 : World, w7.alloc (.cells #[.slice A1 dd.length c1, .slice A2 ss.length c2, .slice A3 vv.length c3] 32) = w8 := ⟨_, rfl⟩
              have B8 : Hid (Below w6.heap.size w6 w8) := Lib.hid (by rw [← hw8]; exact B7.out.alloc B7.out.size _)
              have box : w8.heap[w7.heap.size]? = some (.cells #[.slice A1 dd.length c1, .slice A2 ss.length c2, .slice A3 vv.length c3] 32 (0, 0)) := by rw [← hw8]; exact blk_new w7 _
              have hbg : gg ≠ w7.heap.size := by have := B7.out.size; omega
              have HBG := Lib.hid hbg
              have BOX := Lib.hid box
              have B78 : Hid (Below w7.heap.size w7 w8) := Lib.hid (by rw [← hw8]; exact (Below.refl _ _).alloc (Nat.le_refl _) _)
              rw [hw8]
              clear hw8 box hbg
              have cg : w8.heap[gg]? = some (.cells cur 5 (0, 0)) := (B8.out.block gg hg6).trans Q2.out
              have CG := Lib.hid cg
              clear cg
              go_wp2_with (fail)
              go_loopw [103] (fun i wr => ∃ k : Nat, k ≤ bn ∧ i = .int .i64 k ∧ Only gg w8 wr ∧ ∀ j, j < bn → ∃ y, wr.cell? ⟨gg, j, none⟩ = some (.int .u8 y) ∧ wr.frozen? ⟨gg, j, none⟩ = false) (fun i _ => bn - (intOf i).toNat)
              case atStart =>
                refine ⟨0, Nat.zero_le _, rfl, Only.refl _ _, fun j hj => ?_⟩
                obtain ⟨y, hy⟩ := HCS.out j hj
                exact ⟨y, below_cell B8.out hy, blk_frozen CG.out j⟩
              case round =>
                obtain ⟨k, hk, rfl, honly, hall⟩ := hrel
                have HON := Lib.hid honly
                have HAL := Lib.hid hall
                clear honly hall
                by_cases hlt : k < bn
                · obtain ⟨y, hy, hf⟩ := HAL.out k hlt
                  have tl : decide ((k : Int) < (bn : Int)) = true := decide_eq_true (by omega)
                  have g1 : (k : Int) + 1 ≤ 9223372036854775807 := by omega
                  clear hk
                  go_wp2_with (fail)
                  go_roundw
                  case rel =>
                    refine ⟨k + 1, by omega, by simp, HON.out.set k _, fun j hj => ?_⟩
                    obtain ⟨z, hz, hfz⟩ := HAL.out j hj
                    by_cases e : j = k
                    · subst e
                      exact ⟨_, cell_same _ hz, by rw [World.frozen?_setCell]; exact hfz⟩
                    · exact ⟨z, by rw [World.cell?_setCell_other _ _ _ _ (by simp [e])]; exact hz, by rw [World.frozen?_setCell]; exact hfz⟩
                  case measure => simp [intOf]; omega
                · have hkb : k = bn := by omega
                  have tl : decide ((k : Int) < (bn : Int)) = false := decide_eq_false (by omega)
                  have B9 : Hid (Below w.heap.size w wr) := Lib.hid ((nextB B5.out (nextB B6.out B8.out)).trans (HON.out.below (by have := B5.out.size; omega) (nextB B5.out (nextB B6.out B8.out)).size))
                  have bx9 : wr.heap[w7.heap.size]? = some (.cells #[.slice A1 dd.length c1, .slice A2 ss.length c2, .slice A3 vv.length c3] 32 (0, 0)) := (HON.out.block _ (blk_lt BOX.out) (fun e => HBG.out e.symm)).trans BOX.out
                  have BX9 := Lib.hid bx9
                  clear bx9
                  go_wp2_with (fail)
                  refine (reftake_c wr D bn bc zs (AD.out.row.below B9.out) (by omega) AD.out.lec AD.out.capm).mono ?_
                  rintro e wA (⟨h, _⟩ | ⟨d', s', v', A1', c1', A2', c2', V', h, rfl, i1, i2, i3, bA⟩)
                  · rw [HT.out] at h
                    cases h
                  · rw [HT.out] at h
                    cases h
                    have hsame : ∀ k', w6.heap.size ≤ k' → k' < w7.heap.size → wA.heap[k']? = w7.heap[k']? := fun k' h1 h2 => by
                      rw [bA.block k' (Nat.lt_of_lt_of_le h2 (Nat.le_trans B78.out.size HON.out.size)), HON.out.block k' (Nat.lt_of_lt_of_le h2 B78.out.size) (by omega), B78.out.block k' h2]
                    obtain ⟨hdb, hsb, hvb⟩ := HRG.out
                    obtain ⟨A', n', c', he, _, _, _, rA⟩ := own_row (own_same O1.out hsame) (fun x hx => wf8 (hdb x hx).1 (hdb x hx).2)
                    cases he
                    obtain ⟨A', n', c', he, _, _, _, rB⟩ := own_row (own_same O2.out hsame) (fun x hx => wf8 (hsb x hx).1 (hsb x hx).2)
                    cases he
                    obtain ⟨A', n', c', he, _, _, _, rC⟩ := own_row (own_same O3.out hsame) (fun x hx => wf32 (hvb x hx).1 (hvb x hx).2)
                    cases he
                    obtain ⟨A3', c3', rfl⟩ := own_slice i3
                    obtain ⟨A', n', c', he, _, _, _, rD⟩ := own_row i3 (fun x hx => wf32 (hvb x hx).1 (hvb x hx).2)
                    cases he
                    have bxA : wA.heap[w7.heap.size]? = some (.cells #[.slice A1 dd.length c1, .slice A2 ss.length c2, .slice A3 vv.length c3] 32 (0, 0)) := (bA.block _ (blk_lt BX9.out)).trans BX9.out
                    have x0 : wA.cell? ⟨w7.heap.size, 0, none⟩ = some (.slice A1 dd.length c1) := (blk_cell bxA 0).trans rfl
                    have x1 : wA.cell? ⟨w7.heap.size, 1, none⟩ = some (.slice A2 ss.length c2) := (blk_cell bxA 1).trans rfl
                    have x2 : wA.cell? ⟨w7.heap.size, 2, none⟩ = some (.slice A3 vv.length c3) := (blk_cell bxA 2).trans rfl
                    have kA := conv_row c1 rA
                    have kB := conv_row c2 rB
                    have kC := conv_row c1' i1
                    have kD := conv_row c2' i2
                    have SQ := Lib.hid (sequal_c wA A3 vv.length c3 vv A3' vv.length c3' vv rC rD (by have := HVL.out; omega) (by have := HVL.out; omega))
                    rw [show decide (vv = vv) = true from decide_eq_true rfl] at SQ
                    have BA := Lib.hid (nextB B9.out bA)
                    generalize strOfNums dd = SD at *
                    generalize strOfNums ss = SS at *
                    clear bA bxA rA rB rC rD i1 i2 i3 hsame hdb hsb hvb
                    go_wp2_with (fail)
                    refine SQ.out.mono ?_
                    rintro e wB ⟨rfl, bB⟩
                    have BB := Lib.hid (nextB BA.out bB)
                    clear bB
                    go_wp2_with (fail)
                    refine (works_c _).mono ?_
                    rintro e wC ⟨rfl, bC⟩
                    have BC := Lib.hid (nextB BB.out bC)
                    clear bC
                    go_wp2_with (fail)
                    go_ret
                    exact ⟨rfl, BC.out⟩
    · have PN := Lib.hid (put_no A n c B m d E q g wb (by omega) (by omega) (by omega) may)
      have HM : ∃ T0 T1 T2 T3 : Bool, decide ((n : Int) ≤ 255) = T0 ∧ decide ((m : Int) ≤ 255) = T1 ∧ decide ((1 : Int) ≤ (q : Int)) = T2 ∧ decide ((q : Int) ≤ 64) = T3 ∧ ((T0 && T1) && T2 && T3) = false := by
        refine ⟨_, _, _, _, rfl, rfl, rfl, rfl, ?_⟩
        apply Bool.eq_false_iff.2
        intro h
        simp only [Bool.and_eq_true, decide_eq_true_eq] at h
        exact may ⟨by omega, by omega, by omega, by omega⟩
      obtain ⟨T0, T1, T2, T3, u0, u1, u2, u3, hT⟩ := HM
      clear may
      have HTT := Lib.hid hT
      clear hT
      cases T0
      all_goals (try cases T1)
      all_goals (try cases T2)
      all_goals (try cases T3)
      all_goals (try (exfalso; have := HTT.out; revert this; decide))
      all_goals clear HTT
      all_goals go_wp2_with (fail)
      all_goals refine PN.out.mono ?_
      all_goals rintro e w1 ⟨rfl, b1⟩
      all_goals have B1 : Hid (Below w.heap.size w w1) := Lib.hid (nextB BW.out b1)
      all_goals have z0 := below_cell b1 bx0
      all_goals have z1 := below_cell b1 bx1
      all_goals have z2 := below_cell b1 bx2
      all_goals clear b1 bx0 bx1 bx2 PN
      all_goals go_upto_region 5 with (fail)
      all_goals go_quiet (fail)
      all_goals go_upto_region 7 with (fail)
      all_goals obtain ⟨w5, hw5⟩ : ∃ w5 : World, w1.drewN nq = w5 := ⟨_, rfl⟩
      all_goals have B5 : Hid (Below w.heap.size w w5) := Lib.hid (by rw [← hw5]; exact below_drewN B1.out nq)
      all_goals rw [hw5]
      all_goals clear hw5 z0 z1 z2 u0 u1 u2 u3 B1
      all_goals
        as_aux_lemma =>
            go_wp2_with (at_builtin; refine wpList_append_rv _ rfl (.tmp 93) (.tmp 94) 30 rfl w5.heap.size 5 i0 (.int .u8 0) 1 Try.underlying30 HI.out HZ0.out HZ1.out HZ2.out rfl (.slice (some ⟨w5.heap.size, 0, none⟩) 0 0) 0 [] rfl (own_block (k := .u8) (zs := []) (Nat.le_refl _) (blk_new w5 _) rfl (by unfold maxLen; simp) 0 rfl) D bn bc .u8 zs rfl ((AD.out.row.below B5.out).below ((Below.refl _ _).alloc (Nat.le_refl _) _)) AD.out.nilc (by unfold maxLen; omega) (by omega) (by simp) ?_; intro V' w6 ho hg hp; obtain ⟨gg, cap, cur, rfl, q1, q2, q3, q4, q5⟩ := own_some ho hp; have HO := Lib.hid ho; have B6 : Hid (Below w5.heap.size w5 w6) := Lib.hid (((Below.refl _ w5).alloc (Nat.le_refl _) _).grown hg (by simp) (fun k hk => by cases hk; exact Nat.le_refl _)); have Q2 := Lib.hid q2; have Q5 := Lib.hid q5; clear ho hg hp q2 q5)
            have HO2 : w6.ownsRow w5.heap.size 5 1 (.slice (some ⟨gg, 0, none⟩) bn cap) bn (zs.map (Value.int .u8)) := by simpa using HO.out
            have hzb := row_byte AD.out.row
            have rl : IntRow .u8 w6 (some ⟨gg, 0, none⟩) bn zs := by
              obtain ⟨A', n', c', he, _, _, _, hr⟩ := own_row HO2 (fun x hx => wf8 (hzb x hx).1 (hzb x hx).2)
              cases he
              exact hr
            have hcs : ∀ j, j < bn → ∃ y, w6.cell? ⟨gg, j, none⟩ = some (.int .u8 y) := fun j hj => by
              obtain ⟨b', o', e', _, hc'⟩ := rl.2.resolve_left (by omega)
              cases e'
              exact ⟨_, by have := (hc' j hj).1; rwa [Nat.zero_add] at this⟩
            have HCS := Lib.hid hcs
            have RL := Lib.hid rl
            have hg6 : gg < w6.heap.size := blk_lt Q2.out
            clear HO HO2 hzb rl hcs
            rcases ht : takeOf zs with _ | ⟨dd, ss, vv⟩
            · have HT := Lib.hid ht
              clear ht
              refine (take_bad w6 (some ⟨gg, 0, none⟩) bn cap zs RL.out (by omega) (by omega) q4 HT.out).mono ?_
              rintro e w7 ⟨rfl, b7⟩
              have B7 := Lib.hid b7
              clear b7
              go_upto_region 9 with (fail)
              obtain ⟨w8, hw8⟩ : ∃ w8 : World, w7.alloc (.cells #[.slice none 0 0, .slice none 0 0, .slice none 0 0] 32) = w8 := ⟨_, rfl⟩
              have B8 : Hid (Below w6.heap.size w6 w8) := Lib.hid (by rw [← hw8]; exact B7.out.alloc B7.out.size _)
              have box : w8.heap[w7.heap.size]? = some (.cells #[.slice none 0 0, .slice none 0 0, .slice none 0 0] 32 (0, 0)) := by rw [← hw8]; exact blk_new w7 _
              have hbg : gg ≠ w7.heap.size := by have := B7.out.size; omega
              have HBG := Lib.hid hbg
              have BOX := Lib.hid box
              rw [hw8]
              clear hw8 box hbg
              have cg : w8.heap[gg]? = some (.cells cur 5 (0, 0)) := (B8.out.block gg hg6).trans Q2.out
              have CG := Lib.hid cg
              clear cg
              go_wp2_with (fail)
              go_loopw [103] (fun i wr => ∃ k : Nat, k ≤ bn ∧ i = .int .i64 k ∧ Only gg w8 wr ∧ ∀ j, j < bn → ∃ y, wr.cell? ⟨gg, j, none⟩ = some (.int .u8 y) ∧ wr.frozen? ⟨gg, j, none⟩ = false) (fun i _ => bn - (intOf i).toNat)
              case atStart =>
                refine ⟨0, Nat.zero_le _, rfl, Only.refl _ _, fun j hj => ?_⟩
                obtain ⟨y, hy⟩ := HCS.out j hj
                exact ⟨y, below_cell B8.out hy, blk_frozen CG.out j⟩
              case round =>
                obtain ⟨k, hk, rfl, honly, hall⟩ := hrel
                have HON := Lib.hid honly
                have HAL := Lib.hid hall
                clear honly hall
                by_cases hlt : k < bn
                · obtain ⟨y, hy, hf⟩ := HAL.out k hlt
                  have tl : decide ((k : Int) < (bn : Int)) = true := decide_eq_true (by omega)
                  have g1 : (k : Int) + 1 ≤ 9223372036854775807 := by omega
                  clear hk
                  go_wp2_with (fail)
                  go_roundw
                  case rel =>
                    refine ⟨k + 1, by omega, by simp, HON.out.set k _, fun j hj => ?_⟩
                    obtain ⟨z, hz, hfz⟩ := HAL.out j hj
                    by_cases e : j = k
                    · subst e
                      exact ⟨_, cell_same _ hz, by rw [World.frozen?_setCell]; exact hfz⟩
                    · exact ⟨z, by rw [World.cell?_setCell_other _ _ _ _ (by simp [e])]; exact hz, by rw [World.frozen?_setCell]; exact hfz⟩
                  case measure => simp [intOf]; omega
                · have hkb : k = bn := by omega
                  have tl : decide ((k : Int) < (bn : Int)) = false := decide_eq_false (by omega)
                  have B9 : Hid (Below w.heap.size w wr) := Lib.hid ((nextB B5.out (nextB B6.out B8.out)).trans (HON.out.below (by have := B5.out.size; omega) (nextB B5.out (nextB B6.out B8.out)).size))
                  have bx9 : wr.heap[w7.heap.size]? = some (.cells #[.slice none 0 0, .slice none 0 0, .slice none 0 0] 32 (0, 0)) := (HON.out.block _ (blk_lt BOX.out) (fun e => HBG.out e.symm)).trans BOX.out
                  have BX9 := Lib.hid bx9
                  clear bx9
                  go_wp2_with (fail)
                  refine (reftake_c wr D bn bc zs (AD.out.row.below B9.out) (by omega) AD.out.lec AD.out.capm).mono ?_
                  rintro e wA (⟨_, rfl, bA⟩ | ⟨_, _, _, _, _, _, _, _, h, _⟩)
                  · have bxA : wA.heap[w7.heap.size]? = some (.cells #[.slice none 0 0, .slice none 0 0, .slice none 0 0] 32 (0, 0)) := (bA.block _ (blk_lt BX9.out)).trans BX9.out
                    have x0 : wA.cell? ⟨w7.heap.size, 0, none⟩ = some (.slice none 0 0) := (blk_cell bxA 0).trans rfl
                    have x1 : wA.cell? ⟨w7.heap.size, 1, none⟩ = some (.slice none 0 0) := (blk_cell bxA 1).trans rfl
                    have x2 : wA.cell? ⟨w7.heap.size, 2, none⟩ = some (.slice none 0 0) := (blk_cell bxA 2).trans rfl
                    have kn := conv_row (w := wA) (A := none) (n := 0) (zs := []) 0 ⟨rfl, .inl rfl⟩
                    have SQ := Lib.hid (sequal_c wA none 0 0 [] none 0 0 [] ⟨rfl, .inl rfl⟩ ⟨rfl, .inl rfl⟩ (by omega) (by omega))
                    rw [show decide (([] : List Int) = []) = true from rfl] at SQ
                    have BA := Lib.hid (nextB B9.out bA)
                    generalize strOfNums [] = SN at *
                    clear bA bxA
                    go_wp2_with (fail)
                    refine SQ.out.mono ?_
                    rintro e wB ⟨rfl, bB⟩
                    have BB := Lib.hid (nextB BA.out bB)
                    clear bB
                    go_wp2_with (fail)
                    refine (works_c _).mono ?_
                    rintro e wC ⟨rfl, bC⟩
                    have BC := Lib.hid (nextB BB.out bC)
                    clear bC
                    go_wp2_with (fail)
                    go_ret
                    exact ⟨rfl, BC.out⟩
                  · rw [HT.out] at h
                    cases h
            · have HT := Lib.hid ht
              have HRG : Hid ((∀ x ∈ dd, 0 ≤ x ∧ x ≤ 255) ∧ (∀ x ∈ ss, 0 ≤ x ∧ x ≤ 255) ∧ ∀ x ∈ vv, 0 ≤ x ∧ x ≤ 4294967295) := Lib.hid (by
                obtain ⟨r, K, hs, _, _, _, rfl⟩ := takeOf_some ht
                have hz := row_byte AD.out.row
                obtain ⟨-, -, -, -, -, m1, m2, m3⟩ := split_len hz hs
                exact ⟨fun x hx => hz x (m1 x hx), fun x hx => hz x (m2 x hx), wordsFrom_range r (getD_byte (fun x hx => hz x (m3 x hx))) 0 K⟩)
              have HVL : Hid (vv.length ≤ 64) := Lib.hid (by
                obtain ⟨r, K, hs, _, _, hK, rfl⟩ := takeOf_some ht
                rw [wordsFrom_length]; exact hK)
              clear ht
              refine (take_good w6 (some ⟨gg, 0, none⟩) bn cap zs RL.out (by omega) (by omega) q4 dd ss vv HT.out).mono ?_
              rintro e w7 ⟨A1, c1, A2, c2, A3, c3, rfl, o1, o2, o3, b7⟩
              have B7 := Lib.hid b7
              have O1 := Lib.hid o1
              have O2 := Lib.hid o2
              have O3 := Lib.hid o3
              clear b7 o1 o2 o3
              go_upto_region 9 with (fail)
              obtain ⟨w8, hw8⟩ : ∃ w8 : World, w7.alloc (.cells #[.slice A1 dd.length c1, .slice A2 ss.length c2, .slice A3 vv.length c3] 32) = w8 := ⟨_, rfl⟩
              have B8 : Hid (Below w6.heap.size w6 w8) := Lib.hid (by rw [← hw8]; exact B7.out.alloc B7.out.size _)
              have box : w8.heap[w7.heap.size]? = some (.cells #[.slice A1 dd.length c1, .slice A2 ss.length c2, .slice A3 vv.length c3] 32 (0, 0)) := by rw [← hw8]; exact blk_new w7 _
              have hbg : gg ≠ w7.heap.size := by have := B7.out.size; omega
              have HBG := Lib.hid hbg
              have BOX := Lib.hid box
              have B78 : Hid (Below w7.heap.size w7 w8) := Lib.hid (by rw [← hw8]; exact (Below.refl _ _).alloc (Nat.le_refl _) _)
              rw [hw8]
              clear hw8 box hbg
              have cg : w8.heap[gg]? = some (.cells cur 5 (0, 0)) := (B8.out.block gg hg6).trans Q2.out
              have CG := Lib.hid cg
              clear cg
              go_wp2_with (fail)
              go_loopw [103] (fun i wr => ∃ k : Nat, k ≤ bn ∧ i = .int .i64 k ∧ Only gg w8 wr ∧ ∀ j, j < bn → ∃ y, wr.cell? ⟨gg, j, none⟩ = some (.int .u8 y) ∧ wr.frozen? ⟨gg, j, none⟩ = false) (fun i _ => bn - (intOf i).toNat)
              case atStart =>
                refine ⟨0, Nat.zero_le _, rfl, Only.refl _ _, fun j hj => ?_⟩
                obtain ⟨y, hy⟩ := HCS.out j hj
                exact ⟨y, below_cell B8.out hy, blk_frozen CG.out j⟩
              case round =>
                obtain ⟨k, hk, rfl, honly, hall⟩ := hrel
                have HON := Lib.hid honly
                have HAL := Lib.hid hall
                clear honly hall
                by_cases hlt : k < bn
                · obtain ⟨y, hy, hf⟩ := HAL.out k hlt
                  have tl : decide ((k : Int) < (bn : Int)) = true := decide_eq_true (by omega)
                  have g1 : (k : Int) + 1 ≤ 9223372036854775807 := by omega
                  clear hk
                  go_wp2_with (fail)
                  go_roundw
                  case rel =>
                    refine ⟨k + 1, by omega, by simp, HON.out.set k _, fun j hj => ?_⟩
                    obtain ⟨z, hz, hfz⟩ := HAL.out j hj
                    by_cases e : j = k
                    · subst e
                      exact ⟨_, cell_same _ hz, by rw [World.frozen?_setCell]; exact hfz⟩
                    · exact ⟨z, by rw [World.cell?_setCell_other _ _ _ _ (by simp [e])]; exact hz, by rw [World.frozen?_setCell]; exact hfz⟩
                  case measure => simp [intOf]; omega
                · have hkb : k = bn := by omega
                  have tl : decide ((k : Int) < (bn : Int)) = false := decide_eq_false (by omega)
                  have B9 : Hid (Below w.heap.size w wr) := Lib.hid ((nextB B5.out (nextB B6.out B8.out)).trans (HON.out.below (by have := B5.out.size; omega) (nextB B5.out (nextB B6.out B8.out)).size))
                  have bx9 : wr.heap[w7.heap.size]? = some (.cells #[.slice A1 dd.length c1, .slice A2 ss.length c2, .slice A3 vv.length c3] 32 (0, 0)) := (HON.out.block _ (blk_lt BOX.out) (fun e => HBG.out e.symm)).trans BOX.out
                  have BX9 := Lib.hid bx9
                  clear bx9
                  go_wp2_with (fail)
                  refine (reftake_c wr D bn bc zs (AD.out.row.below B9.out) (by omega) AD.out.lec AD.out.capm).mono ?_
                  rintro e wA (⟨h, _⟩ | ⟨d', s', v', A1', c1', A2', c2', V', h, rfl, i1, i2, i3, bA⟩)
                  · rw [HT.out] at h
                    cases h
                  · rw [HT.out] at h
                    cases h
                    have hsame : ∀ k', w6.heap.size ≤ k' → k' < w7.heap.size → wA.heap[k']? = w7.heap[k']? := fun k' h1 h2 => by
                      rw [bA.block k' (Nat.lt_of_lt_of_le h2 (Nat.le_trans B78.out.size HON.out.size)), HON.out.block k' (Nat.lt_of_lt_of_le h2 B78.out.size) (by omega), B78.out.block k' h2]
                    obtain ⟨hdb, hsb, hvb⟩ := HRG.out
                    obtain ⟨A', n', c', he, _, _, _, rA⟩ := own_row (own_same O1.out hsame) (fun x hx => wf8 (hdb x hx).1 (hdb x hx).2)
                    cases he
                    obtain ⟨A', n', c', he, _, _, _, rB⟩ := own_row (own_same O2.out hsame) (fun x hx => wf8 (hsb x hx).1 (hsb x hx).2)
                    cases he
                    obtain ⟨A', n', c', he, _, _, _, rC⟩ := own_row (own_same O3.out hsame) (fun x hx => wf32 (hvb x hx).1 (hvb x hx).2)
                    cases he
                    obtain ⟨A3', c3', rfl⟩ := own_slice i3
                    obtain ⟨A', n', c', he, _, _, _, rD⟩ := own_row i3 (fun x hx => wf32 (hvb x hx).1 (hvb x hx).2)
                    cases he
                    have bxA : wA.heap[w7.heap.size]? = some (.cells #[.slice A1 dd.length c1, .slice A2 ss.length c2, .slice A3 vv.length c3] 32 (0, 0)) := (bA.block _ (blk_lt BX9.out)).trans BX9.out
                    have x0 : wA.cell? ⟨w7.heap.size, 0, none⟩ = some (.slice A1 dd.length c1) := (blk_cell bxA 0).trans rfl
                    have x1 : wA.cell? ⟨w7.heap.size, 1, none⟩ = some (.slice A2 ss.length c2) := (blk_cell bxA 1).trans rfl
                    have x2 : wA.cell? ⟨w7.heap.size, 2, none⟩ = some (.slice A3 vv.length c3) := (blk_cell bxA 2).trans rfl
                    have kA := conv_row c1 rA
                    have kB := conv_row c2 rB
                    have kC := conv_row c1' i1
                    have kD := conv_row c2' i2
                    have SQ := Lib.hid (sequal_c wA A3 vv.length c3 vv A3' vv.length c3' vv rC rD (by have := HVL.out; omega) (by have := HVL.out; omega))
                    rw [show decide (vv = vv) = true from decide_eq_true rfl] at SQ
                    have BA := Lib.hid (nextB B9.out bA)
                    generalize strOfNums dd = SD at *
                    generalize strOfNums ss = SS at *
                    clear bA bxA rA rB rC rD i1 i2 i3 hsame hdb hsb hvb
                    go_wp2_with (fail)
                    refine SQ.out.mono ?_
                    rintro e wB ⟨rfl, bB⟩
                    have BB := Lib.hid (nextB BA.out bB)
                    clear bB
                    go_wp2_with (fail)
                    refine (works_c _).mono ?_
                    rintro e wC ⟨rfl, bC⟩
                    have BC := Lib.hid (nextB BB.out bC)
                    clear bC
                    go_wp2_with (fail)
                    go_ret
                    exact ⟨rfl, BC.out⟩
  · have HM : ∃ T0 T1 T2 : Bool, decide ((600 : Int) < (n : Int) + (m : Int)) = T0 ∧ decide ((900 : Int) < (bn : Int)) = T1 ∧ decide ((200 : Int) < (q : Int)) = T2 ∧ (T0 || T1 || T2) = true := by
      refine ⟨_, _, _, rfl, rfl, rfl, ?_⟩
      apply Classical.byContradiction
      intro h
      simp only [Bool.or_eq_true, decide_eq_true_eq, not_or] at h
      exact g0 ⟨by omega, by omega, by omega⟩
    obtain ⟨T0, T1, T2, u0, u1, u2, hT⟩ := HM
    have HTT := Lib.hid hT
    clear hT g0
    cases T0
    all_goals (try cases T1)
    all_goals (try cases T2)
    all_goals (try (exfalso; have := HTT.out; revert this; decide))
    all_goals clear HTT
    all_goals go_enter Try.func5, Try.ntmps5
    all_goals go_wp2_with (fail)
    all_goals refine (works_c _).mono ?_
    all_goals rintro e w1 ⟨rfl, b1⟩
    all_goals have B1 : Hid (Below w.heap.size w w1) := Lib.hid (nextB BW.out b1)
    all_goals clear b1
    all_goals go_wp2_with (fail)
    all_goals go_ret
    all_goals exact ⟨rfl, B1.out⟩
end Go.Proofs.Ytgknamdcllapbaa
