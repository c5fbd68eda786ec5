/- The walk of MtuKeeps. -/
import Derived.Test.YtnacedbhognpbaaSt
import Derived.Test.YtnacedbhognpbaaArgs
namespace Go.Proofs.Ytnacedbhognpbaa
set_option linter.unusedVariables false
set_option linter.unusedSimpArgs false
open Go.RowKit
theorem below_cell {w w' : World} {p : Addr} {v : Value} (hb : Below w.heap.size w w') (h : w.cell? p = some v) : w'.cell? p = some v := by
  rw [hb.cell (cell_lt h).1]; exact h
theorem IntRow.below {k : IntKind} {w w' : World} {a : Option Addr} {len : Nat} {zs : List Int} (h : IntRow k w a len zs) (hb : Below w.heap.size w w') : IntRow k w' a len zs := by
  obtain ⟨h1, h2⟩ := h
  refine ⟨h1, ?_⟩
  rcases h2 with h2 | ⟨b, off, e, hl, hc⟩
  · exact .inl h2
  · exact .inr ⟨b, off, e, Nat.lt_of_lt_of_le hl hb.size, fun j hj => ⟨below_cell hb (hc j hj).1, (hc j hj).2⟩⟩
theorem DoAt.below {w w' : World} {b off i : Nat} (h : DoAt w b off i) (hb : Below w.heap.size w w') : DoAt w' b off i := by
  obtain ⟨kd, n, a, len, cap, zs, h0, h1, h2, h3, h4, h5, h6⟩ := h
  exact ⟨kd, n, a, len, cap, zs, below_cell hb h0, below_cell hb h1, below_cell hb h2, h3, h4, h5, h6.below hb⟩
/-- It answers a bool, whichever. -/
def SomeBool (w : World) (e : Ending) (w' : World) : Prop := ∃ b : Bool, e = .returned (.bool b) ∧ Below w.heap.size w w'
set_option maxHeartbeats 1000000 in
theorem heavy_c (w : World) (a : Option Addr) (len cap : Nat) (h : DoRow w a len) :
    Calls Try.prog 17 #[.slice a len cap] w (SomeBool w) := by
  obtain ⟨hm, h⟩ := h
  unfold maxLen at hm
  by_cases h0 : len = 0
  · subst h0
    go_enter Try.func17, Try.ntmps17
    go_wp2_with (fail)
    go_loop [8, 3] (fun i n => i = .int .i64 0 ∧ n = .int .i64 0) (fun _ _ => 0)
    case atStart => exact ⟨rfl, rfl⟩
    case round =>
      obtain ⟨rfl, rfl⟩ := hrel
      go_wp2_with (fail)
      go_ret
      exact ⟨false, rfl, Below.refl _ _⟩
  · obtain ⟨b, off, rfl, hb, hat⟩ := h.resolve_left h0
    have H := Lib.hid hat
    clear h hat
    go_enter Try.func17, Try.ntmps17
    go_wp2_with (fail)
    go_loopw [8, 3] (fun i n wr => ∃ (k : Nat) (x : Int), k ≤ len ∧ i = .int .i64 k ∧ n = .int .i64 x ∧ Below w.heap.size w wr) (fun i _ _ => len - (intOf i).toNat)
    case atStart => exact ⟨0, 0, by omega, rfl, rfl, Below.refl _ _⟩
    case round =>
      obtain ⟨k, x, hk, rfl, rfl, hbl⟩ := hrel
      have HBL := Lib.hid hbl
      clear hbl
      by_cases hlt : k < len
      · obtain ⟨kd, n, ia, il, ic, zs, c0, c1, c2, hkd, hn, hil, hr⟩ := (H.out k hlt).below HBL.out
        clear hkd hn hr
        unfold maxLen at hil
        go_wp2_with (fail)
        · go_ret
          exact ⟨true, rfl, HBL.out.alloc HBL.out.size _⟩
        · go_roundw
          case rel => exact ⟨k + 1, _, by omega, by go_num, rfl, HBL.out.alloc HBL.out.size _⟩
          case measure => simp [intOf]; omega
      · go_wp2_with (fail)
        go_ret
        exact ⟨false, rfl, HBL.out⟩

/-- What the law's round keeps: the greatest that was told, or came; the last probe. -/
structure Kept (s : St) (T p : Int) : Prop where
  inv : Inv s
  sz : s.sz ≤ T
  bd : s.bd ≤ T
  pr : s.pr ≤ T
  top : T ≤ 65527
  p0 : 0 ≤ p
  p1 : p ≤ T
theorem Kept.one {s : St} {T p : Int} (h : Kept s T p) (n : Int) (h0 : 1 ≤ n) (h1 : n ≤ 65527) : Kept (oneS s n) T p := by
  obtain ⟨a, b, c, d, e, f, g⟩ := h
  refine ⟨a.one n h0 h1, ?_, ?_, ?_, e, f, g⟩
  · have := a.sz0
    unfold oneS
    (repeat' split) <;> ((try dsimp only); omega)
  · have := a.sz0
    unfold oneS
    (repeat' split) <;> ((try dsimp only); omega)
  · have := a.sz0
    unfold oneS
    (repeat' split) <;> ((try dsimp only); omega)
theorem Kept.fold {T p : Int} (l : List Int) : ∀ {s : St}, Kept s T p → (∀ n ∈ l, 1 ≤ n ∧ n ≤ 65527) → Kept (l.foldl oneS s) T p := by
  induction l with
  | nil => intro s h _; exact h
  | cons a l ih =>
    intro s h hl
    have := hl a (by simp)
    exact ih (h.one a this.1 this.2) (fun n hn => hl n (by simp [hn]))
theorem Kept.lost {s : St} {T p : Int} (h : Kept s T p) (l : List Int) : Kept (lostS s l) T p := by
  unfold lostS
  split
  · rename_i c; exact Kept.fold l h (okL_yes c)
  · exact h
theorem Kept.probe {s : St} {T p q : Int} {s' : St} (h : Kept s T p) (hp : probeS s = (q, 0, s')) : Kept s' T q ∧ s'.sz < q ∧ q ≤ T := by
  obtain ⟨a, b, c, d, e, f, g⟩ := h
  have := a.probe
  rw [hp] at this
  unfold probeS at hp
  by_cases hc : 0 < s.pr ∨ s.bd - s.sz < 16
  · rw [if_pos hc] at hp; simp at hp
  · rw [if_neg hc] at hp
    simp only [Prod.mk.injEq] at hp
    obtain ⟨h1, _, h3⟩ := hp
    have := a.sz0
    subst h3
    refine ⟨⟨this, b, c, ?_, e, ?_, ?_⟩, ?_, ?_⟩ <;> ((try dsimp only); omega)
theorem Kept.came {s : St} {T p n : Int} (h : Kept s T p) (h0 : 1 ≤ n) (h1 : n ≤ 65527) : Kept (cameS s n) (if T < n then n else T) p := by
  obtain ⟨a, b, c, d, e, f, g⟩ := h
  have := a.came n h0 h1
  refine ⟨this, ?_, ?_, ?_, ?_, f, ?_⟩ <;> ((try unfold cameS); (try dsimp only); (repeat' split) <;> omega)
theorem Kept.same {s : St} {T p n : Int} (h : Kept s T p) (h0 : 1 ≤ n) (h1 : n ≤ T) : Kept (cameS s n) T p := by
  have e := h.top
  have := h.came h0 (by omega)
  rw [if_neg (by omega)] at this
  exact this
theorem Kept.again {s : St} {T p n : Int} (h : Kept s T p) (h0 : 1200 ≤ n) (h1 : n ≤ 65527) : Kept (againS s n) (if T < n then n else T) p := by
  obtain ⟨a, b, c, d, e, f, g⟩ := h
  have := a.again n h0 h1
  refine ⟨this, ?_, ?_, ?_, ?_, f, ?_⟩ <;> ((try unfold againS); (try dsimp only); (repeat' split) <;> omega)
theorem probe_cases (s : St) : (∃ q s', probeS s = (q, 0, s')) ∨ probeS s = (0, 6, s) := by
  unfold probeS
  split
  · exact .inr rfl
  · exact .inl ⟨_, _, rfl⟩

set_option maxRecDepth 100000 in
set_option maxHeartbeats 8000000 in
theorem keeps_loop (m : Int) (w : World) (a : Option Addr) (len cap : Nat) (h : DoRow w a len) (h0 : 1200 ≤ m) (h1 : m ≤ 65527) :
    Calls Try.prog 5 #[.int .i64 m, .slice a len cap] w fun e w' => e = .returned (.bool true) ∧ Below w.heap.size w w' := by
  have HD := Lib.hid h
  obtain ⟨hm, h⟩ := h
  unfold maxLen at hm
  go_enter Try.func5, Try.ntmps5
  go_wp2_with (fail)
  refine (new_s m _ h0 h1).mono ?_
  rintro e w1 ⟨rfl, a1, b1⟩
  have l1 := a1.lt
  have i1 := Inv.first m h0 h1
  generalize hB : w.heap.size = B at *
  have HB := Lib.hid hB
  clear hB
  go_wp2_with (fail)
  have HD1 : DoRow w1 a len := by
    obtain ⟨g1, g2⟩ := HD.out
    refine ⟨g1, ?_⟩
    rcases g2 with g2 | ⟨b, off, e, hl, hc⟩
    · exact .inl g2
    · exact .inr ⟨b, off, e, by have := b1.size; omega, fun i hi => (hc i hi).below (by rw [HB.out]; exact b1)⟩
  refine (heavy_c _ a len cap HD1).mono ?_
  rintro e w2 ⟨hv, rfl, b2⟩
  have a2 := a1.below b2
  have b2' := b1.trans (b2.mono (by omega))
  cases hv with
  | true =>
    go_wp2_with (fail)
    refine (works_c _).mono ?_
    rintro e w3 ⟨rfl, b3⟩
    go_wp2_with (fail)
    go_ret
    refine ⟨rfl, ?_⟩
    rw [HB.out]
    exact b2'.trans (b3.mono (by have := a2.lt; omega))
  | false =>
    have l2 := a2.lt
    have A2 := Lib.hid a2
    clear a2 a1 HD1
    by_cases hl0 : len = 0
    · subst hl0
      go_wp2_with (fail)
      go_loopw [28] (fun i wr => i = .int .i64 0 ∧ wr = w2) (fun _ _ => 0)
      case atStart => exact ⟨rfl, rfl⟩
      case round =>
        obtain ⟨rfl, rfl⟩ := hrel
        go_wp2_with (fail)
        refine (works_c _).mono ?_
        rintro e w3 ⟨rfl, b3⟩
        go_wp2_with (fail)
        go_ret
        refine ⟨rfl, ?_⟩
        rw [HB.out]
        exact b2'.trans (b3.mono (by omega))
    · obtain ⟨b, off, rfl, hb, hat⟩ := h.resolve_left hl0
      have H := Lib.hid hat
      clear h hat
      have b1 := b2'
      have hlb : B ≤ w2.heap.size := by omega
      have hlw : w.heap.size ≤ B := by have := HB.out; omega
      have K1 := Lib.hid (show Kept ⟨1200, m, 0, 0, 0⟩ m 0 from ⟨i1, h0, Int.le_refl _, by dsimp only; omega, h1, by omega, by omega⟩)
      go_wp2_with (fail)
      go_loopw [28, 7, 8] (fun i t p wr => ∃ (k : Nat) (T P : Int) (s : St), k ≤ len ∧ i = .int .i64 k ∧ t = .int .i64 T ∧ p = .int .i64 P ∧ AtS wr B s ∧ Kept s T P ∧ Only B w2 wr) (fun i _ _ _ => len - (intOf i).toNat)
      case atStart => exact ⟨0, m, 0, _, by omega, rfl, rfl, rfl, A2.out, K1.out, Only.refl _ _⟩
      case round =>
        obtain ⟨k, T, P, s, hk, rfl, rfl, rfl, hat, hK, hon⟩ := hrel
        have hT := hK.top
        have hP0 := hK.p0
        have hP1 := hK.p1
        have HAT := Lib.hid hat
        have HON := Lib.hid hon
        have HK := Lib.hid hK
        have hlr := hat.lt
        clear hat hon hK
        by_cases hlt : k < len
        · obtain ⟨kd, n, ia, il, ic, zs, c0, c1, c2, ⟨hkd0, hkd1⟩, ⟨hn0, hn1⟩, hil, hr⟩ := H.out k hlt
          have hbel := (b1.trans (HON.out.below (Nat.le_refl _) hlb)).mono hlw
          replace c0 := below_cell hbel c0
          replace c1 := below_cell hbel c1
          replace c2 := below_cell hbel c2
          clear hbel
          have HR := Lib.hid hr
          clear hr
          unfold maxLen at hil
          have hkind : kd = 0 ∨ kd = 1 ∨ kd = 2 ∨ kd = 3 ∨ kd = 4 ∨ kd = 5 ∨ 5 < kd := by omega
          rcases hkind with rfl | rfl | rfl | rfl | rfl | rfl | hkd5
          · rcases probe_cases s with ⟨q, sZ, hq⟩ | hq
            · obtain ⟨k2, g1, g2⟩ := HK.out.probe hq
              have HQ := Lib.hid hq
              have K2 := Lib.hid k2
              clear hq k2
              go_wp2_with (fail)
              refine (probe_s _ B s q 0 sZ HQ.out (HAT.out.below ((Below.refl _ _).alloc (Nat.le_refl _) _)) HK.out.inv).mono ?_
              rintro e wZ ⟨rfl, aZ, oZ⟩
              have q2 := decide_eq_false (show ¬ q ≤ sZ.sz by omega)
              have q3 := decide_eq_false (show ¬ T < q by omega)
              go_wp2_with (fail)
              refine (size_s _ B sZ _ rfl aZ).mono ?_
              rintro e wY ⟨rfl, rfl⟩
              have y0 := (K2.out).inv.sz0
              have y1 := (K2.out).inv.sz1
              have q0 := decide_eq_false (show ¬ sZ.sz < 1200 by omega)
              have q1 := decide_eq_false (show ¬ 65527 < sZ.sz by omega)
              go_wp2_with (fail)
              refine (size_s _ B sZ _ rfl aZ).mono ?_
              rintro e wY ⟨rfl, rfl⟩
              go_wp2_with (fail)
              refine (size_s _ B sZ _ rfl aZ).mono ?_
              rintro e wY ⟨rfl, rfl⟩
              go_wp2_with (fail)
              go_roundw
              case rel => exact ⟨k + 1, T, q, sZ, by omega, by go_num, rfl, rfl, aZ, K2.out, (HON.out.trans ((Only.refl _ _).alloc _)).trans oZ⟩
              case measure => simp [intOf]; omega
            · have HQ := Lib.hid hq
              clear hq
              go_wp2_with (fail)
              refine (probe_s _ B s 0 6 s HQ.out (HAT.out.below ((Below.refl _ _).alloc (Nat.le_refl _) _)) HK.out.inv).mono ?_
              rintro e wZ ⟨rfl, aZ, oZ⟩
              have y0 := (HK.out).inv.sz0
              have y1 := (HK.out).inv.sz1
              have q0 := decide_eq_false (show ¬ s.sz < 1200 by omega)
              have q1 := decide_eq_false (show ¬ 65527 < s.sz by omega)
              go_wp2_with (fail)
              refine (size_s _ B s _ rfl aZ).mono ?_
              rintro e wY ⟨rfl, rfl⟩
              go_wp2_with (fail)
              refine (size_s _ B s _ rfl aZ).mono ?_
              rintro e wY ⟨rfl, rfl⟩
              go_wp2_with (fail)
              go_roundw
              case rel => exact ⟨k + 1, T, P, s, by omega, by go_num, rfl, rfl, aZ, HK.out, (HON.out.trans ((Only.refl _ _).alloc _)).trans oZ⟩
              case measure => simp [intOf]; omega
          · by_cases hb : 1 ≤ n ∧ n ≤ 65527
            · obtain ⟨g1, g2⟩ := hb
              have K2 := Lib.hid (HK.out.came g1 g2)
              go_wp2_with (fail)
              refine (came_s _ B s n _ rfl (HAT.out.below ((Below.refl _ _).alloc (Nat.le_refl _) _)) HK.out.inv g1 g2).mono ?_
              rintro e wZ ⟨rfl, aZ, oZ⟩
              have cz : wZ.cell? ⟨wr.heap.size, 1, none⟩ = some (.int .i64 n) := (oZ.cell (p := ⟨wr.heap.size, 1, none⟩) (by simp) (by simp; omega)).trans (by simp [go_sem])
              generalize hsZ : cameS s n = sZ at *
              have HSZ := Lib.hid hsZ
              clear hsZ
              by_cases hT : T < n
              · rw [if_pos hT] at K2
                have y0 := (K2.out).inv.sz0
                have y1 := (K2.out).inv.sz1
                have q0 := decide_eq_false (show ¬ sZ.sz < 1200 by omega)
                have q1 := decide_eq_false (show ¬ 65527 < sZ.sz by omega)
                go_wp2_with (fail)
                refine (size_s _ B sZ _ rfl aZ).mono ?_
                rintro e wY ⟨rfl, rfl⟩
                go_wp2_with (fail)
                refine (size_s _ B sZ _ rfl aZ).mono ?_
                rintro e wY ⟨rfl, rfl⟩
                go_wp2_with (fail)
                go_roundw
                case rel => exact ⟨k + 1, n, P, sZ, by omega, by go_num, rfl, rfl, aZ, K2.out, (HON.out.trans ((Only.refl _ _).alloc _)).trans oZ⟩
                case measure => simp [intOf]; omega
              · rw [if_neg hT] at K2
                have y0 := (K2.out).inv.sz0
                have y1 := (K2.out).inv.sz1
                have q0 := decide_eq_false (show ¬ sZ.sz < 1200 by omega)
                have q1 := decide_eq_false (show ¬ 65527 < sZ.sz by omega)
                go_wp2_with (fail)
                refine (size_s _ B sZ _ rfl aZ).mono ?_
                rintro e wY ⟨rfl, rfl⟩
                go_wp2_with (fail)
                refine (size_s _ B sZ _ rfl aZ).mono ?_
                rintro e wY ⟨rfl, rfl⟩
                go_wp2_with (fail)
                go_roundw
                case rel => exact ⟨k + 1, T, P, sZ, by omega, by go_num, rfl, rfl, aZ, K2.out, (HON.out.trans ((Only.refl _ _).alloc _)).trans oZ⟩
                case measure => simp [intOf]; omega
            · have hb' : n < 1 ∨ 65527 < n := by omega
              clear hb
              go_wp2_with (fail)
              refine (came_bad _ B n hb').mono ?_
              rintro e wY ⟨rfl, rfl⟩
              have aZ : AtS (wr.alloc (.cells #[.int .u8 1, .int .i64 n, .slice ia il ic] 39)) B s := (HAT.out.below ((Below.refl _ _).alloc (Nat.le_refl _) _))
              have y0 := (HK.out).inv.sz0
              have y1 := (HK.out).inv.sz1
              have q0 := decide_eq_false (show ¬ s.sz < 1200 by omega)
              have q1 := decide_eq_false (show ¬ 65527 < s.sz by omega)
              go_wp2_with (fail)
              refine (size_s _ B s _ rfl aZ).mono ?_
              rintro e wY ⟨rfl, rfl⟩
              go_wp2_with (fail)
              refine (size_s _ B s _ rfl aZ).mono ?_
              rintro e wY ⟨rfl, rfl⟩
              go_wp2_with (fail)
              go_roundw
              case rel => exact ⟨k + 1, T, P, s, by omega, by go_num, rfl, rfl, aZ, HK.out, (HON.out.trans ((Only.refl _ _).alloc _))⟩
              case measure => simp [intOf]; omega
          · by_cases hil0 : il = 0
            · subst hil0
              go_wp2_with (fail)
              refine (lost_empty _ B ic ia).mono ?_
              rintro e wY ⟨rfl, rfl⟩
              have aZ : AtS (wr.alloc (.cells #[.int .u8 2, .int .i64 n, .slice ia 0 ic] 39)) B s := (HAT.out.below ((Below.refl _ _).alloc (Nat.le_refl _) _))
              have y0 := (HK.out).inv.sz0
              have y1 := (HK.out).inv.sz1
              have q0 := decide_eq_false (show ¬ s.sz < 1200 by omega)
              have q1 := decide_eq_false (show ¬ 65527 < s.sz by omega)
              go_wp2_with (fail)
              refine (size_s _ B s _ rfl aZ).mono ?_
              rintro e wY ⟨rfl, rfl⟩
              go_wp2_with (fail)
              refine (size_s _ B s _ rfl aZ).mono ?_
              rintro e wY ⟨rfl, rfl⟩
              go_wp2_with (fail)
              go_roundw
              case rel => exact ⟨k + 1, T, P, s, by omega, by go_num, rfl, rfl, aZ, HK.out, (HON.out.trans ((Only.refl _ _).alloc _))⟩
              case measure => simp [intOf]; omega
            · obtain ⟨hzl, hrr⟩ := HR.out
              obtain ⟨ib, io, rfl, hib, hic⟩ := hrr.resolve_left hil0
              have HIC := Lib.hid hic
              have HZL := Lib.hid hzl
              clear hic hzl hrr
              have K2 := Lib.hid (HK.out.lost zs)
              go_wp2_with (fail)
              rw [← HZL.out]
              refine (lost_c _ B ib io ic s zs (HAT.out.below ((Below.refl _ _).alloc (Nat.le_refl _) _)) HK.out.inv ⟨?_, ?_, ?_⟩ (by rw [HZL.out]; omega)).mono ?_
              · omega
              · simp; omega
              · intro j hj
                have hj' : j < il := by rw [← HZL.out]; exact hj
                exact below_cell (((b1.trans (HON.out.below (Nat.le_refl _) hlb)).alloc (by have := HON.out.size; omega) _).mono hlw) (HIC.out j hj').1
              rintro e wZ ⟨rfl, aZ, oZ⟩
              generalize (if okL zs = true then (0 : Int) else 2) = er
              generalize hsZ : lostS s zs = sZ at *
              have HSZ := Lib.hid hsZ
              clear hsZ
              have y0 := (K2.out).inv.sz0
              have y1 := (K2.out).inv.sz1
              have q0 := decide_eq_false (show ¬ sZ.sz < 1200 by omega)
              have q1 := decide_eq_false (show ¬ 65527 < sZ.sz by omega)
              go_wp2_with (fail)
              refine (size_s _ B sZ _ rfl aZ).mono ?_
              rintro e wY ⟨rfl, rfl⟩
              go_wp2_with (fail)
              refine (size_s _ B sZ _ rfl aZ).mono ?_
              rintro e wY ⟨rfl, rfl⟩
              go_wp2_with (fail)
              go_roundw
              case rel => exact ⟨k + 1, T, P, sZ, by omega, by go_num, rfl, rfl, aZ, K2.out, (HON.out.trans ((Only.refl _ _).alloc _)).trans oZ⟩
              case measure => simp [intOf]; omega
          · by_cases hb : 1200 ≤ n ∧ n ≤ 65527
            · obtain ⟨g1, g2⟩ := hb
              have K2 := Lib.hid (HK.out.again g1 g2)
              go_wp2_with (fail)
              refine (again_s _ B s n _ rfl (HAT.out.below ((Below.refl _ _).alloc (Nat.le_refl _) _)) HK.out.inv g1 g2).mono ?_
              rintro e wZ ⟨rfl, aZ, oZ⟩
              have cz : wZ.cell? ⟨wr.heap.size, 1, none⟩ = some (.int .i64 n) := (oZ.cell (p := ⟨wr.heap.size, 1, none⟩) (by simp) (by simp; omega)).trans (by simp [go_sem])
              generalize hsZ : againS s n = sZ at *
              have HSZ := Lib.hid hsZ
              clear hsZ
              by_cases hT : T < n
              · rw [if_pos hT] at K2
                have y0 := (K2.out).inv.sz0
                have y1 := (K2.out).inv.sz1
                have q0 := decide_eq_false (show ¬ sZ.sz < 1200 by omega)
                have q1 := decide_eq_false (show ¬ 65527 < sZ.sz by omega)
                go_wp2_with (fail)
                refine (size_s _ B sZ _ rfl aZ).mono ?_
                rintro e wY ⟨rfl, rfl⟩
                go_wp2_with (fail)
                refine (size_s _ B sZ _ rfl aZ).mono ?_
                rintro e wY ⟨rfl, rfl⟩
                go_wp2_with (fail)
                go_roundw
                case rel => exact ⟨k + 1, n, P, sZ, by omega, by go_num, rfl, rfl, aZ, K2.out, (HON.out.trans ((Only.refl _ _).alloc _)).trans oZ⟩
                case measure => simp [intOf]; omega
              · rw [if_neg hT] at K2
                have y0 := (K2.out).inv.sz0
                have y1 := (K2.out).inv.sz1
                have q0 := decide_eq_false (show ¬ sZ.sz < 1200 by omega)
                have q1 := decide_eq_false (show ¬ 65527 < sZ.sz by omega)
                go_wp2_with (fail)
                refine (size_s _ B sZ _ rfl aZ).mono ?_
                rintro e wY ⟨rfl, rfl⟩
                go_wp2_with (fail)
                refine (size_s _ B sZ _ rfl aZ).mono ?_
                rintro e wY ⟨rfl, rfl⟩
                go_wp2_with (fail)
                go_roundw
                case rel => exact ⟨k + 1, T, P, sZ, by omega, by go_num, rfl, rfl, aZ, K2.out, (HON.out.trans ((Only.refl _ _).alloc _)).trans oZ⟩
                case measure => simp [intOf]; omega
            · have hb' : n < 1200 ∨ 65527 < n := by omega
              clear hb
              go_wp2_with (fail)
              refine (again_bad _ B n hb').mono ?_
              rintro e wY ⟨rfl, rfl⟩
              have aZ : AtS (wr.alloc (.cells #[.int .u8 3, .int .i64 n, .slice ia il ic] 39)) B s := (HAT.out.below ((Below.refl _ _).alloc (Nat.le_refl _) _))
              have y0 := (HK.out).inv.sz0
              have y1 := (HK.out).inv.sz1
              have q0 := decide_eq_false (show ¬ s.sz < 1200 by omega)
              have q1 := decide_eq_false (show ¬ 65527 < s.sz by omega)
              go_wp2_with (fail)
              refine (size_s _ B s _ rfl aZ).mono ?_
              rintro e wY ⟨rfl, rfl⟩
              go_wp2_with (fail)
              refine (size_s _ B s _ rfl aZ).mono ?_
              rintro e wY ⟨rfl, rfl⟩
              go_wp2_with (fail)
              go_roundw
              case rel => exact ⟨k + 1, T, P, s, by omega, by go_num, rfl, rfl, aZ, HK.out, (HON.out.trans ((Only.refl _ _).alloc _))⟩
              case measure => simp [intOf]; omega
          · by_cases hb : 1 ≤ P
            · have g2 : P ≤ 65527 := by omega
              have K2 := Lib.hid (HK.out.same hb (by omega))
              go_wp2_with (fail)
              refine (came_s _ B s P _ rfl (HAT.out.below ((Below.refl _ _).alloc (Nat.le_refl _) _)) HK.out.inv hb g2).mono ?_
              rintro e wZ ⟨rfl, aZ, oZ⟩
              generalize hsZ : cameS s P = sZ at *
              have HSZ := Lib.hid hsZ
              clear hsZ
              have y0 := (K2.out).inv.sz0
              have y1 := (K2.out).inv.sz1
              have q0 := decide_eq_false (show ¬ sZ.sz < 1200 by omega)
              have q1 := decide_eq_false (show ¬ 65527 < sZ.sz by omega)
              go_wp2_with (fail)
              refine (size_s _ B sZ _ rfl aZ).mono ?_
              rintro e wY ⟨rfl, rfl⟩
              go_wp2_with (fail)
              refine (size_s _ B sZ _ rfl aZ).mono ?_
              rintro e wY ⟨rfl, rfl⟩
              go_wp2_with (fail)
              go_roundw
              case rel => exact ⟨k + 1, T, P, sZ, by omega, by go_num, rfl, rfl, aZ, K2.out, (HON.out.trans ((Only.refl _ _).alloc _)).trans oZ⟩
              case measure => simp [intOf]; omega
            · have hb' : P < 1 ∨ 65527 < P := by omega
              clear hb
              go_wp2_with (fail)
              refine (came_bad _ B P hb').mono ?_
              rintro e wY ⟨rfl, rfl⟩
              have aZ : AtS (wr.alloc (.cells #[.int .u8 4, .int .i64 n, .slice ia il ic] 39)) B s := (HAT.out.below ((Below.refl _ _).alloc (Nat.le_refl _) _))
              have y0 := (HK.out).inv.sz0
              have y1 := (HK.out).inv.sz1
              have q0 := decide_eq_false (show ¬ s.sz < 1200 by omega)
              have q1 := decide_eq_false (show ¬ 65527 < s.sz by omega)
              go_wp2_with (fail)
              refine (size_s _ B s _ rfl aZ).mono ?_
              rintro e wY ⟨rfl, rfl⟩
              go_wp2_with (fail)
              refine (size_s _ B s _ rfl aZ).mono ?_
              rintro e wY ⟨rfl, rfl⟩
              go_wp2_with (fail)
              go_roundw
              case rel => exact ⟨k + 1, T, P, s, by omega, by go_num, rfl, rfl, aZ, HK.out, (HON.out.trans ((Only.refl _ _).alloc _))⟩
              case measure => simp [intOf]; omega
          · have K2 := Lib.hid (HK.out.lost [P])
            go_wp2_with (fail)
            refine (lost_c _ B (wr.heap.size + 1) 0 1 s [P] (HAT.out.below (((Below.refl _ _).alloc (Nat.le_refl _) _).alloc (by simp) _)) HK.out.inv ⟨?_, ?_, ?_⟩ (by simp)).mono ?_
            · omega
            · simp
            · intro j hj
              have : j = 0 := by simpa using hj
              subst this
              simp [go_sem]
            rintro e wZ ⟨rfl, aZ, oZ⟩
            generalize (if okL [P] = true then (0 : Int) else 2) = er
            generalize hsZ : lostS s [P] = sZ at *
            have HSZ := Lib.hid hsZ
            clear hsZ
            have y0 := (K2.out).inv.sz0
            have y1 := (K2.out).inv.sz1
            have q0 := decide_eq_false (show ¬ sZ.sz < 1200 by omega)
            have q1 := decide_eq_false (show ¬ 65527 < sZ.sz by omega)
            go_wp2_with (fail)
            refine (size_s _ B sZ _ rfl aZ).mono ?_
            rintro e wY ⟨rfl, rfl⟩
            go_wp2_with (fail)
            refine (size_s _ B sZ _ rfl aZ).mono ?_
            rintro e wY ⟨rfl, rfl⟩
            go_wp2_with (fail)
            go_roundw
            case rel => exact ⟨k + 1, T, P, sZ, by omega, by go_num, rfl, rfl, aZ, K2.out, (HON.out.trans (((Only.refl _ _).alloc _).alloc _)).trans oZ⟩
            case measure => simp [intOf]; omega
          · have d0 : (kd == 0) = false := beq_eq_false_iff_ne.2 (by omega)
            have d1 : (kd == 1) = false := beq_eq_false_iff_ne.2 (by omega)
            have d2 : (kd == 2) = false := beq_eq_false_iff_ne.2 (by omega)
            have d3 : (kd == 3) = false := beq_eq_false_iff_ne.2 (by omega)
            have d4 : (kd == 4) = false := beq_eq_false_iff_ne.2 (by omega)
            have d5 : (kd == 5) = false := beq_eq_false_iff_ne.2 (by omega)
            go_wp2_with (fail)
            have aZ : AtS (wr.alloc (.cells #[.int .u8 kd, .int .i64 n, .slice ia il ic] 39)) B s := (HAT.out.below ((Below.refl _ _).alloc (Nat.le_refl _) _))
            have y0 := (HK.out).inv.sz0
            have y1 := (HK.out).inv.sz1
            have q0 := decide_eq_false (show ¬ s.sz < 1200 by omega)
            have q1 := decide_eq_false (show ¬ 65527 < s.sz by omega)
            go_wp2_with (fail)
            refine (size_s _ B s _ rfl aZ).mono ?_
            rintro e wY ⟨rfl, rfl⟩
            go_wp2_with (fail)
            refine (size_s _ B s _ rfl aZ).mono ?_
            rintro e wY ⟨rfl, rfl⟩
            go_wp2_with (fail)
            go_roundw
            case rel => exact ⟨k + 1, T, P, s, by omega, by go_num, rfl, rfl, aZ, HK.out, (HON.out.trans ((Only.refl _ _).alloc _))⟩
            case measure => simp [intOf]; omega
        · go_wp2_with (fail)
          refine (works_c _).mono ?_
          rintro e w3 ⟨rfl, b3⟩
          go_wp2_with (fail)
          go_ret
          refine ⟨rfl, ?_⟩
          rw [HB.out]
          exact (b1.trans (HON.out.below (Nat.le_refl _) hlb)).trans (b3.mono (by omega))
set_option maxHeartbeats 400000 in
theorem keeps_c (m : Int) (w : World) (a : Option Addr) (len cap : Nat) (h : DoRow w a len) :
    Calls Try.prog 5 #[.int .i64 m, .slice a len cap] w fun e w' => e = .returned (.bool true) ∧ Below w.heap.size w w' := by
  by_cases hm : 1200 ≤ m ∧ m ≤ 65527
  · exact keeps_loop m w a len cap h hm.1 hm.2
  · have hm' : m < 1200 ∨ 65527 < m := by omega
    clear hm h
    go_enter Try.func5, Try.ntmps5
    go_wp2_with (fail)
    refine (new_no m _ hm').mono ?_
    rintro e wY ⟨rfl, rfl⟩
    go_wp2_with (fail)
    refine (works_c _).mono ?_
    rintro e w3 ⟨rfl, b3⟩
    go_wp2_with (fail)
    go_ret
    exact ⟨rfl, b3⟩
end Go.Proofs.Ytnacedbhognpbaa
