/- A search on a path with a limit: it ends, and what it knows then goes. -/
import Derived.Test.YtnacedbhognpbaaSt
namespace Go.Proofs.Ytnacedbhognpbaa
set_option linter.unusedVariables false
open Go.RowKit
/-- How often a gap is halved until it is below Step. -/
def halves : Nat → Nat → Nat
  | 0, _ => 0
  | f + 1, g => if g < 16 then 0 else halves f (g / 2) + 1
theorem halves_zero (f g : Nat) (h : g < 16) : halves f g = 0 := by
  cases f with
  | zero => rfl
  | succ f => unfold halves; rw [if_pos h]
theorem halves_mono (f : Nat) : ∀ (g g' : Nat), g ≤ g' → halves f g ≤ halves f g' := by
  induction f with
  | zero => intro g g' _; exact Nat.le_refl _
  | succ f ih =>
    intro g g' h
    unfold halves
    by_cases a : g < 16
    · rw [if_pos a]; omega
    · rw [if_neg a, if_neg (by omega)]
      have := ih (g / 2) (g' / 2) (by omega)
      omega
/-- One round more where it is not below Step. -/
theorem halves_step (f g g' : Nat) (h : 16 ≤ g) (h' : g' ≤ g / 2) : halves f g' + 1 ≤ halves (f + 1) g := by
  have := halves_mono f g' (g / 2) h'
  show _ ≤ (if g < 16 then 0 else halves f (g / 2) + 1)
  rw [if_neg (by omega)]
  omega
theorem halves_fuel (f : Nat) : ∀ g, g < 16 * 2 ^ f → halves (f + 1) g = halves f g := by
  induction f with
  | zero => intro g h; unfold halves; rw [if_pos (by omega)]
  | succ f ih =>
    intro g h
    show (if g < 16 then 0 else halves (f + 1) (g / 2) + 1) = (if g < 16 then 0 else halves f (g / 2) + 1)
    rw [ih (g / 2) (by rw [Nat.pow_succ] at h; omega)]
/-- How many halvings a state has before it. -/
def left (s : St) : Nat := halves 12 (s.bd - s.sz).toNat
theorem left_le (s : St) (h : Inv s) : left s ≤ 12 := by
  have e : ∀ f g, halves f g ≤ f := by
    intro f
    induction f with
    | zero => intro g; exact Nat.le_refl _
    | succ f ih => intro g; unfold halves; split
                   · omega
                   · have := ih (g / 2); omega
  exact e 12 _
theorem left_step (s s' : St) (h : Inv s) (hg : 16 ≤ s.bd - s.sz) (h' : s'.bd - s'.sz ≤ (s.bd - s.sz) / 2) : left s' + 1 ≤ left s := by
  obtain ⟨a1, a2, a3, a4, a5, a6, a7, a8, a9, a10⟩ := h
  unfold left
  have h1 := halves_step 12 (s.bd - s.sz).toNat (s'.bd - s'.sz).toNat (by omega) (by omega)
  have h2 := halves_fuel 12 (s.bd - s.sz).toNat (by omega)
  omega

/-- What holds of a search at each round. -/
structure Going (s0 : St) (limit : Int) (s : St) (n : Nat) : Prop where
  inv : Inv s
  none : s.pr = 0
  ord : s.sz ≤ s.bd
  up : s0.sz ≤ s.sz
  goes : s0.sz ≤ limit → s.sz ≤ limit
  top : s.bd ≤ s0.bd
  low : limit ≤ s0.bd → limit ≤ s.bd
  low2 : s0.bd < limit → s.bd = s0.bd
  white : s0.bl = 0 → s.bl = 0
  few : (n : Int) + 3 * (left s : Int) - s.tr ≤ 36
theorem Going.start (s : St) (limit : Int) (h : Inv s) (h1 : s.pr = 0) (h2 : s.sz ≤ s.bd) : Going s limit s 0 :=
  ⟨h, h1, h2, Int.le_refl _, id, Int.le_refl _, id, fun _ => rfl, id, by have := left_le s h; have := h.tr0; omega⟩
theorem Going.probed {s0 s : St} {limit : Int} {n : Nat} (h : Going s0 limit s n) (hd : 16 ≤ s.bd - s.sz) :
    probeS s = ((s.sz + s.bd + 1) / 2, 0, ⟨s.sz, s.bd, (s.sz + s.bd + 1) / 2, s.tr, s.bl⟩) := by
  unfold probeS
  rw [if_neg]
  have := h.none
  omega
theorem Going.ended {s0 s : St} {limit : Int} {n : Nat} (h : Going s0 limit s n) (hd : s.bd - s.sz < 16) : probeS s = (0, 6, s) := by
  unfold probeS
  rw [if_pos (.inr hd)]
theorem Going.few_n {s0 s : St} {limit : Int} {n : Nat} (h : Going s0 limit s n) (hd : 16 ≤ s.bd - s.sz) : n < 36 := by
  have h1 := h.few
  have h2 := h.inv.tr1
  have h3 := left_step s s h.inv hd
  have h4 : 1 ≤ left s := by
    unfold left
    show 1 ≤ (if (s.bd - s.sz).toNat < 16 then 0 else halves 11 ((s.bd - s.sz).toNat / 2) + 1)
    rw [if_neg (by omega)]
    omega
  omega
theorem Going.came {s0 s : St} {limit : Int} {n : Nat} (h : Going s0 limit s n) (hd : 16 ≤ s.bd - s.sz) (hp : (s.sz + s.bd + 1) / 2 ≤ limit) :
    Going s0 limit (cameS ⟨s.sz, s.bd, (s.sz + s.bd + 1) / 2, s.tr, s.bl⟩ ((s.sz + s.bd + 1) / 2)) (n + 1) := by
  obtain ⟨b1, b2, b3, b4, b5, b6, b7, b8, b9, b10⟩ := h
  have c1 := b1
  obtain ⟨a1, a2, a3, a4, a5, a6, a7, a8, a9, a10⟩ := b1
  generalize hq : (s.sz + s.bd + 1) / 2 = q at *
  have e : cameS ⟨s.sz, s.bd, q, s.tr, s.bl⟩ q = ⟨q, s.bd, 0, 0, 0⟩ := by
    unfold cameS
    dsimp only
    rw [if_pos (by omega), if_pos (by omega), if_neg (by omega), if_pos rfl, if_pos (by omega), if_pos (by omega)]
  rw [e]
  have hl := left_step s ⟨q, s.bd, 0, 0, 0⟩ c1 hd (by dsimp only; omega)
  exact ⟨⟨by dsimp only; omega, by dsimp only; omega, a3, a4, .inl rfl, by dsimp only; omega, by dsimp only; omega, by dsimp only; omega, by dsimp only; omega, by dsimp only; omega⟩, rfl, by dsimp only; omega, by dsimp only; omega, fun _ => hp, b6, b7, b8, fun _ => rfl, by dsimp only; omega⟩
theorem Going.lost {s0 s : St} {limit : Int} {n : Nat} (h : Going s0 limit s n) (hd : 16 ≤ s.bd - s.sz) (hp : limit < (s.sz + s.bd + 1) / 2) :
    Going s0 limit (oneS ⟨s.sz, s.bd, (s.sz + s.bd + 1) / 2, s.tr, s.bl⟩ ((s.sz + s.bd + 1) / 2)) (n + 1) := by
  obtain ⟨b1, b2, b3, b4, b5, b6, b7, b8, b9, b10⟩ := h
  have c1 := b1
  obtain ⟨a1, a2, a3, a4, a5, a6, a7, a8, a9, a10⟩ := b1
  generalize hq : (s.sz + s.bd + 1) / 2 = q at *
  unfold oneS
  dsimp only
  rw [if_pos rfl]
  by_cases c : s.tr = 2
  · rw [if_pos c]
    have hl := left_step s ⟨s.sz, q - 1, 0, 0, s.bl⟩ c1 hd (by dsimp only; omega)
    exact ⟨⟨a1, a2, by dsimp only; omega, by dsimp only; omega, .inl rfl, by dsimp only; omega, by dsimp only; omega, by dsimp only; omega, a9, a10⟩, rfl, by dsimp only; omega, b4, b5, by dsimp only; omega, fun _ => by dsimp only; omega, fun hh => by dsimp only; omega, b9, by dsimp only; omega⟩
  · rw [if_neg c]
    have hl : left ⟨s.sz, s.bd, 0, s.tr + 1, s.bl⟩ = left s := rfl
    exact ⟨⟨a1, a2, a3, a4, .inl rfl, by dsimp only; omega, by dsimp only; omega, by dsimp only; omega, a9, a10⟩, rfl, b3, b4, b5, b6, b7, b8, b9, by rw [hl]; dsimp only; omega⟩

set_option maxHeartbeats 1000000 in
theorem search_c (w : World) (B : Nat) (s0 : St) (limit : Int) (h : AtS w B s0) (hi : Inv s0) (h1 : s0.pr = 0) (h2 : s0.sz ≤ s0.bd) (h3 : -9223372036854775808 ≤ limit) (h4 : limit ≤ 9223372036854775807) :
    Calls Try.prog 9 #[.pointer (some ⟨B, 0, none⟩), .int .i64 limit] w fun e w' => ∃ (n : Nat) (s : St), e = .returned (.int .i64 n) ∧ AtS w' B s ∧ Going s0 limit s n ∧ s.bd - s.sz < 16 ∧ Only B w w' := by
  have H := Lib.hid h
  have HG := Lib.hid (Going.start s0 limit hi h1 h2)
  clear h hi h1 h2
  go_enter Try.func9, Try.ntmps9
  go_wp2_with (fail)
  go_loopw [5] (fun i wr => ∃ (n : Nat) (s : St), i = .int .i64 n ∧ AtS wr B s ∧ Going s0 limit s n ∧ Only B w wr) (fun i _ => 41 - (intOf i).toNat)
  case atStart => exact ⟨0, s0, rfl, H.out, HG.out, Only.refl _ _⟩
  case round =>
    obtain ⟨n, s, rfl, hat, hgo, hon⟩ := hrel
    have HAT := Lib.hid hat
    have HGO := Lib.hid hgo
    have HON := Lib.hid hon
    clear hat hgo hon
    by_cases hd : s.bd - s.sz < 16
    · have hn : n ≤ 38 := by
        have := HGO.out.few
        have := HGO.out.inv.tr1
        have : left s = 0 := halves_zero _ _ (by omega)
        omega
      go_wp2_with (fail)
      refine (probe_s _ B s 0 6 s (HGO.out.ended hd) HAT.out HGO.out.inv).mono ?_
      rintro e w1 ⟨rfl, a1, b1⟩
      go_wp2_with (fail)
      go_ret
      exact ⟨n, s, rfl, a1, HGO.out, hd, HON.out.trans b1⟩
    · have hn := HGO.out.few_n (by omega)
      have HP := Lib.hid (HGO.out.probed (by omega))
      have hpi := HGO.out.inv.probe
      rw [HP.out] at hpi
      have HPI := Lib.hid hpi
      have hr : 1 ≤ (s.sz + s.bd + 1) / 2 ∧ (s.sz + s.bd + 1) / 2 ≤ 65527 := by
        have := HGO.out.inv.sz0
        have := HGO.out.inv.sz1
        have := HGO.out.inv.bd0
        have := HGO.out.inv.bd1
        omega
      by_cases hc : (s.sz + s.bd + 1) / 2 ≤ limit
      · have HN := Lib.hid (HGO.out.came (by omega) hc)
        clear hpi
        generalize hq : (s.sz + s.bd + 1) / 2 = q at *
        clear hq
        obtain ⟨hr0, hr1⟩ := hr
        go_wp2_with (fail)
        refine (probe_s _ B s q 0 _ HP.out HAT.out HGO.out.inv).mono ?_
        rintro e w1 ⟨rfl, a1, b1⟩
        go_wp2_with (fail)
        refine (came_s _ B _ q _ rfl a1 HPI.out hr0 hr1).mono ?_
        rintro e w2 ⟨rfl, a2, b2⟩
        go_wp2_with (fail)
        go_roundw
        case rel => exact ⟨n + 1, _, by go_num, a2, HN.out, (HON.out.trans b1).trans b2⟩
        case measure => simp [intOf]; omega
      · have HN := Lib.hid (HGO.out.lost (by omega) (by omega))
        clear hpi
        generalize hq : (s.sz + s.bd + 1) / 2 = q at *
        clear hq
        obtain ⟨hr0, hr1⟩ := hr
        go_wp2_with (fail)
        refine (probe_s _ B s q 0 _ HP.out HAT.out HGO.out.inv).mono ?_
        rintro e w1 ⟨rfl, a1, b1⟩
        have hl := a1.lt
        go_wp2_with (fail)
        refine (lost_one _ B _ q _ rfl (a1.below ((Below.refl _ _).alloc (Nat.le_refl _) _)) HPI.out hr0 hr1 w1.heap.size (by simp) (by omega) (by simp [go_sem])).mono ?_
        rintro e w2 ⟨rfl, a2, b2⟩
        go_wp2_with (fail)
        go_roundw
        case rel => exact ⟨n + 1, _, by go_num, a2, HN.out, ((HON.out.trans b1).trans ((Only.refl _ _).alloc _)).trans b2⟩
        case measure => simp [intOf]; omega
end Go.Proofs.Ytnacedbhognpbaa
