/- The contracts of mtu's calls, of a search as one; that the document's small thing is done right. -/
import Derived.Test.YtnacedbhognpbaaLost
namespace Go.Proofs.Ytnacedbhognpbaa
set_option linter.unusedVariables false
open Go.RowKit
def probeS (s : St) : Int × Int × St := if 0 < s.pr ∨ s.bd - s.sz < 16 then (0, 6, s) else ((s.sz + s.bd + 1) / 2, 0, ⟨s.sz, s.bd, (s.sz + s.bd + 1) / 2, s.tr, s.bl⟩)
def cameS (s : St) (n : Int) : St := ⟨if s.sz < n then n else s.sz, if s.sz < n then (if s.bd < n then n else s.bd) else s.bd, if n = s.pr then 0 else s.pr, if s.sz < n then 0 else s.tr, if 1200 < n then 0 else s.bl⟩
def againS (s : St) (n : Int) : St := ⟨s.sz, if n < s.sz then s.sz else n, 0, 0, 0⟩
theorem Inv.first (m : Int) (h0 : 1200 ≤ m) (h1 : m ≤ 65527) : Inv ⟨1200, m, 0, 0, 0⟩ := by constructor <;> ((try dsimp only); omega)
theorem Inv.probe {s : St} (h : Inv s) : Inv (probeS s).2.2 := by
  obtain ⟨a1, a2, a3, a4, a5, a6, a7, a8, a9, a10⟩ := h
  unfold probeS
  split <;> constructor <;> ((try dsimp only); omega)
theorem Inv.came {s : St} (h : Inv s) (n : Int) (h0 : 1 ≤ n) (h1 : n ≤ 65527) : Inv (cameS s n) := by
  obtain ⟨a1, a2, a3, a4, a5, a6, a7, a8, a9, a10⟩ := h
  unfold cameS
  constructor <;> ((try dsimp only); (repeat' split) <;> omega)
theorem Inv.again {s : St} (h : Inv s) (n : Int) (h0 : 1200 ≤ n) (h1 : n ≤ 65527) : Inv (againS s n) := by
  obtain ⟨a1, a2, a3, a4, a5, a6, a7, a8, a9, a10⟩ := h
  unfold againS
  constructor <;> ((try dsimp only); (repeat' split) <;> omega)
theorem AtS.lt {w : World} {B : Nat} {s : St} (h : AtS w B s) : B < w.heap.size := by
  unfold AtS At at h
  exact blk_lt h
theorem AtS.new (w : World) (m : Int) : AtS (w.alloc (.cells #[.int .i64 1200, .int .i64 m, .int .i64 0, .int .i64 0, .int .i64 0] 43)) w.heap.size ⟨1200, m, 0, 0, 0⟩ := by
  unfold AtS At
  exact blk_new _ _
theorem AtS.below {w w' : World} {B : Nat} {s : St} (h : AtS w B s) (hb : Below w.heap.size w w') : AtS w' B s := by
  have hl := h.lt
  unfold AtS At at h ⊢
  rw [hb.block B hl]
  exact h
theorem AtS.drewN {w : World} {B : Nat} {s : St} (h : AtS w B s) (n : Nat) : AtS (w.drewN n) B s := At.drewN n h
theorem new_s (m : Int) (w : World) (h0 : 1200 ≤ m) (h1 : m ≤ 65527) :
    Calls Try.prog 8 #[.int .i64 m] w fun e w' => e = .returned (.tuple #[.pointer (some ⟨w.heap.size, 0, none⟩), .int .i64 0]) ∧ AtS w' w.heap.size ⟨1200, m, 0, 0, 0⟩ ∧ Below w.heap.size w w' := by
  refine (new_yes m w h0 h1).mono ?_
  rintro e w' ⟨rfl, rfl⟩
  exact ⟨rfl, AtS.new w m, (Below.refl _ _).alloc (Nat.le_refl _) _⟩
section
variable (w : World) (B : Nat) (s : St)
theorem size_s (r : Int) (hr : s.sz = r) (h : AtS w B s) : Calls Try.prog 11 #[.pointer (some ⟨B, 0, none⟩)] w fun e w' => e = .returned (.int .i64 r) ∧ w = w' := by
  subst hr
  exact size_c w B s.sz s.bd s.pr s.tr s.bl h
theorem done_s (b : Bool) (hb : decide (s.bd - s.sz < 16) = b) (h : AtS w B s) (hi : Inv s) : Calls Try.prog 10 #[.pointer (some ⟨B, 0, none⟩)] w fun e w' => e = .returned (.bool b) ∧ AtS w' B s ∧ Only B w w' := by
  subst hb
  obtain ⟨a1, a2, a3, a4, a5, a6, a7, a8, a9, a10⟩ := hi
  refine (done_c w B s.sz s.bd s.pr s.tr s.bl h (by omega) (by omega) (by omega) (by omega)).mono ?_
  rintro e w' ⟨rfl, n, rfl⟩
  exact ⟨rfl, AtS.drewN h n, (Only.refl _ _).drewN n⟩
theorem probe_s (p e1 : Int) (s' : St) (hp : probeS s = (p, e1, s')) (h : AtS w B s) (hi : Inv s) :
    Calls Try.prog 12 #[.pointer (some ⟨B, 0, none⟩)] w fun e w' => e = .returned (.tuple #[.int .i64 p, .int .i64 e1]) ∧ AtS w' B s' ∧ Only B w w' := by
  obtain ⟨a1, a2, a3, a4, a5, a6, a7, a8, a9, a10⟩ := hi
  unfold probeS at hp
  by_cases c : 0 < s.pr ∨ s.bd - s.sz < 16
  · rw [if_pos c] at hp
    simp only [Prod.mk.injEq] at hp
    obtain ⟨rfl, rfl, rfl⟩ := hp
    exact probe_no w B s.sz s.bd s.pr s.tr s.bl h (by omega) (by omega) (by omega) (by omega) c
  · rw [if_neg c] at hp
    simp only [Prod.mk.injEq] at hp
    obtain ⟨rfl, rfl, rfl⟩ := hp
    exact probe_yes w B s.sz s.bd s.pr s.tr s.bl h (by omega) (by omega) (by omega) (by omega) (by omega) (by omega)
theorem came_s (n : Int) (s' : St) (hs : cameS s n = s') (h : AtS w B s) (hi : Inv s) (g4 : 1 ≤ n) (g5 : n ≤ 65527) :
    Calls Try.prog 13 #[.pointer (some ⟨B, 0, none⟩), .int .i64 n] w fun e w' => e = .returned (.int .i64 0) ∧ AtS w' B s' ∧ Only B w w' := by
  subst hs
  obtain ⟨a1, a2, a3, a4, a5, a6, a7, a8, a9, a10⟩ := hi
  exact came_c w B s.sz s.bd s.pr s.tr s.bl n h (by omega) (by omega) (by omega) (by omega) g4 g5
theorem again_s (n : Int) (s' : St) (hs : againS s n = s') (h : AtS w B s) (hi : Inv s) (g4 : 1200 ≤ n) (g5 : n ≤ 65527) :
    Calls Try.prog 16 #[.pointer (some ⟨B, 0, none⟩), .int .i64 n] w fun e w' => e = .returned (.int .i64 0) ∧ AtS w' B s' ∧ Only B w w' := by
  subst hs
  obtain ⟨a1, a2, a3, a4, a5, a6, a7, a8, a9, a10⟩ := hi
  exact again_c w B s.sz s.bd s.pr s.tr s.bl n h (by omega) (by omega) g4 g5
end
/-- One that was lost, handed in as a row of one in a new block. -/
theorem lost_one (w : World) (B : Nat) (s : St) (n : Int) (s' : St) (hs : oneS s n = s') (h : AtS w B s) (hi : Inv s) (g4 : 1 ≤ n) (g5 : n ≤ 65527) (b : Nat) (hb : b < w.heap.size) (hne : b ≠ B) (hc : w.cell? ⟨b, 0, none⟩ = some (.int .i64 n)) :
    Calls Try.prog 15 #[.pointer (some ⟨B, 0, none⟩), .slice (some ⟨b, 0, none⟩) 1 1] w fun e w' => e = .returned (.int .i64 0) ∧ AtS w' B s' ∧ Only B w w' := by
  subst hs
  exact lost_ok w B b 0 1 s [n] h hi ⟨hne, hb, fun i hi => by
    have : i = 0 := by simpa using hi
    subst this; simpa using hc⟩ (fun m hm => by simp at hm; omega) (by simp)

set_option maxHeartbeats 1000000 in
theorem works_c (w : World) : Calls Try.prog 7 #[] w fun e w' => e = .returned (.bool true) ∧ Below w.heap.size w w' := by
  have i0 := Inv.first 1500 (by omega) (by omega)
  go_enter Try.func7, Try.ntmps7
  go_wp2_with (fail)
  refine (new_s 1500 _ (by omega) (by omega)).mono ?_
  rintro e w1 ⟨rfl, a1, b1⟩
  generalize hB : w.heap.size = B at *
  have HB := Lib.hid hB
  clear hB
  go_wp2_with (fail)
  refine (size_s _ B _ 1200 rfl a1).mono ?_
  rintro e w2 ⟨rfl, rfl⟩
  go_wp2_with (fail)
  refine (probe_s _ B _ 1350 0 ⟨1200, 1500, 1350, 0, 0⟩ rfl a1 i0).mono ?_
  rintro e w2 ⟨rfl, a2, b2⟩
  have i2 : Inv ⟨1200, 1500, 1350, 0, 0⟩ := i0.probe
  go_wp2_with (fail)
  refine (probe_s _ B _ 0 6 ⟨1200, 1500, 1350, 0, 0⟩ rfl a2 i2).mono ?_
  rintro e w3 ⟨rfl, a3, b3⟩
  go_wp2_with (fail)
  refine (came_s _ B _ 1350 ⟨1350, 1500, 0, 0, 0⟩ rfl a3 i2 (by omega) (by omega)).mono ?_
  rintro e w4 ⟨rfl, a4, b4⟩
  have i4 : Inv ⟨1350, 1500, 0, 0, 0⟩ := i2.came 1350 (by omega) (by omega)
  go_wp2_with (fail)
  refine (size_s _ B _ 1350 rfl a4).mono ?_
  rintro e w5 ⟨rfl, rfl⟩
  go_wp2_with (fail)
  refine (done_s _ B _ false rfl a4 i4).mono ?_
  rintro e w6 ⟨rfl, a6, b6⟩
  go_wp2_with (fail)
  go_ret
  have s1 := a1.lt
  refine ⟨rfl, ?_⟩
  rw [HB.out]
  exact b1.trans ((((b2.trans b3).trans b4).trans b6).below (Nat.le_refl _) (by omega))
end Go.Proofs.Ytnacedbhognpbaa
