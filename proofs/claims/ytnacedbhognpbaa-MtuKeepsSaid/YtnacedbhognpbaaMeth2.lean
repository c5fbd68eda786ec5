/- The walks of mtu's calls of a search: Again, what is lost. -/
import Derived.Test.YtnacedbhognpbaaMeth
import Derived.LoopTactic
import Derived.OwnWalk
namespace Go.Proofs.Ytnacedbhognpbaa
set_option linter.unusedVariables false
open Go.RowKit
section
variable (w : World) (B : Nat) (sz bd pr tr bl : Int)
set_option maxHeartbeats 400000 in
theorem again_nil (n : Int) :
    Calls Try.prog 16 #[.pointer none, .int .i64 n] w fun e w' => e = .returned (.int .i64 1) ∧ w = w' := by
  go_enter Try.func16, Try.ntmps16
  go_wp2
  go_ret
  exact ⟨rfl, rfl⟩
set_option maxHeartbeats 400000 in
theorem again_bad (n : Int) (h : n < 1200 ∨ 65527 < n) :
    Calls Try.prog 16 #[.pointer (some ⟨B, 0, none⟩), .int .i64 n] w fun e w' => e = .returned (.int .i64 2) ∧ w = w' := by
  by_cases h' : n < 1200
  · go_enter Try.func16, Try.ntmps16
    go_wp2
    go_ret
    exact ⟨rfl, rfl⟩
  · have hd : decide (n ≤ 65527) = false := by simp; omega
    go_enter Try.func16, Try.ntmps16
    go_wp2
    go_ret
    exact ⟨rfl, rfl⟩
set_option maxHeartbeats 1000000 in
theorem again_c (n : Int) (h : At w B sz bd pr tr bl) (g0 : 0 ≤ sz) (g1 : sz ≤ 65527) (g4 : 1200 ≤ n) (g5 : n ≤ 65527) :
    Calls Try.prog 16 #[.pointer (some ⟨B, 0, none⟩), .int .i64 n] w fun e w' => e = .returned (.int .i64 0) ∧
      At w' B sz (if n < sz then sz else n) 0 0 0 ∧ Only B w w' := by
  have c0 := h.c0
  have c1 := h.c1
  have c2 := h.c2
  have c3 := h.c3
  have c4 := h.c4
  have f0 := h.f0
  have f1 := h.f1
  have f2 := h.f2
  have f3 := h.f3
  have f4 := h.f4
  by_cases c : n < sz
  · rw [if_pos c]
    go_enter Try.func16, Try.ntmps16
    go_wp2
    go_region
    go_wp2
    go_ret
    exact ⟨rfl, (by repeat (first | (with_reducible exact h) | with_reducible apply At.s0 | with_reducible apply At.s1 | with_reducible apply At.s2 | with_reducible apply At.s3 | with_reducible apply At.s4 | with_reducible apply At.drewN | with_reducible apply At.drew)), (by repeat (first | with_reducible exact Only.refl _ _ | with_reducible refine Only.set ?_ _ _ | with_reducible refine Only.drewN ?_ _ | with_reducible refine Only.drew ?_))⟩
  · rw [if_neg c]
    go_enter Try.func16, Try.ntmps16
    go_wp2
    go_region
    go_wp2
    go_ret
    exact ⟨rfl, (by repeat (first | (with_reducible exact h) | with_reducible apply At.s0 | with_reducible apply At.s1 | with_reducible apply At.s2 | with_reducible apply At.s3 | with_reducible apply At.s4 | with_reducible apply At.drewN | with_reducible apply At.drew)), (by repeat (first | with_reducible exact Only.refl _ _ | with_reducible refine Only.set ?_ _ _ | with_reducible refine Only.drewN ?_ _ | with_reducible refine Only.drew ?_))⟩
end
/-- Search's five fields, as one. -/
structure St where
  sz : Int
  bd : Int
  pr : Int
  tr : Int
  bl : Int
def AtS (w : World) (B : Nat) (s : St) : Prop := At w B s.sz s.bd s.pr s.tr s.bl
/-- What its fields keep. -/
structure Inv (s : St) : Prop where
  sz0 : 1200 ≤ s.sz
  sz1 : s.sz ≤ 65527
  bd0 : 1200 ≤ s.bd
  bd1 : s.bd ≤ 65527
  pr0 : s.pr = 0 ∨ 1200 < s.pr
  pr1 : s.pr ≤ 65527
  tr0 : 0 ≤ s.tr
  tr1 : s.tr ≤ 2
  bl0 : 0 ≤ s.bl
  bl1 : s.bl ≤ 5
/-- One that was lost. -/
def oneS (s : St) (n : Int) : St :=
  if n = s.pr then (if s.tr = 2 then ⟨s.sz, n - 1, 0, 0, s.bl⟩ else ⟨s.sz, s.bd, 0, s.tr + 1, s.bl⟩)
  else if n ≤ 1200 ∨ s.sz < n then s
  else if s.bl = 5 then ⟨1200, n - 1, 0, 0, 0⟩ else ⟨s.sz, s.bd, s.pr, s.tr, s.bl + 1⟩
theorem Inv.one {s : St} (h : Inv s) (n : Int) (h0 : 1 ≤ n) (h1 : n ≤ 65527) : Inv (oneS s n) := by
  obtain ⟨a1, a2, a3, a4, a5, a6, a7, a8, a9, a10⟩ := h
  unfold oneS
  split
  · split <;> constructor <;> ((try dsimp only); omega)
  · split
    · constructor <;> ((try dsimp only); omega)
    · split <;> constructor <;> ((try dsimp only); omega)
set_option maxHeartbeats 2000000 in
theorem one_c (w : World) (B : Nat) (s : St) (n : Int) (h : AtS w B s) (hi : Inv s) (g0 : 1 ≤ n) (g1 : n ≤ 65527) :
    Calls Try.prog 19 #[.pointer (some ⟨B, 0, none⟩), .int .i64 n] w fun e w' => e = .returned (.tuple #[]) ∧ AtS w' B (oneS s n) ∧ Only B w w' := by
  obtain ⟨sz, bd, pr, tr, bl⟩ := s
  obtain ⟨a1, a2, a3, a4, a5, a6, a7, a8, a9, a10⟩ := hi
  unfold AtS at h
  dsimp only at h a1 a2 a3 a4 a5 a6 a7 a8 a9 a10
  unfold AtS oneS
  dsimp only
  have c0 := h.c0
  have c1 := h.c1
  have c2 := h.c2
  have c3 := h.c3
  have c4 := h.c4
  have f0 := h.f0
  have f1 := h.f1
  have f2 := h.f2
  have f3 := h.f3
  have f4 := h.f4
  by_cases b : n = pr
  · rw [if_pos b]
    have b' : (n == pr) = true := by simpa using b
    clear b
    by_cases c : tr = 2
    · rw [if_pos c]
      subst c
      go_enter Try.func19, Try.ntmps19
      go_wp2
      first | go_end0 | ((try simp only [Exit.inBlock, Exit.then]); refine bodyPost_ret (results_none rfl _ _ _) rfl ?_)
      exact ⟨rfl, (by repeat (first | (with_reducible exact h) | with_reducible apply At.s0 | with_reducible apply At.s1 | with_reducible apply At.s2 | with_reducible apply At.s3 | with_reducible apply At.s4 | with_reducible apply At.drewN | with_reducible apply At.drew)), (by repeat (first | with_reducible exact Only.refl _ _ | with_reducible refine Only.set ?_ _ _ | with_reducible refine Only.drewN ?_ _ | with_reducible refine Only.drew ?_))⟩
    · rw [if_neg c]
      have c' : (tr + 1 == 3) = false := by simp; omega
      clear c
      go_enter Try.func19, Try.ntmps19
      go_wp2
      first | go_end0 | ((try simp only [Exit.inBlock, Exit.then]); refine bodyPost_ret (results_none rfl _ _ _) rfl ?_)
      exact ⟨rfl, (by repeat (first | (with_reducible exact h) | with_reducible apply At.s0 | with_reducible apply At.s1 | with_reducible apply At.s2 | with_reducible apply At.s3 | with_reducible apply At.s4 | with_reducible apply At.drewN | with_reducible apply At.drew)), (by repeat (first | with_reducible exact Only.refl _ _ | with_reducible refine Only.set ?_ _ _ | with_reducible refine Only.drewN ?_ _ | with_reducible refine Only.drew ?_))⟩
  · rw [if_neg b]
    have b' : (n == pr) = false := by simpa using b
    clear b
    by_cases c : n ≤ 1200
    · rw [if_pos (.inl c)]
      go_enter Try.func19, Try.ntmps19
      go_wp2
      first | go_end0 | ((try simp only [Exit.inBlock, Exit.then]); refine bodyPost_ret (results_none rfl _ _ _) rfl ?_)
      exact ⟨rfl, (by repeat (first | (with_reducible exact h) | with_reducible apply At.s0 | with_reducible apply At.s1 | with_reducible apply At.s2 | with_reducible apply At.s3 | with_reducible apply At.s4 | with_reducible apply At.drewN | with_reducible apply At.drew)), (by repeat (first | with_reducible exact Only.refl _ _ | with_reducible refine Only.set ?_ _ _ | with_reducible refine Only.drewN ?_ _ | with_reducible refine Only.drew ?_))⟩
    · by_cases d : sz < n
      · rw [if_pos (.inr d)]
        go_enter Try.func19, Try.ntmps19
        go_wp2
        first | go_end0 | ((try simp only [Exit.inBlock, Exit.then]); refine bodyPost_ret (results_none rfl _ _ _) rfl ?_)
        exact ⟨rfl, (by repeat (first | (with_reducible exact h) | with_reducible apply At.s0 | with_reducible apply At.s1 | with_reducible apply At.s2 | with_reducible apply At.s3 | with_reducible apply At.s4 | with_reducible apply At.drewN | with_reducible apply At.drew)), (by repeat (first | with_reducible exact Only.refl _ _ | with_reducible refine Only.set ?_ _ _ | with_reducible refine Only.drewN ?_ _ | with_reducible refine Only.drew ?_))⟩
      · rw [if_neg (by omega)]
        by_cases f : bl = 5
        · rw [if_pos f]
          subst f
          go_enter Try.func19, Try.ntmps19
          go_wp2
          first | go_end0 | ((try simp only [Exit.inBlock, Exit.then]); refine bodyPost_ret (results_none rfl _ _ _) rfl ?_)
          exact ⟨rfl, (by repeat (first | (with_reducible exact h) | with_reducible apply At.s0 | with_reducible apply At.s1 | with_reducible apply At.s2 | with_reducible apply At.s3 | with_reducible apply At.s4 | with_reducible apply At.drewN | with_reducible apply At.drew)), (by repeat (first | with_reducible exact Only.refl _ _ | with_reducible refine Only.set ?_ _ _ | with_reducible refine Only.drewN ?_ _ | with_reducible refine Only.drew ?_))⟩
        · rw [if_neg f]
          have f' : (bl + 1 == 6) = false := by simp; omega
          clear f
          go_enter Try.func19, Try.ntmps19
          go_wp2
          first | go_end0 | ((try simp only [Exit.inBlock, Exit.then]); refine bodyPost_ret (results_none rfl _ _ _) rfl ?_)
          exact ⟨rfl, (by repeat (first | (with_reducible exact h) | with_reducible apply At.s0 | with_reducible apply At.s1 | with_reducible apply At.s2 | with_reducible apply At.s3 | with_reducible apply At.s4 | with_reducible apply At.drewN | with_reducible apply At.drew)), (by repeat (first | with_reducible exact Only.refl _ _ | with_reducible refine Only.set ?_ _ _ | with_reducible refine Only.drewN ?_ _ | with_reducible refine Only.drew ?_))⟩
end Go.Proofs.Ytnacedbhognpbaa
