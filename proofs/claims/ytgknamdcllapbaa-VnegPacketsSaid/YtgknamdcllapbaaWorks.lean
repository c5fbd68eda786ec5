/- The document's examples. -/
import Derived.Test.YtgknamdcllapbaaPut
namespace Go.Proofs.Ytgknamdcllapbaa
set_option linter.unusedVariables false
set_option linter.unusedSimpArgs false
open Go.RowKit
theorem nextB' {w w1 w2 : World} (h : Below w.heap.size w w1) (k : Below w1.heap.size w1 w2) : Below w.heap.size w w2 := nextB h k
theorem packet_byte {dst src vs : List Int} (hd : ∀ x ∈ dst, 0 ≤ x ∧ x ≤ 255) (hs : ∀ x ∈ src, 0 ≤ x ∧ x ≤ 255) (h2 : dst.length ≤ 255) (h3 : src.length ≤ 255) : ∀ x ∈ packet dst src vs, 0 ≤ x ∧ x ≤ 255 := by
  intro x hx
  rcases List.mem_append.1 hx with h | h
  · exact begins_byte (by omega) (by omega) hd hs h2 h3 x h
  · exact fours_byte vs x h
theorem row_byte {w : World} {A : Option Addr} {n : Nat} {zs : List Int} (h : IntRow .u8 w A n zs) : ∀ x ∈ zs, 0 ≤ x ∧ x ≤ 255 := by
  intro x hx
  rcases h.2 with h0 | ⟨_, _, _, _, hc⟩
  · have : zs = [] := List.eq_nil_of_length_eq_zero (by rw [h.1]; exact h0)
    rw [this] at hx; cases hx
  · obtain ⟨j, hj, rfl⟩ := List.getElem_of_mem hx
    have := bd8 (hc j (by rw [← h.1]; exact hj)).2
    rw [List.getD_eq_getElem?_getD, List.getElem?_eq_getElem hj] at this
    simpa using this
theorem row_u32 {w : World} {A : Option Addr} {n : Nat} {zs : List Int} (h : IntRow .u32 w A n zs) : ∀ x ∈ zs, 0 ≤ x ∧ x ≤ 4294967295 := by
  intro x hx
  rcases h.2 with h0 | ⟨_, _, _, _, hc⟩
  · have : zs = [] := List.eq_nil_of_length_eq_zero (by rw [h.1]; exact h0)
    rw [this] at hx; cases hx
  · obtain ⟨j, hj, rfl⟩ := List.getElem_of_mem hx
    have := bd32 (hc j (by rw [← h.1]; exact hj)).2
    rw [List.getD_eq_getElem?_getD, List.getElem?_eq_getElem hj] at this
    simpa using this
theorem Made.rv {w w' : World} {zs : List Int} {V : Value} (h : Made w zs V w') (hz : ∀ x ∈ zs, 0 ≤ x ∧ x ≤ 255) : RV .u8 w' V zs := own_row h.1 (fun x hx => wf8 (hz x hx).1 (hz x hx).2)
set_option maxHeartbeats 4000000 in
theorem works_c (w : World) : Calls Try.prog 8 #[] w fun e w' => e = .returned (.bool true) ∧ Below w.heap.size w w' := by
  have hu32 := Try.underlying32
  have one5 : ∀ (k : IntKind) (x y : Int), (Lit.int k x).wf = true → y ∈ [x] → (Lit.int k y).wf = true := fun k x y h hy => by simp at hy; subst hy; exact h
  go_enter Try.func8, Try.ntmps8
  go_wp2_with (fail)
  have cc := choose_c [5, 1] [1, 5, 9] (some ⟨w.heap.size, 0, none⟩) 2 2 (some ⟨w.heap.size + 1, 0, none⟩) 3 3 ((w.alloc (.cells #[.int .u32 5, .int .u32 1] 23)).alloc (.cells #[.int .u32 1, .int .u32 5, .int .u32 9] 23)) (row_block (blk_alloc _ (blk_new w _)) rfl (fun y hy => by simp at hy; exact wf32 (by omega) (by omega)) 2 rfl) (by omega) (row_block (by simpa using blk_new (w.alloc _) _) rfl (fun y hy => by simp at hy; exact wf32 (by omega) (by omega)) 3 rfl) (by omega)
  rw [show pick [1, 5, 9] [5, 1] = (5, true) from by decide +kernel] at cc
  refine cc.mono ?_
  rintro e w1 ⟨rfl, rfl⟩
  clear cc
  obtain ⟨w2, hw2⟩ : ∃ w2 : World, (w.alloc (.cells #[.int .u32 5, .int .u32 1] 23)).alloc (.cells #[.int .u32 1, .int .u32 5, .int .u32 9] 23) = w2 := ⟨_, rfl⟩
  have B2 : Hid (Below w.heap.size w w2) := Lib.hid (by rw [← hw2]; exact ((Below.refl _ _).alloc (Nat.le_refl _) _).alloc (by simp) _)
  rw [hw2]
  clear hw2
  go_wp2_with (fail)
  have pc := put_ok (some ⟨w2.heap.size, 0, none⟩) 1 1 [7] none 0 0 [] (some ⟨w2.heap.size + 1, 0, none⟩) 1 1 [1] ((w2.alloc (.cells #[.int .u8 7] 5)).alloc (.cells #[.int .u32 1] 23)) (row_block (blk_alloc _ (blk_new w2 _)) rfl (fun y hy => by simp at hy; exact wf8 (by omega) (by omega)) 1 rfl) (fun h => by cases h) (by omega) ⟨rfl, .inl rfl⟩ (fun _ => ⟨rfl, rfl⟩) (by omega) (row_block (by simpa using blk_new (w2.alloc _) _) rfl (fun y hy => by simp at hy; exact wf32 (by omega) (by omega)) 1 rfl) (by omega) (by omega)
  refine pc.mono ?_
  rintro e w3 ⟨V, rfl, hm⟩
  clear pc
  obtain ⟨A, n, c, rfl, _, _, _, hr⟩ := hm.rv (packet_byte (fun x hx => by simp at hx; omega) (fun x hx => by cases hx) (by simp) (by simp))
  have B3 : Hid (Below w.heap.size w w3) := Lib.hid (nextB B2.out (nextB (((Below.refl w2.heap.size w2).alloc (Nat.le_refl _) _).alloc (by simp) _) hm.2))
  have cv := conv_row c hr
  rw [show packet [7] [] [1] = [192, 0, 0, 0, 0, 1, 7, 0, 0, 0, 0, 1] from by decide +kernel] at cv
  have hs : strOfNums [192, 0, 0, 0, 0, 1, 7, 0, 0, 0, 0, 1] = ⟨#[192, 0, 0, 0, 0, 1, 7, 0, 0, 0, 0, 1]⟩ := rfl
  rw [hs] at cv
  clear hm hr hs
  go_wp2_with (fail)
  have r1 := reserved_i 438975050 w3 (by omega) (by omega)
  rw [show res 438975050 = true from by decide +kernel] at r1
  refine r1.mono ?_
  rintro e w4 ⟨rfl, rfl⟩
  go_wp2_with (fail)
  have r2 := reserved_i 1 w3 (by omega) (by omega)
  rw [show res 1 = false from by decide +kernel] at r2
  refine r2.mono ?_
  rintro e w4 ⟨rfl, rfl⟩
  go_wp2_with (fail)
  go_ret
  exact ⟨by simp, B3.out⟩
end Go.Proofs.Ytgknamdcllapbaa
