/-
  The walks of build.Most and of the reference's Most: both compute Pl.most.
-/
import Derived.Test.YtfinpkeckdhhlaaGreatB
import Derived.Test.YtfinpkeckdhhlaaGreatShelf
namespace Go.Proofs.YtfinpkeckdhhlaaGreat
open Go.RowKit

theorem blocks_gt {n b : Int} (h : 1 < Pl.blocks n b) : Pl.steps (Pl.blocks n b) = (Lib.bitLen (Pl.blocks n b - 1).toNat : Int) := by unfold Pl.steps; rw [if_pos h]
theorem blocks_le1 {n b : Int} (h : ¬ 1 < Pl.blocks n b) : Pl.steps (Pl.blocks n b) = 0 := by unfold Pl.steps; rw [if_neg h]

set_option maxHeartbeats 1000000 in
theorem bmost (hd new b : Int) (w : World) :
    Calls Tryz.prog 7 #[.int .i64 hd, .int .i64 new, .int .i64 b] w fun e w' =>
      e = .returned (.int .i64 (Pl.most hd new b)) ∧ w = w' := by
  by_cases h4 : hd < 0
  · have HR := Lib.hid (Pl.most_0 (new := new) (b := b) (.inl (long_t (.inl h4))))
    go_enter Tryz.func7, Tryz.ntmps7
    go_wp2
    go_ret
    exact ⟨ret_i64 HR.out.symm, rfl⟩
  by_cases h5 : 2147483647 < hd
  · have HR := Lib.hid (Pl.most_0 (new := new) (b := b) (.inl (long_t (.inr h5))))
    go_enter Tryz.func7, Tryz.ntmps7
    go_wp2
    go_ret
    exact ⟨ret_i64 HR.out.symm, rfl⟩
  by_cases h6 : new < 0
  · have HR := Lib.hid (Pl.most_0 (header := hd) (b := b) (.inr (.inl (long_t (.inl h6)))))
    go_enter Tryz.func7, Tryz.ntmps7
    go_wp2
    go_ret
    exact ⟨ret_i64 HR.out.symm, rfl⟩
  by_cases h7 : 2147483647 < new
  · have HR := Lib.hid (Pl.most_0 (header := hd) (b := b) (.inr (.inl (long_t (.inr h7)))))
    go_enter Tryz.func7, Tryz.ntmps7
    go_wp2
    go_ret
    exact ⟨ret_i64 HR.out.symm, rfl⟩
  by_cases h3 : b < 128 ∨ 4096 < b
  · have HR := Lib.hid (Pl.most_0 (header := hd) (new := new) (.inr (.inr h3)))
    have hd' := dMost_bad h3
    clear h3
    go_enter Tryz.func7, Tryz.ntmps7
    go_wp2_with (go_at_call 14; refine (dmost _ _).mono ?_; rintro e w' ⟨rfl, rfl⟩)
    go_ret
    exact ⟨ret_i64 HR.out.symm, rfl⟩
  have hd' := dMost_good (b := b) (by omega) (by omega)
  have hr := Pl.most_n (header := hd) (new := new) (b := b) (by rw [long_f (by omega) (by omega), long_f (by omega) (by omega)]; simp; omega)
  have k1 := Pl.blocks_nonneg new b
  have k2 := Pl.blocks_small new b (by omega) (by omega) (by omega)
  have k3 := Pl.steps_nonneg (Pl.blocks new b)
  have k4 := Pl.steps_le (Pl.blocks new b) k2
  have k5 := Pl.sum_small _ _ k1 k2 k3 k4
  clear h3
  by_cases h8 : 1 < Pl.blocks new b
  · have hs := blocks_gt h8
    rw [hs] at hr k3 k4 k5
    generalize hL : (Lib.bitLen (Pl.blocks new b - 1).toNat : Int) = L at hr k3 k4 k5
    obtain ⟨k51, k52⟩ := k5
    have HR := Lib.hid hr
    have HL := Lib.hid hL
    clear hr hs hL
    go_enter Tryz.func7, Tryz.ntmps7
    go_wp2_with (first
      | (go_at_call 14; refine (dmost _ _).mono ?_; rintro e w' ⟨rfl, rfl⟩)
      | (go_at_call 15; refine (dblocks _ _ _ (by omega)).mono ?_; rintro e w' ⟨rfl, rfl⟩)
      | (go_at_call 18; refine (Tryz.bits_Len _ _ (by omega) (by omega)).mono ?_; rintro e w' ⟨rfl, rfl⟩; rw [HL.out]))
    go_ret
    exact ⟨ret_i64 HR.out.symm, rfl⟩
  · have hs := blocks_le1 h8
    rw [hs] at hr k5
    have HR := Lib.hid hr
    obtain ⟨k51, k52⟩ := k5
    clear hr hs
    go_enter Tryz.func7, Tryz.ntmps7
    go_wp2_with (first
      | (go_at_call 14; refine (dmost _ _).mono ?_; rintro e w' ⟨rfl, rfl⟩)
      | (go_at_call 15; refine (dblocks _ _ _ (by omega)).mono ?_; rintro e w' ⟨rfl, rfl⟩))
    go_ret
    exact ⟨ret_i64 (by rw [HR.out]; omega), rfl⟩

end Go.Proofs.YtfinpkeckdhhlaaGreat
