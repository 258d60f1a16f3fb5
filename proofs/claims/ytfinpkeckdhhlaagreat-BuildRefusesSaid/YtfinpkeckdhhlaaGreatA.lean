/-
  The walks of build.May, build.Most, of the references' May and Most, and of what they call: each computes the plain function of its name.
-/
import Derived.Test.YtfinpkeckdhhlaaGreatRows
import Derived.Test.YtfinpkeckdhhlaaGreatPl
import Derived.WalkKit
import Derived.WalkSpells
import Derived.WalkLawsBesides
import Derived.Lib.Hide
namespace Go.Proofs.YtfinpkeckdhhlaaGreat
open Go.RowKit

theorem ret_i64 {a b : Int} (h : a = b) : Ending.returned (.int .i64 a) = .returned (.int .i64 b) := by rw [h]
theorem ret_bool {a b : Bool} (h : a = b) : Ending.returned (.bool a) = .returned (.bool b) := by rw [h]

set_option maxHeartbeats 400000 in
theorem dmay (b : Int) (w : World) :
    Calls Tryz.prog 30 #[.int .i64 b] w fun e w' => e = .returned (.bool (decide (128 ≤ b ∧ b ≤ 4096))) ∧ w = w' := by
  by_cases h1 : 128 ≤ b
  · by_cases h2 : b ≤ 4096
    · go_enter Tryz.func30, Tryz.ntmps30
      go_wp2
      go_ret
      exact ⟨ret_bool (by simp; omega), rfl⟩
    · go_enter Tryz.func30, Tryz.ntmps30
      go_wp2
      go_ret
      exact ⟨ret_bool (by simp; omega), rfl⟩
  · go_enter Tryz.func30, Tryz.ntmps30
    go_wp2
    go_ret
    exact ⟨ret_bool (by simp; omega), rfl⟩

set_option maxHeartbeats 400000 in
theorem dmost (b : Int) (w : World) :
    Calls Tryz.prog 14 #[.int .i64 b] w fun e w' => e = .returned (.int .i64 (Pl.dMost b)) ∧ w = w' := by
  by_cases h : 128 ≤ b ∧ b ≤ 4096
  · have h1 := h.1
    have h2 := h.2
    have hd : decide (128 ≤ b ∧ b ≤ 4096) = true := by simp [h]
    have hr : Pl.dMost b = b + 12 := by unfold Pl.dMost; rw [if_pos h]
    have HR := Lib.hid hr
    clear hr h
    go_enter Tryz.func14, Tryz.ntmps14
    go_wp2_with (go_at_call 30; refine (dmay _ _).mono ?_; rintro e w' ⟨rfl, rfl⟩)
    go_ret
    exact ⟨ret_i64 HR.out.symm, rfl⟩
  · have hd : decide (128 ≤ b ∧ b ≤ 4096) = false := by simp only [decide_eq_false_iff_not]; exact h
    have hr : Pl.dMost b = 0 := by unfold Pl.dMost; rw [if_neg h]
    have HR := Lib.hid hr
    clear hr h
    go_enter Tryz.func14, Tryz.ntmps14
    go_wp2_with (go_at_call 30; refine (dmay _ _).mono ?_; rintro e w' ⟨rfl, rfl⟩)
    go_ret
    exact ⟨ret_i64 HR.out.symm, rfl⟩

set_option maxHeartbeats 400000 in
theorem dblocks (n b : Int) (w : World) (hn : n ≤ 9223372036854775807) :
    Calls Tryz.prog 15 #[.int .i64 n, .int .i64 b] w fun e w' => e = .returned (.int .i64 (Pl.blocks n b)) ∧ w = w' := by
  by_cases h1 : n < 1
  · go_enter Tryz.func15, Tryz.ntmps15
    go_wp2
    go_ret
    exact ⟨ret_i64 (by unfold Pl.blocks; rw [if_pos (.inl h1)]), rfl⟩
  · by_cases h2 : b < 1
    · go_enter Tryz.func15, Tryz.ntmps15
      go_wp2
      go_ret
      exact ⟨ret_i64 (by unfold Pl.blocks; rw [if_pos (.inr h2)]), rfl⟩
    · have q0 : 0 ≤ (n - 1) / b := Int.ediv_nonneg (by omega) (by omega)
      have q1 : (n - 1) / b ≤ n - 1 := Int.ediv_le_self _ (by omega)
      have h1' : 1 ≤ n := by omega
      have h2' : 1 ≤ b := by omega
      go_enter Tryz.func15, Tryz.ntmps15
      go_wp2
      go_ret
      exact ⟨ret_i64 (by unfold Pl.blocks; rw [if_neg (by omega)]), rfl⟩

set_option maxHeartbeats 400000 in
theorem rblocks (n b : Int) (w : World) (hn : n ≤ 9223372036854775807) :
    Calls Tryz.prog 17 #[.int .i64 n, .int .i64 b] w fun e w' => e = .returned (.int .i64 (Pl.blocks n b)) ∧ w = w' := by
  by_cases h1 : n < 1
  · go_enter Tryz.func17, Tryz.ntmps17
    go_wp2
    go_ret
    exact ⟨ret_i64 (by unfold Pl.blocks; rw [if_pos (.inl h1)]), rfl⟩
  · by_cases h2 : b < 1
    · go_enter Tryz.func17, Tryz.ntmps17
      go_wp2
      go_ret
      exact ⟨ret_i64 (by unfold Pl.blocks; rw [if_pos (.inr h2)]), rfl⟩
    · have hr := Pl.blocks_ref n b (by omega) (by omega)
      have hle := Pl.blocks_le n b (by omega)
      have q0 : 0 ≤ n / b := Int.ediv_nonneg (by omega) (by omega)
      have q1 : n / b ≤ n := Int.ediv_le_self _ (by omega)
      have h1' : 1 ≤ n := by omega
      have h2' : 1 ≤ b := by omega
      by_cases h3 : 0 < n % b
      · rw [if_pos h3] at hr
        have q2 : n / b + 1 ≤ 9223372036854775807 := by omega
        have HR := Lib.hid hr
        clear hr hle
        go_enter Tryz.func17, Tryz.ntmps17
        go_wp2
        go_ret
        exact ⟨ret_i64 HR.out.symm, rfl⟩
      · rw [if_neg h3] at hr
        have HR := Lib.hid hr
        clear hr hle
        go_enter Tryz.func17, Tryz.ntmps17
        go_wp2
        go_ret
        exact ⟨ret_i64 (by rw [HR.out]; omega), rfl⟩

set_option maxHeartbeats 400000 in
theorem rlong (n : Int) (w : World) :
    Calls Tryz.prog 16 #[.int .i64 n] w fun e w' => e = .returned (.bool (Pl.long n)) ∧ w = w' := by
  by_cases h1 : n < 0
  · go_enter Tryz.func16, Tryz.ntmps16
    go_wp2
    go_ret
    exact ⟨ret_bool (by unfold Pl.long; simp; omega), rfl⟩
  · by_cases h2 : 2147483647 < n
    · go_enter Tryz.func16, Tryz.ntmps16
      go_wp2
      go_ret
      exact ⟨ret_bool (by unfold Pl.long; simp; omega), rfl⟩
    · go_enter Tryz.func16, Tryz.ntmps16
      go_wp2
      go_ret
      exact ⟨ret_bool (by unfold Pl.long; simp; omega), rfl⟩

end Go.Proofs.YtfinpkeckdhhlaaGreat
