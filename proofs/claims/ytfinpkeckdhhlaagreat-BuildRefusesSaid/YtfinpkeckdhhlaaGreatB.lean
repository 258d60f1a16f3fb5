/-
  The walks of build.May and of the reference's May: both compute Pl.may.
-/
import Derived.Test.YtfinpkeckdhhlaaGreatA
namespace Go.Proofs.YtfinpkeckdhhlaaGreat
open Go.RowKit

/-- the options, in a block of the call's own -/
abbrev optObj (m b v : Int) : Obj := .cells #[.int .u8 m, .int .i64 b, .int .u64 v] 24

theorem may_1 {old new m b : Int} (h : m < 1 ∨ 3 < m ∨ b < 128 ∨ 4096 < b) : Pl.may old new m b = 1 := by unfold Pl.may; rw [if_pos h]
theorem may_4 {old new m b : Int} (h : ¬ (m < 1 ∨ 3 < m ∨ b < 128 ∨ 4096 < b)) (h2 : Pl.long old = true ∨ Pl.long new = true ∨ 4096 < Pl.blocks new b) : Pl.may old new m b = 4 := by
  unfold Pl.may; rw [if_neg h, if_pos h2]
theorem may_0 {old new m b : Int} (h : ¬ (m < 1 ∨ 3 < m ∨ b < 128 ∨ 4096 < b)) (h2 : ¬ (Pl.long old = true ∨ Pl.long new = true ∨ 4096 < Pl.blocks new b)) : Pl.may old new m b = 0 := by
  unfold Pl.may; rw [if_neg h, if_neg h2]
theorem long_t {n : Int} (h : n < 0 ∨ 2147483647 < n) : Pl.long n = true := by unfold Pl.long; simp; exact h
theorem long_f {n : Int} (h1 : 0 ≤ n) (h2 : n ≤ 2147483647) : Pl.long n = false := by unfold Pl.long; simp; omega
theorem dMost_bad {b : Int} (h : b < 128 ∨ 4096 < b) : (Pl.dMost b == 0) = true := by unfold Pl.dMost; rw [if_neg (by omega)]; rfl
theorem dMost_good {b : Int} (h1 : 128 ≤ b) (h2 : b ≤ 4096) : (Pl.dMost b == 0) = false := by
  unfold Pl.dMost; rw [if_pos ⟨h1, h2⟩]; simp; omega

set_option maxHeartbeats 1000000 in
theorem bmay (old new m b v : Int) (w : World) (hn : new ≤ 9223372036854775807) :
    Calls Tryz.prog 5 #[.int .i64 old, .int .i64 new, .agg #[.int .u8 m, .int .i64 b, .int .u64 v]] w fun e w' =>
      e = .returned (.int .i64 (Pl.may old new m b)) ∧ w.alloc (optObj m b v) = w' := by
  by_cases h1 : m < 1
  · have HR := Lib.hid (may_1 (old := old) (new := new) (m := m) (b := b) (.inl h1))
    go_enter Tryz.func5, Tryz.ntmps5
    go_wp2
    go_ret
    exact ⟨ret_i64 HR.out.symm, rfl⟩
  by_cases h2 : 3 < m
  · have HR := Lib.hid (may_1 (old := old) (new := new) (m := m) (b := b) (.inr (.inl h2)))
    go_enter Tryz.func5, Tryz.ntmps5
    go_wp2
    go_ret
    exact ⟨ret_i64 HR.out.symm, rfl⟩
  by_cases h3 : b < 128 ∨ 4096 < b
  · have HR := Lib.hid (may_1 (old := old) (new := new) (m := m) (b := b) (.inr (.inr h3)))
    have hd := dMost_bad h3
    clear h3
    go_enter Tryz.func5, Tryz.ntmps5
    go_wp2_with (go_at_call 14; refine (dmost _ _).mono ?_; rintro e w' ⟨rfl, rfl⟩)
    go_ret
    exact ⟨ret_i64 HR.out.symm, rfl⟩
  have hno : ¬ (m < 1 ∨ 3 < m ∨ b < 128 ∨ 4096 < b) := by omega
  have hd := dMost_good (b := b) (by omega) (by omega)
  clear h3
  by_cases h4 : old < 0
  · have HR := Lib.hid (may_4 (new := new) hno (.inl (long_t (.inl h4))))
    clear hno
    go_enter Tryz.func5, Tryz.ntmps5
    go_wp2_with (go_at_call 14; refine (dmost _ _).mono ?_; rintro e w' ⟨rfl, rfl⟩)
    go_ret
    exact ⟨ret_i64 HR.out.symm, rfl⟩
  by_cases h5 : 2147483647 < old
  · have HR := Lib.hid (may_4 (new := new) hno (.inl (long_t (.inr h5))))
    clear hno
    go_enter Tryz.func5, Tryz.ntmps5
    go_wp2_with (go_at_call 14; refine (dmost _ _).mono ?_; rintro e w' ⟨rfl, rfl⟩)
    go_ret
    exact ⟨ret_i64 HR.out.symm, rfl⟩
  by_cases h6 : new < 0
  · have HR := Lib.hid (may_4 (old := old) hno (.inr (.inl (long_t (.inl h6)))))
    clear hno
    go_enter Tryz.func5, Tryz.ntmps5
    go_wp2_with (go_at_call 14; refine (dmost _ _).mono ?_; rintro e w' ⟨rfl, rfl⟩)
    go_ret
    exact ⟨ret_i64 HR.out.symm, rfl⟩
  by_cases h7 : 2147483647 < new
  · have HR := Lib.hid (may_4 (old := old) hno (.inr (.inl (long_t (.inr h7)))))
    clear hno
    go_enter Tryz.func5, Tryz.ntmps5
    go_wp2_with (go_at_call 14; refine (dmost _ _).mono ?_; rintro e w' ⟨rfl, rfl⟩)
    go_ret
    exact ⟨ret_i64 HR.out.symm, rfl⟩
  by_cases h8 : 4096 < Pl.blocks new b
  · have HR := Lib.hid (may_4 (old := old) hno (.inr (.inr h8)))
    clear hno
    go_enter Tryz.func5, Tryz.ntmps5
    go_wp2_with (first
      | (go_at_call 14; refine (dmost _ _).mono ?_; rintro e w' ⟨rfl, rfl⟩)
      | (go_at_call 15; refine (dblocks _ _ _ hn).mono ?_; rintro e w' ⟨rfl, rfl⟩))
    go_ret
    exact ⟨ret_i64 HR.out.symm, rfl⟩
  · have HR := Lib.hid (may_0 (old := old) (new := new) hno (by rw [long_f (by omega) (by omega), long_f (by omega) (by omega)]; simp; omega))
    clear hno
    go_enter Tryz.func5, Tryz.ntmps5
    go_wp2_with (first
      | (go_at_call 14; refine (dmost _ _).mono ?_; rintro e w' ⟨rfl, rfl⟩)
      | (go_at_call 15; refine (dblocks _ _ _ hn).mono ?_; rintro e w' ⟨rfl, rfl⟩))
    go_ret
    exact ⟨ret_i64 HR.out.symm, rfl⟩

set_option maxHeartbeats 1000000 in
theorem rmay (old new m b v : Int) (w : World) (hm : 0 ≤ m) (hn : new ≤ 9223372036854775807) :
    Calls Tryz.prog 6 #[.int .i64 old, .int .i64 new, .agg #[.int .u8 m, .int .i64 b, .int .u64 v]] w fun e w' =>
      e = .returned (.int .i64 (Pl.may old new m b)) ∧ w.alloc (optObj m b v) = w' := by
  by_cases h1 : m < 1
  · obtain rfl : m = 0 := by omega
    have HR := Lib.hid (may_1 (old := old) (new := new) (m := 0) (b := b) (.inl h1))
    go_enter Tryz.func6, Tryz.ntmps6
    go_wp2
    go_ret
    exact ⟨ret_i64 HR.out.symm, rfl⟩
  have h10 : (m == 0) = false := by simp; omega
  by_cases h2 : 3 < m
  · have HR := Lib.hid (may_1 (old := old) (new := new) (m := m) (b := b) (.inr (.inl h2)))
    go_enter Tryz.func6, Tryz.ntmps6
    go_wp2
    go_ret
    exact ⟨ret_i64 HR.out.symm, rfl⟩
  by_cases h3 : b < 128
  · have HR := Lib.hid (may_1 (old := old) (new := new) (m := m) (b := b) (.inr (.inr (.inl h3))))
    go_enter Tryz.func6, Tryz.ntmps6
    go_wp2
    go_ret
    exact ⟨ret_i64 HR.out.symm, rfl⟩
  by_cases h3b : 4096 < b
  · have HR := Lib.hid (may_1 (old := old) (new := new) (m := m) (b := b) (.inr (.inr (.inr h3b))))
    go_enter Tryz.func6, Tryz.ntmps6
    go_wp2
    go_ret
    exact ⟨ret_i64 HR.out.symm, rfl⟩
  have hno : ¬ (m < 1 ∨ 3 < m ∨ b < 128 ∨ 4096 < b) := by omega
  by_cases h4 : Pl.long old = true
  · have HR := Lib.hid (may_4 (new := new) hno (.inl h4))
    clear hno
    go_enter Tryz.func6, Tryz.ntmps6
    go_wp2_with (go_at_call 16; refine (rlong _ _).mono ?_; rintro e w' ⟨rfl, rfl⟩)
    go_ret
    exact ⟨ret_i64 HR.out.symm, rfl⟩
  by_cases h5 : Pl.long new = true
  · have HR := Lib.hid (may_4 (old := old) hno (.inr (.inl h5)))
    have h4' : Pl.long old = false := by simpa using h4
    clear hno h4
    go_enter Tryz.func6, Tryz.ntmps6
    go_wp2_with (go_at_call 16; refine (rlong _ _).mono ?_; rintro e w' ⟨rfl, rfl⟩)
    go_ret
    exact ⟨ret_i64 HR.out.symm, rfl⟩
  have h4' : Pl.long old = false := by simpa using h4
  have h5' : Pl.long new = false := by simpa using h5
  by_cases h8 : 4096 < Pl.blocks new b
  · have HR := Lib.hid (may_4 (old := old) hno (.inr (.inr h8)))
    clear hno h4 h5
    go_enter Tryz.func6, Tryz.ntmps6
    go_wp2_with (first
      | (go_at_call 16; refine (rlong _ _).mono ?_; rintro e w' ⟨rfl, rfl⟩)
      | (go_at_call 17; refine (rblocks _ _ _ hn).mono ?_; rintro e w' ⟨rfl, rfl⟩))
    go_ret
    exact ⟨ret_i64 HR.out.symm, rfl⟩
  · have HR := Lib.hid (may_0 (old := old) (new := new) hno (by rw [h4', h5']; simp; omega))
    clear hno h4 h5
    go_enter Tryz.func6, Tryz.ntmps6
    go_wp2_with (first
      | (go_at_call 16; refine (rlong _ _).mono ?_; rintro e w' ⟨rfl, rfl⟩)
      | (go_at_call 17; refine (rblocks _ _ _ hn).mono ?_; rintro e w' ⟨rfl, rfl⟩))
    go_ret
    exact ⟨ret_i64 HR.out.symm, rfl⟩

end Go.Proofs.YtfinpkeckdhhlaaGreat
