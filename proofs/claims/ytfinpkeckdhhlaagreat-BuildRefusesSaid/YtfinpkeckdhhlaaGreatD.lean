/-
  The walk of the reference's Most, of build.Build at a nil key, and of the example.
-/
import Derived.Test.YtfinpkeckdhhlaaGreatC
import Derived.BigQuiet
namespace Go.Proofs.YtfinpkeckdhhlaaGreat
open Go.RowKit

theorem two_pow (j : Nat) : (2 : Int) * 2 ^ j = 2 ^ (j + 1) := by rw [Int.pow_succ]; omega
theorem pow_pos' (j : Nat) : (1 : Int) ≤ 2 ^ j := by
  have h : 0 < 2 ^ j := Nat.pow_pos (by omega)
  have e : ((2 ^ j : Nat) : Int) = (2 : Int) ^ j := by simp
  omega

set_option maxHeartbeats 1000000 in
theorem rmost (hd new b : Int) (w : World) :
    Calls Tryz.prog 8 #[.int .i64 hd, .int .i64 new, .int .i64 b] w fun e w' =>
      e = .returned (.int .i64 (Pl.most hd new b)) ∧ w = w' := by
  by_cases h4 : Pl.long hd = true
  · have HR := Lib.hid (Pl.most_0 (new := new) (b := b) (.inl h4))
    go_enter Tryz.func8, Tryz.ntmps8
    go_wp2_with (go_at_call 16; refine (rlong _ _).mono ?_; rintro e w' ⟨rfl, rfl⟩)
    go_ret
    exact ⟨ret_i64 HR.out.symm, rfl⟩
  have h4' : Pl.long hd = false := by simpa using h4
  clear h4
  by_cases h5 : Pl.long new = true
  · have HR := Lib.hid (Pl.most_0 (header := hd) (b := b) (.inr (.inl h5)))
    go_enter Tryz.func8, Tryz.ntmps8
    go_wp2_with (go_at_call 16; refine (rlong _ _).mono ?_; rintro e w' ⟨rfl, rfl⟩)
    go_ret
    exact ⟨ret_i64 HR.out.symm, rfl⟩
  have h5' : Pl.long new = false := by simpa using h5
  clear h5
  by_cases h3 : b < 128
  · have HR := Lib.hid (Pl.most_0 (header := hd) (new := new) (.inr (.inr (.inl h3))))
    go_enter Tryz.func8, Tryz.ntmps8
    go_wp2_with (go_at_call 16; refine (rlong _ _).mono ?_; rintro e w' ⟨rfl, rfl⟩)
    go_ret
    exact ⟨ret_i64 HR.out.symm, rfl⟩
  by_cases h2 : 4096 < b
  · have HR := Lib.hid (Pl.most_0 (header := hd) (new := new) (.inr (.inr (.inr h2))))
    go_enter Tryz.func8, Tryz.ntmps8
    go_wp2_with (go_at_call 16; refine (rlong _ _).mono ?_; rintro e w' ⟨rfl, rfl⟩)
    go_ret
    exact ⟨ret_i64 HR.out.symm, rfl⟩
  have hl : 0 ≤ hd ∧ hd ≤ 2147483647 := by unfold Pl.long at h4'; simp at h4'; omega
  have hl2 : 0 ≤ new ∧ new ≤ 2147483647 := by unfold Pl.long at h5'; simp at h5'; omega
  obtain ⟨l1, l2⟩ := hl
  obtain ⟨l3, l4⟩ := hl2
  have hr := Pl.most_n (header := hd) (new := new) (b := b) (by rw [h4', h5']; simp; omega)
  have k1 := Pl.blocks_nonneg new b
  have k2 := Pl.blocks_small new b (by omega) (by omega) (by omega)
  have k3 := Pl.steps_nonneg (Pl.blocks new b)
  have k4 := Pl.steps_le (Pl.blocks new b) k2
  obtain ⟨k51, k52⟩ := Pl.sum_small _ _ k1 k2 k3 k4
  have HR := Lib.hid hr
  clear hr
  go_enter Tryz.func8, Tryz.ntmps8
  go_wp2_with (first
    | (go_at_call 16; refine (rlong _ _).mono ?_; rintro e w' ⟨rfl, rfl⟩)
    | (go_at_call 17; refine (rblocks _ _ _ (by omega)).mono ?_; rintro e w' ⟨rfl, rfl⟩))
  go_loop [8, 9] (fun s k => ∃ j : Nat, j ≤ 24 ∧ s = .int .i64 j ∧ k = .int .i64 (2 ^ j) ∧ (j ≠ 0 → (2 : Int) ^ (j - 1) < Pl.blocks new b)) (fun s _ => (24 - intOf s).toNat)
  case atStart => exact ⟨0, by omega, rfl, rfl, fun h => absurd rfl h⟩
  case round =>
    obtain ⟨j, hj, rfl, rfl, hp⟩ := hrel
    have p1 := pow_pos' j
    have p2 := two_pow j
    by_cases hlt : (2 : Int) ^ j < Pl.blocks new b
    · have hj2 : j < 24 := by
        rcases Nat.lt_or_ge j 24 with h | h
        · exact h
        · have : j = 24 := by omega
          subst this
          simp at hlt
          omega
      have HP := Lib.hid p2
      have HP2 := Lib.hid hp
      clear hp p2
      go_wp2
      go_round
      case rel => exact ⟨j + 1, by omega, by go_num, by rw [HP.out], fun _ => by simpa using hlt⟩
      case measure => simp [intOf]; omega
    · have hs := Pl.steps_of (Pl.blocks new b) j (by omega) hp (by omega)
      rw [hs] at HR k51 k52
      have hj0 : (0 : Int) ≤ (j : Int) := by omega
      clear hs p2 hp
      go_wp2
      go_ret
      exact ⟨ret_i64 HR.out.symm, rfl⟩

set_option maxHeartbeats 1000000 in
theorem build_nil (w : World) :
    Calls Tryz.prog 13 #[.slice none 0 0, .slice none 0 0, .pointer none, .agg #[.int .u8 0, .int .i64 0, .int .u64 0]] w fun e w' =>
      e = .returned (.tuple #[.slice none 0 0, .int .i64 1]) ∧ Below w.heap.size w w' := by
  go_enter Tryz.func13, Tryz.ntmps13
  go_wp2
  go_ret2
  exact ⟨rfl, (Below.refl _ _).alloc (Nat.le_refl _) _⟩

theorem most_ex : Pl.most 100 300 128 = 784 := by decide +kernel

set_option maxHeartbeats 1000000 in
theorem awake28 (w : World) :
    Calls Tryz.prog 9 #[] w fun e w' => e = .returned (.bool true) ∧ Below w.heap.size w w' := by
  have hm := most_ex
  go_enter Tryz.func9, Tryz.ntmps9
  go_wp2_with (first
    | (go_at_call 13; refine (build_nil _).mono ?_; rintro e w1 ⟨rfl, hb⟩)
    | (go_at_call 7; refine (bmost _ _ _ _).mono ?_; rintro e w' ⟨rfl, rfl⟩))
  go_ret
  exact ⟨rfl, hb⟩

end Go.Proofs.YtfinpkeckdhhlaaGreat
