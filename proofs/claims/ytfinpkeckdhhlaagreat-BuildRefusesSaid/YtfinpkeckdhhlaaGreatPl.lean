/-
  Plain functions for the lengths of packages: what build.May, build.Most and the references' May, Most compute, and that they are one.
-/
import Derived.Lib.BitFns
import Derived.Lib.ItoaNum
namespace Go.Proofs.YtfinpkeckdhhlaaGreat.Pl

/-- delta.Most -/
def dMost (b : Int) : Int := if 128 ≤ b ∧ b ≤ 4096 then b + 12 else 0
/-- delta.Blocks, drogherref17.Blocks -/
def blocks (n b : Int) : Int := if n < 1 ∨ b < 1 then 0 else (n - 1) / b + 1

theorem blocks_nonneg (n b : Int) : 0 ≤ blocks n b := by
  unfold blocks
  split
  · omega
  · have : 0 ≤ (n - 1) / b := Int.ediv_nonneg (by omega) (by omega)
    omega

theorem blocks_le (n b : Int) (h : 0 ≤ n) : blocks n b ≤ n := by
  unfold blocks
  split
  · omega
  · have : (n - 1) / b ≤ n - 1 := Int.ediv_le_self _ (by omega)
    omega

theorem blocks_small (n b : Int) (h0 : 0 ≤ n) (h : n ≤ 2147483647) (hb : 128 ≤ b) : blocks n b ≤ 16777216 := by
  unfold blocks
  split
  · omega
  · have h1 : (n - 1) / b ≤ (n - 1) / 128 := by
      apply Int.le_ediv_of_mul_le (by omega)
      have h2 : 0 ≤ (n - 1) / b := Int.ediv_nonneg (by omega) (by omega)
      have h3 : (n - 1) / b * 128 ≤ (n - 1) / b * b := Int.mul_le_mul_of_nonneg_left hb h2
      have h4 : (n - 1) / b * b ≤ n - 1 := Int.ediv_mul_le _ (by omega)
      omega
    omega

/-- the reference's way to the number of blocks -/
theorem blocks_ref (n b : Int) (hn : 1 ≤ n) (hb : 1 ≤ b) : blocks n b = n / b + (if 0 < n % b then 1 else 0) := by
  unfold blocks
  rw [if_neg (by omega)]
  have e := Int.mul_ediv_add_emod n b
  have m0 : 0 ≤ n % b := Int.emod_nonneg _ (by omega)
  have m1 : n % b < b := Int.emod_lt_of_pos _ (by omega)
  split
  · have h : (n - 1) / b = n / b := by
      have e2 : n - 1 = (n % b - 1) + b * (n / b) := by omega
      rw [e2, Int.add_mul_ediv_left _ _ (by omega), Int.ediv_eq_zero_of_lt (by omega) (by omega)]
      omega
    omega
  · have h : (n - 1) / b = n / b - 1 := by
      have e2 : n - 1 = (b - 1) + b * (n / b - 1) := by
        rw [Int.mul_sub]
        omega
      rw [e2, Int.add_mul_ediv_left _ _ (by omega), Int.ediv_eq_zero_of_lt (by omega) (by omega)]
      omega
    omega

/-- a length may not be -/
def long (n : Int) : Bool := decide (n < 0 ∨ 2147483647 < n)

/-- build.May -/
def may (old new m b : Int) : Int :=
  if m < 1 ∨ 3 < m ∨ b < 128 ∨ 4096 < b then 1
  else if long old = true ∨ long new = true ∨ 4096 < blocks new b then 4 else 0

/-- the binary logarithm, rounded up -/
def steps (n : Int) : Int := if 1 < n then (Lib.bitLen (n - 1).toNat : Int) else 0

theorem steps_nonneg (n : Int) : 0 ≤ steps n := by unfold steps; split <;> omega

theorem pow_lt (a b : Nat) (h : 2 ^ a < 2 ^ b) : a < b := (Nat.pow_lt_pow_iff_right (by omega)).1 h

theorem len_bounds (x : Nat) (h0 : x ≠ 0) (h : x < 18446744073709551616) : 1 ≤ Lib.bitLen x ∧ 2 ^ (Lib.bitLen x - 1) ≤ x ∧ x < 2 ^ Lib.bitLen x :=
  Lib.bitLenAux_bounds 64 x h h0

/-- the reference's doubling comes to as many steps -/
theorem steps_of (n : Int) (j : Nat) (hn : n ≤ 9223372036854775807) (h1 : j ≠ 0 → (2 : Int) ^ (j - 1) < n) (h2 : n ≤ (2 : Int) ^ j) : steps n = j := by
  unfold steps
  by_cases h : 1 < n
  · rw [if_pos h]
    obtain ⟨x, rfl⟩ : ∃ x : Nat, n = (x : Int) + 1 := ⟨(n - 1).toNat, by omega⟩
    have hx : ((x : Int) + 1 - 1).toNat = x := by omega
    rw [hx]
    obtain ⟨b1, b2, b3⟩ := len_bounds x (by omega) (by omega)
    have hj : j ≠ 0 := by
      rintro rfl
      simp at h2
      omega
    have h1' : 2 ^ (j - 1) < x + 1 := by
      have := h1 hj
      have e : ((2 ^ (j - 1) : Nat) : Int) = (2 : Int) ^ (j - 1) := by simp
      omega
    have h2' : x + 1 ≤ 2 ^ j := by
      have e : ((2 ^ j : Nat) : Int) = (2 : Int) ^ j := by simp
      omega
    have c1 : j - 1 < Lib.bitLen x := pow_lt _ _ (by omega)
    have c2 : Lib.bitLen x - 1 < j := pow_lt _ _ (by omega)
    omega
  · rw [if_neg h]
    rcases Nat.eq_zero_or_pos j with rfl | hj
    · rfl
    · have h1' := h1 (by omega)
      have e : ((2 ^ (j - 1) : Nat) : Int) = (2 : Int) ^ (j - 1) := by simp
      have : 0 < 2 ^ (j - 1) := Nat.pow_pos (by omega)
      omega

theorem steps_le (n : Int) (h : n ≤ 16777216) : steps n ≤ 24 := by
  unfold steps
  split
  · obtain ⟨x, rfl⟩ : ∃ x : Nat, n = (x : Int) + 1 := ⟨(n - 1).toNat, by omega⟩
    have hx : ((x : Int) + 1 - 1).toNat = x := by omega
    rw [hx]
    obtain ⟨b1, b2, b3⟩ := len_bounds x (by omega) (by omega)
    have : Lib.bitLen x - 1 < 24 := pow_lt _ _ (by omega)
    omega
  · omega

/-- build.Most -/
def most (header new b : Int) : Int :=
  if long header = true ∨ long new = true ∨ b < 128 ∨ 4096 < b then 0
  else header + new + blocks new b * (64 + 32 * steps (blocks new b))

theorem most_0 {header new b : Int} (h : long header = true ∨ long new = true ∨ b < 128 ∨ 4096 < b) : most header new b = 0 := by
  unfold most; rw [if_pos h]
theorem most_n {header new b : Int} (h : ¬ (long header = true ∨ long new = true ∨ b < 128 ∨ 4096 < b)) :
    most header new b = header + new + blocks new b * (64 + 32 * steps (blocks new b)) := by
  unfold most; rw [if_neg h]

/-- all that is added, and multiplied, is small -/
theorem sum_small (n s : Int) (h4 : 0 ≤ n) (h5 : n ≤ 16777216) (h6 : 0 ≤ s) (h7 : s ≤ 24) :
    0 ≤ n * (64 + 32 * s) ∧ n * (64 + 32 * s) ≤ 13958643712 := by
  have a : 0 ≤ n * (64 + 32 * s) := Int.mul_nonneg h4 (by omega)
  have b : n * (64 + 32 * s) ≤ 16777216 * (64 + 32 * s) := Int.mul_le_mul_of_nonneg_right h5 (by omega)
  omega

end Go.Proofs.YtfinpkeckdhhlaaGreat.Pl
