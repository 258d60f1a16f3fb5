/-
  drogherlaw28.BuildRefuses: the walk.
-/
import Derived.Test.YtfinpkeckdhhlaaGreatD
import Derived.Test.YtfinpkeckdhhlaaGreatKey
namespace Go.Proofs.YtfinpkeckdhhlaaGreat
open Go.RowKit
attribute [local go_sem] Lib.run_eql_slice_nil

set_option maxHeartbeats 1000000 in
theorem build_may (oA nA : Option Addr) (on oc nn nc k : Nat) (m b v e : Int) (w : World) (hn : (nn : Int) ≤ 9223372036854775807) (he : Pl.may on nn m b = e) (h0 : e ≠ 0) :
    Calls Tryz.prog 13 #[.slice oA on oc, .slice nA nn nc, .pointer (some ⟨k, 0, none⟩), .agg #[.int .u8 m, .int .i64 b, .int .u64 v]] w fun r w' =>
      r = .returned (.tuple #[.slice none 0 0, .int .i64 e]) ∧ Below w.heap.size w w' := by
  have h1 : (e != 0) = true := by simpa using h0
  have HE := Lib.hid he
  clear he h0
  go_enter Tryz.func13, Tryz.ntmps13
  go_wp2_with fail
  refine (bmay _ _ _ _ _ _ hn).mono ?_
  rintro r w1 ⟨rfl, rfl⟩
  rw [HE.out]
  go_wp2_with fail
  go_ret2
  exact ⟨rfl, below_to (below_new _ _) (below_new _ _)⟩

set_option maxHeartbeats 1000000 in
theorem build_spent (oA nA : Option Addr) (on oc nn nc : Nat) (m b v : Int) (w : World) (k n c L lc T : Nat) (xs : List Value) (num : Int) (A : Option Addr) (tree : Value) (h : KeyAt w k xs 32 A n c L lc T tree num)
    (hn : (nn : Int) ≤ 9223372036854775807) (he : Pl.may on nn m b = 0) :
    Calls Tryz.prog 13 #[.slice oA on oc, .slice nA nn nc, .pointer (some ⟨k, 0, none⟩), .agg #[.int .u8 m, .int .i64 b, .int .u64 v]] w fun r w' =>
      r = .returned (.tuple #[.slice none 0 0, .int .i64 20]) ∧ Below w.heap.size w w' := by
  have HE := Lib.hid he
  have HK := Lib.hid h
  clear he h
  go_enter Tryz.func13, Tryz.ntmps13
  go_wp2_with fail
  refine (bmay _ _ _ _ _ _ hn).mono ?_
  rintro r w1 ⟨rfl, rfl⟩
  rw [HE.out]
  go_wp2_with fail
  refine (keyLeft _ _ _ _ _ _ _ _ _ _ _ _ (HK.out.below (below_to (below_new _ _) (below_new _ _))) (by omega) (by omega)).mono ?_
  rintro r w1 ⟨rfl, hb⟩
  go_wp2_with fail
  go_ret2
  exact ⟨rfl, below_to (below_to (below_new _ _) (below_new _ _)) hb⟩

/-- what the law's walk is handed: a job's cells -/
abbrev jobObj (s b sl : Int) (old new : Value) (v om ob ov : Int) (A : Option Addr) (n c : Nat) (next : Int) : Obj :=
  .cells #[.int .i64 s, .int .i64 b, .int .i64 sl, old, new, .int .u64 v, .int .u8 om, .int .i64 ob, .int .u64 ov, .slice A n c, .int .u64 next] 35

set_option maxHeartbeats 1000000 in
theorem refuses_great (s b sl : Int) (oA nA : Option Addr) (on oc nn nc : Nat) (v om ob ov : Int) (A : Option Addr) (n c : Nat) (next : Int) (w : World) (h : 2000 < on ∨ 2000 < nn ∨ 100 < n)
    (l1 : (on : Int) ≤ 9223372036854775807) (l2 : (nn : Int) ≤ 9223372036854775807) (l3 : (n : Int) ≤ 9223372036854775807) :
    Calls Tryz.prog 4 #[jobVal s b sl (.slice oA on oc) (.slice nA nn nc) v om ob ov A n c next] w fun e w' => e = .returned (.bool true) ∧ Below w.heap.size w w' := by
  by_cases h1 : 2000 < on
  · clear h
    go_enter Tryz.func4, Tryz.ntmps4
    go_wp2_with fail
    refine (awake28 _).mono ?_
    rintro e w1 ⟨rfl, hb⟩
    go_wp2_with fail
    go_ret
    exact ⟨rfl, below_to (below_new _ _) hb⟩
  · by_cases h2 : 2000 < nn
    · clear h
      go_enter Tryz.func4, Tryz.ntmps4
      go_wp2_with fail
      refine (awake28 _).mono ?_
      rintro e w1 ⟨rfl, hb⟩
      go_wp2_with fail
      go_ret
      exact ⟨rfl, below_to (below_new _ _) hb⟩
    · have h3 : 100 < n := by omega
      clear h
      go_enter Tryz.func4, Tryz.ntmps4
      go_wp2_with fail
      refine (awake28 _).mono ?_
      rintro e w1 ⟨rfl, hb⟩
      go_wp2_with fail
      go_ret
      exact ⟨rfl, below_to (below_new _ _) hb⟩

set_option maxHeartbeats 1000000 in
theorem refuses_nokey (s b sl : Int) (oA nA : Option Addr) (on oc nn nc : Nat) (v om ob ov : Int) (A : Option Addr) (n c : Nat) (next : Int) (B : Nat) (xs : List Value) (w : World)
    (hr : Reads w B 1 A n xs) (h1 : ∀ u ∈ xs, u.oneCell' = true) (hB : B ≤ w.heap.size) (l1 : on ≤ 2000) (l2 : nn ≤ 2000) (l3 : n ≤ 100) (h2 : 32 < next) :
    Calls Tryz.prog 4 #[jobVal s b sl (.slice oA on oc) (.slice nA nn nc) v om ob ov A n c next] w fun e w' => e = .returned (.bool true) ∧ Below w.heap.size w w' := by
  have HR := Lib.hid hr
  have H1 := Lib.hid h1
  clear hr h1
  go_enter Tryz.func4, Tryz.ntmps4
  go_wp2_with fail
  refine (jobKey_no s b sl oA nA on oc nn nc v om ob ov A n c next B xs _ (HR.out.alloc hB _) H1.out (by simp; omega) (by simp [room47]; omega) h2).mono ?_
  rintro e w1 ⟨rfl, hb1⟩
  go_wp2_with fail
  refine (awake28 _).mono ?_
  rintro e w2 ⟨rfl, hb⟩
  go_wp2_with fail
  go_ret
  exact ⟨rfl, below_to (below_to (below_new _ _) hb1) hb⟩

set_option maxHeartbeats 2000000 in
theorem refuses_key (s b sl : Int) (oA nA : Option Addr) (on oc nn nc : Nat) (v om ob ov : Int) (A : Option Addr) (n c : Nat) (next : Int) (B : Nat) (xs : List Value) (w : World)
    (hr : Reads w B 1 A n xs) (h1 : ∀ u ∈ xs, u.oneCell' = true) (hB : B ≤ w.heap.size) (l1 : on ≤ 2000) (l2 : nn ≤ 2000) (l3 : n ≤ 100) (h0 : 0 ≤ next) (h2 : next ≤ 32) (hm : 0 ≤ om) :
    Calls Tryz.prog 4 #[jobVal s b sl (.slice oA on oc) (.slice nA nn nc) v om ob ov A n c next] w fun e w' => e = .returned (.bool true) ∧ Below w.heap.size w w' := by
  have HR := Lib.hid hr
  have H1 := Lib.hid h1
  clear hr h1
  obtain ⟨e, he⟩ : ∃ e, Pl.may on nn om ob = e := ⟨_, rfl⟩
  have HE := Lib.hid he
  clear he
  go_enter Tryz.func4, Tryz.ntmps4
  go_wp2_with fail
  refine (jobKey_ok s b sl oA nA on oc nn nc v om ob ov A n c next B xs _ (HR.out.alloc hB _) H1.out (by simp; omega) (by simp [room47]; omega) h0 h2).mono ?_
  rintro r w1 ⟨k, A', n', c', L', lc', T, rfl, hkey, hk, hb1⟩
  have hJ : ∀ i, w1.cell? ⟨w.heap.size, i, none⟩ = (w.alloc (jobObj s b sl (.slice oA on oc) (.slice nA nn nc) v om ob ov A n c next)).cell? ⟨w.heap.size, i, none⟩ := fun i => hb1.cell (p := ⟨w.heap.size, i, none⟩) (by simp)
  have j3 := hJ 3
  have j4 := hJ 4
  have j6 := hJ 6
  have j7 := hJ 7
  have j8 := hJ 8
  simp [World.cell?_alloc_new] at j3 j4 j6 j7 j8
  clear hJ
  have HK := Lib.hid hkey
  clear hkey
  go_wp2_with fail
  refine (keyNext _ _ _ _ _ _ HK.out.blk).mono ?_
  rintro r w2 ⟨rfl, rfl⟩
  go_wp2_with fail
  refine (rmay _ _ _ _ _ _ hm (by omega)).mono ?_
  rintro r w3 ⟨rfl, hw3⟩
  have hb3 : Below w1.heap.size w1 w3 := hw3 ▸ below_new _ _
  clear hw3
  have hlt : w.heap.size < w1.heap.size := by
    have := hb1.size
    simp at this
    omega
  have j3b := (hb3.cell (p := ⟨w.heap.size, 3, none⟩) (by omega)).trans j3
  have j4b := (hb3.cell (p := ⟨w.heap.size, 4, none⟩) (by omega)).trans j4
  have j6b := (hb3.cell (p := ⟨w.heap.size, 6, none⟩) (by omega)).trans j6
  have j7b := (hb3.cell (p := ⟨w.heap.size, 7, none⟩) (by omega)).trans j7
  have j8b := (hb3.cell (p := ⟨w.heap.size, 8, none⟩) (by omega)).trans j8
  have HB3 := Lib.hid (below_to (below_to (below_new w _) hb1) hb3)
  have HK3 := Lib.hid (HK.out.below hb3)
  have hlt3 : w.heap.size < w3.heap.size := Nat.lt_of_lt_of_le hlt hb3.size
  rw [HE.out]
  clear hb1 hb3 j3 j4 j6 j7 j8 hk
  by_cases he0 : e = 0
  · subst he0
    by_cases hn32 : next = 32
    · subst hn32
      go_wp2_with fail
      refine (keyLeft _ _ _ _ _ _ _ _ _ _ _ _ HK3.out (by omega) (by omega)).mono ?_
      rintro r w4 ⟨rfl, hb4⟩
      have j3c := (hb4.cell (p := ⟨w.heap.size, 3, none⟩) (by omega)).trans j3b
      have j4c := (hb4.cell (p := ⟨w.heap.size, 4, none⟩) (by omega)).trans j4b
      have j6c := (hb4.cell (p := ⟨w.heap.size, 6, none⟩) (by omega)).trans j6b
      have j7c := (hb4.cell (p := ⟨w.heap.size, 7, none⟩) (by omega)).trans j7b
      have j8c := (hb4.cell (p := ⟨w.heap.size, 8, none⟩) (by omega)).trans j8b
      go_wp2_with fail
      refine (build_spent _ _ _ _ _ _ _ _ _ _ _ _ _ _ _ _ _ _ _ _ (HK3.out.below hb4) (by omega) HE.out).mono ?_
      rintro r w5 ⟨rfl, hb5⟩
      have hk5 := (HK3.out.below hb4).below hb5
      have HK5 := Lib.hid hk5
      clear hk5
      go_wp2_with fail
      refine (keyNext _ _ _ _ _ _ HK5.out.blk).mono ?_
      rintro r w6 ⟨rfl, rfl⟩
      go_wp2_with fail
      refine (awake28 _).mono ?_
      rintro r w7 ⟨rfl, hb7⟩
      go_wp2_with fail
      go_ret
      exact ⟨rfl, below_to (below_to (below_to HB3.out hb4) hb5) hb7⟩
    · have hl : ((32 - next : Int) == 0) = false := by simp; omega
      clear hn32
      go_wp2_with fail
      refine (keyLeft _ _ _ _ _ _ _ _ _ _ _ _ HK3.out h0 h2).mono ?_
      rintro r w4 ⟨rfl, hb4⟩
      go_wp2_with fail
      refine (awake28 _).mono ?_
      rintro r w7 ⟨rfl, hb7⟩
      go_wp2_with fail
      go_ret
      exact ⟨rfl, below_to (below_to HB3.out hb4) hb7⟩
  · have hb0 : (e == 0) = false := by simpa using he0
    have HE0 := Lib.hid he0
    clear he0
    go_wp2_with fail
    refine (build_may _ _ _ _ _ _ _ _ _ _ e _ (by omega) HE.out HE0.out).mono ?_
    rintro r w5 ⟨rfl, hb5⟩
    have hk5 := HK3.out.below hb5
    have HK5 := Lib.hid hk5
    clear hk5
    go_wp2_with fail
    refine (keyNext _ _ _ _ _ _ HK5.out.blk).mono ?_
    rintro r w6 ⟨rfl, rfl⟩
    go_wp2_with fail
    refine (awake28 _).mono ?_
    rintro r w7 ⟨rfl, hb7⟩
    go_wp2_with fail
    go_ret
    exact ⟨rfl, below_to (below_to HB3.out hb5) hb7⟩

end Go.Proofs.YtfinpkeckdhhlaaGreat
