/-
  drogherlaw28.BuildMay returns true, whatever the lengths and the options.
-/
import Derived.Test.YtfinpkeckdhhlaaGreatD
import Derived.Deep.RegionHeld3
import Derived.Deep.DrawnRows
namespace Go.Proofs.YtfinpkeckdhhlaaGreat
open Go.RowKit
attribute [local go_sem ↓] Go.wp_at_zero Go.wp_at_succ

set_option maxHeartbeats 2000000 in
theorem buildMay (old new m b v hd bl : Int) (w : World) (hm : 0 ≤ m) (hn : new ≤ 9223372036854775807) :
    Calls Tryz.prog 3 #[.int .i64 old, .int .i64 new, .agg #[.int .u8 m, .int .i64 b, .int .u64 v], .int .i64 hd, .int .i64 bl] w fun e w' =>
      e = .returned (.bool true) ∧ Below w.heap.size w w' := by
  go_enter Tryz.func3, Tryz.ntmps3
  go_wp2_with fail
  go_region_held3 (fun w' => w'.cell? ⟨w.heap.size, 0, none⟩ = some (.int .u8 m) ∧ w'.cell? ⟨w.heap.size, 1, none⟩ = some (.int .i64 b) ∧ w'.cell? ⟨w.heap.size, 2, none⟩ = some (.int .u64 v)) (first | go_keep | (rw [hb.cell (p := ⟨w.heap.size, 0, none⟩) (by simp; omega), hb.cell (p := ⟨w.heap.size, 1, none⟩) (by simp; omega), hb.cell (p := ⟨w.heap.size, 2, none⟩) (by simp; omega)]; go_keep))
    (first
      | (go_at_call 5; refine (bmay _ _ _ _ _ _ hn).mono ?_; rintro e w' ⟨rfl, rfl⟩)
      | (go_at_call 6; refine (rmay _ _ _ _ _ _ hm hn).mono ?_; rintro e w' ⟨rfl, rfl⟩)
      | (go_at_call 7; refine (bmost _ _ _ _).mono ?_; rintro e w' ⟨rfl, rfl⟩)
      | (go_at_call 8; refine (rmost _ _ _ _).mono ?_; rintro e w' ⟨rfl, rfl⟩)
      | (go_at_call 9; refine (awake28 _).mono ?_; rintro e w1 ⟨rfl, hb⟩))
  go_wp2
  go_ret
  exact ⟨rfl, ((((((Below.refl _ _).alloc (Nat.le_refl _) _).alloc (by simp) _).alloc (by simp; omega) _).drew).trans (hb.mono (by simp; omega)))⟩

end Go.Proofs.YtfinpkeckdhhlaaGreat
