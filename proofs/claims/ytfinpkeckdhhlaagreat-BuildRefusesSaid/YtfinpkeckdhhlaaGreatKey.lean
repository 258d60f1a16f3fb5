/-
  A key of one small tree: hss.New at the one level (5, 1), Skip, Next, Left, and what they call.
-/
import Derived.Test.YtfinpkeckdhhlaaGreatCl
import Derived.BigQuiet
import Derived.Deep.QuietTactic
import Derived.Deep.RegionHeld3
import Derived.Deep.DrawnRows
import Derived.Deep.DeepCutAuto
import Derived.Shelf.Spec.BitsCarry
namespace Go.Proofs.YtfinpkeckdhhlaaGreat
open Go.RowKit
attribute [local go_sem] Lib.run_eql_slice_nil
attribute [local go_sem ↓] Go.wp_at_zero Go.wp_at_succ

set_option maxHeartbeats 400000 in
theorem chains1 (w : World) : Calls Tryz.prog 78 #[.int .u32 1] w fun e w' => e = .returned (.int .i64 265) ∧ w = w' := by
  go_enter Tryz.func78, Tryz.ntmps78
  go_wp2
  go_ret
  exact ⟨rfl, rfl⟩

set_option maxHeartbeats 400000 in
theorem otsSize1 (w : World) : Calls Tryz.prog 57 #[.int .u32 1] w fun e w' => e = .returned (.int .i64 8516) ∧ w = w' := by
  go_enter Tryz.func57, Tryz.ntmps57
  go_wp2_with (go_at_call 78; refine (chains1 _).mono ?_; rintro e w' ⟨rfl, rfl⟩)
  go_ret
  exact ⟨rfl, rfl⟩

set_option maxHeartbeats 400000 in
theorem high5 (w : World) : Calls Tryz.prog 36 #[.int .u32 5] w fun e w' => e = .returned (.int .i64 5) ∧ w = w' := by
  go_enter Tryz.func36, Tryz.ntmps36
  go_wp2
  go_ret
  exact ⟨rfl, rfl⟩

set_option maxHeartbeats 400000 in
theorem lmsSize51 (w : World) : Calls Tryz.prog 35 #[.agg #[.int .u32 5, .int .u32 1]] w fun e w' => e = .returned (.int .i64 8684) ∧ Below w.heap.size w w' := by
  go_enter Tryz.func35, Tryz.ntmps35
  go_wp2_with fail
  go_quiet ((first | (go_at_call 57; refine Calls.quiet_of_same ((otsSize1 _).mono fun _ _ h => ⟨h.1, h.2.symm⟩)) | (go_at_call 36; refine Calls.quiet_of_same ((high5 _).mono fun _ _ h => ⟨h.1, h.2.symm⟩))))
  go_wp2
  go_ret
  exact ⟨rfl, below_drewN ((Below.refl _ _).alloc (Nat.le_refl _) _) _⟩

/-- a key of one small tree: what stands in its block, and behind it -/
structure KeyAt (w : World) (k : Nat) (xs : List Value) (next : Int) (A : Option Addr) (n c L lc T : Nat) (tree : Value) (num : Int) : Prop where
  blk : Blk w k 56 #[.slice A n c, .slice (some ⟨L, 0, none⟩) 1 lc, .slice (some ⟨T, 0, none⟩) 1 1, .int .u64 next]
  seed : Reads w w.heap.size 1 A n xs
  lev : ∃ cs, Blk w L 51 cs ∧ cs[0]? = some (.int .u32 5) ∧ cs[1]? = some (.int .u32 1)
  tr : Blk w T 142 #[.int .u64 num, tree]
  apart : 0 < n → ∀ ad, A = some ad → ad.block < k

theorem KeyAt.below {w w' : World} {k n c L lc T : Nat} {xs : List Value} {next num : Int} {A : Option Addr} {tree : Value} (h : KeyAt w k xs next A n c L lc T tree num) (hb : Below w.heap.size w w') :
    KeyAt w' k xs next A n c L lc T tree num := by
  obtain ⟨cs, h1, h2⟩ := h.lev
  exact ⟨h.blk.below hb h.blk.lt, h.seed.on hb, ⟨cs, h1.below hb h1.lt, h2⟩, h.tr.below hb h.tr.lt, h.apart⟩

theorem info_gr : (Tryz.prog.info? 142).map (fun i => (i.zero, i.size, i.bytes)) = some (some (.agg #[.int .u64 0, .pointer none]), 2, 16) := by kernel_rfl

set_option maxHeartbeats 1000000 in
theorem hssNew (A : Option Addr) (n c B : Nat) (xs : List Value) (L lc : Nat) (cs : Array Value) (w : World) (hr : Reads w B 1 A n xs) (h1 : ∀ u ∈ xs, u.oneCell' = true) (hB : B ≤ w.heap.size) (hn : n * 1 ≤ room47)
    (hL : Blk w L 51 cs) (hc0 : cs[0]? = some (.int .u32 5)) (hc1 : cs[1]? = some (.int .u32 1)) :
    Calls Tryz.prog 19 #[.slice A n c, .slice (some ⟨L, 0, none⟩) 1 lc] w fun e w' =>
      ∃ k A' n' c' L' lc' T, e = .returned (.tuple #[.pointer (some ⟨k, 0, none⟩), .int .i64 0]) ∧ KeyAt w' k xs 0 A' n' c' L' lc' T (.pointer none) 0 ∧ w.heap.size ≤ k ∧ Below w.heap.size w w' := by
  obtain ⟨i0, hi0, hz0, hz1, hz2⟩ := info_parts info_gr
  have e0 := (hL.cell 0).trans hc0
  have e1 := (hL.cell 1).trans hc1
  have hmk : ∀ W : World, (Instr.makeSlice 54 (.int .i64 1) (.int .i64 1)).run Tryz.prog W = .ok (.slice (some ⟨W.heap.size, 0, none⟩) 1 1) (W.alloc (.cells #[.int .u64 0, .pointer none] 142)) := fun W => by kernel_rfl
  have hrl : Reads w w.heap.size 2 (some ⟨L, 0, none⟩) 1 [.int .u32 5, .int .u32 1] := by
    refine ⟨rfl, fun _ => ⟨_, rfl, hL.lt, fun j u hu => ?_⟩⟩
    match j, hu with
    | 0, hu => simp at hu; subst hu; simpa [Addr.add] using e0
    | 1, hu => simp at hu; subst hu; simpa [Addr.add] using e1
  have h1l : ∀ u ∈ [Value.int .u32 5, Value.int .u32 1], u.oneCell' = true := by simp [Value.oneCell']
  have HRL := Lib.hid hrl
  have H1L := Lib.hid h1l
  have HR := Lib.hid hr
  have H1 := Lib.hid h1
  have HN := Lib.hid hn
  clear hrl h1l hr h1 hn
  go_enter Tryz.func19, Tryz.ntmps19
  go_upto_region 3 with fail
  go_cut [6] (fun s6 wx => ∃ k A' n' c' L' lc' T, s6 = .pointer (some ⟨k, 0, none⟩) ∧ KeyAt wx k xs 0 A' n' c' L' lc' T (.pointer none) 0 ∧ w.heap.size ≤ k ∧ Below w.heap.size w wx)
  case first =>
    go_region_held3 (fun w' => Below w.heap.size w w')
      (first
        | exact (Below.refl _ _).drew
        | exact Below.trans (by assumption) (Below.mono hb1 (Below.size (by assumption)))
        | exact Below.trans (by assumption) (Below.mono hb2 (Below.size (by assumption)))
        | exact Below.alloc (by assumption) (Below.size (by assumption)) _)
      (first
        | (go_at_call 33; refine (clone_u8 _ _ _ _ xs _ (HR.out.below (Below.mono (by assumption) hB)) H1.out (Nat.le_trans hB (Below.size (by assumption))) HN.out).mono ?_; rintro e w1 ⟨v1, rfl, hown1, hb1⟩; obtain ⟨A1, c1, rfl, hr1⟩ := own_form hown1; clear hown1)
        | (go_at_call 34; refine (clone_lv _ _ _ _ _ _ (HRL.out.below (by assumption)) H1L.out (Below.size (by assumption)) (by simp [room47])).mono ?_; rintro e w2 ⟨v2, rfl, hown2, hb2⟩; obtain ⟨L2, lc2, cur2, rfl, hL2, hk2, _, _, hcs2, htk2⟩ := own_blk hown2 (by omega); have HT2 := Lib.hid htk2; clear htk2 hown2 hcs2))
    · go_wp2_with fail
      go_meet
      exact ⟨_, A1, n, c1, L2, lc2, w2.heap.size, rfl, ⟨by simpa using Blk.new (w2.alloc _) _ _, hr1.on (below_to (below_to hb2 (below_new _ _)) (below_new _ _)),
        ⟨cur2, (hk2.alloc _).alloc _, take_get HT2.out 0 (by omega), take_get HT2.out 1 (by omega)⟩, (Blk.new w2 _ _).alloc _, fun h0 ad e => by
          obtain ⟨ad', e', hb', _⟩ := hr1.2 h0
          rw [e] at e'
          injection e' with e'
          subst e'
          have := hb2.size
          simp at this ⊢
          omega⟩, Nat.le_trans (Nat.le_trans hb1.size hb2.size) (by simp), by assumption⟩
    · go_wp2_with fail
      go_meet
      exact ⟨_, A1, n, c1, L2, lc2, w1.heap.size, rfl, ⟨Blk.new w2 _ _, hr1.on (below_to (below_to (below_new _ _) hb2) (below_new _ _)),
        ⟨cur2, hk2.alloc _, take_get HT2.out 0 (by omega), take_get HT2.out 1 (by omega)⟩, ((Blk.new w1 _ _).below hb2 (by simp)).alloc _, fun h0 ad e => by
          obtain ⟨ad', e', hb', _⟩ := hr1.2 h0
          rw [e] at e'
          injection e' with e'
          subst e'
          have := hb2.size
          simp at this ⊢
          omega⟩, Nat.le_trans hb1.size (Nat.le_trans (by simp) hb2.size), by assumption⟩
    · go_wp2_with fail
      go_meet
      exact ⟨_, A1, n, c1, L2, lc2, w.heap.size, rfl, ⟨Blk.new w2 _ _, hr1.on (below_to hb2 (below_new _ _)),
        ⟨cur2, hk2.alloc _, take_get HT2.out 0 (by omega), take_get HT2.out 1 (by omega)⟩, ((((Blk.new w _ _).drew).below hb1 (by simp)).below hb2 (Nat.lt_of_lt_of_le (by simp) hb1.size)).alloc _, fun h0 ad e => by
          obtain ⟨ad', e', hb', _⟩ := hr1.2 h0
          rw [e] at e'
          injection e' with e'
          subst e'
          have := hb2.size
          simp at this ⊢
          omega⟩,
        Nat.le_trans (by simp) (Nat.le_trans hb1.size hb2.size), by assumption⟩
  case rest =>
    obtain ⟨k, A', n', c', L', lc', T, rfl, hkey, hk, hb⟩ := hcut
    have f0 := (hb.cell (p := ⟨L, 0, none⟩) hL.lt).trans e0
    have f1 := (hb.cell (p := ⟨L, 1, none⟩) hL.lt).trans e1
    have HKEY := Lib.hid hkey
    clear hkey e0 e1 hc0 hc1
    go_wp2_with fail
    go_loopw [28] (fun i wr => ∃ j : Nat, j ≤ 1 ∧ i = .int .i64 j ∧ Below wc.heap.size wc wr) (fun i _ => 1 - (intOf i).toNat)
    case atStart => exact ⟨0, by omega, rfl, Below.refl _ _⟩
    case round =>
      obtain ⟨j, hj, rfl, hbr⟩ := hrel
      by_cases hlt : j < 1
      · have hj0 : j = 0 := by omega
        subst hj0
        have g0 := (hbr.cell (p := ⟨L, 0, none⟩) (Nat.lt_of_lt_of_le hL.lt hb.size)).trans f0
        have g1 := (hbr.cell (p := ⟨L, 1, none⟩) (Nat.lt_of_lt_of_le hL.lt hb.size)).trans f1
        go_wp2_with fail
        refine (lmsSize51 _).mono ?_
        rintro e w3 ⟨rfl, hb3⟩
        have c0 := hb3.cell (p := ⟨wr.heap.size, 0, none⟩) (by simp)
        have c1 := hb3.cell (p := ⟨wr.heap.size, 1, none⟩) (by simp)
        simp [World.cell?_alloc_new] at c0 c1
        go_wp2_with fail
        refine (high5 _).mono ?_
        rintro e w4 ⟨rfl, rfl⟩
        go_wp2_with fail
        go_roundw
        case rel => exact ⟨1, by omega, by go_num, hbr.trans ((below_to (below_new _ _) hb3).mono hbr.size)⟩
        case measure => simp [intOf]
      · obtain rfl : j = 1 := by omega
        go_wp2_with fail
        go_ret2
        exact ⟨k, A', n', c', L', lc', T, rfl, HKEY.out.below hbr, hk, hb.trans (hbr.mono hb.size)⟩

set_option maxHeartbeats 1000000 in
theorem can1 (L lc : Nat) (cs : Array Value) (w : World) (hL : Blk w L 51 cs) (hc0 : cs[0]? = some (.int .u32 5)) (hc1 : cs[1]? = some (.int .u32 1)) :
    Calls Tryz.prog 22 #[.slice (some ⟨L, 0, none⟩) 1 lc] w fun e w' => e = .returned (.int .u64 32) ∧ Below w.heap.size w w' := by
  have e0 := (hL.cell 0).trans hc0
  have e1 := (hL.cell 1).trans hc1
  clear hc0 hc1
  go_enter Tryz.func22, Tryz.ntmps22
  go_wp2_with fail
  go_loopw [3, 8] (fun h i wr => ∃ j : Nat, j ≤ 1 ∧ i = .int .i64 j ∧ h = .int .i64 (5 * j) ∧ Below w.heap.size w wr) (fun _ i _ => 1 - (intOf i).toNat)
  case atStart => exact ⟨0, by omega, rfl, rfl, Below.refl _ _⟩
  case round =>
    obtain ⟨j, hj, rfl, rfl, hbr⟩ := hrel
    by_cases hlt : j < 1
    · have hj0 : j = 0 := by omega
      subst hj0
      have g0 := (hbr.cell (p := ⟨L, 0, none⟩) hL.lt).trans e0
      have g1 := (hbr.cell (p := ⟨L, 1, none⟩) hL.lt).trans e1
      go_wp2_with fail
      refine (high5 _).mono ?_
      rintro e w4 ⟨rfl, rfl⟩
      go_wp2_with fail
      go_roundw
      case rel => exact ⟨1, by omega, by go_num, by go_num, hbr.trans ((below_new _ _).mono hbr.size)⟩
      case measure => simp [intOf]
    · obtain rfl : j = 1 := by omega
      go_wp2_with fail
      go_ret
      exact ⟨rfl, hbr⟩

set_option maxHeartbeats 1000000 in
theorem keyNext (k : Nat) (w : World) (next : Int) (a b c : Value) (h : Blk w k 56 #[a, b, c, .int .u64 next]) :
    Calls Tryz.prog 11 #[.pointer (some ⟨k, 0, none⟩)] w fun e w' => e = .returned (.int .u64 next) ∧ w = w' := by
  have e3 := h.cell 3
  simp at e3
  go_enter Tryz.func11, Tryz.ntmps11
  go_wp2_with fail
  go_ret
  exact ⟨rfl, rfl⟩

theorem KeyAt.can {w : World} {k n c L lc T : Nat} {xs : List Value} {next num : Int} {A : Option Addr} {tree : Value} (h : KeyAt w k xs next A n c L lc T tree num) :
    Calls Tryz.prog 22 #[.slice (some ⟨L, 0, none⟩) 1 lc] w fun e w' => e = .returned (.int .u64 32) ∧ Below w.heap.size w w' := by
  obtain ⟨cs, h1, h2, h3⟩ := h.lev
  exact can1 L lc cs w h1 h2 h3

set_option maxHeartbeats 1000000 in
theorem keySkip_ok (w : World) (k n c L lc T : Nat) (xs : List Value) (next num : Int) (A : Option Addr) (tree : Value) (m : Int) (h : KeyAt w k xs next A n c L lc T tree num) (h1 : next ≤ m) (h2 : m ≤ 32) :
    Calls Tryz.prog 20 #[.pointer (some ⟨k, 0, none⟩), .int .u64 m] w fun e w' => e = .returned (.int .i64 0) ∧ ∃ w1, Below w.heap.size w w1 ∧ w' = w1.setCell ⟨k, 3, none⟩ (.int .u64 m) := by
  have e3 := h.blk.cell 3
  have e1 := h.blk.cell 1
  have hf := h.blk.frozen 3
  simp at e3 e1
  have hk := h.blk.lt
  have hc := h.can
  go_enter Tryz.func20, Tryz.ntmps20
  go_wp2_with fail
  refine hc.mono ?_
  rintro e w1 ⟨rfl, hb⟩
  have f3 := (hb.cell (p := ⟨k, 3, none⟩) hk).trans e3
  have hf1 := (hb.frozen (p := ⟨k, 3, none⟩) hk).trans hf
  go_wp2_with fail
  go_ret
  exact ⟨rfl, _, hb, rfl⟩

set_option maxHeartbeats 1000000 in
theorem keySkip_no (w : World) (k n c L lc T : Nat) (xs : List Value) (next num : Int) (A : Option Addr) (tree : Value) (m : Int) (h : KeyAt w k xs next A n c L lc T tree num) (h1 : next ≤ m) (h2 : 32 < m) :
    Calls Tryz.prog 20 #[.pointer (some ⟨k, 0, none⟩), .int .u64 m] w fun e w' => e = .returned (.int .i64 20) ∧ Below w.heap.size w w' := by
  have e3 := h.blk.cell 3
  have e1 := h.blk.cell 1
  simp at e3 e1
  have hc := h.can
  go_enter Tryz.func20, Tryz.ntmps20
  go_wp2_with fail
  refine hc.mono ?_
  rintro e w1 ⟨rfl, hb⟩
  go_wp2_with fail
  go_ret
  exact ⟨rfl, hb⟩

theorem sub64_run (x y : Nat) (h : y ≤ x) (hx : x < 18446744073709551616) (w : World) :
    (callFunc 21 #[.int .u64 x, .int .u64 y, .int .u64 0]).run Tryz.prog w = .ok (.value (.tuple #[.int .u64 ((x : Int) - y), .int .u64 0])) w := by
  have := run_sub64 (P := Tryz.prog) x y 0 (by omega) w
  rw [run_callFunc_extern Tryz.func21 (by kernel_rfl) (by kernel_rfl) (by kernel_rfl) (e := sub64Entry) (by kernel_rfl)]
  rw [show (Value.int IntKind.u64 0) = Value.int .u64 ((0 : Nat) : Int) from rfl, this]
  have e1 : (x + 18446744073709551616 - y - 0) % 18446744073709551616 = x - y := by omega
  have e2 : (if x < y + 0 then 1 else 0 : Nat) = 0 := if_neg (by omega)
  rw [e1, e2, Int.ofNat_sub h]
  rfl
set_option maxHeartbeats 1000000 in
theorem keyLeft (w : World) (k n c L lc T : Nat) (xs : List Value) (next num : Int) (A : Option Addr) (tree : Value) (h : KeyAt w k xs next A n c L lc T tree num) (h0 : 0 ≤ next) (h2 : next ≤ 32) :
    Calls Tryz.prog 12 #[.pointer (some ⟨k, 0, none⟩)] w fun e w' => e = .returned (.int .u64 (32 - next)) ∧ Below w.heap.size w w' := by
  have e3 := h.blk.cell 3
  have e1 := h.blk.cell 1
  simp at e3 e1
  have hk := h.blk.lt
  have H := Lib.hid h
  have hsub : ∀ W : World, (callFunc 21 #[.int .u64 32, .int .u64 next, .int .u64 0]).run Tryz.prog W = .ok (.value (.tuple #[.int .u64 (32 - next), .int .u64 0])) W := by
    intro W
    obtain ⟨m, rfl⟩ := Int.eq_ofNat_of_zero_le h0
    exact sub64_run 32 m (by omega) (by omega) W
  clear h
  go_enter Tryz.func12, Tryz.ntmps12
  go_wp2_with fail
  go_region_held3 (fun w' => Below w.heap.size w w' ∧ w'.cell? ⟨k, 3, none⟩ = some (.int .u64 next) ∧ w'.cell? ⟨k, 1, none⟩ = some (.slice (some ⟨L, 0, none⟩) 1 lc))
    (first
      | exact ⟨(Below.refl _ _).drew, e3, e1⟩
      | exact ⟨(Below.refl w.heap.size w).drew.trans hb1, (hb1.cell (p := ⟨k, 3, none⟩) hk).trans e3, (hb1.cell (p := ⟨k, 1, none⟩) hk).trans e1⟩)
    (first
      | (go_at_call 22; refine (KeyAt.can (H.out.below (And.left (‹Below w.heap.size w _ ∧ _›)))).mono ?_; rintro e w1 ⟨rfl, hb1⟩))
  go_wp2_with fail
  go_ret
  exact ⟨rfl, (Below.refl w.heap.size w).drew.trans hb1⟩

theorem KeyAt.skip {w : World} {k n c L lc T : Nat} {xs : List Value} {next num : Int} {A : Option Addr} {tree : Value} (h : KeyAt w k xs next A n c L lc T tree num) (m : Int) :
    KeyAt (w.setCell ⟨k, 3, none⟩ (.int .u64 m)) k xs m A n c L lc T tree num := by
  obtain ⟨cs, h1, h2⟩ := h.lev
  refine ⟨by simpa using h.blk.set_ 3 (.int .u64 m), ⟨h.seed.1, fun hn => ?_⟩, ⟨cs, h1.far (p := ⟨k, 3, none⟩) (h1.ne_ h.blk (by decide)) _, h2⟩, h.tr.far (p := ⟨k, 3, none⟩) (h.tr.ne_ h.blk (by decide)) _, h.apart⟩
  obtain ⟨ad, e, hb, hc⟩ := h.seed.2 hn
  have hlt := h.apart hn ad e
  refine ⟨ad, e, by simpa [World.setCell] using hb, fun j u hu => ?_⟩
  rw [World.cell?_setCell_other _ _ _ _ (fun e => by
    have := congrArg Addr.block e
    rw [block_of_add] at this
    simp at this
    omega)]
  exact hc j u hu

/-- the value of a drogherlaw28.Job -/
abbrev jobVal (s b sl : Int) (old new : Value) (v om ob ov : Int) (A : Option Addr) (n c : Nat) (next : Int) : Value :=
  .agg #[.int .i64 s, .int .i64 b, .int .i64 sl, old, new, .int .u64 v, .int .u8 om, .int .i64 ob, .int .u64 ov, .slice A n c, .int .u64 next]

set_option maxHeartbeats 1000000 in
theorem jobKey_ok (s b sl : Int) (oA nA : Option Addr) (on oc nn nc : Nat) (v om ob ov : Int) (A : Option Addr) (n c : Nat) (next : Int) (B : Nat) (xs : List Value) (w : World)
    (hr : Reads w B 1 A n xs) (h1 : ∀ u ∈ xs, u.oneCell' = true) (hB : B ≤ w.heap.size) (hn : n * 1 ≤ room47) (h0 : 0 ≤ next) (h2 : next ≤ 32) :
    Calls Tryz.prog 10 #[jobVal s b sl (.slice oA on oc) (.slice nA nn nc) v om ob ov A n c next] w fun e w' =>
      ∃ k A' n' c' L' lc' T, e = .returned (.pointer (some ⟨k, 0, none⟩)) ∧ KeyAt w' k xs next A' n' c' L' lc' T (.pointer none) 0 ∧ w.heap.size ≤ k ∧ Below w.heap.size w w' := by
  have HR := Lib.hid hr
  have H1 := Lib.hid h1
  have HN := Lib.hid hn
  clear hr h1 hn
  go_enter Tryz.func10, Tryz.ntmps10
  go_wp2_with fail
  refine (hssNew A n c B xs _ 1 #[.int .u32 5, .int .u32 1] _ ((HR.out.alloc hB _).alloc (by simp; omega) _) H1.out (by simp; omega) HN.out (by simpa using Blk.new (w.alloc _) _ _) rfl rfl).mono ?_
  rintro e w1 ⟨k, A', n', c', L', lc', T, rfl, hkey, hk, hb⟩
  have hnx := hb.cell (p := ⟨w.heap.size, 10, none⟩) (by simp; omega)
  simp [World.cell?_alloc_lt, World.cell?_alloc_new] at hnx
  have HB := below_to (below_to (below_new w _) (below_new _ _)) hb
  have HK := Lib.hid hkey
  clear hkey
  go_wp2_with fail
  refine (keySkip_ok _ _ _ _ _ _ _ _ _ _ _ _ next HK.out h0 h2).mono ?_
  rintro e w2 ⟨rfl, w3, hb3, rfl⟩
  go_wp2_with fail
  go_ret
  refine ⟨k, A', n', c', L', lc', T, rfl, (HK.out.below hb3).skip next, by simp at hk; omega, ?_⟩
  exact (below_to HB hb3).setCell (p := ⟨k, 3, none⟩) (by simp at hk ⊢; omega) _

set_option maxHeartbeats 1000000 in
theorem jobKey_no (s b sl : Int) (oA nA : Option Addr) (on oc nn nc : Nat) (v om ob ov : Int) (A : Option Addr) (n c : Nat) (next : Int) (B : Nat) (xs : List Value) (w : World)
    (hr : Reads w B 1 A n xs) (h1 : ∀ u ∈ xs, u.oneCell' = true) (hB : B ≤ w.heap.size) (hn : n * 1 ≤ room47) (h2 : 32 < next) :
    Calls Tryz.prog 10 #[jobVal s b sl (.slice oA on oc) (.slice nA nn nc) v om ob ov A n c next] w fun e w' =>
      e = .returned (.pointer none) ∧ Below w.heap.size w w' := by
  have HR := Lib.hid hr
  have H1 := Lib.hid h1
  have HN := Lib.hid hn
  clear hr h1 hn
  go_enter Tryz.func10, Tryz.ntmps10
  go_wp2_with fail
  refine (hssNew A n c B xs _ 1 #[.int .u32 5, .int .u32 1] _ ((HR.out.alloc hB _).alloc (by simp; omega) _) H1.out (by simp; omega) HN.out (by simpa using Blk.new (w.alloc _) _ _) rfl rfl).mono ?_
  rintro e w1 ⟨k, A', n', c', L', lc', T, rfl, hkey, hk, hb⟩
  have hnx := hb.cell (p := ⟨w.heap.size, 10, none⟩) (by simp; omega)
  simp [World.cell?_alloc_lt, World.cell?_alloc_new] at hnx
  have HB := below_to (below_to (below_new w _) (below_new _ _)) hb
  have HK := Lib.hid hkey
  clear hkey
  go_wp2_with fail
  refine (keySkip_no _ _ _ _ _ _ _ _ _ _ _ _ next HK.out (by omega) h2).mono ?_
  rintro e w2 ⟨rfl, hb3⟩
  go_wp2_with fail
  go_ret
  exact ⟨rfl, below_to HB hb3⟩

end Go.Proofs.YtfinpkeckdhhlaaGreat
