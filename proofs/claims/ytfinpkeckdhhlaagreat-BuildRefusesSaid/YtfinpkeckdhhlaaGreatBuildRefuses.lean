/-
  drogherlaw28.BuildRefuses returns true for every input: what may not be built is refused, and the key signs nothing. No condition.
-/
import Derived.Test.YtfinpkeckdhhlaaGreatRef
import Derived.Test.YtfinpkeckdhhlaaGreatOp
namespace Go.Proofs.YtfinpkeckdhhlaaGreat
open Go.ChangeShapes Go.WideShapes Go.ChangeAt Go.RowKit Go.Joins

theorem cellsJob : Tryz.prog.cellsOf 35 = 11 := by kernel_rfl
theorem cellsDisk : Tryz.prog.cellsOf 32 = 3 := by kernel_rfl
theorem cellsOpts : Tryz.prog.cellsOf 24 = 3 := by kernel_rfl
theorem cellsBs : Tryz.prog.cellsOf 33 = 1 := by kernel_rfl
theorem cellsU8 : Tryz.prog.cellsOf 5 = 1 := by kernel_rfl
theorem cellsU64 : Tryz.prog.cellsOf 22 = 1 := by kernel_rfl
theorem cellsInt : Tryz.prog.cellsOf 3 = 1 := by kernel_rfl

set_option maxRecDepth 100000 in
set_option maxHeartbeats 400000 in
theorem open_job {H : Type} {enc : TypeId × Value → H} {r : Reach} {b0 : Nat} {w : World} {v : Value} {d : DataW H} {p : List MemPlace}
    (hv : Value.okWide Tryz.prog w r b0 35 v) (h : DataW.Trod enc Tryz.prog w 0 (fun _ => true) true 35 v d p) :
    ∃ (s b sl v1 om ob ov next : Int) (oA nA A : Option Addr) (on oc nn nc n c : Nat) (zs : List Int), v = jobVal s b sl (.slice oA on oc) (.slice nA nn nc) v1 om ob ov A n c next ∧
      on ≤ maxLen ∧ nn ≤ maxLen ∧ n ≤ maxLen ∧ Reads w w.heap.size 1 A n (zs.map (Value.int .u8)) ∧ 0 ≤ next ∧ 0 ≤ om := by
  obtain ⟨cs, rfl, hsz⟩ := okWide_struct Tryz.underlying35 hv
  obtain ⟨c0, c1, c2, c3, c4, c5, c6, c7, c8, c9, c10, rfl⟩ := array11 (hsz.trans cellsJob)
  obtain ⟨fuel, hf⟩ := h
  obtain ⟨xs, n, _, _, _, hlen, hg⟩ := DataW.trod_struct Tryz.underlying35 hf
  have g0 := hg 0 _ rfl
  have g1 := hg 1 _ rfl
  have g2 := hg 2 _ rfl
  have g3 := hg 3 _ rfl
  have g4 := hg 4 _ rfl
  have g5 := hg 5 _ rfl
  have g6 := hg 6 _ rfl
  simp [Value.cells, cellsDisk] at g0
  simp [Value.cells, cellsBs] at g1 g2 g5
  simp [Value.cells, cellsU64] at g3 g6
  simp [Value.cells, cellsOpts] at g4
  simp at hlen
  rw [List.getElem?_eq_getElem (by omega)] at g0 g1 g2 g3 g4 g5 g6
  obtain ⟨z0, z1, z2, rfl, rfl, rfl, _, _, _⟩ := open_ints3 Tryz.underlying32 rfl rfl rfl cellsInt cellsInt cellsInt Tryz.underlying3 Tryz.underlying3 Tryz.underlying3 g0
  obtain ⟨y0, y1, y2, rfl, rfl, rfl, wy, _, _⟩ := open_ints3 Tryz.underlying24 rfl rfl rfl cellsU8 cellsInt cellsU64 Tryz.underlying5 Tryz.underlying3 Tryz.underlying22 g4
  obtain ⟨oA, on, oc, oz, rfl, o1, o2, _, _⟩ := open_bytes Tryz.underlying33 Tryz.underlying5 cellsU8 g1
  obtain ⟨nA, nn, nc, nz, rfl, n1, n2, _, _⟩ := open_bytes Tryz.underlying33 Tryz.underlying5 cellsU8 g2
  obtain ⟨sA, sn, sc, sz, rfl, s1, s2, s3, _⟩ := open_bytes Tryz.underlying33 Tryz.underlying5 cellsU8 g5
  obtain ⟨v1, e3, _, _⟩ := DataW.trod_int Tryz.underlying22 g3
  obtain ⟨nx, e6, _, wn⟩ := DataW.trod_int Tryz.underlying22 g6
  simp at e3 e6
  subst e3 e6
  exact ⟨z0, z1, z2, v1, y0, y1, y2, nx, oA, nA, sA, on, oc, nn, nc, sn, sc, sz, rfl, by omega, by omega, by omega, s3, (bounds_u64 wn).1, (bounds_u8 wy).1⟩

set_option maxRecDepth 100000 in
theorem buildRefuses_lifted (os : Os) (started : os.Started) (H : Type) (enc : TypeId × Value → H) :
    ReturnsInHanded {} Tryz.checked os 4 .any (Rows.buildRefusesSpec.pre6 enc Tryz.prog Tryz.f4 Rows.buildRefusesRow.domain false) (Rows.buildRefusesSpec.post enc Tryz.prog Tryz.f4 false true false false) := by
  refine returnsInHanded_of_change (C := Tryz.checked) own started (by kernel_rfl) Tryz.func4
    (ChangeSpec.witness6 (enc := enc) (C := Tryz.checked) false ⟨#[], #[.agg #[.int .i64 0, .int .i64 0, .int .i64 0, .slice none 0 0, .slice none 0 0, .int .u64 0, .int .u8 0, .int .i64 0, .int .u64 0, .slice none 0 0, .int .u64 0]], []⟩ 8 (by kernel_rfl) (by kernel_rfl) (by kernel_rfl) (by kernel_rfl)) ?_
  intro W base args ds gs before hval0 hW hcnd _
  have hval : ∀ (j : Nat) t v, Tryz.f4.params[j]? = some t → args[j]? = some v → Value.okWide Tryz.prog W .any base t v := hval0
  have hW' := hW
  obtain ⟨p, q, hA0, hV, rfl, hfz, hnd⟩ := hW
  have hA : DataW.TrodAll enc Tryz.prog W 0 (fun _ => true) true Tryz.f4.params.toList args.toList ds p := hA0
  have hA2 := hA
  rw [Tryz.params4] at hA hval
  obtain ⟨v0, vs0, d0, ds0, p0, q0, hargs, rfl, rfl, h0, r0⟩ := trodAll_cons hA
  obtain ⟨rfl, rfl, rfl⟩ := trodAll_nil r0
  obtain rfl : args = #[v0] := by cases args; simp_all
  obtain ⟨rfl, rfl⟩ := trodVars_none hV
  obtain ⟨s, b, sl, v1, om, ob, ov, next, oA, nA, A, on, oc, nn, nc, n, c, zs, rfl, l1, l2, l3, hr, hx, hm⟩ := open_job (hval 0 _ _ rfl rfl) h0
  clear hA0 hval0
  unfold maxLen at l1 l2 l3
  have key : Calls Tryz.prog 4 #[jobVal s b sl (.slice oA on oc) (.slice nA nn nc) v1 om ob ov A n c next] W fun e w' => e = .returned (.bool true) ∧ Below W.heap.size W w' := by
    by_cases hg : 2000 < on ∨ 2000 < nn ∨ 100 < n
    · exact refuses_great s b sl oA nA on oc nn nc v1 om ob ov A n c next W hg (by omega) (by omega) (by omega)
    · by_cases h32 : 32 < next
      · exact refuses_nokey s b sl oA nA on oc nn nc v1 om ob ov A n c next _ _ W hr (one_bytes zs) (Nat.le_refl _) (by omega) (by omega) (by omega) h32
      · exact refuses_key s b sl oA nA on oc nn nc v1 om ob ov A n c next _ _ W hr (one_bytes zs) (Nat.le_refl _) (by omega) (by omega) (by omega) hx (by omega) hm
  refine key.mono fun e W' ⟨he, bel⟩ => ?_
  subst he
  exact ⟨_, rfl, _, _, _, [], _, [], hW', trodAll_mk1 (shut_bool Tryz.underlying4 _), trodAll_below laidOut bel _ (by kernel_rfl) _ _ _ hA2, rfl, bel.frame _, fun h => by cases h⟩

theorem buildRefuses_holds : Rows.BuildRefusesSaid :=
  OpenClaim.holds_of_wide 4 Tryz.f4 rfl rfl rfl rfl rfl rfl rfl ⟨rfl, rfl, rfl, rfl, rfl⟩ rfl rfl rfl rfl rfl (by kernel_rfl) Tryz.func4 (by kernel_rfl)
    (of_decide_eq_true (by kernel_rfl)) (by unfold Func.isWrapper; first | (rw [if_pos (by decide +kernel)]; kernel_rfl) | (rw [if_neg (by decide +kernel)]; exact ⟨rfl, rfl⟩))
    (fun os started H enc _ => buildRefuses_lifted os started H enc)

#print axioms buildRefuses_holds
end Go.Proofs.YtfinpkeckdhhlaaGreat
