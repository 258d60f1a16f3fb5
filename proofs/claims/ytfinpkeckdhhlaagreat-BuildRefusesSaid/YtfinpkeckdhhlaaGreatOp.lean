/-
  Arguments opened: byte slices; a job.
-/
import Derived.Test.YtfinpkeckdhhlaaGreatMem
import Derived.Test.YtfinpkeckdhhlaaGreatFr
namespace Go.Proofs.YtfinpkeckdhhlaaGreat
open Go.ChangeShapes Go.WideShapes Go.ChangeAt Go.RowKit Go.Joins

/-- a slice of bytes that came in -/
theorem open_bytes {H : Type} {enc : TypeId × Value → H} {P : Program} {w : World} {t e : TypeId} {fuel : Nat} {v : Value} {x : DataW H × List MemPlace} (ht : P.underlying t = some (.slice e)) (he : P.underlying e = some (.int .u8)) (hc : P.cellsOf e = 1)
    (h : DataW.trod enc P w 0 (fun _ => true) true fuel t [v] = some x) :
    ∃ (A : Option Addr) (n c : Nat) (zs : List Int), v = .slice A n c ∧ n ≤ c ∧ c ≤ maxLen ∧ Reads w w.heap.size 1 A n (zs.map (Value.int .u8)) ∧ ∀ z ∈ zs, 0 ≤ z ∧ z ≤ 255 := by
  rcases open_ints ht he hc h with ⟨hcs, _⟩ | ⟨a, len, cap, zs, hcs, _, hl, hm, hz, _, hcell, hwz⟩
  · simp at hcs
    subst hcs
    exact ⟨none, 0, 0, [], rfl, Nat.le_refl _, by simp [maxLen], Reads.none_, by simp⟩
  · simp at hcs
    subst hcs
    simp at hz
    refine ⟨some a, len, cap, zs.take len, rfl, hl, hm, ⟨by simp; omega, fun h0 => ⟨a, rfl, ?_, ?_⟩⟩, fun z hz' => bounds_u8 (hwz z (List.mem_of_mem_take hz'))⟩
    · have h1 := hcell 0 (by omega)
      have h2 := World.block_lt_of_cell? w _ h1
      rw [block_of_add] at h2
      exact h2
    · intro j u hu
      rw [List.getElem?_map] at hu
      rcases Nat.lt_or_ge j len with hj | hj
      · have h1 := hcell j (by omega)
        rw [h1]
        rw [List.getElem?_take, if_pos hj] at hu
        rw [List.getElem?_eq_getElem (by omega)] at hu
        simp at hu
        rw [← hu, List.getD_eq_getElem?_getD, List.getElem?_eq_getElem (by omega)]
        rfl
      · rw [List.getElem?_take, if_neg (by omega)] at hu
        simp at hu

theorem one_bytes (zs : List Int) : ∀ u ∈ zs.map (Value.int .u8), u.oneCell' = true := by
  intro u hu
  rw [List.mem_map] at hu
  obtain ⟨z, _, rfl⟩ := hu
  rfl

theorem array11 {α : Type} {cs : Array α} (h : cs.size = 11) : ∃ c0 c1 c2 c3 c4 c5 c6 c7 c8 c9 c10, cs = #[c0, c1, c2, c3, c4, c5, c6, c7, c8, c9, c10] := by
  obtain ⟨l⟩ := cs
  match l, h with
  | [c0, c1, c2, c3, c4, c5, c6, c7, c8, c9, c10], _ => exact ⟨c0, c1, c2, c3, c4, c5, c6, c7, c8, c9, c10, rfl⟩

/-- a struct by value of one-cell integers, read off its list of cells -/
theorem open_ints3 {H : Type} {enc : TypeId × Value → H} {P : Program} {w : World} {t : TypeId} {f0 f1 f2 : Field} {k0 k1 k2 : IntKind} {fuel : Nat} {c0 c1 c2 : Value} {x : DataW H × List MemPlace}
    (hs : P.underlying t = some (.struct #[f0, f1, f2])) (o0 : f0.offset = 0) (o1 : f1.offset = 1) (o2 : f2.offset = 2) (n0 : P.cellsOf f0.type = 1) (n1 : P.cellsOf f1.type = 1) (n2 : P.cellsOf f2.type = 1)
    (h0 : P.underlying f0.type = some (.int k0)) (h1 : P.underlying f1.type = some (.int k1)) (h2 : P.underlying f2.type = some (.int k2))
    (h : DataW.trod enc P w 0 (fun _ => true) true fuel t [c0, c1, c2] = some x) :
    ∃ z0 z1 z2, c0 = .int k0 z0 ∧ c1 = .int k1 z1 ∧ c2 = .int k2 z2 ∧ (Lit.int k0 z0).wf = true ∧ (Lit.int k1 z1).wf = true ∧ (Lit.int k2 z2).wf = true := by
  obtain ⟨xs, n, _, _, _, hlen, hg⟩ := DataW.trod_struct hs h
  have g0 := hg 0 f0 rfl
  have g1 := hg 1 f1 rfl
  have g2 := hg 2 f2 rfl
  simp [o0, n0] at g0
  simp [o1, n1] at g1
  simp [o2, n2] at g2
  simp at hlen
  rw [List.getElem?_eq_getElem (by omega)] at g0 g1 g2
  obtain ⟨z0, e0, _, w0⟩ := DataW.trod_int h0 g0
  obtain ⟨z1, e1, _, w1⟩ := DataW.trod_int h1 g1
  obtain ⟨z2, e2, _, w2⟩ := DataW.trod_int h2 g2
  simp at e0 e1 e2
  exact ⟨z0, z1, z2, e0, e1, e2, w0, w1, w2⟩

end Go.Proofs.YtfinpkeckdhhlaaGreat
