/-
  No cell of these rows narrows 'for every input' (looked for: loops, veiled, ifaces, maps, wideKeys, modest, calm, conditions, laid).
  DERIVED. THE GIVEN ROWS OF THIS SEAT. 2 by the template 'for every input the law returns true; each argument reads behind the call as it read before'; 0 by the template 'total and deterministic' (their statements: YtfinpkeckdhhlaaGreatTotals.lean).
  GIVEN WITH THE SEED: the statements are not yours to turn. If you find one false, say at which input.
  Laid BY PROGRAM, IN A SANDBOX (cutbox-rows.mjs): the forced cells as the released guide's own fill.sh prints them over the translation b6d3e7472b9f169e… (all of the seat's roots in one cut). By AI agents, Wed Nov 11 2026. No macro, syntax, notation, axiom, sorry.
-/
import Derived.Test.YtfinpkeckdhhlaaGreatChecked
import GoSem.Claim
import GoSem.ClaimJoined
import GoSem.ClaimMapViews
import Derived.JoinedTies
import Derived.KernelRfl
namespace Go.Proofs.YtfinpkeckdhhlaaGreat
/- THE CELL 'sum', in the pinned program and in every row, IS THE sha256 OF THE DUMP (.gsa) THAT YtfinpkeckdhhlaaGreatProg.lean LOADS. Nothing in Lean hashes anything: it is a label: what it is worth is what the hold of that sum in a sandbox is worth. -/
noncomputable def Tryz.pinned : Pinned := { name := "ytfinpkeckdhhlaagreat", sum := "b6d3e7472b9f169ee2054168b48ff617a341df7f432a174781156762b80e01d9", checked := Tryz.checked }
namespace Rows
def none {H : Type} : Left H := { results := [], args := [] }

/-- 'drogherlaw28.BuildMay': WHATEVER THE INPUT: true; the input reads as it did. -/
def buildMaySpec : ChangeSpec := { name := "buildMay", fn := fun _ => fun
  | [d1, d2, d3, d4, d5] => { results := [.lit (.bool true)], args := [d1, d2, d3, d4, d5] }
  | _ => none }
def buildMayRow : OpenClaim := { program := "ytfinpkeckdhhlaagreat", sum := "b6d3e7472b9f169ee2054168b48ff617a341df7f432a174781156762b80e01d9", func := "drogher/drogherlaw28.BuildMay", spec := "buildMay", inPlace := ["math/bits.Sub64", "internal/bytealg.Compare"], unfollowed := true, recurses := true, apart := false }
def BuildMaySaid : Prop := buildMayRow.holds Tryz.pinned (OpenSpec.ofChange buildMaySpec)

/-- ITS FALSE NEIGHBOUR: 'it returns false'. Refute it at one input. -/
def buildMayWrong : ChangeSpec := { name := "buildMay", fn := fun _ => fun
  | [d1, d2, d3, d4, d5] => { results := [.lit (.bool false)], args := [d1, d2, d3, d4, d5] }
  | _ => none }
def BuildMayWrongFalsely : Prop := buildMayRow.holds Tryz.pinned (OpenSpec.ofChange buildMayWrong)

/-- 'drogherlaw28.BuildRefuses': WHATEVER THE INPUT: true; the input reads as it did. -/
def buildRefusesSpec : ChangeSpec := { name := "buildRefuses", fn := fun _ => fun
  | [d] => { results := [.lit (.bool true)], args := [d] }
  | _ => none }
def buildRefusesRow : OpenClaim := { program := "ytfinpkeckdhhlaagreat", sum := "b6d3e7472b9f169ee2054168b48ff617a341df7f432a174781156762b80e01d9", func := "drogher/drogherlaw28.BuildRefuses", spec := "buildRefuses", inPlace := ["math/bits.Sub64", "internal/bytealg.Compare"], unfollowed := true, recurses := true, apart := false }
def BuildRefusesSaid : Prop := buildRefusesRow.holds Tryz.pinned (OpenSpec.ofChange buildRefusesSpec)

/-- ITS FALSE NEIGHBOUR: 'it returns false'. Refute it at one input. -/
def buildRefusesWrong : ChangeSpec := { name := "buildRefuses", fn := fun _ => fun
  | [d] => { results := [.lit (.bool false)], args := [d] }
  | _ => none }
def BuildRefusesWrongFalsely : Prop := buildRefusesRow.holds Tryz.pinned (OpenSpec.ofChange buildRefusesWrong)

/- THE SECOND FORM. 'bulk': how many values and letters a reading holds, each counted each time it is reached (what is shared counts as often as it is met; a slice's spare places count too). A statement '..UptoSaid' is the law's where the arguments, and the package variables that the reading takes, are together of bulk at most 1048576: NARROWER than '..Said'. Prove '..Said' where nothing that the law and all that it calls make is longer than what came in: it says more and counts as full. Else prove '..UptoSaid'. A law counts once. -/
mutual
def uptoBulk {H : Type} : DataW H → Nat
  | .lit (.string bytes) => bytes.length + 1
  | .lit _ => 1
  | .nil => 1
  | .ptr d => uptoBulk d + 1
  | .slice elems spare => uptoBulkAll elems + uptoBulkAll spare + 1
  | .agg parts => uptoBulkAll parts + 1
  | .iface _ d => uptoBulk d + 1
  | .map entries => uptoBulkEntries entries + 1
  | .held _ => 1
def uptoBulkAll {H : Type} : List (DataW H) → Nat
  | [] => 0
  | d :: r => uptoBulk d + uptoBulkAll r
def uptoBulkEntries {H : Type} : List (Lit × DataW H) → Nat
  | [] => 0
  | x :: r => uptoBulkEntry x + uptoBulkEntries r
def uptoBulkEntry {H : Type} : Lit × DataW H → Nat
  | (.string bytes, d) => bytes.length + uptoBulk d + 1
  | (_, d) => uptoBulk d + 1
 end
def uptoSmall : (H : Type) → List (DataW H) → Bool := fun _ ds => decide (uptoBulkAll ds ≤ 1048576)
def OpenSpec.upto (s : _root_.Go.ChangeSpec) : _root_.Go.OpenSpec := { _root_.Go.OpenSpec.ofChange s with cond := some uptoSmall }

/-- 'drogherlaw28.BuildMay', WHERE WHAT IT READS IS OF BULK AT MOST 1048576: true; the input reads as it did. -/
def buildMayUptoRow : OpenClaim := { program := "ytfinpkeckdhhlaagreat", sum := "b6d3e7472b9f169ee2054168b48ff617a341df7f432a174781156762b80e01d9", func := "drogher/drogherlaw28.BuildMay", spec := "buildMay", inPlace := ["math/bits.Sub64", "internal/bytealg.Compare"], unfollowed := true, recurses := true, apart := false, narrowed := true }
def BuildMayUptoSaid : Prop := buildMayUptoRow.holds Tryz.pinned (OpenSpec.upto buildMaySpec)

/-- 'drogherlaw28.BuildRefuses', WHERE WHAT IT READS IS OF BULK AT MOST 1048576: true; the input reads as it did. -/
def buildRefusesUptoRow : OpenClaim := { program := "ytfinpkeckdhhlaagreat", sum := "b6d3e7472b9f169ee2054168b48ff617a341df7f432a174781156762b80e01d9", func := "drogher/drogherlaw28.BuildRefuses", spec := "buildRefuses", inPlace := ["math/bits.Sub64", "internal/bytealg.Compare"], unfollowed := true, recurses := true, apart := false, narrowed := true }
def BuildRefusesUptoSaid : Prop := buildRefusesUptoRow.holds Tryz.pinned (OpenSpec.upto buildRefusesSpec)

end Rows
end Go.Proofs.YtfinpkeckdhhlaaGreat
