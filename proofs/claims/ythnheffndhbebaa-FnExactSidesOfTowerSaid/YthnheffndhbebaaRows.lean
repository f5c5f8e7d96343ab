/-
  No cell of these rows narrows 'for every input' (looked for: loops, veiled, ifaces, maps, wideKeys, modest, calm, conditions, laid).
  DERIVED. THE GIVEN ROWS OF THIS SEAT. 11 by the template 'for every input the law returns true; each argument reads behind the call as it read before'; 0 by the template 'total and deterministic' (their statements: YthnheffndhbebaaTotals.lean).
  GIVEN WITH THE SEED: the statements are not yours to turn. If you find one false, say at which input.
  Laid BY PROGRAM, IN A SANDBOX (cutbox-rows.mjs): the forced cells as the released guide's own fill.sh prints them over the translation 6b4803a656596072… (all of the seat's roots in one cut). By AI agents, Wed Nov 11 2026. No macro, syntax, notation, axiom, sorry.
-/
import Derived.Test.YthnheffndhbebaaChecked
import GoSem.Claim
import GoSem.ClaimJoined
import GoSem.ClaimMapViews
import Derived.JoinedTies
import Derived.KernelRfl
namespace Go.Proofs.Ythnheffndhbebaa
/- THE CELL 'sum', in the pinned program and in every row, IS THE sha256 OF THE DUMP (.gsa) THAT YthnheffndhbebaaProg.lean LOADS. Nothing in Lean hashes anything: it is a label: what it is worth is what the hold of that sum in a sandbox is worth. -/
noncomputable def Try.pinned : Pinned := { name := "ythnheffndhbebaa", sum := "6b4803a65659607234d3994579dfbf3227b657bb65af4284ff934ba87805f1f1", checked := Try.checked }
namespace Rows
def none {H : Type} : Left H := { results := [], args := [] }

/-- 'laws.FnExactIsPlan': WHATEVER THE INPUT: true; the input reads as it did. -/
def fnExactIsPlanSpec : ChangeSpec := { name := "fnExactIsPlan", fn := fun _ => fun
  | [d] => { results := [.lit (.bool true)], args := [d] }
  | _ => none }
def fnExactIsPlanRow : OpenClaim := { program := "ythnheffndhbebaa", sum := "6b4803a65659607234d3994579dfbf3227b657bb65af4284ff934ba87805f1f1", func := "loop.example/g01207/laws.FnExactIsPlan", spec := "fnExactIsPlan", inPlace := ["internal/bytealg.IndexByteString"], apart := false }
def FnExactIsPlanSaid : Prop := fnExactIsPlanRow.holds Try.pinned (OpenSpec.ofChange fnExactIsPlanSpec)

/-- ITS FALSE NEIGHBOUR: 'it returns false'. Refute it at one input. -/
def fnExactIsPlanWrong : ChangeSpec := { name := "fnExactIsPlan", fn := fun _ => fun
  | [d] => { results := [.lit (.bool false)], args := [d] }
  | _ => none }
def FnExactIsPlanWrongFalsely : Prop := fnExactIsPlanRow.holds Try.pinned (OpenSpec.ofChange fnExactIsPlanWrong)

/-- 'laws.FnExactBackPlan': WHATEVER THE INPUT: true; the input reads as it did. -/
def fnExactBackPlanSpec : ChangeSpec := { name := "fnExactBackPlan", fn := fun _ => fun
  | [d] => { results := [.lit (.bool true)], args := [d] }
  | _ => none }
def fnExactBackPlanRow : OpenClaim := { program := "ythnheffndhbebaa", sum := "6b4803a65659607234d3994579dfbf3227b657bb65af4284ff934ba87805f1f1", func := "loop.example/g01207/laws.FnExactBackPlan", spec := "fnExactBackPlan", inPlace := ["internal/bytealg.IndexByteString"], apart := false }
def FnExactBackPlanSaid : Prop := fnExactBackPlanRow.holds Try.pinned (OpenSpec.ofChange fnExactBackPlanSpec)

/-- ITS FALSE NEIGHBOUR: 'it returns false'. Refute it at one input. -/
def fnExactBackPlanWrong : ChangeSpec := { name := "fnExactBackPlan", fn := fun _ => fun
  | [d] => { results := [.lit (.bool false)], args := [d] }
  | _ => none }
def FnExactBackPlanWrongFalsely : Prop := fnExactBackPlanRow.holds Try.pinned (OpenSpec.ofChange fnExactBackPlanWrong)

/-- 'laws.FnExactCountFaceTrees': WHATEVER THE INPUT: true; the input reads as it did. -/
def fnExactCountFaceTreesSpec : ChangeSpec := { name := "fnExactCountFaceTrees", fn := fun _ => fun
  | [] => { results := [.lit (.bool true)], args := [] }
  | _ => none }
def fnExactCountFaceTreesRow : OpenClaim := { program := "ythnheffndhbebaa", sum := "6b4803a65659607234d3994579dfbf3227b657bb65af4284ff934ba87805f1f1", func := "loop.example/g01207/laws.FnExactCountFaceTrees", spec := "fnExactCountFaceTrees", recurses := true, apart := false }
def FnExactCountFaceTreesSaid : Prop := fnExactCountFaceTreesRow.holds Try.pinned (OpenSpec.ofChange fnExactCountFaceTreesSpec)

/-- ITS FALSE NEIGHBOUR: 'it returns false'. Refute it at one input. -/
def fnExactCountFaceTreesWrong : ChangeSpec := { name := "fnExactCountFaceTrees", fn := fun _ => fun
  | [] => { results := [.lit (.bool false)], args := [] }
  | _ => none }
def FnExactCountFaceTreesWrongFalsely : Prop := fnExactCountFaceTreesRow.holds Try.pinned (OpenSpec.ofChange fnExactCountFaceTreesWrong)

/-- 'laws.FnExactCellsOfBox': WHATEVER THE INPUT: true; the input reads as it did. -/
def fnExactCellsOfBoxSpec : ChangeSpec := { name := "fnExactCellsOfBox", fn := fun _ => fun
  | [d] => { results := [.lit (.bool true)], args := [d] }
  | _ => none }
def fnExactCellsOfBoxRow : OpenClaim := { program := "ythnheffndhbebaa", sum := "6b4803a65659607234d3994579dfbf3227b657bb65af4284ff934ba87805f1f1", func := "loop.example/g01207/laws.FnExactCellsOfBox", spec := "fnExactCellsOfBox", apart := false }
def FnExactCellsOfBoxSaid : Prop := fnExactCellsOfBoxRow.holds Try.pinned (OpenSpec.ofChange fnExactCellsOfBoxSpec)

/-- ITS FALSE NEIGHBOUR: 'it returns false'. Refute it at one input. -/
def fnExactCellsOfBoxWrong : ChangeSpec := { name := "fnExactCellsOfBox", fn := fun _ => fun
  | [d] => { results := [.lit (.bool false)], args := [d] }
  | _ => none }
def FnExactCellsOfBoxWrongFalsely : Prop := fnExactCellsOfBoxRow.holds Try.pinned (OpenSpec.ofChange fnExactCellsOfBoxWrong)

/-- 'laws.FnExactColorsOf': WHATEVER THE INPUT: true; the input reads as it did. -/
def fnExactColorsOfSpec : ChangeSpec := { name := "fnExactColorsOf", fn := fun _ => fun
  | [d] => { results := [.lit (.bool true)], args := [d] }
  | _ => none }
def fnExactColorsOfRow : OpenClaim := { program := "ythnheffndhbebaa", sum := "6b4803a65659607234d3994579dfbf3227b657bb65af4284ff934ba87805f1f1", func := "loop.example/g01207/laws.FnExactColorsOf", spec := "fnExactColorsOf", unfollowed := true, recurses := true, apart := false }
def FnExactColorsOfSaid : Prop := fnExactColorsOfRow.holds Try.pinned (OpenSpec.ofChange fnExactColorsOfSpec)

/-- ITS FALSE NEIGHBOUR: 'it returns false'. Refute it at one input. -/
def fnExactColorsOfWrong : ChangeSpec := { name := "fnExactColorsOf", fn := fun _ => fun
  | [d] => { results := [.lit (.bool false)], args := [d] }
  | _ => none }
def FnExactColorsOfWrongFalsely : Prop := fnExactColorsOfRow.holds Try.pinned (OpenSpec.ofChange fnExactColorsOfWrong)

/-- 'laws.FnExactCountColorings': WHATEVER THE INPUT: true; the input reads as it did. -/
def fnExactCountColoringsSpec : ChangeSpec := { name := "fnExactCountColorings", fn := fun _ => fun
  | [d] => { results := [.lit (.bool true)], args := [d] }
  | _ => none }
def fnExactCountColoringsRow : OpenClaim := { program := "ythnheffndhbebaa", sum := "6b4803a65659607234d3994579dfbf3227b657bb65af4284ff934ba87805f1f1", func := "loop.example/g01207/laws.FnExactCountColorings", spec := "fnExactCountColorings", apart := false }
def FnExactCountColoringsSaid : Prop := fnExactCountColoringsRow.holds Try.pinned (OpenSpec.ofChange fnExactCountColoringsSpec)

/-- ITS FALSE NEIGHBOUR: 'it returns false'. Refute it at one input. -/
def fnExactCountColoringsWrong : ChangeSpec := { name := "fnExactCountColorings", fn := fun _ => fun
  | [d] => { results := [.lit (.bool false)], args := [d] }
  | _ => none }
def FnExactCountColoringsWrongFalsely : Prop := fnExactCountColoringsRow.holds Try.pinned (OpenSpec.ofChange fnExactCountColoringsWrong)

/-- 'laws.FnExactPairsOf': WHATEVER THE INPUT: true; the input reads as it did. -/
def fnExactPairsOfSpec : ChangeSpec := { name := "fnExactPairsOf", fn := fun _ => fun
  | [d] => { results := [.lit (.bool true)], args := [d] }
  | _ => none }
def fnExactPairsOfRow : OpenClaim := { program := "ythnheffndhbebaa", sum := "6b4803a65659607234d3994579dfbf3227b657bb65af4284ff934ba87805f1f1", func := "loop.example/g01207/laws.FnExactPairsOf", spec := "fnExactPairsOf", unfollowed := true, recurses := true, apart := false }
def FnExactPairsOfSaid : Prop := fnExactPairsOfRow.holds Try.pinned (OpenSpec.ofChange fnExactPairsOfSpec)

/-- ITS FALSE NEIGHBOUR: 'it returns false'. Refute it at one input. -/
def fnExactPairsOfWrong : ChangeSpec := { name := "fnExactPairsOf", fn := fun _ => fun
  | [d] => { results := [.lit (.bool false)], args := [d] }
  | _ => none }
def FnExactPairsOfWrongFalsely : Prop := fnExactPairsOfRow.holds Try.pinned (OpenSpec.ofChange fnExactPairsOfWrong)

/-- 'laws.FnExactIsTower': WHATEVER THE INPUT: true; the input reads as it did. -/
def fnExactIsTowerSpec : ChangeSpec := { name := "fnExactIsTower", fn := fun _ => fun
  | [d] => { results := [.lit (.bool true)], args := [d] }
  | _ => none }
def fnExactIsTowerRow : OpenClaim := { program := "ythnheffndhbebaa", sum := "6b4803a65659607234d3994579dfbf3227b657bb65af4284ff934ba87805f1f1", func := "loop.example/g01207/laws.FnExactIsTower", spec := "fnExactIsTower", unfollowed := true, recurses := true, apart := false }
def FnExactIsTowerSaid : Prop := fnExactIsTowerRow.holds Try.pinned (OpenSpec.ofChange fnExactIsTowerSpec)

/-- ITS FALSE NEIGHBOUR: 'it returns false'. Refute it at one input. -/
def fnExactIsTowerWrong : ChangeSpec := { name := "fnExactIsTower", fn := fun _ => fun
  | [d] => { results := [.lit (.bool false)], args := [d] }
  | _ => none }
def FnExactIsTowerWrongFalsely : Prop := fnExactIsTowerRow.holds Try.pinned (OpenSpec.ofChange fnExactIsTowerWrong)

/-- 'laws.FnExactTurnTower': WHATEVER THE INPUT: true; the input reads as it did. -/
def fnExactTurnTowerSpec : ChangeSpec := { name := "fnExactTurnTower", fn := fun _ => fun
  | [d1, d2] => { results := [.lit (.bool true)], args := [d1, d2] }
  | _ => none }
def fnExactTurnTowerRow : OpenClaim := { program := "ythnheffndhbebaa", sum := "6b4803a65659607234d3994579dfbf3227b657bb65af4284ff934ba87805f1f1", func := "loop.example/g01207/laws.FnExactTurnTower", spec := "fnExactTurnTower", unfollowed := true, recurses := true, apart := false }
def FnExactTurnTowerSaid : Prop := fnExactTurnTowerRow.holds Try.pinned (OpenSpec.ofChange fnExactTurnTowerSpec)

/-- ITS FALSE NEIGHBOUR: 'it returns false'. Refute it at one input. -/
def fnExactTurnTowerWrong : ChangeSpec := { name := "fnExactTurnTower", fn := fun _ => fun
  | [d1, d2] => { results := [.lit (.bool false)], args := [d1, d2] }
  | _ => none }
def FnExactTurnTowerWrongFalsely : Prop := fnExactTurnTowerRow.holds Try.pinned (OpenSpec.ofChange fnExactTurnTowerWrong)

/-- 'laws.FnExactCountLoops': WHATEVER THE INPUT: true; the input reads as it did. -/
def fnExactCountLoopsSpec : ChangeSpec := { name := "fnExactCountLoops", fn := fun _ => fun
  | [d] => { results := [.lit (.bool true)], args := [d] }
  | _ => none }
def fnExactCountLoopsRow : OpenClaim := { program := "ythnheffndhbebaa", sum := "6b4803a65659607234d3994579dfbf3227b657bb65af4284ff934ba87805f1f1", func := "loop.example/g01207/laws.FnExactCountLoops", spec := "fnExactCountLoops", unfollowed := true, recurses := true, apart := false }
def FnExactCountLoopsSaid : Prop := fnExactCountLoopsRow.holds Try.pinned (OpenSpec.ofChange fnExactCountLoopsSpec)

/-- ITS FALSE NEIGHBOUR: 'it returns false'. Refute it at one input. -/
def fnExactCountLoopsWrong : ChangeSpec := { name := "fnExactCountLoops", fn := fun _ => fun
  | [d] => { results := [.lit (.bool false)], args := [d] }
  | _ => none }
def FnExactCountLoopsWrongFalsely : Prop := fnExactCountLoopsRow.holds Try.pinned (OpenSpec.ofChange fnExactCountLoopsWrong)

/-- 'laws.FnExactSidesOfTower': WHATEVER THE INPUT: true; the input reads as it did. -/
def fnExactSidesOfTowerSpec : ChangeSpec := { name := "fnExactSidesOfTower", fn := fun _ => fun
  | [d] => { results := [.lit (.bool true)], args := [d] }
  | _ => none }
def fnExactSidesOfTowerRow : OpenClaim := { program := "ythnheffndhbebaa", sum := "6b4803a65659607234d3994579dfbf3227b657bb65af4284ff934ba87805f1f1", func := "loop.example/g01207/laws.FnExactSidesOfTower", spec := "fnExactSidesOfTower", unfollowed := true, recurses := true, apart := false }
def FnExactSidesOfTowerSaid : Prop := fnExactSidesOfTowerRow.holds Try.pinned (OpenSpec.ofChange fnExactSidesOfTowerSpec)

/-- ITS FALSE NEIGHBOUR: 'it returns false'. Refute it at one input. -/
def fnExactSidesOfTowerWrong : ChangeSpec := { name := "fnExactSidesOfTower", fn := fun _ => fun
  | [d] => { results := [.lit (.bool false)], args := [d] }
  | _ => none }
def FnExactSidesOfTowerWrongFalsely : Prop := fnExactSidesOfTowerRow.holds Try.pinned (OpenSpec.ofChange fnExactSidesOfTowerWrong)

/- THE SECOND FORM. 'bulk': how many values and letters a reading holds, each counted each time it is reached (what is shared counts as often as it is met; a slice's spare places count too). A statement '..UptoSaid' is the law's where the arguments, and the package variables that the reading takes, are together of bulk at most 1048576: NARROWER than '..Said'. Prove '..Said' where nothing that the law and all that it calls make is longer than what came in: it says more and counts as full. Else prove '..UptoSaid'. A law counts once. -/
mutual
def uptoBulk {H : Type} : DataW H → Nat
  | .lit (.string bytes) => bytes.length + 1
  | .lit _ => 1
  | .nil => 1
  | .ptr d => uptoBulk d + 1
  | .slice elems spare => uptoBulkAll elems + uptoBulkAll spare + 1
  | .agg parts => uptoBulkAll parts + 1
  | .iface _ d => uptoBulk d + 1
  | .map entries => uptoBulkEntries entries + 1
  | .held _ => 1
def uptoBulkAll {H : Type} : List (DataW H) → Nat
  | [] => 0
  | d :: r => uptoBulk d + uptoBulkAll r
def uptoBulkEntries {H : Type} : List (Lit × DataW H) → Nat
  | [] => 0
  | x :: r => uptoBulkEntry x + uptoBulkEntries r
def uptoBulkEntry {H : Type} : Lit × DataW H → Nat
  | (.string bytes, d) => bytes.length + uptoBulk d + 1
  | (_, d) => uptoBulk d + 1
 end
def uptoSmall : (H : Type) → List (DataW H) → Bool := fun _ ds => decide (uptoBulkAll ds ≤ 1048576)
def OpenSpec.upto (s : _root_.Go.ChangeSpec) : _root_.Go.OpenSpec := { _root_.Go.OpenSpec.ofChange s with cond := some uptoSmall }

/-- 'laws.FnExactIsPlan', WHERE WHAT IT READS IS OF BULK AT MOST 1048576: true; the input reads as it did. -/
def fnExactIsPlanUptoRow : OpenClaim := { program := "ythnheffndhbebaa", sum := "6b4803a65659607234d3994579dfbf3227b657bb65af4284ff934ba87805f1f1", func := "loop.example/g01207/laws.FnExactIsPlan", spec := "fnExactIsPlan", inPlace := ["internal/bytealg.IndexByteString"], apart := false, narrowed := true }
def FnExactIsPlanUptoSaid : Prop := fnExactIsPlanUptoRow.holds Try.pinned (OpenSpec.upto fnExactIsPlanSpec)

/-- 'laws.FnExactBackPlan', WHERE WHAT IT READS IS OF BULK AT MOST 1048576: true; the input reads as it did. -/
def fnExactBackPlanUptoRow : OpenClaim := { program := "ythnheffndhbebaa", sum := "6b4803a65659607234d3994579dfbf3227b657bb65af4284ff934ba87805f1f1", func := "loop.example/g01207/laws.FnExactBackPlan", spec := "fnExactBackPlan", inPlace := ["internal/bytealg.IndexByteString"], apart := false, narrowed := true }
def FnExactBackPlanUptoSaid : Prop := fnExactBackPlanUptoRow.holds Try.pinned (OpenSpec.upto fnExactBackPlanSpec)

/-- 'laws.FnExactCountFaceTrees', WHERE WHAT IT READS IS OF BULK AT MOST 1048576: true; the input reads as it did. -/
def fnExactCountFaceTreesUptoRow : OpenClaim := { program := "ythnheffndhbebaa", sum := "6b4803a65659607234d3994579dfbf3227b657bb65af4284ff934ba87805f1f1", func := "loop.example/g01207/laws.FnExactCountFaceTrees", spec := "fnExactCountFaceTrees", recurses := true, apart := false, narrowed := true }
def FnExactCountFaceTreesUptoSaid : Prop := fnExactCountFaceTreesUptoRow.holds Try.pinned (OpenSpec.upto fnExactCountFaceTreesSpec)

/-- 'laws.FnExactCellsOfBox', WHERE WHAT IT READS IS OF BULK AT MOST 1048576: true; the input reads as it did. -/
def fnExactCellsOfBoxUptoRow : OpenClaim := { program := "ythnheffndhbebaa", sum := "6b4803a65659607234d3994579dfbf3227b657bb65af4284ff934ba87805f1f1", func := "loop.example/g01207/laws.FnExactCellsOfBox", spec := "fnExactCellsOfBox", apart := false, narrowed := true }
def FnExactCellsOfBoxUptoSaid : Prop := fnExactCellsOfBoxUptoRow.holds Try.pinned (OpenSpec.upto fnExactCellsOfBoxSpec)

/-- 'laws.FnExactColorsOf', WHERE WHAT IT READS IS OF BULK AT MOST 1048576: true; the input reads as it did. -/
def fnExactColorsOfUptoRow : OpenClaim := { program := "ythnheffndhbebaa", sum := "6b4803a65659607234d3994579dfbf3227b657bb65af4284ff934ba87805f1f1", func := "loop.example/g01207/laws.FnExactColorsOf", spec := "fnExactColorsOf", unfollowed := true, recurses := true, apart := false, narrowed := true }
def FnExactColorsOfUptoSaid : Prop := fnExactColorsOfUptoRow.holds Try.pinned (OpenSpec.upto fnExactColorsOfSpec)

/-- 'laws.FnExactCountColorings', WHERE WHAT IT READS IS OF BULK AT MOST 1048576: true; the input reads as it did. -/
def fnExactCountColoringsUptoRow : OpenClaim := { program := "ythnheffndhbebaa", sum := "6b4803a65659607234d3994579dfbf3227b657bb65af4284ff934ba87805f1f1", func := "loop.example/g01207/laws.FnExactCountColorings", spec := "fnExactCountColorings", apart := false, narrowed := true }
def FnExactCountColoringsUptoSaid : Prop := fnExactCountColoringsUptoRow.holds Try.pinned (OpenSpec.upto fnExactCountColoringsSpec)

/-- 'laws.FnExactPairsOf', WHERE WHAT IT READS IS OF BULK AT MOST 1048576: true; the input reads as it did. -/
def fnExactPairsOfUptoRow : OpenClaim := { program := "ythnheffndhbebaa", sum := "6b4803a65659607234d3994579dfbf3227b657bb65af4284ff934ba87805f1f1", func := "loop.example/g01207/laws.FnExactPairsOf", spec := "fnExactPairsOf", unfollowed := true, recurses := true, apart := false, narrowed := true }
def FnExactPairsOfUptoSaid : Prop := fnExactPairsOfUptoRow.holds Try.pinned (OpenSpec.upto fnExactPairsOfSpec)

/-- 'laws.FnExactIsTower', WHERE WHAT IT READS IS OF BULK AT MOST 1048576: true; the input reads as it did. -/
def fnExactIsTowerUptoRow : OpenClaim := { program := "ythnheffndhbebaa", sum := "6b4803a65659607234d3994579dfbf3227b657bb65af4284ff934ba87805f1f1", func := "loop.example/g01207/laws.FnExactIsTower", spec := "fnExactIsTower", unfollowed := true, recurses := true, apart := false, narrowed := true }
def FnExactIsTowerUptoSaid : Prop := fnExactIsTowerUptoRow.holds Try.pinned (OpenSpec.upto fnExactIsTowerSpec)

/-- 'laws.FnExactTurnTower', WHERE WHAT IT READS IS OF BULK AT MOST 1048576: true; the input reads as it did. -/
def fnExactTurnTowerUptoRow : OpenClaim := { program := "ythnheffndhbebaa", sum := "6b4803a65659607234d3994579dfbf3227b657bb65af4284ff934ba87805f1f1", func := "loop.example/g01207/laws.FnExactTurnTower", spec := "fnExactTurnTower", unfollowed := true, recurses := true, apart := false, narrowed := true }
def FnExactTurnTowerUptoSaid : Prop := fnExactTurnTowerUptoRow.holds Try.pinned (OpenSpec.upto fnExactTurnTowerSpec)

/-- 'laws.FnExactCountLoops', WHERE WHAT IT READS IS OF BULK AT MOST 1048576: true; the input reads as it did. -/
def fnExactCountLoopsUptoRow : OpenClaim := { program := "ythnheffndhbebaa", sum := "6b4803a65659607234d3994579dfbf3227b657bb65af4284ff934ba87805f1f1", func := "loop.example/g01207/laws.FnExactCountLoops", spec := "fnExactCountLoops", unfollowed := true, recurses := true, apart := false, narrowed := true }
def FnExactCountLoopsUptoSaid : Prop := fnExactCountLoopsUptoRow.holds Try.pinned (OpenSpec.upto fnExactCountLoopsSpec)

/-- 'laws.FnExactSidesOfTower', WHERE WHAT IT READS IS OF BULK AT MOST 1048576: true; the input reads as it did. -/
def fnExactSidesOfTowerUptoRow : OpenClaim := { program := "ythnheffndhbebaa", sum := "6b4803a65659607234d3994579dfbf3227b657bb65af4284ff934ba87805f1f1", func := "loop.example/g01207/laws.FnExactSidesOfTower", spec := "fnExactSidesOfTower", unfollowed := true, recurses := true, apart := false, narrowed := true }
def FnExactSidesOfTowerUptoSaid : Prop := fnExactSidesOfTowerUptoRow.holds Try.pinned (OpenSpec.upto fnExactSidesOfTowerSpec)

end Rows
end Go.Proofs.Ythnheffndhbebaa
