/-
  No cell of these rows narrows 'for every input' (looked for: loops, veiled, ifaces, maps, wideKeys, modest, calm, conditions, laid).
  DERIVED. THE GIVEN ROWS OF THIS SEAT. 3 by the template 'for every input the law returns true; each argument reads behind the call as it read before'; 0 by the template 'total and deterministic' (their statements: YtbnpplakmihhbaaTotals.lean).
  GIVEN WITH THE SEED: the statements are not yours to turn. If you find one false, say at which input.
  Laid BY PROGRAM, IN A SANDBOX (cutbox-rows.mjs): the forced cells as the released guide's own fill.sh prints them over the translation 7366caed81cec704… (all of the seat's roots in one cut). By AI agents, Wed Nov 11 2026. No macro, syntax, notation, axiom, sorry.
-/
import Derived.Test.YtbnpplakmihhbaaChecked
import GoSem.Claim
import GoSem.ClaimJoined
import GoSem.ClaimMapViews
import Derived.JoinedTies
import Derived.KernelRfl
namespace Go.Proofs.Ytbnpplakmihhbaa
/- THE CELL 'sum', in the pinned program and in every row, IS THE sha256 OF THE DUMP (.gsa) THAT YtbnpplakmihhbaaProg.lean LOADS. Nothing in Lean hashes anything: it is a label: what it is worth is what the hold of that sum in a sandbox is worth. -/
noncomputable def Try.pinned : Pinned := { name := "ytbnpplakmihhbaa", sum := "7366caed81cec704c338c3a57fcfbde62456790b27805bb6088f76e95eb900c5", checked := Try.checked }
namespace Rows
def none {H : Type} : Left H := { results := [], args := [] }

/-- 'laws.FnExactCountFaceTrees': WHATEVER THE INPUT: true; the input reads as it did. -/
def fnExactCountFaceTreesSpec : ChangeSpec := { name := "fnExactCountFaceTrees", fn := fun _ => fun
  | [] => { results := [.lit (.bool true)], args := [] }
  | _ => none }
def fnExactCountFaceTreesRow : OpenClaim := { program := "ytbnpplakmihhbaa", sum := "7366caed81cec704c338c3a57fcfbde62456790b27805bb6088f76e95eb900c5", func := "loop.example/g01207/laws.FnExactCountFaceTrees", spec := "fnExactCountFaceTrees", recurses := true, apart := false }
def FnExactCountFaceTreesSaid : Prop := fnExactCountFaceTreesRow.holds Try.pinned (OpenSpec.ofChange fnExactCountFaceTreesSpec)

/-- ITS FALSE NEIGHBOUR: 'it returns false'. Refute it at one input. -/
def fnExactCountFaceTreesWrong : ChangeSpec := { name := "fnExactCountFaceTrees", fn := fun _ => fun
  | [] => { results := [.lit (.bool false)], args := [] }
  | _ => none }
def FnExactCountFaceTreesWrongFalsely : Prop := fnExactCountFaceTreesRow.holds Try.pinned (OpenSpec.ofChange fnExactCountFaceTreesWrong)

/-- 'laws.FnExactPairsOf': WHATEVER THE INPUT: true; the input reads as it did. -/
def fnExactPairsOfSpec : ChangeSpec := { name := "fnExactPairsOf", fn := fun _ => fun
  | [d] => { results := [.lit (.bool true)], args := [d] }
  | _ => none }
def fnExactPairsOfRow : OpenClaim := { program := "ytbnpplakmihhbaa", sum := "7366caed81cec704c338c3a57fcfbde62456790b27805bb6088f76e95eb900c5", func := "loop.example/g01207/laws.FnExactPairsOf", spec := "fnExactPairsOf", unfollowed := true, recurses := true, apart := false }
def FnExactPairsOfSaid : Prop := fnExactPairsOfRow.holds Try.pinned (OpenSpec.ofChange fnExactPairsOfSpec)

/-- ITS FALSE NEIGHBOUR: 'it returns false'. Refute it at one input. -/
def fnExactPairsOfWrong : ChangeSpec := { name := "fnExactPairsOf", fn := fun _ => fun
  | [d] => { results := [.lit (.bool false)], args := [d] }
  | _ => none }
def FnExactPairsOfWrongFalsely : Prop := fnExactPairsOfRow.holds Try.pinned (OpenSpec.ofChange fnExactPairsOfWrong)

/-- 'laws.FnExactCountLoops': WHATEVER THE INPUT: true; the input reads as it did. -/
def fnExactCountLoopsSpec : ChangeSpec := { name := "fnExactCountLoops", fn := fun _ => fun
  | [d] => { results := [.lit (.bool true)], args := [d] }
  | _ => none }
def fnExactCountLoopsRow : OpenClaim := { program := "ytbnpplakmihhbaa", sum := "7366caed81cec704c338c3a57fcfbde62456790b27805bb6088f76e95eb900c5", func := "loop.example/g01207/laws.FnExactCountLoops", spec := "fnExactCountLoops", unfollowed := true, recurses := true, apart := false }
def FnExactCountLoopsSaid : Prop := fnExactCountLoopsRow.holds Try.pinned (OpenSpec.ofChange fnExactCountLoopsSpec)

/-- ITS FALSE NEIGHBOUR: 'it returns false'. Refute it at one input. -/
def fnExactCountLoopsWrong : ChangeSpec := { name := "fnExactCountLoops", fn := fun _ => fun
  | [d] => { results := [.lit (.bool false)], args := [d] }
  | _ => none }
def FnExactCountLoopsWrongFalsely : Prop := fnExactCountLoopsRow.holds Try.pinned (OpenSpec.ofChange fnExactCountLoopsWrong)

/- THE SECOND FORM. 'bulk': how many values and letters a reading holds, each counted each time it is reached (what is shared counts as often as it is met; a slice's spare places count too). A statement '..UptoSaid' is the law's where the arguments, and the package variables that the reading takes, are together of bulk at most 1048576: NARROWER than '..Said'. Prove '..Said' where nothing that the law and all that it calls make is longer than what came in: it says more and counts as full. Else prove '..UptoSaid'. A law counts once. -/
mutual
def uptoBulk {H : Type} : DataW H → Nat
  | .lit (.string bytes) => bytes.length + 1
  | .lit _ => 1
  | .nil => 1
  | .ptr d => uptoBulk d + 1
  | .slice elems spare => uptoBulkAll elems + uptoBulkAll spare + 1
  | .agg parts => uptoBulkAll parts + 1
  | .iface _ d => uptoBulk d + 1
  | .map entries => uptoBulkEntries entries + 1
  | .held _ => 1
def uptoBulkAll {H : Type} : List (DataW H) → Nat
  | [] => 0
  | d :: r => uptoBulk d + uptoBulkAll r
def uptoBulkEntries {H : Type} : List (Lit × DataW H) → Nat
  | [] => 0
  | x :: r => uptoBulkEntry x + uptoBulkEntries r
def uptoBulkEntry {H : Type} : Lit × DataW H → Nat
  | (.string bytes, d) => bytes.length + uptoBulk d + 1
  | (_, d) => uptoBulk d + 1
 end
def uptoSmall : (H : Type) → List (DataW H) → Bool := fun _ ds => decide (uptoBulkAll ds ≤ 1048576)
def OpenSpec.upto (s : _root_.Go.ChangeSpec) : _root_.Go.OpenSpec := { _root_.Go.OpenSpec.ofChange s with cond := some uptoSmall }

/-- 'laws.FnExactCountFaceTrees', WHERE WHAT IT READS IS OF BULK AT MOST 1048576: true; the input reads as it did. -/
def fnExactCountFaceTreesUptoRow : OpenClaim := { program := "ytbnpplakmihhbaa", sum := "7366caed81cec704c338c3a57fcfbde62456790b27805bb6088f76e95eb900c5", func := "loop.example/g01207/laws.FnExactCountFaceTrees", spec := "fnExactCountFaceTrees", recurses := true, apart := false, narrowed := true }
def FnExactCountFaceTreesUptoSaid : Prop := fnExactCountFaceTreesUptoRow.holds Try.pinned (OpenSpec.upto fnExactCountFaceTreesSpec)

/-- 'laws.FnExactPairsOf', WHERE WHAT IT READS IS OF BULK AT MOST 1048576: true; the input reads as it did. -/
def fnExactPairsOfUptoRow : OpenClaim := { program := "ytbnpplakmihhbaa", sum := "7366caed81cec704c338c3a57fcfbde62456790b27805bb6088f76e95eb900c5", func := "loop.example/g01207/laws.FnExactPairsOf", spec := "fnExactPairsOf", unfollowed := true, recurses := true, apart := false, narrowed := true }
def FnExactPairsOfUptoSaid : Prop := fnExactPairsOfUptoRow.holds Try.pinned (OpenSpec.upto fnExactPairsOfSpec)

/-- 'laws.FnExactCountLoops', WHERE WHAT IT READS IS OF BULK AT MOST 1048576: true; the input reads as it did. -/
def fnExactCountLoopsUptoRow : OpenClaim := { program := "ytbnpplakmihhbaa", sum := "7366caed81cec704c338c3a57fcfbde62456790b27805bb6088f76e95eb900c5", func := "loop.example/g01207/laws.FnExactCountLoops", spec := "fnExactCountLoops", unfollowed := true, recurses := true, apart := false, narrowed := true }
def FnExactCountLoopsUptoSaid : Prop := fnExactCountLoopsUptoRow.holds Try.pinned (OpenSpec.upto fnExactCountLoopsSpec)

end Rows
end Go.Proofs.Ytbnpplakmihhbaa
