/-
  NARROWER THAN 'FOR EVERY INPUT', by the rows' own cells (each row's printed sentence says how): FnExactIsSix: laid · FnExactIsNet: laid · FnExactPlacesOfNet: laid · FnExactFoldOrder: laid · FnExactFoldNet: laid · FnExactKeptEdges: laid · FnExactAreSameDie: laid.
  DERIVED. THE GIVEN ROWS OF THIS SEAT. 7 by the template 'for every input the law returns true; each argument reads behind the call as it read before'; 0 by the template 'total and deterministic' (their statements: YtdncpkppkafkpaaDoorTotals.lean).
  GIVEN WITH THE SEED: the statements are not yours to turn. If you find one false, say at which input.
  Laid BY PROGRAM, IN A SANDBOX (cutbox-rows.mjs): the forced cells as the released guide's own fill.sh prints them over the translation 84e809eccbe3c503… (all of the seat's roots in one cut). By AI agents, Wed Nov 11 2026. No macro, syntax, notation, axiom, sorry.
-/
import Derived.Test.YtdncpkppkafkpaaDoorChecked
import GoSem.PinnedTables
import GoSem.Claim
import GoSem.ClaimJoined
import GoSem.ClaimMapViews
import Derived.JoinedTies
import Derived.KernelRfl
namespace Go.Proofs.YtdncpkppkafkpaaDoor
/- THE CELL 'sum', in the pinned program and in every row, IS THE sha256 OF THE DUMP (.gsa) THAT YtdncpkppkafkpaaDoorProg.lean LOADS. Nothing in Lean hashes anything: it is a label: what it is worth is what the hold of that sum in a sandbox is worth. -/
noncomputable def Tryd.pinned : Pinned := { name := "ytdncpkppkafkpaadoor", sum := "84e809eccbe3c50379af6f5e7b76331140c86774c26bbac0ba0e30f02bb393eb", checked := Tryd.checked }
namespace Rows
def none {H : Type} : Left H := { results := [], args := [] }

/- WHAT THE LISTED PACKAGE-LEVEL VARIABLES READ AS WHEN THE CALL BEGINS. Each datum BY PROGRAM (the guide's laid-datum.mjs) off the statement by which the dump's own 'gosem.cut.vars' lays the variable. In a bare row this is a premise. The card (YtdncpkppkafkpaaDoorCards.lean) ties it to the program's text. -/
def laid_unicode_utf8_acceptRanges {H : Type} : DataW H := .agg [.agg [.lit (.int .u8 128), .lit (.int .u8 191)], .agg [.lit (.int .u8 160), .lit (.int .u8 191)], .agg [.lit (.int .u8 128), .lit (.int .u8 159)], .agg [.lit (.int .u8 144), .lit (.int .u8 191)], .agg [.lit (.int .u8 128), .lit (.int .u8 143)], .agg [.lit (.int .u8 0), .lit (.int .u8 0)], .agg [.lit (.int .u8 0), .lit (.int .u8 0)], .agg [.lit (.int .u8 0), .lit (.int .u8 0)], .agg [.lit (.int .u8 0), .lit (.int .u8 0)], .agg [.lit (.int .u8 0), .lit (.int .u8 0)], .agg [.lit (.int .u8 0), .lit (.int .u8 0)], .agg [.lit (.int .u8 0), .lit (.int .u8 0)], .agg [.lit (.int .u8 0), .lit (.int .u8 0)], .agg [.lit (.int .u8 0), .lit (.int .u8 0)], .agg [.lit (.int .u8 0), .lit (.int .u8 0)], .agg [.lit (.int .u8 0), .lit (.int .u8 0)]]
/-- One of Go's own tables, pinned by name: the form's constant. -/
def laid_unicode_utf8_first : DataW Unit := Go.Pinned.utf8First

/-- 'laws.FnExactIsSix': WHATEVER THE INPUT: true; the input reads as it did. -/
def fnExactIsSixSpec : ChangeSpec := { name := "fnExactIsSix", fn := fun _ => fun
  | [d] => { results := [.lit (.bool true)], args := [d] }
  | _ => none }
def fnExactIsSixRow : OpenClaim := { program := "ytdncpkppkafkpaadoor", sum := "84e809eccbe3c50379af6f5e7b76331140c86774c26bbac0ba0e30f02bb393eb", func := "loop.example/g01207/laws.FnExactIsSix", spec := "fnExactIsSix", inPlace := ["internal/bytealg.CountString", "internal/bytealg.IndexByteString", "internal/bytealg.IndexString"], named := ["unicode/utf8.first", "unicode/utf8.acceptRanges", "internal/bytealg.MaxLen"], plainKeys := false, apart := false, laid := [("unicode/utf8.acceptRanges", laid_unicode_utf8_acceptRanges), ("unicode/utf8.first", laid_unicode_utf8_first)] }
def FnExactIsSixSaid : Prop := fnExactIsSixRow.holds Tryd.pinned (OpenSpec.ofChange fnExactIsSixSpec)

/-- ITS FALSE NEIGHBOUR: 'it returns false'. Refute it at one input. -/
def fnExactIsSixWrong : ChangeSpec := { name := "fnExactIsSix", fn := fun _ => fun
  | [d] => { results := [.lit (.bool false)], args := [d] }
  | _ => none }
def FnExactIsSixWrongFalsely : Prop := fnExactIsSixRow.holds Tryd.pinned (OpenSpec.ofChange fnExactIsSixWrong)

/-- 'laws.FnExactIsNet': WHATEVER THE INPUT: true; the input reads as it did. -/
def fnExactIsNetSpec : ChangeSpec := { name := "fnExactIsNet", fn := fun _ => fun
  | [d] => { results := [.lit (.bool true)], args := [d] }
  | _ => none }
def fnExactIsNetRow : OpenClaim := { program := "ytdncpkppkafkpaadoor", sum := "84e809eccbe3c50379af6f5e7b76331140c86774c26bbac0ba0e30f02bb393eb", func := "loop.example/g01207/laws.FnExactIsNet", spec := "fnExactIsNet", inPlace := ["internal/bytealg.CountString", "internal/bytealg.IndexByteString", "internal/bytealg.IndexString"], unfollowed := true, recurses := true, named := ["unicode/utf8.first", "unicode/utf8.acceptRanges", "internal/bytealg.MaxLen"], plainKeys := false, apart := false, laid := [("unicode/utf8.acceptRanges", laid_unicode_utf8_acceptRanges), ("unicode/utf8.first", laid_unicode_utf8_first)] }
def FnExactIsNetSaid : Prop := fnExactIsNetRow.holds Tryd.pinned (OpenSpec.ofChange fnExactIsNetSpec)

/-- ITS FALSE NEIGHBOUR: 'it returns false'. Refute it at one input. -/
def fnExactIsNetWrong : ChangeSpec := { name := "fnExactIsNet", fn := fun _ => fun
  | [d] => { results := [.lit (.bool false)], args := [d] }
  | _ => none }
def FnExactIsNetWrongFalsely : Prop := fnExactIsNetRow.holds Tryd.pinned (OpenSpec.ofChange fnExactIsNetWrong)

/-- 'laws.FnExactPlacesOfNet': WHATEVER THE INPUT: true; the input reads as it did. -/
def fnExactPlacesOfNetSpec : ChangeSpec := { name := "fnExactPlacesOfNet", fn := fun _ => fun
  | [d] => { results := [.lit (.bool true)], args := [d] }
  | _ => none }
def fnExactPlacesOfNetRow : OpenClaim := { program := "ytdncpkppkafkpaadoor", sum := "84e809eccbe3c50379af6f5e7b76331140c86774c26bbac0ba0e30f02bb393eb", func := "loop.example/g01207/laws.FnExactPlacesOfNet", spec := "fnExactPlacesOfNet", inPlace := ["internal/bytealg.CountString", "internal/bytealg.IndexByteString", "internal/bytealg.IndexString"], unfollowed := true, recurses := true, named := ["unicode/utf8.first", "unicode/utf8.acceptRanges", "internal/bytealg.MaxLen"], plainKeys := false, apart := false, laid := [("unicode/utf8.acceptRanges", laid_unicode_utf8_acceptRanges), ("unicode/utf8.first", laid_unicode_utf8_first)] }
def FnExactPlacesOfNetSaid : Prop := fnExactPlacesOfNetRow.holds Tryd.pinned (OpenSpec.ofChange fnExactPlacesOfNetSpec)

/-- ITS FALSE NEIGHBOUR: 'it returns false'. Refute it at one input. -/
def fnExactPlacesOfNetWrong : ChangeSpec := { name := "fnExactPlacesOfNet", fn := fun _ => fun
  | [d] => { results := [.lit (.bool false)], args := [d] }
  | _ => none }
def FnExactPlacesOfNetWrongFalsely : Prop := fnExactPlacesOfNetRow.holds Tryd.pinned (OpenSpec.ofChange fnExactPlacesOfNetWrong)

/-- 'laws.FnExactFoldOrder': WHATEVER THE INPUT: true; the input reads as it did. -/
def fnExactFoldOrderSpec : ChangeSpec := { name := "fnExactFoldOrder", fn := fun _ => fun
  | [d] => { results := [.lit (.bool true)], args := [d] }
  | _ => none }
def fnExactFoldOrderRow : OpenClaim := { program := "ytdncpkppkafkpaadoor", sum := "84e809eccbe3c50379af6f5e7b76331140c86774c26bbac0ba0e30f02bb393eb", func := "loop.example/g01207/laws.FnExactFoldOrder", spec := "fnExactFoldOrder", inPlace := ["internal/bytealg.CountString", "internal/bytealg.IndexByteString", "internal/bytealg.IndexString"], unfollowed := true, recurses := true, named := ["unicode/utf8.first", "unicode/utf8.acceptRanges", "internal/bytealg.MaxLen"], plainKeys := false, apart := false, laid := [("unicode/utf8.acceptRanges", laid_unicode_utf8_acceptRanges), ("unicode/utf8.first", laid_unicode_utf8_first)] }
def FnExactFoldOrderSaid : Prop := fnExactFoldOrderRow.holds Tryd.pinned (OpenSpec.ofChange fnExactFoldOrderSpec)

/-- ITS FALSE NEIGHBOUR: 'it returns false'. Refute it at one input. -/
def fnExactFoldOrderWrong : ChangeSpec := { name := "fnExactFoldOrder", fn := fun _ => fun
  | [d] => { results := [.lit (.bool false)], args := [d] }
  | _ => none }
def FnExactFoldOrderWrongFalsely : Prop := fnExactFoldOrderRow.holds Tryd.pinned (OpenSpec.ofChange fnExactFoldOrderWrong)

/-- 'laws.FnExactFoldNet': WHATEVER THE INPUT: true; the input reads as it did. -/
def fnExactFoldNetSpec : ChangeSpec := { name := "fnExactFoldNet", fn := fun _ => fun
  | [d] => { results := [.lit (.bool true)], args := [d] }
  | _ => none }
def fnExactFoldNetRow : OpenClaim := { program := "ytdncpkppkafkpaadoor", sum := "84e809eccbe3c50379af6f5e7b76331140c86774c26bbac0ba0e30f02bb393eb", func := "loop.example/g01207/laws.FnExactFoldNet", spec := "fnExactFoldNet", inPlace := ["internal/bytealg.CountString", "internal/bytealg.IndexByteString", "internal/bytealg.IndexString"], unfollowed := true, recurses := true, named := ["unicode/utf8.first", "unicode/utf8.acceptRanges", "internal/bytealg.MaxLen"], plainKeys := false, apart := false, laid := [("unicode/utf8.acceptRanges", laid_unicode_utf8_acceptRanges), ("unicode/utf8.first", laid_unicode_utf8_first)] }
def FnExactFoldNetSaid : Prop := fnExactFoldNetRow.holds Tryd.pinned (OpenSpec.ofChange fnExactFoldNetSpec)

/-- ITS FALSE NEIGHBOUR: 'it returns false'. Refute it at one input. -/
def fnExactFoldNetWrong : ChangeSpec := { name := "fnExactFoldNet", fn := fun _ => fun
  | [d] => { results := [.lit (.bool false)], args := [d] }
  | _ => none }
def FnExactFoldNetWrongFalsely : Prop := fnExactFoldNetRow.holds Tryd.pinned (OpenSpec.ofChange fnExactFoldNetWrong)

/-- 'laws.FnExactKeptEdges': WHATEVER THE INPUT: true; the input reads as it did. -/
def fnExactKeptEdgesSpec : ChangeSpec := { name := "fnExactKeptEdges", fn := fun _ => fun
  | [d] => { results := [.lit (.bool true)], args := [d] }
  | _ => none }
def fnExactKeptEdgesRow : OpenClaim := { program := "ytdncpkppkafkpaadoor", sum := "84e809eccbe3c50379af6f5e7b76331140c86774c26bbac0ba0e30f02bb393eb", func := "loop.example/g01207/laws.FnExactKeptEdges", spec := "fnExactKeptEdges", inPlace := ["internal/bytealg.CountString", "internal/bytealg.IndexByteString", "internal/bytealg.IndexString"], unfollowed := true, recurses := true, named := ["unicode/utf8.first", "unicode/utf8.acceptRanges", "internal/bytealg.MaxLen"], plainKeys := false, apart := false, laid := [("unicode/utf8.acceptRanges", laid_unicode_utf8_acceptRanges), ("unicode/utf8.first", laid_unicode_utf8_first)] }
def FnExactKeptEdgesSaid : Prop := fnExactKeptEdgesRow.holds Tryd.pinned (OpenSpec.ofChange fnExactKeptEdgesSpec)

/-- ITS FALSE NEIGHBOUR: 'it returns false'. Refute it at one input. -/
def fnExactKeptEdgesWrong : ChangeSpec := { name := "fnExactKeptEdges", fn := fun _ => fun
  | [d] => { results := [.lit (.bool false)], args := [d] }
  | _ => none }
def FnExactKeptEdgesWrongFalsely : Prop := fnExactKeptEdgesRow.holds Tryd.pinned (OpenSpec.ofChange fnExactKeptEdgesWrong)

/-- 'laws.FnExactAreSameDie': WHATEVER THE INPUT: true; the input reads as it did. -/
def fnExactAreSameDieSpec : ChangeSpec := { name := "fnExactAreSameDie", fn := fun _ => fun
  | [d1, d2] => { results := [.lit (.bool true)], args := [d1, d2] }
  | _ => none }
def fnExactAreSameDieRow : OpenClaim := { program := "ytdncpkppkafkpaadoor", sum := "84e809eccbe3c50379af6f5e7b76331140c86774c26bbac0ba0e30f02bb393eb", func := "loop.example/g01207/laws.FnExactAreSameDie", spec := "fnExactAreSameDie", inPlace := ["internal/bytealg.CountString", "internal/bytealg.IndexByteString", "internal/bytealg.IndexString"], unfollowed := true, recurses := true, named := ["unicode/utf8.first", "unicode/utf8.acceptRanges", "internal/bytealg.MaxLen"], plainKeys := false, apart := false, laid := [("unicode/utf8.acceptRanges", laid_unicode_utf8_acceptRanges), ("unicode/utf8.first", laid_unicode_utf8_first)] }
def FnExactAreSameDieSaid : Prop := fnExactAreSameDieRow.holds Tryd.pinned (OpenSpec.ofChange fnExactAreSameDieSpec)

/-- ITS FALSE NEIGHBOUR: 'it returns false'. Refute it at one input. -/
def fnExactAreSameDieWrong : ChangeSpec := { name := "fnExactAreSameDie", fn := fun _ => fun
  | [d1, d2] => { results := [.lit (.bool false)], args := [d1, d2] }
  | _ => none }
def FnExactAreSameDieWrongFalsely : Prop := fnExactAreSameDieRow.holds Tryd.pinned (OpenSpec.ofChange fnExactAreSameDieWrong)

/- THE SECOND FORM. 'bulk': how many values and letters a reading holds, each counted each time it is reached (what is shared counts as often as it is met; a slice's spare places count too). A statement '..UptoSaid' is the law's where the arguments, and the package variables that the reading takes, are together of bulk at most 1048576: NARROWER than '..Said'. Prove '..Said' where nothing that the law and all that it calls make is longer than what came in: it says more and counts as full. Else prove '..UptoSaid'. A law counts once. -/
mutual
def uptoBulk {H : Type} : DataW H → Nat
  | .lit (.string bytes) => bytes.length + 1
  | .lit _ => 1
  | .nil => 1
  | .ptr d => uptoBulk d + 1
  | .slice elems spare => uptoBulkAll elems + uptoBulkAll spare + 1
  | .agg parts => uptoBulkAll parts + 1
  | .iface _ d => uptoBulk d + 1
  | .map entries => uptoBulkEntries entries + 1
  | .held _ => 1
def uptoBulkAll {H : Type} : List (DataW H) → Nat
  | [] => 0
  | d :: r => uptoBulk d + uptoBulkAll r
def uptoBulkEntries {H : Type} : List (Lit × DataW H) → Nat
  | [] => 0
  | x :: r => uptoBulkEntry x + uptoBulkEntries r
def uptoBulkEntry {H : Type} : Lit × DataW H → Nat
  | (.string bytes, d) => bytes.length + uptoBulk d + 1
  | (_, d) => uptoBulk d + 1
 end
def uptoSmall : (H : Type) → List (DataW H) → Bool := fun _ ds => decide (uptoBulkAll ds ≤ 1048576)
def OpenSpec.upto (s : _root_.Go.ChangeSpec) : _root_.Go.OpenSpec := { _root_.Go.OpenSpec.ofChange s with cond := some uptoSmall }

/-- 'laws.FnExactIsSix', WHERE WHAT IT READS IS OF BULK AT MOST 1048576: true; the input reads as it did. -/
def fnExactIsSixUptoRow : OpenClaim := { program := "ytdncpkppkafkpaadoor", sum := "84e809eccbe3c50379af6f5e7b76331140c86774c26bbac0ba0e30f02bb393eb", func := "loop.example/g01207/laws.FnExactIsSix", spec := "fnExactIsSix", inPlace := ["internal/bytealg.CountString", "internal/bytealg.IndexByteString", "internal/bytealg.IndexString"], named := ["unicode/utf8.first", "unicode/utf8.acceptRanges", "internal/bytealg.MaxLen"], plainKeys := false, apart := false, laid := [("unicode/utf8.acceptRanges", laid_unicode_utf8_acceptRanges), ("unicode/utf8.first", laid_unicode_utf8_first)], narrowed := true }
def FnExactIsSixUptoSaid : Prop := fnExactIsSixUptoRow.holds Tryd.pinned (OpenSpec.upto fnExactIsSixSpec)

/-- 'laws.FnExactIsNet', WHERE WHAT IT READS IS OF BULK AT MOST 1048576: true; the input reads as it did. -/
def fnExactIsNetUptoRow : OpenClaim := { program := "ytdncpkppkafkpaadoor", sum := "84e809eccbe3c50379af6f5e7b76331140c86774c26bbac0ba0e30f02bb393eb", func := "loop.example/g01207/laws.FnExactIsNet", spec := "fnExactIsNet", inPlace := ["internal/bytealg.CountString", "internal/bytealg.IndexByteString", "internal/bytealg.IndexString"], unfollowed := true, recurses := true, named := ["unicode/utf8.first", "unicode/utf8.acceptRanges", "internal/bytealg.MaxLen"], plainKeys := false, apart := false, laid := [("unicode/utf8.acceptRanges", laid_unicode_utf8_acceptRanges), ("unicode/utf8.first", laid_unicode_utf8_first)], narrowed := true }
def FnExactIsNetUptoSaid : Prop := fnExactIsNetUptoRow.holds Tryd.pinned (OpenSpec.upto fnExactIsNetSpec)

/-- 'laws.FnExactPlacesOfNet', WHERE WHAT IT READS IS OF BULK AT MOST 1048576: true; the input reads as it did. -/
def fnExactPlacesOfNetUptoRow : OpenClaim := { program := "ytdncpkppkafkpaadoor", sum := "84e809eccbe3c50379af6f5e7b76331140c86774c26bbac0ba0e30f02bb393eb", func := "loop.example/g01207/laws.FnExactPlacesOfNet", spec := "fnExactPlacesOfNet", inPlace := ["internal/bytealg.CountString", "internal/bytealg.IndexByteString", "internal/bytealg.IndexString"], unfollowed := true, recurses := true, named := ["unicode/utf8.first", "unicode/utf8.acceptRanges", "internal/bytealg.MaxLen"], plainKeys := false, apart := false, laid := [("unicode/utf8.acceptRanges", laid_unicode_utf8_acceptRanges), ("unicode/utf8.first", laid_unicode_utf8_first)], narrowed := true }
def FnExactPlacesOfNetUptoSaid : Prop := fnExactPlacesOfNetUptoRow.holds Tryd.pinned (OpenSpec.upto fnExactPlacesOfNetSpec)

/-- 'laws.FnExactFoldOrder', WHERE WHAT IT READS IS OF BULK AT MOST 1048576: true; the input reads as it did. -/
def fnExactFoldOrderUptoRow : OpenClaim := { program := "ytdncpkppkafkpaadoor", sum := "84e809eccbe3c50379af6f5e7b76331140c86774c26bbac0ba0e30f02bb393eb", func := "loop.example/g01207/laws.FnExactFoldOrder", spec := "fnExactFoldOrder", inPlace := ["internal/bytealg.CountString", "internal/bytealg.IndexByteString", "internal/bytealg.IndexString"], unfollowed := true, recurses := true, named := ["unicode/utf8.first", "unicode/utf8.acceptRanges", "internal/bytealg.MaxLen"], plainKeys := false, apart := false, laid := [("unicode/utf8.acceptRanges", laid_unicode_utf8_acceptRanges), ("unicode/utf8.first", laid_unicode_utf8_first)], narrowed := true }
def FnExactFoldOrderUptoSaid : Prop := fnExactFoldOrderUptoRow.holds Tryd.pinned (OpenSpec.upto fnExactFoldOrderSpec)

/-- 'laws.FnExactFoldNet', WHERE WHAT IT READS IS OF BULK AT MOST 1048576: true; the input reads as it did. -/
def fnExactFoldNetUptoRow : OpenClaim := { program := "ytdncpkppkafkpaadoor", sum := "84e809eccbe3c50379af6f5e7b76331140c86774c26bbac0ba0e30f02bb393eb", func := "loop.example/g01207/laws.FnExactFoldNet", spec := "fnExactFoldNet", inPlace := ["internal/bytealg.CountString", "internal/bytealg.IndexByteString", "internal/bytealg.IndexString"], unfollowed := true, recurses := true, named := ["unicode/utf8.first", "unicode/utf8.acceptRanges", "internal/bytealg.MaxLen"], plainKeys := false, apart := false, laid := [("unicode/utf8.acceptRanges", laid_unicode_utf8_acceptRanges), ("unicode/utf8.first", laid_unicode_utf8_first)], narrowed := true }
def FnExactFoldNetUptoSaid : Prop := fnExactFoldNetUptoRow.holds Tryd.pinned (OpenSpec.upto fnExactFoldNetSpec)

/-- 'laws.FnExactKeptEdges', WHERE WHAT IT READS IS OF BULK AT MOST 1048576: true; the input reads as it did. -/
def fnExactKeptEdgesUptoRow : OpenClaim := { program := "ytdncpkppkafkpaadoor", sum := "84e809eccbe3c50379af6f5e7b76331140c86774c26bbac0ba0e30f02bb393eb", func := "loop.example/g01207/laws.FnExactKeptEdges", spec := "fnExactKeptEdges", inPlace := ["internal/bytealg.CountString", "internal/bytealg.IndexByteString", "internal/bytealg.IndexString"], unfollowed := true, recurses := true, named := ["unicode/utf8.first", "unicode/utf8.acceptRanges", "internal/bytealg.MaxLen"], plainKeys := false, apart := false, laid := [("unicode/utf8.acceptRanges", laid_unicode_utf8_acceptRanges), ("unicode/utf8.first", laid_unicode_utf8_first)], narrowed := true }
def FnExactKeptEdgesUptoSaid : Prop := fnExactKeptEdgesUptoRow.holds Tryd.pinned (OpenSpec.upto fnExactKeptEdgesSpec)

/-- 'laws.FnExactAreSameDie', WHERE WHAT IT READS IS OF BULK AT MOST 1048576: true; the input reads as it did. -/
def fnExactAreSameDieUptoRow : OpenClaim := { program := "ytdncpkppkafkpaadoor", sum := "84e809eccbe3c50379af6f5e7b76331140c86774c26bbac0ba0e30f02bb393eb", func := "loop.example/g01207/laws.FnExactAreSameDie", spec := "fnExactAreSameDie", inPlace := ["internal/bytealg.CountString", "internal/bytealg.IndexByteString", "internal/bytealg.IndexString"], unfollowed := true, recurses := true, named := ["unicode/utf8.first", "unicode/utf8.acceptRanges", "internal/bytealg.MaxLen"], plainKeys := false, apart := false, laid := [("unicode/utf8.acceptRanges", laid_unicode_utf8_acceptRanges), ("unicode/utf8.first", laid_unicode_utf8_first)], narrowed := true }
def FnExactAreSameDieUptoSaid : Prop := fnExactAreSameDieUptoRow.holds Tryd.pinned (OpenSpec.upto fnExactAreSameDieSpec)

end Rows
end Go.Proofs.YtdncpkppkafkpaaDoor
