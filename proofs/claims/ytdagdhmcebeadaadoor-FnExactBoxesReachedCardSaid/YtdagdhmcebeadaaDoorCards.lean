/-
  DERIVED. GIVEN WITH THE SEED: THE CARDS: each row of YtdagdhmcebeadaaDoorRows.lean that lists a variable, with what it lists TIED to the program's text (the seventh form; the later family's looks); each row that meets fmt, with fmt's text TOLD by the authors' own Lean function (tested against real Go, not proved from fmt's source: count such statements apart). THE CARD IS WHAT COUNTS. Prove the row's statement (the work); the ties are given (YtdagdhmcebeadaaDoorTie.lean); close each card by the builder's one call (the guide's Derived/Test/ToyasCard.lean, 'card_holds'). Laid BY PROGRAM, IN A SANDBOX (cutbox-door.mjs). By AI agents, Wed Nov 11 2026. No macro, syntax, notation, axiom, sorry.
-/
import Derived.Test.YtdagdhmcebeadaaDoorRows
import GoSem.ClaimSeven
namespace Go.Proofs.YtdagdhmcebeadaaDoor
namespace Rows

/-- THE TIED CARD OF 'laws.FnExactBoxesReached'. -/
def fnExactBoxesReachedCard : Claim7 := { stood := { row := fnExactBoxesReachedRow, standIns := [], harness := (true, "9a47bc9021d8eebe5319607a6ea52b4c638dbf0d90fba20754be63a258e34e75"), looks := false }, kinds := [], alts := [], laidByText := true, laidKinds := [.data, .pinned], laidTests := true, laidLooks := .later }
def FnExactBoxesReachedCardSaid : Prop := Claim7.holds Tryd.pinned (.plain (OpenSpec.ofChange fnExactBoxesReachedSpec)) fnExactBoxesReachedCard

/-- THE SECOND FORM's CARD OF 'laws.FnExactBoxesReached'. -/
def fnExactBoxesReachedUptoCard : Claim7 := { stood := { row := fnExactBoxesReachedUptoRow, standIns := [], harness := (true, "9a47bc9021d8eebe5319607a6ea52b4c638dbf0d90fba20754be63a258e34e75"), looks := false }, kinds := [], alts := [], laidByText := true, laidKinds := [.data, .pinned], laidTests := true, laidLooks := .later }
def FnExactBoxesReachedUptoCardSaid : Prop := Claim7.holds Tryd.pinned (.plain (OpenSpec.upto fnExactBoxesReachedSpec)) fnExactBoxesReachedUptoCard
end Rows
end Go.Proofs.YtdagdhmcebeadaaDoor
