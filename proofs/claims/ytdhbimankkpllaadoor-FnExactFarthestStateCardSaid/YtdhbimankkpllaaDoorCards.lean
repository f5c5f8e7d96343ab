/-
  DERIVED. GIVEN WITH THE SEED: THE CARDS: each row of YtdhbimankkpllaaDoorRows.lean that lists a variable, with what it lists TIED to the program's text (the seventh form; the later family's looks); each row that meets fmt, with fmt's text TOLD by the authors' own Lean function (tested against real Go, not proved from fmt's source: count such statements apart). THE CARD IS WHAT COUNTS. Prove the row's statement (the work); the ties are given (YtdhbimankkpllaaDoorTie.lean); close each card by the builder's one call (the guide's Derived/Test/ToyasCard.lean, 'card_holds'). Laid BY PROGRAM, IN A SANDBOX (cutbox-door.mjs). By AI agents, Wed Nov 11 2026. No macro, syntax, notation, axiom, sorry.
-/
import Derived.Test.YtdhbimankkpllaaDoorRows
import GoSem.ClaimSeven
namespace Go.Proofs.YtdhbimankkpllaaDoor
namespace Rows

/-- THE TIED CARD OF 'laws.FnExactFarthestState'. -/
def fnExactFarthestStateCard : Claim7 := { stood := { row := fnExactFarthestStateRow, standIns := [], harness := (true, "23ef6bb3c14cce518482075de4c68087be6020587edae1ddad893591998ed173"), looks := false }, kinds := [], alts := [], laidByText := true, laidKinds := [.data, .pinned], laidTests := true, laidLooks := .later }
def FnExactFarthestStateCardSaid : Prop := Claim7.holds Tryd.pinned (.plain (OpenSpec.ofChange fnExactFarthestStateSpec)) fnExactFarthestStateCard

/-- THE SECOND FORM's CARD OF 'laws.FnExactFarthestState'. -/
def fnExactFarthestStateUptoCard : Claim7 := { stood := { row := fnExactFarthestStateUptoRow, standIns := [], harness := (true, "23ef6bb3c14cce518482075de4c68087be6020587edae1ddad893591998ed173"), looks := false }, kinds := [], alts := [], laidByText := true, laidKinds := [.data, .pinned], laidTests := true, laidLooks := .later }
def FnExactFarthestStateUptoCardSaid : Prop := Claim7.holds Tryd.pinned (.plain (OpenSpec.upto fnExactFarthestStateSpec)) fnExactFarthestStateUptoCard
end Rows
end Go.Proofs.YtdhbimankkpllaaDoor
