/-
  DERIVED. GIVEN WITH THE SEED: THE CARDS: each row of YtdhbimankkpllaaGreatDoorRows.lean that lists a variable, with what it lists TIED to the program's text (the seventh form; the later family's looks); each row that meets fmt, with fmt's text TOLD by the authors' own Lean function (tested against real Go, not proved from fmt's source: count such statements apart). THE CARD IS WHAT COUNTS. Prove the row's statement (the work); the ties are given (YtdhbimankkpllaaGreatDoorTie.lean); close each card by the builder's one call (the guide's Derived/Test/ToyasCard.lean, 'card_holds'). Laid BY PROGRAM, IN A SANDBOX (cutbox-door.mjs). By AI agents, Wed Nov 11 2026. No macro, syntax, notation, axiom, sorry.
-/
import Derived.Test.YtdhbimankkpllaaGreatDoorRows
import GoSem.ClaimSeven
namespace Go.Proofs.YtdhbimankkpllaaGreatDoor
namespace Rows

/-- THE TIED CARD OF 'laws.FnExactTopsAt'. -/
def fnExactTopsAtCard : Claim7 := { stood := { row := fnExactTopsAtRow, standIns := [], harness := (true, "0945ff585f95bb3e90382af1bae60a37dcebbb60153c3c689ff0736a3816fbc4"), looks := false }, kinds := [], alts := [], laidByText := true, laidKinds := [.data, .pinned], laidTests := true, laidLooks := .later }
def FnExactTopsAtCardSaid : Prop := Claim7.holds Tryz.pinned (.plain (OpenSpec.ofChange fnExactTopsAtSpec)) fnExactTopsAtCard

/-- THE TIED CARD OF 'laws.FnExactDiceAt'. -/
def fnExactDiceAtCard : Claim7 := { stood := { row := fnExactDiceAtRow, standIns := [], harness := (true, "0945ff585f95bb3e90382af1bae60a37dcebbb60153c3c689ff0736a3816fbc4"), looks := false }, kinds := [], alts := [], laidByText := true, laidKinds := [.data, .pinned], laidTests := true, laidLooks := .later }
def FnExactDiceAtCardSaid : Prop := Claim7.holds Tryz.pinned (.plain (OpenSpec.ofChange fnExactDiceAtSpec)) fnExactDiceAtCard

/-- THE SECOND FORM's CARD OF 'laws.FnExactTopsAt'. -/
def fnExactTopsAtUptoCard : Claim7 := { stood := { row := fnExactTopsAtUptoRow, standIns := [], harness := (true, "0945ff585f95bb3e90382af1bae60a37dcebbb60153c3c689ff0736a3816fbc4"), looks := false }, kinds := [], alts := [], laidByText := true, laidKinds := [.data, .pinned], laidTests := true, laidLooks := .later }
def FnExactTopsAtUptoCardSaid : Prop := Claim7.holds Tryz.pinned (.plain (OpenSpec.upto fnExactTopsAtSpec)) fnExactTopsAtUptoCard

/-- THE SECOND FORM's CARD OF 'laws.FnExactDiceAt'. -/
def fnExactDiceAtUptoCard : Claim7 := { stood := { row := fnExactDiceAtUptoRow, standIns := [], harness := (true, "0945ff585f95bb3e90382af1bae60a37dcebbb60153c3c689ff0736a3816fbc4"), looks := false }, kinds := [], alts := [], laidByText := true, laidKinds := [.data, .pinned], laidTests := true, laidLooks := .later }
def FnExactDiceAtUptoCardSaid : Prop := Claim7.holds Tryz.pinned (.plain (OpenSpec.upto fnExactDiceAtSpec)) fnExactDiceAtUptoCard
end Rows
end Go.Proofs.YtdhbimankkpllaaGreatDoor
