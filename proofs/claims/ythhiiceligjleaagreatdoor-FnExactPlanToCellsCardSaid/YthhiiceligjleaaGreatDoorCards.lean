/-
  DERIVED. GIVEN WITH THE SEED: THE CARDS: each row of YthhiiceligjleaaGreatDoorRows.lean that lists a variable, with what it lists TIED to the program's text (the seventh form; the later family's looks); each row that meets fmt, with fmt's text TOLD by the authors' own Lean function (tested against real Go, not proved from fmt's source: count such statements apart). THE CARD IS WHAT COUNTS. Prove the row's statement (the work); the ties are given (YthhiiceligjleaaGreatDoorTie.lean); close each card by the builder's one call (the guide's Derived/Test/ToyasCard.lean, 'card_holds'). Laid BY PROGRAM, IN A SANDBOX (cutbox-door.mjs). By AI agents, Wed Nov 11 2026. No macro, syntax, notation, axiom, sorry.
-/
import Derived.Test.YthhiiceligjleaaGreatDoorRows
import GoSem.ClaimSeven
namespace Go.Proofs.YthhiiceligjleaaGreatDoor
namespace Rows

/-- THE TIED CARD OF 'laws.FnExactPlanTo'. -/
def fnExactPlanToCard : Claim7 := { stood := { row := fnExactPlanToRow, standIns := [], harness := (true, "01a9013e141ec8ccb1cbddd90a007022f0ce0dc19e6e1603b1be258da972ee2b"), looks := false }, kinds := [], alts := [], laidByText := true, laidKinds := [.data, .pinned], laidTests := true, laidLooks := .later }
def FnExactPlanToCardSaid : Prop := Claim7.holds Tryz.pinned (.plain (OpenSpec.ofChange fnExactPlanToSpec)) fnExactPlanToCard

/-- THE TIED CARD OF 'laws.FnExactSwapPlan'. -/
def fnExactSwapPlanCard : Claim7 := { stood := { row := fnExactSwapPlanRow, standIns := [], harness := (true, "01a9013e141ec8ccb1cbddd90a007022f0ce0dc19e6e1603b1be258da972ee2b"), looks := false }, kinds := [], alts := [], laidByText := true, laidKinds := [.data, .pinned], laidTests := true, laidLooks := .later }
def FnExactSwapPlanCardSaid : Prop := Claim7.holds Tryz.pinned (.plain (OpenSpec.ofChange fnExactSwapPlanSpec)) fnExactSwapPlanCard

/-- THE TIED CARD OF 'laws.FnExactPlanToCells'. -/
def fnExactPlanToCellsCard : Claim7 := { stood := { row := fnExactPlanToCellsRow, standIns := [], harness := (true, "01a9013e141ec8ccb1cbddd90a007022f0ce0dc19e6e1603b1be258da972ee2b"), looks := false }, kinds := [], alts := [], laidByText := true, laidKinds := [.data, .pinned], laidTests := true, laidLooks := .later }
def FnExactPlanToCellsCardSaid : Prop := Claim7.holds Tryz.pinned (.plain (OpenSpec.ofChange fnExactPlanToCellsSpec)) fnExactPlanToCellsCard

/-- THE SECOND FORM's CARD OF 'laws.FnExactPlanTo'. -/
def fnExactPlanToUptoCard : Claim7 := { stood := { row := fnExactPlanToUptoRow, standIns := [], harness := (true, "01a9013e141ec8ccb1cbddd90a007022f0ce0dc19e6e1603b1be258da972ee2b"), looks := false }, kinds := [], alts := [], laidByText := true, laidKinds := [.data, .pinned], laidTests := true, laidLooks := .later }
def FnExactPlanToUptoCardSaid : Prop := Claim7.holds Tryz.pinned (.plain (OpenSpec.upto fnExactPlanToSpec)) fnExactPlanToUptoCard

/-- THE SECOND FORM's CARD OF 'laws.FnExactSwapPlan'. -/
def fnExactSwapPlanUptoCard : Claim7 := { stood := { row := fnExactSwapPlanUptoRow, standIns := [], harness := (true, "01a9013e141ec8ccb1cbddd90a007022f0ce0dc19e6e1603b1be258da972ee2b"), looks := false }, kinds := [], alts := [], laidByText := true, laidKinds := [.data, .pinned], laidTests := true, laidLooks := .later }
def FnExactSwapPlanUptoCardSaid : Prop := Claim7.holds Tryz.pinned (.plain (OpenSpec.upto fnExactSwapPlanSpec)) fnExactSwapPlanUptoCard

/-- THE SECOND FORM's CARD OF 'laws.FnExactPlanToCells'. -/
def fnExactPlanToCellsUptoCard : Claim7 := { stood := { row := fnExactPlanToCellsUptoRow, standIns := [], harness := (true, "01a9013e141ec8ccb1cbddd90a007022f0ce0dc19e6e1603b1be258da972ee2b"), looks := false }, kinds := [], alts := [], laidByText := true, laidKinds := [.data, .pinned], laidTests := true, laidLooks := .later }
def FnExactPlanToCellsUptoCardSaid : Prop := Claim7.holds Tryz.pinned (.plain (OpenSpec.upto fnExactPlanToCellsSpec)) fnExactPlanToCellsUptoCard
end Rows
end Go.Proofs.YthhiiceligjleaaGreatDoor
