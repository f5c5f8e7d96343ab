/-
  DERIVED. GIVEN WITH THE SEED: THE CARDS: each row of YthhiiceligjleaaDoorRows.lean that lists a variable, with what it lists TIED to the program's text (the seventh form; the later family's looks); each row that meets fmt, with fmt's text TOLD by the authors' own Lean function (tested against real Go, not proved from fmt's source: count such statements apart). THE CARD IS WHAT COUNTS. Prove the row's statement (the work); the ties are given (YthhiiceligjleaaDoorTie.lean); close each card by the builder's one call (the guide's Derived/Test/ToyasCard.lean, 'card_holds'). Laid BY PROGRAM, IN A SANDBOX (cutbox-door.mjs). By AI agents, Wed Nov 11 2026. No macro, syntax, notation, axiom, sorry.
-/
import Derived.Test.YthhiiceligjleaaDoorRows
import GoSem.ClaimSeven
namespace Go.Proofs.YthhiiceligjleaaDoor
namespace Rows

/-- THE TIED CARD OF 'laws.FnExactCountTogether'. -/
def fnExactCountTogetherCard : Claim7 := { stood := { row := fnExactCountTogetherRow, standIns := [], harness := (true, "cab89d9ec59926c113bab6a281cbb2b101d08e4d4ca2eb6e8755d5f1d2f0b862"), looks := false }, kinds := [], alts := [], laidByText := true, laidKinds := [.data, .pinned], laidTests := true, laidLooks := .later }
def FnExactCountTogetherCardSaid : Prop := Claim7.holds Tryd.pinned (.plain (OpenSpec.ofChange fnExactCountTogetherSpec)) fnExactCountTogetherCard

/-- THE SECOND FORM's CARD OF 'laws.FnExactCountTogether'. -/
def fnExactCountTogetherUptoCard : Claim7 := { stood := { row := fnExactCountTogetherUptoRow, standIns := [], harness := (true, "cab89d9ec59926c113bab6a281cbb2b101d08e4d4ca2eb6e8755d5f1d2f0b862"), looks := false }, kinds := [], alts := [], laidByText := true, laidKinds := [.data, .pinned], laidTests := true, laidLooks := .later }
def FnExactCountTogetherUptoCardSaid : Prop := Claim7.holds Tryd.pinned (.plain (OpenSpec.upto fnExactCountTogetherSpec)) fnExactCountTogetherUptoCard
end Rows
end Go.Proofs.YthhiiceligjleaaDoor
