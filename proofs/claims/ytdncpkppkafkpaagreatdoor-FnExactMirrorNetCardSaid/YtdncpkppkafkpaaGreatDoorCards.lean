/-
  DERIVED. GIVEN WITH THE SEED: THE CARDS: each row of YtdncpkppkafkpaaGreatDoorRows.lean that lists a variable, with what it lists TIED to the program's text (the seventh form; the later family's looks); each row that meets fmt, with fmt's text TOLD by the authors' own Lean function (tested against real Go, not proved from fmt's source: count such statements apart). THE CARD IS WHAT COUNTS. Prove the row's statement (the work); the ties are given (YtdncpkppkafkpaaGreatDoorTie.lean); close each card by the builder's one call (the guide's Derived/Test/ToyasCard.lean, 'card_holds'). Laid BY PROGRAM, IN A SANDBOX (cutbox-door.mjs). By AI agents, Wed Nov 11 2026. No macro, syntax, notation, axiom, sorry.
-/
import Derived.Test.YtdncpkppkafkpaaGreatDoorRows
import GoSem.ClaimSeven
namespace Go.Proofs.YtdncpkppkafkpaaGreatDoor
namespace Rows

/-- THE TIED CARD OF 'laws.FnExactMirrorNet'. -/
def fnExactMirrorNetCard : Claim7 := { stood := { row := fnExactMirrorNetRow, standIns := [], harness := (true, "99ecf99e1aeb132ac988bd2066f7c309917e315585d86e9f02ed96367290dedf"), looks := false }, kinds := [], alts := [], laidByText := true, laidKinds := [.data, .pinned], laidTests := true, laidLooks := .later }
def FnExactMirrorNetCardSaid : Prop := Claim7.holds Tryz.pinned (.plain (OpenSpec.ofChange fnExactMirrorNetSpec)) fnExactMirrorNetCard

/-- THE SECOND FORM's CARD OF 'laws.FnExactMirrorNet'. -/
def fnExactMirrorNetUptoCard : Claim7 := { stood := { row := fnExactMirrorNetUptoRow, standIns := [], harness := (true, "99ecf99e1aeb132ac988bd2066f7c309917e315585d86e9f02ed96367290dedf"), looks := false }, kinds := [], alts := [], laidByText := true, laidKinds := [.data, .pinned], laidTests := true, laidLooks := .later }
def FnExactMirrorNetUptoCardSaid : Prop := Claim7.holds Tryz.pinned (.plain (OpenSpec.upto fnExactMirrorNetSpec)) fnExactMirrorNetUptoCard
end Rows
end Go.Proofs.YtdncpkppkafkpaaGreatDoor
