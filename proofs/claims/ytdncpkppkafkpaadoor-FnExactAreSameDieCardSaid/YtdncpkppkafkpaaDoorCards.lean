/-
  DERIVED. GIVEN WITH THE SEED: THE CARDS: each row of YtdncpkppkafkpaaDoorRows.lean that lists a variable, with what it lists TIED to the program's text (the seventh form; the later family's looks); each row that meets fmt, with fmt's text TOLD by the authors' own Lean function (tested against real Go, not proved from fmt's source: count such statements apart). THE CARD IS WHAT COUNTS. Prove the row's statement (the work); the ties are given (YtdncpkppkafkpaaDoorTie.lean); close each card by the builder's one call (the guide's Derived/Test/ToyasCard.lean, 'card_holds'). Laid BY PROGRAM, IN A SANDBOX (cutbox-door.mjs). By AI agents, Wed Nov 11 2026. No macro, syntax, notation, axiom, sorry.
-/
import Derived.Test.YtdncpkppkafkpaaDoorRows
import GoSem.ClaimSeven
namespace Go.Proofs.YtdncpkppkafkpaaDoor
namespace Rows

/-- THE TIED CARD OF 'laws.FnExactIsSix'. -/
def fnExactIsSixCard : Claim7 := { stood := { row := fnExactIsSixRow, standIns := [], harness := (true, "0aad7f6b6b4231a2f423d3aea730f4a40d7985af2fe2fb80a5808b72fe56a5ea"), looks := false }, kinds := [], alts := [], laidByText := true, laidKinds := [.data, .pinned], laidTests := true, laidLooks := .later }
def FnExactIsSixCardSaid : Prop := Claim7.holds Tryd.pinned (.plain (OpenSpec.ofChange fnExactIsSixSpec)) fnExactIsSixCard

/-- THE TIED CARD OF 'laws.FnExactIsNet'. -/
def fnExactIsNetCard : Claim7 := { stood := { row := fnExactIsNetRow, standIns := [], harness := (true, "0aad7f6b6b4231a2f423d3aea730f4a40d7985af2fe2fb80a5808b72fe56a5ea"), looks := false }, kinds := [], alts := [], laidByText := true, laidKinds := [.data, .pinned], laidTests := true, laidLooks := .later }
def FnExactIsNetCardSaid : Prop := Claim7.holds Tryd.pinned (.plain (OpenSpec.ofChange fnExactIsNetSpec)) fnExactIsNetCard

/-- THE TIED CARD OF 'laws.FnExactPlacesOfNet'. -/
def fnExactPlacesOfNetCard : Claim7 := { stood := { row := fnExactPlacesOfNetRow, standIns := [], harness := (true, "0aad7f6b6b4231a2f423d3aea730f4a40d7985af2fe2fb80a5808b72fe56a5ea"), looks := false }, kinds := [], alts := [], laidByText := true, laidKinds := [.data, .pinned], laidTests := true, laidLooks := .later }
def FnExactPlacesOfNetCardSaid : Prop := Claim7.holds Tryd.pinned (.plain (OpenSpec.ofChange fnExactPlacesOfNetSpec)) fnExactPlacesOfNetCard

/-- THE TIED CARD OF 'laws.FnExactFoldOrder'. -/
def fnExactFoldOrderCard : Claim7 := { stood := { row := fnExactFoldOrderRow, standIns := [], harness := (true, "0aad7f6b6b4231a2f423d3aea730f4a40d7985af2fe2fb80a5808b72fe56a5ea"), looks := false }, kinds := [], alts := [], laidByText := true, laidKinds := [.data, .pinned], laidTests := true, laidLooks := .later }
def FnExactFoldOrderCardSaid : Prop := Claim7.holds Tryd.pinned (.plain (OpenSpec.ofChange fnExactFoldOrderSpec)) fnExactFoldOrderCard

/-- THE TIED CARD OF 'laws.FnExactFoldNet'. -/
def fnExactFoldNetCard : Claim7 := { stood := { row := fnExactFoldNetRow, standIns := [], harness := (true, "0aad7f6b6b4231a2f423d3aea730f4a40d7985af2fe2fb80a5808b72fe56a5ea"), looks := false }, kinds := [], alts := [], laidByText := true, laidKinds := [.data, .pinned], laidTests := true, laidLooks := .later }
def FnExactFoldNetCardSaid : Prop := Claim7.holds Tryd.pinned (.plain (OpenSpec.ofChange fnExactFoldNetSpec)) fnExactFoldNetCard

/-- THE TIED CARD OF 'laws.FnExactKeptEdges'. -/
def fnExactKeptEdgesCard : Claim7 := { stood := { row := fnExactKeptEdgesRow, standIns := [], harness := (true, "0aad7f6b6b4231a2f423d3aea730f4a40d7985af2fe2fb80a5808b72fe56a5ea"), looks := false }, kinds := [], alts := [], laidByText := true, laidKinds := [.data, .pinned], laidTests := true, laidLooks := .later }
def FnExactKeptEdgesCardSaid : Prop := Claim7.holds Tryd.pinned (.plain (OpenSpec.ofChange fnExactKeptEdgesSpec)) fnExactKeptEdgesCard

/-- THE TIED CARD OF 'laws.FnExactAreSameDie'. -/
def fnExactAreSameDieCard : Claim7 := { stood := { row := fnExactAreSameDieRow, standIns := [], harness := (true, "0aad7f6b6b4231a2f423d3aea730f4a40d7985af2fe2fb80a5808b72fe56a5ea"), looks := false }, kinds := [], alts := [], laidByText := true, laidKinds := [.data, .pinned], laidTests := true, laidLooks := .later }
def FnExactAreSameDieCardSaid : Prop := Claim7.holds Tryd.pinned (.plain (OpenSpec.ofChange fnExactAreSameDieSpec)) fnExactAreSameDieCard

/-- THE SECOND FORM's CARD OF 'laws.FnExactIsSix'. -/
def fnExactIsSixUptoCard : Claim7 := { stood := { row := fnExactIsSixUptoRow, standIns := [], harness := (true, "0aad7f6b6b4231a2f423d3aea730f4a40d7985af2fe2fb80a5808b72fe56a5ea"), looks := false }, kinds := [], alts := [], laidByText := true, laidKinds := [.data, .pinned], laidTests := true, laidLooks := .later }
def FnExactIsSixUptoCardSaid : Prop := Claim7.holds Tryd.pinned (.plain (OpenSpec.upto fnExactIsSixSpec)) fnExactIsSixUptoCard

/-- THE SECOND FORM's CARD OF 'laws.FnExactIsNet'. -/
def fnExactIsNetUptoCard : Claim7 := { stood := { row := fnExactIsNetUptoRow, standIns := [], harness := (true, "0aad7f6b6b4231a2f423d3aea730f4a40d7985af2fe2fb80a5808b72fe56a5ea"), looks := false }, kinds := [], alts := [], laidByText := true, laidKinds := [.data, .pinned], laidTests := true, laidLooks := .later }
def FnExactIsNetUptoCardSaid : Prop := Claim7.holds Tryd.pinned (.plain (OpenSpec.upto fnExactIsNetSpec)) fnExactIsNetUptoCard

/-- THE SECOND FORM's CARD OF 'laws.FnExactPlacesOfNet'. -/
def fnExactPlacesOfNetUptoCard : Claim7 := { stood := { row := fnExactPlacesOfNetUptoRow, standIns := [], harness := (true, "0aad7f6b6b4231a2f423d3aea730f4a40d7985af2fe2fb80a5808b72fe56a5ea"), looks := false }, kinds := [], alts := [], laidByText := true, laidKinds := [.data, .pinned], laidTests := true, laidLooks := .later }
def FnExactPlacesOfNetUptoCardSaid : Prop := Claim7.holds Tryd.pinned (.plain (OpenSpec.upto fnExactPlacesOfNetSpec)) fnExactPlacesOfNetUptoCard

/-- THE SECOND FORM's CARD OF 'laws.FnExactFoldOrder'. -/
def fnExactFoldOrderUptoCard : Claim7 := { stood := { row := fnExactFoldOrderUptoRow, standIns := [], harness := (true, "0aad7f6b6b4231a2f423d3aea730f4a40d7985af2fe2fb80a5808b72fe56a5ea"), looks := false }, kinds := [], alts := [], laidByText := true, laidKinds := [.data, .pinned], laidTests := true, laidLooks := .later }
def FnExactFoldOrderUptoCardSaid : Prop := Claim7.holds Tryd.pinned (.plain (OpenSpec.upto fnExactFoldOrderSpec)) fnExactFoldOrderUptoCard

/-- THE SECOND FORM's CARD OF 'laws.FnExactFoldNet'. -/
def fnExactFoldNetUptoCard : Claim7 := { stood := { row := fnExactFoldNetUptoRow, standIns := [], harness := (true, "0aad7f6b6b4231a2f423d3aea730f4a40d7985af2fe2fb80a5808b72fe56a5ea"), looks := false }, kinds := [], alts := [], laidByText := true, laidKinds := [.data, .pinned], laidTests := true, laidLooks := .later }
def FnExactFoldNetUptoCardSaid : Prop := Claim7.holds Tryd.pinned (.plain (OpenSpec.upto fnExactFoldNetSpec)) fnExactFoldNetUptoCard

/-- THE SECOND FORM's CARD OF 'laws.FnExactKeptEdges'. -/
def fnExactKeptEdgesUptoCard : Claim7 := { stood := { row := fnExactKeptEdgesUptoRow, standIns := [], harness := (true, "0aad7f6b6b4231a2f423d3aea730f4a40d7985af2fe2fb80a5808b72fe56a5ea"), looks := false }, kinds := [], alts := [], laidByText := true, laidKinds := [.data, .pinned], laidTests := true, laidLooks := .later }
def FnExactKeptEdgesUptoCardSaid : Prop := Claim7.holds Tryd.pinned (.plain (OpenSpec.upto fnExactKeptEdgesSpec)) fnExactKeptEdgesUptoCard

/-- THE SECOND FORM's CARD OF 'laws.FnExactAreSameDie'. -/
def fnExactAreSameDieUptoCard : Claim7 := { stood := { row := fnExactAreSameDieUptoRow, standIns := [], harness := (true, "0aad7f6b6b4231a2f423d3aea730f4a40d7985af2fe2fb80a5808b72fe56a5ea"), looks := false }, kinds := [], alts := [], laidByText := true, laidKinds := [.data, .pinned], laidTests := true, laidLooks := .later }
def FnExactAreSameDieUptoCardSaid : Prop := Claim7.holds Tryd.pinned (.plain (OpenSpec.upto fnExactAreSameDieSpec)) fnExactAreSameDieUptoCard
end Rows
end Go.Proofs.YtdncpkppkafkpaaDoor
