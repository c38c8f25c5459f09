/-
  DERIVED. GIVEN WITH THE SEED: THE CARDS: each row of YtkjmpjaahgficaaDoorRows.lean that lists a variable, with what it lists TIED to the program's text (the seventh form; the later family's looks); each row that meets fmt, with fmt's text TOLD by the authors' own Lean function (tested against real Go, not proved from fmt's source: count such statements apart). THE CARD IS WHAT COUNTS. Prove the row's statement (the work); the ties are given (YtkjmpjaahgficaaDoorTie.lean); close each card by the builder's one call (the guide's Derived/Test/ToyasCard.lean, 'card_holds'). Laid BY PROGRAM, IN A SANDBOX (cutbox-door.mjs). By AI agents, Wed Nov 11 2026. No macro, syntax, notation, axiom, sorry.
-/
import Derived.Test.YtkjmpjaahgficaaDoorRows
import GoSem.ClaimSeven
namespace Go.Proofs.YtkjmpjaahgficaaDoor
namespace Rows

/-- THE TIED CARD OF 'flangelaw17.AddressMatches'. -/
def addressMatchesCard : Claim7 := { stood := { row := addressMatchesRow, standIns := [], harness := (true, "118a1b5b83c1a50e94f4bdc91271ef277e3807e137d4a9e14154a92a32edb1c6"), looks := true }, kinds := [], alts := [], laidByText := true, laidKinds := [.data, .data, .data, .data, .sentinel, .sentinel, .pinned], laidTests := true, laidLooks := .later }
def AddressMatchesCardSaid : Prop := Claim7.holds Tryd.pinned (.plain (OpenSpec.ofChange addressMatchesSpec)) addressMatchesCard

/-- THE TIED CARD OF 'flangelaw17.AddressParses'. -/
def addressParsesCard : Claim7 := { stood := { row := addressParsesRow, standIns := [], harness := (true, "118a1b5b83c1a50e94f4bdc91271ef277e3807e137d4a9e14154a92a32edb1c6"), looks := true }, kinds := [], alts := [], laidByText := true, laidKinds := [.data, .data, .data, .data, .sentinel, .sentinel, .pinned], laidTests := true, laidLooks := .later }
def AddressParsesCardSaid : Prop := Claim7.holds Tryd.pinned (.plain (OpenSpec.ofChange addressParsesSpec)) addressParsesCard

/-- THE TIED CARD OF 'flangelaw17.AddressPrints'. -/
def addressPrintsCard : Claim7 := { stood := { row := addressPrintsRow, standIns := [], harness := (true, "118a1b5b83c1a50e94f4bdc91271ef277e3807e137d4a9e14154a92a32edb1c6"), looks := true }, kinds := [], alts := [], laidByText := true, laidKinds := [.data, .data, .data, .data, .sentinel, .sentinel, .pinned], laidTests := true, laidLooks := .later }
def AddressPrintsCardSaid : Prop := Claim7.holds Tryd.pinned (.plain (OpenSpec.ofChange addressPrintsSpec)) addressPrintsCard

/-- THE TIED CARD OF 'flangelaw17.AddressOrders'. -/
def addressOrdersCard : Claim7 := { stood := { row := addressOrdersRow, standIns := [], harness := (true, "118a1b5b83c1a50e94f4bdc91271ef277e3807e137d4a9e14154a92a32edb1c6"), looks := true }, kinds := [], alts := [], laidByText := true, laidKinds := [.data, .data, .data, .data, .sentinel, .sentinel, .pinned], laidTests := true, laidLooks := .later }
def AddressOrdersCardSaid : Prop := Claim7.holds Tryd.pinned (.plain (OpenSpec.ofChange addressOrdersSpec)) addressOrdersCard

/-- THE TIED CARD OF 'flangelaw17.AddressSorts'. -/
def addressSortsCard : Claim7 := { stood := { row := addressSortsRow, standIns := [], harness := (true, "118a1b5b83c1a50e94f4bdc91271ef277e3807e137d4a9e14154a92a32edb1c6"), looks := true }, kinds := [], alts := [], laidByText := true, laidKinds := [.data, .data, .data, .data, .sentinel, .sentinel, .pinned], laidTests := true, laidLooks := .later }
def AddressSortsCardSaid : Prop := Claim7.holds Tryd.pinned (.plain (OpenSpec.ofChange addressSortsSpec)) addressSortsCard

/-- THE SECOND FORM's CARD OF 'flangelaw17.AddressMatches'. -/
def addressMatchesUptoCard : Claim7 := { stood := { row := addressMatchesUptoRow, standIns := [], harness := (true, "118a1b5b83c1a50e94f4bdc91271ef277e3807e137d4a9e14154a92a32edb1c6"), looks := true }, kinds := [], alts := [], laidByText := true, laidKinds := [.data, .data, .data, .data, .sentinel, .sentinel, .pinned], laidTests := true, laidLooks := .later }
def AddressMatchesUptoCardSaid : Prop := Claim7.holds Tryd.pinned (.plain (OpenSpec.upto addressMatchesSpec)) addressMatchesUptoCard

/-- THE SECOND FORM's CARD OF 'flangelaw17.AddressParses'. -/
def addressParsesUptoCard : Claim7 := { stood := { row := addressParsesUptoRow, standIns := [], harness := (true, "118a1b5b83c1a50e94f4bdc91271ef277e3807e137d4a9e14154a92a32edb1c6"), looks := true }, kinds := [], alts := [], laidByText := true, laidKinds := [.data, .data, .data, .data, .sentinel, .sentinel, .pinned], laidTests := true, laidLooks := .later }
def AddressParsesUptoCardSaid : Prop := Claim7.holds Tryd.pinned (.plain (OpenSpec.upto addressParsesSpec)) addressParsesUptoCard

/-- THE SECOND FORM's CARD OF 'flangelaw17.AddressPrints'. -/
def addressPrintsUptoCard : Claim7 := { stood := { row := addressPrintsUptoRow, standIns := [], harness := (true, "118a1b5b83c1a50e94f4bdc91271ef277e3807e137d4a9e14154a92a32edb1c6"), looks := true }, kinds := [], alts := [], laidByText := true, laidKinds := [.data, .data, .data, .data, .sentinel, .sentinel, .pinned], laidTests := true, laidLooks := .later }
def AddressPrintsUptoCardSaid : Prop := Claim7.holds Tryd.pinned (.plain (OpenSpec.upto addressPrintsSpec)) addressPrintsUptoCard

/-- THE SECOND FORM's CARD OF 'flangelaw17.AddressOrders'. -/
def addressOrdersUptoCard : Claim7 := { stood := { row := addressOrdersUptoRow, standIns := [], harness := (true, "118a1b5b83c1a50e94f4bdc91271ef277e3807e137d4a9e14154a92a32edb1c6"), looks := true }, kinds := [], alts := [], laidByText := true, laidKinds := [.data, .data, .data, .data, .sentinel, .sentinel, .pinned], laidTests := true, laidLooks := .later }
def AddressOrdersUptoCardSaid : Prop := Claim7.holds Tryd.pinned (.plain (OpenSpec.upto addressOrdersSpec)) addressOrdersUptoCard

/-- THE SECOND FORM's CARD OF 'flangelaw17.AddressSorts'. -/
def addressSortsUptoCard : Claim7 := { stood := { row := addressSortsUptoRow, standIns := [], harness := (true, "118a1b5b83c1a50e94f4bdc91271ef277e3807e137d4a9e14154a92a32edb1c6"), looks := true }, kinds := [], alts := [], laidByText := true, laidKinds := [.data, .data, .data, .data, .sentinel, .sentinel, .pinned], laidTests := true, laidLooks := .later }
def AddressSortsUptoCardSaid : Prop := Claim7.holds Tryd.pinned (.plain (OpenSpec.upto addressSortsSpec)) addressSortsUptoCard
end Rows
end Go.Proofs.YtkjmpjaahgficaaDoor
