/-
  DERIVED. GIVEN WITH THE SEED: THE CARDS: each row of YthiaahbmibndkaaGreatDoorRows.lean that lists a variable, with what it lists TIED to the program's text (the seventh form; the later family's looks); each row that meets fmt, with fmt's text TOLD by the authors' own Lean function (tested against real Go, not proved from fmt's source: count such statements apart). THE CARD IS WHAT COUNTS. Prove the row's statement (the work); the ties are given (YthiaahbmibndkaaGreatDoorTie.lean); close each card by the builder's one call (the guide's Derived/Test/ToyasCard.lean, 'card_holds'). Laid BY PROGRAM, IN A SANDBOX (cutbox-door.mjs). By AI agents, Wed Nov 11 2026. No macro, syntax, notation, axiom, sorry.
-/
import Derived.Test.YthiaahbmibndkaaGreatDoorRows
import GoSem.ClaimSeven
namespace Go.Proofs.YthiaahbmibndkaaGreatDoor
namespace Rows

/-- THE TIED CARD OF 'flangelaw27.HostFills'. -/
def hostFillsCard : Claim7 := { stood := { row := hostFillsRow, standIns := [], harness := (true, "9c929d1e3ae6f4c3dea9555080270080bb1018e49e8d0f4c7ffeeb46bd51f05b"), looks := true }, kinds := [], alts := [], laidByText := true, laidKinds := [.data, .data, .data, .sentinel, .sentinel], laidTests := true, laidLooks := .later }
def HostFillsCardSaid : Prop := Claim7.holds Tryz.pinned (.plain (OpenSpec.ofChange hostFillsSpec)) hostFillsCard

/-- THE SECOND FORM's CARD OF 'flangelaw27.HostFills'. -/
def hostFillsUptoCard : Claim7 := { stood := { row := hostFillsUptoRow, standIns := [], harness := (true, "9c929d1e3ae6f4c3dea9555080270080bb1018e49e8d0f4c7ffeeb46bd51f05b"), looks := true }, kinds := [], alts := [], laidByText := true, laidKinds := [.data, .data, .data, .sentinel, .sentinel], laidTests := true, laidLooks := .later }
def HostFillsUptoCardSaid : Prop := Claim7.holds Tryz.pinned (.plain (OpenSpec.upto hostFillsSpec)) hostFillsUptoCard
end Rows
end Go.Proofs.YthiaahbmibndkaaGreatDoor
