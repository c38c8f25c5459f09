/-
  DERIVED. GIVEN WITH THE SEED: THE CARDS: each row of YtgpllhhgfbkakaaGreatDoorRows.lean that lists a variable, with what it lists TIED to the program's text (the seventh form; the later family's looks); each row that meets fmt, with fmt's text TOLD by the authors' own Lean function (tested against real Go, not proved from fmt's source: count such statements apart). THE CARD IS WHAT COUNTS. Prove the row's statement (the work); the ties are given (YtgpllhhgfbkakaaGreatDoorTie.lean); close each card by the builder's one call (the guide's Derived/Test/ToyasCard.lean, 'card_holds'). Laid BY PROGRAM, IN A SANDBOX (cutbox-door.mjs). By AI agents, Wed Nov 11 2026. No macro, syntax, notation, axiom, sorry.
-/
import Derived.Test.YtgpllhhgfbkakaaGreatDoorRows
import GoSem.ClaimSeven
namespace Go.Proofs.YtgpllhhgfbkakaaGreatDoor
namespace Rows

/-- THE TIED CARD OF 'flangelaw27.HostNone'. -/
def hostNoneCard : Claim7 := { stood := { row := hostNoneRow, standIns := [], harness := (true, "6e491df0477b98fd1bddf7b320e450116339d10776133b2bd084f2f6e299cdbe"), looks := true }, kinds := [], alts := [], laidByText := true, laidKinds := [.data, .data, .data, .data, .sentinel, .sentinel, .pinned], laidTests := true, laidLooks := .later }
def HostNoneCardSaid : Prop := Claim7.holds Tryz.pinned (.plain (OpenSpec.ofChange hostNoneSpec)) hostNoneCard

/-- THE SECOND FORM's CARD OF 'flangelaw27.HostNone'. -/
def hostNoneUptoCard : Claim7 := { stood := { row := hostNoneUptoRow, standIns := [], harness := (true, "6e491df0477b98fd1bddf7b320e450116339d10776133b2bd084f2f6e299cdbe"), looks := true }, kinds := [], alts := [], laidByText := true, laidKinds := [.data, .data, .data, .data, .sentinel, .sentinel, .pinned], laidTests := true, laidLooks := .later }
def HostNoneUptoCardSaid : Prop := Claim7.holds Tryz.pinned (.plain (OpenSpec.upto hostNoneSpec)) hostNoneUptoCard
end Rows
end Go.Proofs.YtgpllhhgfbkakaaGreatDoor
