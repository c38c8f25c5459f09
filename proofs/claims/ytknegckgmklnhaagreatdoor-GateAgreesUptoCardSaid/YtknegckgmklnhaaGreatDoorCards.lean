/-
  DERIVED. GIVEN WITH THE SEED: THE CARDS: each row of YtknegckgmklnhaaGreatDoorRows.lean that lists a variable, with what it lists TIED to the program's text (the seventh form; the later family's looks); each row that meets fmt, with fmt's text TOLD by the authors' own Lean function (tested against real Go, not proved from fmt's source: count such statements apart). THE CARD IS WHAT COUNTS. Prove the row's statement (the work); the ties are given (YtknegckgmklnhaaGreatDoorTie.lean); close each card by the builder's one call (the guide's Derived/Test/ToyasCard.lean, 'card_holds'). Laid BY PROGRAM, IN A SANDBOX (cutbox-door.mjs). By AI agents, Wed Nov 11 2026. No macro, syntax, notation, axiom, sorry.
-/
import Derived.Test.YtknegckgmklnhaaGreatDoorRows
import GoSem.ClaimSeven
namespace Go.Proofs.YtknegckgmklnhaaGreatDoor
namespace Rows

/-- THE TIED CARD OF 'flangelaw08.SchemaMakes'. -/
def schemaMakesCard : Claim7 := { stood := { row := schemaMakesRow, standIns := [], harness := (true, "a9afbdc8a2156cbca6a030309c3a6475bb911e123e85df2307ae5ffe5b16be5f"), looks := true }, kinds := [], alts := [], laidByText := true, laidKinds := [.data, .data, .data, .data, .sentinel, .sentinel, .pinned], laidTests := true, laidLooks := .later }
def SchemaMakesCardSaid : Prop := Claim7.holds Tryz.pinned (.plain (OpenSpec.ofChange schemaMakesSpec)) schemaMakesCard

/-- THE TIED CARD OF 'flangelaw11.MarkHides'. -/
def markHidesCard : Claim7 := { stood := { row := markHidesRow, standIns := [], harness := (true, "a9afbdc8a2156cbca6a030309c3a6475bb911e123e85df2307ae5ffe5b16be5f"), looks := true }, kinds := [], alts := [], laidByText := true, laidKinds := [.data, .data, .data, .data, .sentinel, .sentinel, .pinned], laidTests := true, laidLooks := .later }
def MarkHidesCardSaid : Prop := Claim7.holds Tryz.pinned (.plain (OpenSpec.ofChange markHidesSpec)) markHidesCard

/-- THE TIED CARD OF 'flangelaw08.SchemaParses'. -/
def schemaParsesCard : Claim7 := { stood := { row := schemaParsesRow, standIns := [], harness := (true, "a9afbdc8a2156cbca6a030309c3a6475bb911e123e85df2307ae5ffe5b16be5f"), looks := true }, kinds := [], alts := [], laidByText := true, laidKinds := [.data, .data, .data, .data, .sentinel, .sentinel, .pinned], laidTests := true, laidLooks := .later }
def SchemaParsesCardSaid : Prop := Claim7.holds Tryz.pinned (.plain (OpenSpec.ofChange schemaParsesSpec)) schemaParsesCard

/-- THE TIED CARD OF 'flangelaw08.SchemaNone'. -/
def schemaNoneCard : Claim7 := { stood := { row := schemaNoneRow, standIns := [], harness := (true, "a9afbdc8a2156cbca6a030309c3a6475bb911e123e85df2307ae5ffe5b16be5f"), looks := true }, kinds := [], alts := [], laidByText := true, laidKinds := [.data, .data, .data, .data, .sentinel, .sentinel, .pinned], laidTests := true, laidLooks := .later }
def SchemaNoneCardSaid : Prop := Claim7.holds Tryz.pinned (.plain (OpenSpec.ofChange schemaNoneSpec)) schemaNoneCard

/-- THE TIED CARD OF 'flangelaw08.SchemaFits'. -/
def schemaFitsCard : Claim7 := { stood := { row := schemaFitsRow, standIns := [], harness := (true, "a9afbdc8a2156cbca6a030309c3a6475bb911e123e85df2307ae5ffe5b16be5f"), looks := true }, kinds := [], alts := [], laidByText := true, laidKinds := [.data, .data, .data, .data, .sentinel, .sentinel, .pinned], laidTests := true, laidLooks := .later }
def SchemaFitsCardSaid : Prop := Claim7.holds Tryz.pinned (.plain (OpenSpec.ofChange schemaFitsSpec)) schemaFitsCard

/-- THE TIED CARD OF 'flangelaw11.MarkTells'. -/
def markTellsCard : Claim7 := { stood := { row := markTellsRow, standIns := [], harness := (true, "a9afbdc8a2156cbca6a030309c3a6475bb911e123e85df2307ae5ffe5b16be5f"), looks := true }, kinds := [], alts := [], laidByText := true, laidKinds := [.data, .data, .data, .data, .sentinel, .sentinel, .pinned], laidTests := true, laidLooks := .later }
def MarkTellsCardSaid : Prop := Claim7.holds Tryz.pinned (.plain (OpenSpec.ofChange markTellsSpec)) markTellsCard

/-- THE TIED CARD OF 'flangelaw08.SchemaFills'. -/
def schemaFillsCard : Claim7 := { stood := { row := schemaFillsRow, standIns := [], harness := (true, "a9afbdc8a2156cbca6a030309c3a6475bb911e123e85df2307ae5ffe5b16be5f"), looks := true }, kinds := [], alts := [], laidByText := true, laidKinds := [.data, .data, .data, .data, .sentinel, .sentinel, .pinned], laidTests := true, laidLooks := .later }
def SchemaFillsCardSaid : Prop := Claim7.holds Tryz.pinned (.plain (OpenSpec.ofChange schemaFillsSpec)) schemaFillsCard

/-- THE TIED CARD OF 'flangelaw09.CoerceTakes'. -/
def coerceTakesCard : Claim7 := { stood := { row := coerceTakesRow, standIns := [], harness := (true, "a9afbdc8a2156cbca6a030309c3a6475bb911e123e85df2307ae5ffe5b16be5f"), looks := true }, kinds := [], alts := [], laidByText := true, laidKinds := [.data, .data, .data, .sentinel, .sentinel], laidTests := true, laidLooks := .later }
def CoerceTakesCardSaid : Prop := Claim7.holds Tryz.pinned (.plain (OpenSpec.ofChange coerceTakesSpec)) coerceTakesCard

/-- THE TIED CARD OF 'flangelaw12.GateRules'. -/
def gateRulesCard : Claim7 := { stood := { row := gateRulesRow, standIns := [], harness := (true, "a9afbdc8a2156cbca6a030309c3a6475bb911e123e85df2307ae5ffe5b16be5f"), looks := true }, kinds := [], alts := [], laidByText := true, laidKinds := [.data, .data, .data, .data, .sentinel, .sentinel, .pinned], laidTests := true, laidLooks := .later }
def GateRulesCardSaid : Prop := Claim7.holds Tryz.pinned (.plain (OpenSpec.ofChange gateRulesSpec)) gateRulesCard

/-- THE TIED CARD OF 'flangelaw12.GateApplies'. -/
def gateAppliesCard : Claim7 := { stood := { row := gateAppliesRow, standIns := [], harness := (true, "a9afbdc8a2156cbca6a030309c3a6475bb911e123e85df2307ae5ffe5b16be5f"), looks := true }, kinds := [], alts := [], laidByText := true, laidKinds := [.data, .data, .data, .data, .sentinel, .sentinel, .pinned], laidTests := true, laidLooks := .later }
def GateAppliesCardSaid : Prop := Claim7.holds Tryz.pinned (.plain (OpenSpec.ofChange gateAppliesSpec)) gateAppliesCard

/-- THE TIED CARD OF 'flangelaw09.CoerceMerges'. -/
def coerceMergesCard : Claim7 := { stood := { row := coerceMergesRow, standIns := [], harness := (true, "a9afbdc8a2156cbca6a030309c3a6475bb911e123e85df2307ae5ffe5b16be5f"), looks := true }, kinds := [], alts := [], laidByText := true, laidKinds := [.data, .data, .data, .sentinel, .sentinel], laidTests := true, laidLooks := .later }
def CoerceMergesCardSaid : Prop := Claim7.holds Tryz.pinned (.plain (OpenSpec.ofChange coerceMergesSpec)) coerceMergesCard

/-- THE TIED CARD OF 'flangelaw12.GateFine'. -/
def gateFineCard : Claim7 := { stood := { row := gateFineRow, standIns := [], harness := (true, "a9afbdc8a2156cbca6a030309c3a6475bb911e123e85df2307ae5ffe5b16be5f"), looks := true }, kinds := [], alts := [], laidByText := true, laidKinds := [.data, .data, .data, .data, .sentinel, .sentinel, .pinned], laidTests := true, laidLooks := .later }
def GateFineCardSaid : Prop := Claim7.holds Tryz.pinned (.plain (OpenSpec.ofChange gateFineSpec)) gateFineCard

/-- THE TIED CARD OF 'flangelaw12.GateAgrees'. -/
def gateAgreesCard : Claim7 := { stood := { row := gateAgreesRow, standIns := [], harness := (true, "a9afbdc8a2156cbca6a030309c3a6475bb911e123e85df2307ae5ffe5b16be5f"), looks := true }, kinds := [], alts := [], laidByText := true, laidKinds := [.data, .data, .data, .data, .sentinel, .sentinel, .pinned], laidTests := true, laidLooks := .later }
def GateAgreesCardSaid : Prop := Claim7.holds Tryz.pinned (.plain (OpenSpec.ofChange gateAgreesSpec)) gateAgreesCard

/-- THE TIED CARD OF 'flangelaw09.CoerceAttrs'. -/
def coerceAttrsCard : Claim7 := { stood := { row := coerceAttrsRow, standIns := [], harness := (true, "a9afbdc8a2156cbca6a030309c3a6475bb911e123e85df2307ae5ffe5b16be5f"), looks := true }, kinds := [], alts := [], laidByText := true, laidKinds := [.data, .data, .data, .data, .sentinel, .sentinel, .pinned], laidTests := true, laidLooks := .later }
def CoerceAttrsCardSaid : Prop := Claim7.holds Tryz.pinned (.plain (OpenSpec.ofChange coerceAttrsSpec)) coerceAttrsCard

/-- THE SECOND FORM's CARD OF 'flangelaw08.SchemaMakes'. -/
def schemaMakesUptoCard : Claim7 := { stood := { row := schemaMakesUptoRow, standIns := [], harness := (true, "a9afbdc8a2156cbca6a030309c3a6475bb911e123e85df2307ae5ffe5b16be5f"), looks := true }, kinds := [], alts := [], laidByText := true, laidKinds := [.data, .data, .data, .data, .sentinel, .sentinel, .pinned], laidTests := true, laidLooks := .later }
def SchemaMakesUptoCardSaid : Prop := Claim7.holds Tryz.pinned (.plain (OpenSpec.upto schemaMakesSpec)) schemaMakesUptoCard

/-- THE SECOND FORM's CARD OF 'flangelaw11.MarkHides'. -/
def markHidesUptoCard : Claim7 := { stood := { row := markHidesUptoRow, standIns := [], harness := (true, "a9afbdc8a2156cbca6a030309c3a6475bb911e123e85df2307ae5ffe5b16be5f"), looks := true }, kinds := [], alts := [], laidByText := true, laidKinds := [.data, .data, .data, .data, .sentinel, .sentinel, .pinned], laidTests := true, laidLooks := .later }
def MarkHidesUptoCardSaid : Prop := Claim7.holds Tryz.pinned (.plain (OpenSpec.upto markHidesSpec)) markHidesUptoCard

/-- THE SECOND FORM's CARD OF 'flangelaw08.SchemaParses'. -/
def schemaParsesUptoCard : Claim7 := { stood := { row := schemaParsesUptoRow, standIns := [], harness := (true, "a9afbdc8a2156cbca6a030309c3a6475bb911e123e85df2307ae5ffe5b16be5f"), looks := true }, kinds := [], alts := [], laidByText := true, laidKinds := [.data, .data, .data, .data, .sentinel, .sentinel, .pinned], laidTests := true, laidLooks := .later }
def SchemaParsesUptoCardSaid : Prop := Claim7.holds Tryz.pinned (.plain (OpenSpec.upto schemaParsesSpec)) schemaParsesUptoCard

/-- THE SECOND FORM's CARD OF 'flangelaw08.SchemaNone'. -/
def schemaNoneUptoCard : Claim7 := { stood := { row := schemaNoneUptoRow, standIns := [], harness := (true, "a9afbdc8a2156cbca6a030309c3a6475bb911e123e85df2307ae5ffe5b16be5f"), looks := true }, kinds := [], alts := [], laidByText := true, laidKinds := [.data, .data, .data, .data, .sentinel, .sentinel, .pinned], laidTests := true, laidLooks := .later }
def SchemaNoneUptoCardSaid : Prop := Claim7.holds Tryz.pinned (.plain (OpenSpec.upto schemaNoneSpec)) schemaNoneUptoCard

/-- THE SECOND FORM's CARD OF 'flangelaw08.SchemaFits'. -/
def schemaFitsUptoCard : Claim7 := { stood := { row := schemaFitsUptoRow, standIns := [], harness := (true, "a9afbdc8a2156cbca6a030309c3a6475bb911e123e85df2307ae5ffe5b16be5f"), looks := true }, kinds := [], alts := [], laidByText := true, laidKinds := [.data, .data, .data, .data, .sentinel, .sentinel, .pinned], laidTests := true, laidLooks := .later }
def SchemaFitsUptoCardSaid : Prop := Claim7.holds Tryz.pinned (.plain (OpenSpec.upto schemaFitsSpec)) schemaFitsUptoCard

/-- THE SECOND FORM's CARD OF 'flangelaw11.MarkTells'. -/
def markTellsUptoCard : Claim7 := { stood := { row := markTellsUptoRow, standIns := [], harness := (true, "a9afbdc8a2156cbca6a030309c3a6475bb911e123e85df2307ae5ffe5b16be5f"), looks := true }, kinds := [], alts := [], laidByText := true, laidKinds := [.data, .data, .data, .data, .sentinel, .sentinel, .pinned], laidTests := true, laidLooks := .later }
def MarkTellsUptoCardSaid : Prop := Claim7.holds Tryz.pinned (.plain (OpenSpec.upto markTellsSpec)) markTellsUptoCard

/-- THE SECOND FORM's CARD OF 'flangelaw08.SchemaFills'. -/
def schemaFillsUptoCard : Claim7 := { stood := { row := schemaFillsUptoRow, standIns := [], harness := (true, "a9afbdc8a2156cbca6a030309c3a6475bb911e123e85df2307ae5ffe5b16be5f"), looks := true }, kinds := [], alts := [], laidByText := true, laidKinds := [.data, .data, .data, .data, .sentinel, .sentinel, .pinned], laidTests := true, laidLooks := .later }
def SchemaFillsUptoCardSaid : Prop := Claim7.holds Tryz.pinned (.plain (OpenSpec.upto schemaFillsSpec)) schemaFillsUptoCard

/-- THE SECOND FORM's CARD OF 'flangelaw09.CoerceTakes'. -/
def coerceTakesUptoCard : Claim7 := { stood := { row := coerceTakesUptoRow, standIns := [], harness := (true, "a9afbdc8a2156cbca6a030309c3a6475bb911e123e85df2307ae5ffe5b16be5f"), looks := true }, kinds := [], alts := [], laidByText := true, laidKinds := [.data, .data, .data, .sentinel, .sentinel], laidTests := true, laidLooks := .later }
def CoerceTakesUptoCardSaid : Prop := Claim7.holds Tryz.pinned (.plain (OpenSpec.upto coerceTakesSpec)) coerceTakesUptoCard

/-- THE SECOND FORM's CARD OF 'flangelaw12.GateRules'. -/
def gateRulesUptoCard : Claim7 := { stood := { row := gateRulesUptoRow, standIns := [], harness := (true, "a9afbdc8a2156cbca6a030309c3a6475bb911e123e85df2307ae5ffe5b16be5f"), looks := true }, kinds := [], alts := [], laidByText := true, laidKinds := [.data, .data, .data, .data, .sentinel, .sentinel, .pinned], laidTests := true, laidLooks := .later }
def GateRulesUptoCardSaid : Prop := Claim7.holds Tryz.pinned (.plain (OpenSpec.upto gateRulesSpec)) gateRulesUptoCard

/-- THE SECOND FORM's CARD OF 'flangelaw12.GateApplies'. -/
def gateAppliesUptoCard : Claim7 := { stood := { row := gateAppliesUptoRow, standIns := [], harness := (true, "a9afbdc8a2156cbca6a030309c3a6475bb911e123e85df2307ae5ffe5b16be5f"), looks := true }, kinds := [], alts := [], laidByText := true, laidKinds := [.data, .data, .data, .data, .sentinel, .sentinel, .pinned], laidTests := true, laidLooks := .later }
def GateAppliesUptoCardSaid : Prop := Claim7.holds Tryz.pinned (.plain (OpenSpec.upto gateAppliesSpec)) gateAppliesUptoCard

/-- THE SECOND FORM's CARD OF 'flangelaw09.CoerceMerges'. -/
def coerceMergesUptoCard : Claim7 := { stood := { row := coerceMergesUptoRow, standIns := [], harness := (true, "a9afbdc8a2156cbca6a030309c3a6475bb911e123e85df2307ae5ffe5b16be5f"), looks := true }, kinds := [], alts := [], laidByText := true, laidKinds := [.data, .data, .data, .sentinel, .sentinel], laidTests := true, laidLooks := .later }
def CoerceMergesUptoCardSaid : Prop := Claim7.holds Tryz.pinned (.plain (OpenSpec.upto coerceMergesSpec)) coerceMergesUptoCard

/-- THE SECOND FORM's CARD OF 'flangelaw12.GateFine'. -/
def gateFineUptoCard : Claim7 := { stood := { row := gateFineUptoRow, standIns := [], harness := (true, "a9afbdc8a2156cbca6a030309c3a6475bb911e123e85df2307ae5ffe5b16be5f"), looks := true }, kinds := [], alts := [], laidByText := true, laidKinds := [.data, .data, .data, .data, .sentinel, .sentinel, .pinned], laidTests := true, laidLooks := .later }
def GateFineUptoCardSaid : Prop := Claim7.holds Tryz.pinned (.plain (OpenSpec.upto gateFineSpec)) gateFineUptoCard

/-- THE SECOND FORM's CARD OF 'flangelaw12.GateAgrees'. -/
def gateAgreesUptoCard : Claim7 := { stood := { row := gateAgreesUptoRow, standIns := [], harness := (true, "a9afbdc8a2156cbca6a030309c3a6475bb911e123e85df2307ae5ffe5b16be5f"), looks := true }, kinds := [], alts := [], laidByText := true, laidKinds := [.data, .data, .data, .data, .sentinel, .sentinel, .pinned], laidTests := true, laidLooks := .later }
def GateAgreesUptoCardSaid : Prop := Claim7.holds Tryz.pinned (.plain (OpenSpec.upto gateAgreesSpec)) gateAgreesUptoCard

/-- THE SECOND FORM's CARD OF 'flangelaw09.CoerceAttrs'. -/
def coerceAttrsUptoCard : Claim7 := { stood := { row := coerceAttrsUptoRow, standIns := [], harness := (true, "a9afbdc8a2156cbca6a030309c3a6475bb911e123e85df2307ae5ffe5b16be5f"), looks := true }, kinds := [], alts := [], laidByText := true, laidKinds := [.data, .data, .data, .data, .sentinel, .sentinel, .pinned], laidTests := true, laidLooks := .later }
def CoerceAttrsUptoCardSaid : Prop := Claim7.holds Tryz.pinned (.plain (OpenSpec.upto coerceAttrsSpec)) coerceAttrsUptoCard
end Rows
end Go.Proofs.YtknegckgmklnhaaGreatDoor
