/-
  DERIVED. GIVEN WITH THE SEED: THE CARDS: each row of YtoaajkedncghgaaGreatDoorRows.lean that lists a variable, with what it lists TIED to the program's text (the seventh form; the later family's looks); each row that meets fmt, with fmt's text TOLD by the authors' own Lean function (tested against real Go, not proved from fmt's source: count such statements apart). THE CARD IS WHAT COUNTS. Prove the row's statement (the work); the ties are given (YtoaajkedncghgaaGreatDoorTie.lean); close each card by the builder's one call (the guide's Derived/Test/ToyasCard.lean, 'card_holds'). Laid BY PROGRAM, IN A SANDBOX (cutbox-door.mjs). By AI agents, Wed Nov 11 2026. No macro, syntax, notation, axiom, sorry.
-/
import Derived.Test.YtoaajkedncghgaaGreatDoorRows
import GoSem.ClaimSeven
namespace Go.Proofs.YtoaajkedncghgaaGreatDoor
namespace Rows

/-- THE TIED CARD OF 'laws.FnExactIsPatch'. -/
def fnExactIsPatchCard : Claim7 := { stood := { row := fnExactIsPatchRow, standIns := [], harness := (true, "452ee27688708eebd9f46de885a84937ef17fd2148129dba175c98788896ade3"), looks := true }, kinds := [], alts := [], laidByText := true, laidKinds := [.data, .data, .data, .data, .sentinel, .sentinel, .widerDeep, .pinned], laidTests := true, laidLooks := .later }
def FnExactIsPatchCardSaid : Prop := Claim7.holds Tryz.pinned (.plain (OpenSpec.ofChange fnExactIsPatchSpec)) fnExactIsPatchCard

/-- THE TIED CARD OF 'laws.FnExactWaysOf'. -/
def fnExactWaysOfCard : Claim7 := { stood := { row := fnExactWaysOfRow, standIns := [], harness := (true, "452ee27688708eebd9f46de885a84937ef17fd2148129dba175c98788896ade3"), looks := true }, kinds := [], alts := [], laidByText := true, laidKinds := [.data, .data, .data, .data, .sentinel, .sentinel, .widerDeep, .pinned], laidTests := true, laidLooks := .later }
def FnExactWaysOfCardSaid : Prop := Claim7.holds Tryz.pinned (.plain (OpenSpec.ofChange fnExactWaysOfSpec)) fnExactWaysOfCard

/-- THE TIED CARD OF 'laws.FnExactReadUnified'. -/
def fnExactReadUnifiedCard : Claim7 := { stood := { row := fnExactReadUnifiedRow, standIns := [], harness := (true, "452ee27688708eebd9f46de885a84937ef17fd2148129dba175c98788896ade3"), looks := true }, kinds := [], alts := [], laidByText := true, laidKinds := [.data, .data, .data, .data, .sentinel, .sentinel, .pinned], laidTests := true, laidLooks := .later }
def FnExactReadUnifiedCardSaid : Prop := Claim7.holds Tryz.pinned (.plain (OpenSpec.ofChange fnExactReadUnifiedSpec)) fnExactReadUnifiedCard

/-- THE TIED CARD OF 'laws.FnExactReadOrders'. -/
def fnExactReadOrdersCard : Claim7 := { stood := { row := fnExactReadOrdersRow, standIns := [], harness := (true, "452ee27688708eebd9f46de885a84937ef17fd2148129dba175c98788896ade3"), looks := true }, kinds := [], alts := [], laidByText := true, laidKinds := [.data, .data, .data, .data, .sentinel, .sentinel, .widerDeep, .pinned], laidTests := true, laidLooks := .later }
def FnExactReadOrdersCardSaid : Prop := Claim7.holds Tryz.pinned (.plain (OpenSpec.ofChange fnExactReadOrdersSpec)) fnExactReadOrdersCard

/-- THE TIED CARD OF 'laws.FnExactWriteWay'. -/
def fnExactWriteWayCard : Claim7 := { stood := { row := fnExactWriteWayRow, standIns := [], harness := (true, "452ee27688708eebd9f46de885a84937ef17fd2148129dba175c98788896ade3"), looks := true }, kinds := [], alts := [], laidByText := true, laidKinds := [.data, .data, .data, .widerDeep], laidTests := true, laidLooks := .later }
def FnExactWriteWayCardSaid : Prop := Claim7.holds Tryz.pinned (.plain (OpenSpec.ofChange fnExactWriteWaySpec)) fnExactWriteWayCard

/-- THE TIED CARD OF 'laws.FnExactReadContext'. -/
def fnExactReadContextCard : Claim7 := { stood := { row := fnExactReadContextRow, standIns := [], harness := (true, "452ee27688708eebd9f46de885a84937ef17fd2148129dba175c98788896ade3"), looks := true }, kinds := [], alts := [], laidByText := true, laidKinds := [.data, .data, .data, .data, .sentinel, .sentinel, .pinned], laidTests := true, laidLooks := .later }
def FnExactReadContextCardSaid : Prop := Claim7.holds Tryz.pinned (.plain (OpenSpec.ofChange fnExactReadContextSpec)) fnExactReadContextCard

/-- THE TIED CARD OF 'laws.FnOrders'. -/
def fnOrdersCard : Claim7 := { stood := { row := fnOrdersRow, standIns := [], harness := (true, "452ee27688708eebd9f46de885a84937ef17fd2148129dba175c98788896ade3"), looks := true }, kinds := [], alts := [], laidByText := true, laidKinds := [.data, .data, .data, .data, .sentinel, .sentinel, .widerDeep, .pinned], laidTests := true, laidLooks := .later }
def FnOrdersCardSaid : Prop := Claim7.holds Tryz.pinned (.plain (OpenSpec.ofChange fnOrdersSpec)) fnOrdersCard

/-- THE TIED CARD OF 'laws.FnUnified'. -/
def fnUnifiedCard : Claim7 := { stood := { row := fnUnifiedRow, standIns := [], harness := (true, "452ee27688708eebd9f46de885a84937ef17fd2148129dba175c98788896ade3"), looks := true }, kinds := [], alts := [], laidByText := true, laidKinds := [.data, .data, .data, .data, .sentinel, .sentinel, .pinned], laidTests := true, laidLooks := .later }
def FnUnifiedCardSaid : Prop := Claim7.holds Tryz.pinned (.plain (OpenSpec.ofChange fnUnifiedSpec)) fnUnifiedCard

/-- THE TIED CARD OF 'laws.FnSteps'. -/
def fnStepsCard : Claim7 := { stood := { row := fnStepsRow, standIns := [], harness := (true, "452ee27688708eebd9f46de885a84937ef17fd2148129dba175c98788896ade3"), looks := true }, kinds := [], alts := [], laidByText := true, laidKinds := [.data, .data, .data, .data, .sentinel, .sentinel, .pinned], laidTests := true, laidLooks := .later }
def FnStepsCardSaid : Prop := Claim7.holds Tryz.pinned (.plain (OpenSpec.ofChange fnStepsSpec)) fnStepsCard

/-- THE TIED CARD OF 'laws.FnExactSameSides'. -/
def fnExactSameSidesCard : Claim7 := { stood := { row := fnExactSameSidesRow, standIns := [], harness := (true, "452ee27688708eebd9f46de885a84937ef17fd2148129dba175c98788896ade3"), looks := true }, kinds := [], alts := [], laidByText := true, laidKinds := [.data, .data, .data, .data, .sentinel, .sentinel, .pinned], laidTests := true, laidLooks := .later }
def FnExactSameSidesCardSaid : Prop := Claim7.holds Tryz.pinned (.plain (OpenSpec.ofChange fnExactSameSidesSpec)) fnExactSameSidesCard

/-- THE SECOND FORM's CARD OF 'laws.FnExactIsPatch'. -/
def fnExactIsPatchUptoCard : Claim7 := { stood := { row := fnExactIsPatchUptoRow, standIns := [], harness := (true, "452ee27688708eebd9f46de885a84937ef17fd2148129dba175c98788896ade3"), looks := true }, kinds := [], alts := [], laidByText := true, laidKinds := [.data, .data, .data, .data, .sentinel, .sentinel, .widerDeep, .pinned], laidTests := true, laidLooks := .later }
def FnExactIsPatchUptoCardSaid : Prop := Claim7.holds Tryz.pinned (.plain (OpenSpec.upto fnExactIsPatchSpec)) fnExactIsPatchUptoCard

/-- THE SECOND FORM's CARD OF 'laws.FnExactWaysOf'. -/
def fnExactWaysOfUptoCard : Claim7 := { stood := { row := fnExactWaysOfUptoRow, standIns := [], harness := (true, "452ee27688708eebd9f46de885a84937ef17fd2148129dba175c98788896ade3"), looks := true }, kinds := [], alts := [], laidByText := true, laidKinds := [.data, .data, .data, .data, .sentinel, .sentinel, .widerDeep, .pinned], laidTests := true, laidLooks := .later }
def FnExactWaysOfUptoCardSaid : Prop := Claim7.holds Tryz.pinned (.plain (OpenSpec.upto fnExactWaysOfSpec)) fnExactWaysOfUptoCard

/-- THE SECOND FORM's CARD OF 'laws.FnExactReadUnified'. -/
def fnExactReadUnifiedUptoCard : Claim7 := { stood := { row := fnExactReadUnifiedUptoRow, standIns := [], harness := (true, "452ee27688708eebd9f46de885a84937ef17fd2148129dba175c98788896ade3"), looks := true }, kinds := [], alts := [], laidByText := true, laidKinds := [.data, .data, .data, .data, .sentinel, .sentinel, .pinned], laidTests := true, laidLooks := .later }
def FnExactReadUnifiedUptoCardSaid : Prop := Claim7.holds Tryz.pinned (.plain (OpenSpec.upto fnExactReadUnifiedSpec)) fnExactReadUnifiedUptoCard

/-- THE SECOND FORM's CARD OF 'laws.FnExactReadOrders'. -/
def fnExactReadOrdersUptoCard : Claim7 := { stood := { row := fnExactReadOrdersUptoRow, standIns := [], harness := (true, "452ee27688708eebd9f46de885a84937ef17fd2148129dba175c98788896ade3"), looks := true }, kinds := [], alts := [], laidByText := true, laidKinds := [.data, .data, .data, .data, .sentinel, .sentinel, .widerDeep, .pinned], laidTests := true, laidLooks := .later }
def FnExactReadOrdersUptoCardSaid : Prop := Claim7.holds Tryz.pinned (.plain (OpenSpec.upto fnExactReadOrdersSpec)) fnExactReadOrdersUptoCard

/-- THE SECOND FORM's CARD OF 'laws.FnExactWriteWay'. -/
def fnExactWriteWayUptoCard : Claim7 := { stood := { row := fnExactWriteWayUptoRow, standIns := [], harness := (true, "452ee27688708eebd9f46de885a84937ef17fd2148129dba175c98788896ade3"), looks := true }, kinds := [], alts := [], laidByText := true, laidKinds := [.data, .data, .data, .widerDeep], laidTests := true, laidLooks := .later }
def FnExactWriteWayUptoCardSaid : Prop := Claim7.holds Tryz.pinned (.plain (OpenSpec.upto fnExactWriteWaySpec)) fnExactWriteWayUptoCard

/-- THE SECOND FORM's CARD OF 'laws.FnExactReadContext'. -/
def fnExactReadContextUptoCard : Claim7 := { stood := { row := fnExactReadContextUptoRow, standIns := [], harness := (true, "452ee27688708eebd9f46de885a84937ef17fd2148129dba175c98788896ade3"), looks := true }, kinds := [], alts := [], laidByText := true, laidKinds := [.data, .data, .data, .data, .sentinel, .sentinel, .pinned], laidTests := true, laidLooks := .later }
def FnExactReadContextUptoCardSaid : Prop := Claim7.holds Tryz.pinned (.plain (OpenSpec.upto fnExactReadContextSpec)) fnExactReadContextUptoCard

/-- THE SECOND FORM's CARD OF 'laws.FnOrders'. -/
def fnOrdersUptoCard : Claim7 := { stood := { row := fnOrdersUptoRow, standIns := [], harness := (true, "452ee27688708eebd9f46de885a84937ef17fd2148129dba175c98788896ade3"), looks := true }, kinds := [], alts := [], laidByText := true, laidKinds := [.data, .data, .data, .data, .sentinel, .sentinel, .widerDeep, .pinned], laidTests := true, laidLooks := .later }
def FnOrdersUptoCardSaid : Prop := Claim7.holds Tryz.pinned (.plain (OpenSpec.upto fnOrdersSpec)) fnOrdersUptoCard

/-- THE SECOND FORM's CARD OF 'laws.FnUnified'. -/
def fnUnifiedUptoCard : Claim7 := { stood := { row := fnUnifiedUptoRow, standIns := [], harness := (true, "452ee27688708eebd9f46de885a84937ef17fd2148129dba175c98788896ade3"), looks := true }, kinds := [], alts := [], laidByText := true, laidKinds := [.data, .data, .data, .data, .sentinel, .sentinel, .pinned], laidTests := true, laidLooks := .later }
def FnUnifiedUptoCardSaid : Prop := Claim7.holds Tryz.pinned (.plain (OpenSpec.upto fnUnifiedSpec)) fnUnifiedUptoCard

/-- THE SECOND FORM's CARD OF 'laws.FnSteps'. -/
def fnStepsUptoCard : Claim7 := { stood := { row := fnStepsUptoRow, standIns := [], harness := (true, "452ee27688708eebd9f46de885a84937ef17fd2148129dba175c98788896ade3"), looks := true }, kinds := [], alts := [], laidByText := true, laidKinds := [.data, .data, .data, .data, .sentinel, .sentinel, .pinned], laidTests := true, laidLooks := .later }
def FnStepsUptoCardSaid : Prop := Claim7.holds Tryz.pinned (.plain (OpenSpec.upto fnStepsSpec)) fnStepsUptoCard

/-- THE SECOND FORM's CARD OF 'laws.FnExactSameSides'. -/
def fnExactSameSidesUptoCard : Claim7 := { stood := { row := fnExactSameSidesUptoRow, standIns := [], harness := (true, "452ee27688708eebd9f46de885a84937ef17fd2148129dba175c98788896ade3"), looks := true }, kinds := [], alts := [], laidByText := true, laidKinds := [.data, .data, .data, .data, .sentinel, .sentinel, .pinned], laidTests := true, laidLooks := .later }
def FnExactSameSidesUptoCardSaid : Prop := Claim7.holds Tryz.pinned (.plain (OpenSpec.upto fnExactSameSidesSpec)) fnExactSameSidesUptoCard
end Rows
end Go.Proofs.YtoaajkedncghgaaGreatDoor
