/-
  DERIVED. GIVEN WITH THE SEED: THE CARDS: each row of YtbglbbmlohfemaaGreatDoorRows.lean that lists a variable, with what it lists TIED to the program's text (the seventh form; the later family's looks); each row that meets fmt, with fmt's text TOLD by the authors' own Lean function (tested against real Go, not proved from fmt's source: count such statements apart). THE CARD IS WHAT COUNTS. Prove the row's statement (the work); the ties are given (YtbglbbmlohfemaaGreatDoorTie.lean); close each card by the builder's one call (the guide's Derived/Test/ToyasCard.lean, 'card_holds'). Laid BY PROGRAM, IN A SANDBOX (cutbox-door.mjs). By AI agents, Wed Nov 11 2026. No macro, syntax, notation, axiom, sorry.
-/
import Derived.Test.YtbglbbmlohfemaaGreatDoorRows
import GoSem.ClaimSeven
namespace Go.Proofs.YtbglbbmlohfemaaGreatDoor
namespace Rows

/-- THE TIED CARD OF 'accountinglaw38.CostingRuns'. -/
def costingRunsCard : Claim7 := { stood := { row := costingRunsRow, standIns := [], harness := (true, "434b4eb12f0d6e0a09a304b00fa2dd68240f2cd0369d4acd7a6d6b8765bbc4bc"), looks := false }, kinds := [], alts := [], laidByText := true, laidKinds := [.data], laidTests := true, laidLooks := .later }
def CostingRunsCardSaid : Prop := Claim7.holds Tryz.pinned (.plain (OpenSpec.ofChange costingRunsSpec)) costingRunsCard

/-- THE TIED CARD OF 'accountinglaw38.CostingSteps'. -/
def costingStepsCard : Claim7 := { stood := { row := costingStepsRow, standIns := [], harness := (true, "434b4eb12f0d6e0a09a304b00fa2dd68240f2cd0369d4acd7a6d6b8765bbc4bc"), looks := false }, kinds := [], alts := [], laidByText := true, laidKinds := [.data], laidTests := true, laidLooks := .later }
def CostingStepsCardSaid : Prop := Claim7.holds Tryz.pinned (.plain (OpenSpec.ofChange costingStepsSpec)) costingStepsCard

/-- THE TIED CARD OF 'accountinglaw38.CostingConserves'. -/
def costingConservesCard : Claim7 := { stood := { row := costingConservesRow, standIns := [], harness := (true, "434b4eb12f0d6e0a09a304b00fa2dd68240f2cd0369d4acd7a6d6b8765bbc4bc"), looks := false }, kinds := [], alts := [], laidByText := true, laidKinds := [.data], laidTests := true, laidLooks := .later }
def CostingConservesCardSaid : Prop := Claim7.holds Tryz.pinned (.plain (OpenSpec.ofChange costingConservesSpec)) costingConservesCard

/-- THE TIED CARD OF 'accountinglaw38.CostingEach'. -/
def costingEachCard : Claim7 := { stood := { row := costingEachRow, standIns := [], harness := (true, "434b4eb12f0d6e0a09a304b00fa2dd68240f2cd0369d4acd7a6d6b8765bbc4bc"), looks := false }, kinds := [], alts := [], laidByText := true, laidKinds := [.data], laidTests := true, laidLooks := .later }
def CostingEachCardSaid : Prop := Claim7.holds Tryz.pinned (.plain (OpenSpec.ofChange costingEachSpec)) costingEachCard

/-- THE TIED CARD OF 'accountinglaw38.CostingReturns'. -/
def costingReturnsCard : Claim7 := { stood := { row := costingReturnsRow, standIns := [], harness := (true, "434b4eb12f0d6e0a09a304b00fa2dd68240f2cd0369d4acd7a6d6b8765bbc4bc"), looks := false }, kinds := [], alts := [], laidByText := true, laidKinds := [.data], laidTests := true, laidLooks := .later }
def CostingReturnsCardSaid : Prop := Claim7.holds Tryz.pinned (.plain (OpenSpec.ofChange costingReturnsSpec)) costingReturnsCard

/-- THE TIED CARD OF 'accountinglaw38.CostingPrefix'. -/
def costingPrefixCard : Claim7 := { stood := { row := costingPrefixRow, standIns := [], harness := (true, "434b4eb12f0d6e0a09a304b00fa2dd68240f2cd0369d4acd7a6d6b8765bbc4bc"), looks := false }, kinds := [], alts := [], laidByText := true, laidKinds := [.data], laidTests := true, laidLooks := .later }
def CostingPrefixCardSaid : Prop := Claim7.holds Tryz.pinned (.plain (OpenSpec.ofChange costingPrefixSpec)) costingPrefixCard

/-- THE TIED CARD OF 'accountingtop.TopRecost'. -/
def topRecostCard : Claim7 := { stood := { row := topRecostRow, standIns := [], harness := (true, "434b4eb12f0d6e0a09a304b00fa2dd68240f2cd0369d4acd7a6d6b8765bbc4bc"), looks := false }, kinds := [], alts := [], laidByText := true, laidKinds := [.data], laidTests := true, laidLooks := .later }
def TopRecostCardSaid : Prop := Claim7.holds Tryz.pinned (.plain (OpenSpec.ofChange topRecostSpec)) topRecostCard

/-- THE TIED CARD OF 'accountinglaw38.CostingMethods'. -/
def costingMethodsCard : Claim7 := { stood := { row := costingMethodsRow, standIns := [], harness := (true, "434b4eb12f0d6e0a09a304b00fa2dd68240f2cd0369d4acd7a6d6b8765bbc4bc"), looks := false }, kinds := [], alts := [], laidByText := true, laidKinds := [.data], laidTests := true, laidLooks := .later }
def CostingMethodsCardSaid : Prop := Claim7.holds Tryz.pinned (.plain (OpenSpec.ofChange costingMethodsSpec)) costingMethodsCard

/-- THE TIED CARD OF 'accountinglaw38.CostingLevels'. -/
def costingLevelsCard : Claim7 := { stood := { row := costingLevelsRow, standIns := [], harness := (true, "434b4eb12f0d6e0a09a304b00fa2dd68240f2cd0369d4acd7a6d6b8765bbc4bc"), looks := false }, kinds := [], alts := [], laidByText := true, laidKinds := [.data], laidTests := true, laidLooks := .later }
def CostingLevelsCardSaid : Prop := Claim7.holds Tryz.pinned (.plain (OpenSpec.ofChange costingLevelsSpec)) costingLevelsCard

/-- THE TIED CARD OF 'accountinglaw39.RecostAdjust'. -/
def recostAdjustCard : Claim7 := { stood := { row := recostAdjustRow, standIns := [], harness := (true, "434b4eb12f0d6e0a09a304b00fa2dd68240f2cd0369d4acd7a6d6b8765bbc4bc"), looks := false }, kinds := [], alts := [], laidByText := true, laidKinds := [.data], laidTests := true, laidLooks := .later }
def RecostAdjustCardSaid : Prop := Claim7.holds Tryz.pinned (.plain (OpenSpec.ofChange recostAdjustSpec)) recostAdjustCard

/-- THE TIED CARD OF 'accountinglaw39.RecostAdds'. -/
def recostAddsCard : Claim7 := { stood := { row := recostAddsRow, standIns := [], harness := (true, "434b4eb12f0d6e0a09a304b00fa2dd68240f2cd0369d4acd7a6d6b8765bbc4bc"), looks := false }, kinds := [], alts := [], laidByText := true, laidKinds := [.data], laidTests := true, laidLooks := .later }
def RecostAddsCardSaid : Prop := Claim7.holds Tryz.pinned (.plain (OpenSpec.ofChange recostAddsSpec)) recostAddsCard

/-- THE TIED CARD OF 'accountinglaw39.RecostFails'. -/
def recostFailsCard : Claim7 := { stood := { row := recostFailsRow, standIns := [], harness := (true, "434b4eb12f0d6e0a09a304b00fa2dd68240f2cd0369d4acd7a6d6b8765bbc4bc"), looks := false }, kinds := [], alts := [], laidByText := true, laidKinds := [.data], laidTests := true, laidLooks := .later }
def RecostFailsCardSaid : Prop := Claim7.holds Tryz.pinned (.plain (OpenSpec.ofChange recostFailsSpec)) recostFailsCard

/-- THE TIED CARD OF 'accountinglaw39.RecostAt'. -/
def recostAtCard : Claim7 := { stood := { row := recostAtRow, standIns := [], harness := (true, "434b4eb12f0d6e0a09a304b00fa2dd68240f2cd0369d4acd7a6d6b8765bbc4bc"), looks := false }, kinds := [], alts := [], laidByText := true, laidKinds := [.data], laidTests := true, laidLooks := .later }
def RecostAtCardSaid : Prop := Claim7.holds Tryz.pinned (.plain (OpenSpec.ofChange recostAtSpec)) recostAtCard

/-- THE TIED CARD OF 'accountinglaw39.RecostNil'. -/
def recostNilCard : Claim7 := { stood := { row := recostNilRow, standIns := [], harness := (true, "434b4eb12f0d6e0a09a304b00fa2dd68240f2cd0369d4acd7a6d6b8765bbc4bc"), looks := false }, kinds := [], alts := [], laidByText := true, laidKinds := [.data], laidTests := true, laidLooks := .later }
def RecostNilCardSaid : Prop := Claim7.holds Tryz.pinned (.plain (OpenSpec.ofChange recostNilSpec)) recostNilCard

/-- THE TIED CARD OF 'accountinglaw39.RecostOrder'. -/
def recostOrderCard : Claim7 := { stood := { row := recostOrderRow, standIns := [], harness := (true, "434b4eb12f0d6e0a09a304b00fa2dd68240f2cd0369d4acd7a6d6b8765bbc4bc"), looks := false }, kinds := [], alts := [], laidByText := true, laidKinds := [.data], laidTests := true, laidLooks := .later }
def RecostOrderCardSaid : Prop := Claim7.holds Tryz.pinned (.plain (OpenSpec.ofChange recostOrderSpec)) recostOrderCard

/-- THE TIED CARD OF 'accountinglaw39.RecostReplay'. -/
def recostReplayCard : Claim7 := { stood := { row := recostReplayRow, standIns := [], harness := (true, "434b4eb12f0d6e0a09a304b00fa2dd68240f2cd0369d4acd7a6d6b8765bbc4bc"), looks := false }, kinds := [], alts := [], laidByText := true, laidKinds := [.data], laidTests := true, laidLooks := .later }
def RecostReplayCardSaid : Prop := Claim7.holds Tryz.pinned (.plain (OpenSpec.ofChange recostReplaySpec)) recostReplayCard

/-- THE SECOND FORM's CARD OF 'accountinglaw38.CostingRuns'. -/
def costingRunsUptoCard : Claim7 := { stood := { row := costingRunsUptoRow, standIns := [], harness := (true, "434b4eb12f0d6e0a09a304b00fa2dd68240f2cd0369d4acd7a6d6b8765bbc4bc"), looks := false }, kinds := [], alts := [], laidByText := true, laidKinds := [.data], laidTests := true, laidLooks := .later }
def CostingRunsUptoCardSaid : Prop := Claim7.holds Tryz.pinned (.plain (OpenSpec.upto costingRunsSpec)) costingRunsUptoCard

/-- THE SECOND FORM's CARD OF 'accountinglaw38.CostingSteps'. -/
def costingStepsUptoCard : Claim7 := { stood := { row := costingStepsUptoRow, standIns := [], harness := (true, "434b4eb12f0d6e0a09a304b00fa2dd68240f2cd0369d4acd7a6d6b8765bbc4bc"), looks := false }, kinds := [], alts := [], laidByText := true, laidKinds := [.data], laidTests := true, laidLooks := .later }
def CostingStepsUptoCardSaid : Prop := Claim7.holds Tryz.pinned (.plain (OpenSpec.upto costingStepsSpec)) costingStepsUptoCard

/-- THE SECOND FORM's CARD OF 'accountinglaw38.CostingConserves'. -/
def costingConservesUptoCard : Claim7 := { stood := { row := costingConservesUptoRow, standIns := [], harness := (true, "434b4eb12f0d6e0a09a304b00fa2dd68240f2cd0369d4acd7a6d6b8765bbc4bc"), looks := false }, kinds := [], alts := [], laidByText := true, laidKinds := [.data], laidTests := true, laidLooks := .later }
def CostingConservesUptoCardSaid : Prop := Claim7.holds Tryz.pinned (.plain (OpenSpec.upto costingConservesSpec)) costingConservesUptoCard

/-- THE SECOND FORM's CARD OF 'accountinglaw38.CostingEach'. -/
def costingEachUptoCard : Claim7 := { stood := { row := costingEachUptoRow, standIns := [], harness := (true, "434b4eb12f0d6e0a09a304b00fa2dd68240f2cd0369d4acd7a6d6b8765bbc4bc"), looks := false }, kinds := [], alts := [], laidByText := true, laidKinds := [.data], laidTests := true, laidLooks := .later }
def CostingEachUptoCardSaid : Prop := Claim7.holds Tryz.pinned (.plain (OpenSpec.upto costingEachSpec)) costingEachUptoCard

/-- THE SECOND FORM's CARD OF 'accountinglaw38.CostingReturns'. -/
def costingReturnsUptoCard : Claim7 := { stood := { row := costingReturnsUptoRow, standIns := [], harness := (true, "434b4eb12f0d6e0a09a304b00fa2dd68240f2cd0369d4acd7a6d6b8765bbc4bc"), looks := false }, kinds := [], alts := [], laidByText := true, laidKinds := [.data], laidTests := true, laidLooks := .later }
def CostingReturnsUptoCardSaid : Prop := Claim7.holds Tryz.pinned (.plain (OpenSpec.upto costingReturnsSpec)) costingReturnsUptoCard

/-- THE SECOND FORM's CARD OF 'accountinglaw38.CostingPrefix'. -/
def costingPrefixUptoCard : Claim7 := { stood := { row := costingPrefixUptoRow, standIns := [], harness := (true, "434b4eb12f0d6e0a09a304b00fa2dd68240f2cd0369d4acd7a6d6b8765bbc4bc"), looks := false }, kinds := [], alts := [], laidByText := true, laidKinds := [.data], laidTests := true, laidLooks := .later }
def CostingPrefixUptoCardSaid : Prop := Claim7.holds Tryz.pinned (.plain (OpenSpec.upto costingPrefixSpec)) costingPrefixUptoCard

/-- THE SECOND FORM's CARD OF 'accountingtop.TopRecost'. -/
def topRecostUptoCard : Claim7 := { stood := { row := topRecostUptoRow, standIns := [], harness := (true, "434b4eb12f0d6e0a09a304b00fa2dd68240f2cd0369d4acd7a6d6b8765bbc4bc"), looks := false }, kinds := [], alts := [], laidByText := true, laidKinds := [.data], laidTests := true, laidLooks := .later }
def TopRecostUptoCardSaid : Prop := Claim7.holds Tryz.pinned (.plain (OpenSpec.upto topRecostSpec)) topRecostUptoCard

/-- THE SECOND FORM's CARD OF 'accountinglaw38.CostingMethods'. -/
def costingMethodsUptoCard : Claim7 := { stood := { row := costingMethodsUptoRow, standIns := [], harness := (true, "434b4eb12f0d6e0a09a304b00fa2dd68240f2cd0369d4acd7a6d6b8765bbc4bc"), looks := false }, kinds := [], alts := [], laidByText := true, laidKinds := [.data], laidTests := true, laidLooks := .later }
def CostingMethodsUptoCardSaid : Prop := Claim7.holds Tryz.pinned (.plain (OpenSpec.upto costingMethodsSpec)) costingMethodsUptoCard

/-- THE SECOND FORM's CARD OF 'accountinglaw38.CostingLevels'. -/
def costingLevelsUptoCard : Claim7 := { stood := { row := costingLevelsUptoRow, standIns := [], harness := (true, "434b4eb12f0d6e0a09a304b00fa2dd68240f2cd0369d4acd7a6d6b8765bbc4bc"), looks := false }, kinds := [], alts := [], laidByText := true, laidKinds := [.data], laidTests := true, laidLooks := .later }
def CostingLevelsUptoCardSaid : Prop := Claim7.holds Tryz.pinned (.plain (OpenSpec.upto costingLevelsSpec)) costingLevelsUptoCard

/-- THE SECOND FORM's CARD OF 'accountinglaw39.RecostAdjust'. -/
def recostAdjustUptoCard : Claim7 := { stood := { row := recostAdjustUptoRow, standIns := [], harness := (true, "434b4eb12f0d6e0a09a304b00fa2dd68240f2cd0369d4acd7a6d6b8765bbc4bc"), looks := false }, kinds := [], alts := [], laidByText := true, laidKinds := [.data], laidTests := true, laidLooks := .later }
def RecostAdjustUptoCardSaid : Prop := Claim7.holds Tryz.pinned (.plain (OpenSpec.upto recostAdjustSpec)) recostAdjustUptoCard

/-- THE SECOND FORM's CARD OF 'accountinglaw39.RecostAdds'. -/
def recostAddsUptoCard : Claim7 := { stood := { row := recostAddsUptoRow, standIns := [], harness := (true, "434b4eb12f0d6e0a09a304b00fa2dd68240f2cd0369d4acd7a6d6b8765bbc4bc"), looks := false }, kinds := [], alts := [], laidByText := true, laidKinds := [.data], laidTests := true, laidLooks := .later }
def RecostAddsUptoCardSaid : Prop := Claim7.holds Tryz.pinned (.plain (OpenSpec.upto recostAddsSpec)) recostAddsUptoCard

/-- THE SECOND FORM's CARD OF 'accountinglaw39.RecostFails'. -/
def recostFailsUptoCard : Claim7 := { stood := { row := recostFailsUptoRow, standIns := [], harness := (true, "434b4eb12f0d6e0a09a304b00fa2dd68240f2cd0369d4acd7a6d6b8765bbc4bc"), looks := false }, kinds := [], alts := [], laidByText := true, laidKinds := [.data], laidTests := true, laidLooks := .later }
def RecostFailsUptoCardSaid : Prop := Claim7.holds Tryz.pinned (.plain (OpenSpec.upto recostFailsSpec)) recostFailsUptoCard

/-- THE SECOND FORM's CARD OF 'accountinglaw39.RecostAt'. -/
def recostAtUptoCard : Claim7 := { stood := { row := recostAtUptoRow, standIns := [], harness := (true, "434b4eb12f0d6e0a09a304b00fa2dd68240f2cd0369d4acd7a6d6b8765bbc4bc"), looks := false }, kinds := [], alts := [], laidByText := true, laidKinds := [.data], laidTests := true, laidLooks := .later }
def RecostAtUptoCardSaid : Prop := Claim7.holds Tryz.pinned (.plain (OpenSpec.upto recostAtSpec)) recostAtUptoCard

/-- THE SECOND FORM's CARD OF 'accountinglaw39.RecostNil'. -/
def recostNilUptoCard : Claim7 := { stood := { row := recostNilUptoRow, standIns := [], harness := (true, "434b4eb12f0d6e0a09a304b00fa2dd68240f2cd0369d4acd7a6d6b8765bbc4bc"), looks := false }, kinds := [], alts := [], laidByText := true, laidKinds := [.data], laidTests := true, laidLooks := .later }
def RecostNilUptoCardSaid : Prop := Claim7.holds Tryz.pinned (.plain (OpenSpec.upto recostNilSpec)) recostNilUptoCard

/-- THE SECOND FORM's CARD OF 'accountinglaw39.RecostOrder'. -/
def recostOrderUptoCard : Claim7 := { stood := { row := recostOrderUptoRow, standIns := [], harness := (true, "434b4eb12f0d6e0a09a304b00fa2dd68240f2cd0369d4acd7a6d6b8765bbc4bc"), looks := false }, kinds := [], alts := [], laidByText := true, laidKinds := [.data], laidTests := true, laidLooks := .later }
def RecostOrderUptoCardSaid : Prop := Claim7.holds Tryz.pinned (.plain (OpenSpec.upto recostOrderSpec)) recostOrderUptoCard

/-- THE SECOND FORM's CARD OF 'accountinglaw39.RecostReplay'. -/
def recostReplayUptoCard : Claim7 := { stood := { row := recostReplayUptoRow, standIns := [], harness := (true, "434b4eb12f0d6e0a09a304b00fa2dd68240f2cd0369d4acd7a6d6b8765bbc4bc"), looks := false }, kinds := [], alts := [], laidByText := true, laidKinds := [.data], laidTests := true, laidLooks := .later }
def RecostReplayUptoCardSaid : Prop := Claim7.holds Tryz.pinned (.plain (OpenSpec.upto recostReplaySpec)) recostReplayUptoCard
end Rows
end Go.Proofs.YtbglbbmlohfemaaGreatDoor
