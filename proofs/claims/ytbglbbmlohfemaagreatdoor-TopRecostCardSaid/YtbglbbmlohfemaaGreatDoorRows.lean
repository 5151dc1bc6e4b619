/-
  NARROWER THAN 'FOR EVERY INPUT', by the rows' own cells (each row's printed sentence says how): CostingRuns: laid · CostingSteps: laid · CostingConserves: laid · CostingEach: laid · CostingReturns: laid · CostingPrefix: laid · TopRecost: laid · CostingMethods: laid · CostingLevels: laid · RecostAdjust: laid · RecostAdds: laid · RecostFails: laid · RecostAt: laid · RecostNil: laid · RecostOrder: laid · RecostReplay: laid.
  DERIVED. THE GIVEN ROWS OF THIS SEAT. 16 by the template 'for every input the law returns true; each argument reads behind the call as it read before'; 0 by the template 'total and deterministic' (their statements: YtbglbbmlohfemaaGreatDoorTotals.lean).
  GIVEN WITH THE SEED: the statements are not yours to turn. If you find one false, say at which input.
  Laid BY PROGRAM, IN A SANDBOX (cutbox-rows.mjs): the forced cells as the released guide's own fill.sh prints them over the translation b639d21919de8d69… (all of the seat's roots in one cut). By AI agents, Wed Nov 11 2026. No macro, syntax, notation, axiom, sorry.
-/
import Derived.Test.YtbglbbmlohfemaaGreatDoorChecked
import GoSem.Claim
import GoSem.ClaimJoined
import GoSem.ClaimMapViews
import Derived.JoinedTies
import Derived.KernelRfl
namespace Go.Proofs.YtbglbbmlohfemaaGreatDoor
/- THE CELL 'sum', in the pinned program and in every row, IS THE sha256 OF THE DUMP (.gsa) THAT YtbglbbmlohfemaaGreatDoorProg.lean LOADS. Nothing in Lean hashes anything: it is a label: what it is worth is what the hold of that sum in a sandbox is worth. -/
noncomputable def Tryz.pinned : Pinned := { name := "ytbglbbmlohfemaagreatdoor", sum := "b639d21919de8d6926f617d3e768c5acfd678746094ea5a335642e9cb4515b15", checked := Tryz.checked }
namespace Rows
def none {H : Type} : Left H := { results := [], args := [] }

/- WHAT THE LISTED PACKAGE-LEVEL VARIABLES READ AS WHEN THE CALL BEGINS. Each datum BY PROGRAM (the guide's laid-datum.mjs) off the statement by which the dump's own 'gosem.cut.vars' lays the variable. In a bare row this is a premise. The card (YtbglbbmlohfemaaGreatDoorCards.lean) ties it to the program's text. -/
def laid_accounting_days_lengths {H : Type} : DataW H := .agg [.lit (.int .i64 31), .lit (.int .i64 28), .lit (.int .i64 31), .lit (.int .i64 30), .lit (.int .i64 31), .lit (.int .i64 30), .lit (.int .i64 31), .lit (.int .i64 31), .lit (.int .i64 30), .lit (.int .i64 31), .lit (.int .i64 30), .lit (.int .i64 31)]

/-- 'accountinglaw38.CostingRuns': WHATEVER THE INPUT: true; the input reads as it did. -/
def costingRunsSpec : ChangeSpec := { name := "costingRuns", fn := fun _ => fun
  | [d1, d2, d3] => { results := [.lit (.bool true)], args := [d1, d2, d3] }
  | _ => none }
def costingRunsRow : OpenClaim := { program := "ytbglbbmlohfemaagreatdoor", sum := "b639d21919de8d6926f617d3e768c5acfd678746094ea5a335642e9cb4515b15", func := "accounting/accountinglaw38.CostingRuns", spec := "costingRuns", unfollowed := true, recurses := true, named := ["accounting/days.lengths"], plainKeys := false, apart := false, laid := [("accounting/days.lengths", laid_accounting_days_lengths)] }
def CostingRunsSaid : Prop := costingRunsRow.holds Tryz.pinned (OpenSpec.ofChange costingRunsSpec)

/-- ITS FALSE NEIGHBOUR: 'it returns false'. Refute it at one input. -/
def costingRunsWrong : ChangeSpec := { name := "costingRuns", fn := fun _ => fun
  | [d1, d2, d3] => { results := [.lit (.bool false)], args := [d1, d2, d3] }
  | _ => none }
def CostingRunsWrongFalsely : Prop := costingRunsRow.holds Tryz.pinned (OpenSpec.ofChange costingRunsWrong)

/-- 'accountinglaw38.CostingSteps': WHATEVER THE INPUT: true; the input reads as it did. -/
def costingStepsSpec : ChangeSpec := { name := "costingSteps", fn := fun _ => fun
  | [d1, d2, d3] => { results := [.lit (.bool true)], args := [d1, d2, d3] }
  | _ => none }
def costingStepsRow : OpenClaim := { program := "ytbglbbmlohfemaagreatdoor", sum := "b639d21919de8d6926f617d3e768c5acfd678746094ea5a335642e9cb4515b15", func := "accounting/accountinglaw38.CostingSteps", spec := "costingSteps", unfollowed := true, recurses := true, named := ["accounting/days.lengths"], plainKeys := false, apart := false, laid := [("accounting/days.lengths", laid_accounting_days_lengths)] }
def CostingStepsSaid : Prop := costingStepsRow.holds Tryz.pinned (OpenSpec.ofChange costingStepsSpec)

/-- ITS FALSE NEIGHBOUR: 'it returns false'. Refute it at one input. -/
def costingStepsWrong : ChangeSpec := { name := "costingSteps", fn := fun _ => fun
  | [d1, d2, d3] => { results := [.lit (.bool false)], args := [d1, d2, d3] }
  | _ => none }
def CostingStepsWrongFalsely : Prop := costingStepsRow.holds Tryz.pinned (OpenSpec.ofChange costingStepsWrong)

/-- 'accountinglaw38.CostingConserves': WHATEVER THE INPUT: true; the input reads as it did. -/
def costingConservesSpec : ChangeSpec := { name := "costingConserves", fn := fun _ => fun
  | [d1, d2, d3] => { results := [.lit (.bool true)], args := [d1, d2, d3] }
  | _ => none }
def costingConservesRow : OpenClaim := { program := "ytbglbbmlohfemaagreatdoor", sum := "b639d21919de8d6926f617d3e768c5acfd678746094ea5a335642e9cb4515b15", func := "accounting/accountinglaw38.CostingConserves", spec := "costingConserves", unfollowed := true, recurses := true, named := ["accounting/days.lengths"], plainKeys := false, apart := false, laid := [("accounting/days.lengths", laid_accounting_days_lengths)] }
def CostingConservesSaid : Prop := costingConservesRow.holds Tryz.pinned (OpenSpec.ofChange costingConservesSpec)

/-- ITS FALSE NEIGHBOUR: 'it returns false'. Refute it at one input. -/
def costingConservesWrong : ChangeSpec := { name := "costingConserves", fn := fun _ => fun
  | [d1, d2, d3] => { results := [.lit (.bool false)], args := [d1, d2, d3] }
  | _ => none }
def CostingConservesWrongFalsely : Prop := costingConservesRow.holds Tryz.pinned (OpenSpec.ofChange costingConservesWrong)

/-- 'accountinglaw38.CostingEach': WHATEVER THE INPUT: true; the input reads as it did. -/
def costingEachSpec : ChangeSpec := { name := "costingEach", fn := fun _ => fun
  | [d1, d2, d3] => { results := [.lit (.bool true)], args := [d1, d2, d3] }
  | _ => none }
def costingEachRow : OpenClaim := { program := "ytbglbbmlohfemaagreatdoor", sum := "b639d21919de8d6926f617d3e768c5acfd678746094ea5a335642e9cb4515b15", func := "accounting/accountinglaw38.CostingEach", spec := "costingEach", unfollowed := true, recurses := true, named := ["accounting/days.lengths"], plainKeys := false, apart := false, laid := [("accounting/days.lengths", laid_accounting_days_lengths)] }
def CostingEachSaid : Prop := costingEachRow.holds Tryz.pinned (OpenSpec.ofChange costingEachSpec)

/-- ITS FALSE NEIGHBOUR: 'it returns false'. Refute it at one input. -/
def costingEachWrong : ChangeSpec := { name := "costingEach", fn := fun _ => fun
  | [d1, d2, d3] => { results := [.lit (.bool false)], args := [d1, d2, d3] }
  | _ => none }
def CostingEachWrongFalsely : Prop := costingEachRow.holds Tryz.pinned (OpenSpec.ofChange costingEachWrong)

/-- 'accountinglaw38.CostingReturns': WHATEVER THE INPUT: true; the input reads as it did. -/
def costingReturnsSpec : ChangeSpec := { name := "costingReturns", fn := fun _ => fun
  | [d1, d2, d3] => { results := [.lit (.bool true)], args := [d1, d2, d3] }
  | _ => none }
def costingReturnsRow : OpenClaim := { program := "ytbglbbmlohfemaagreatdoor", sum := "b639d21919de8d6926f617d3e768c5acfd678746094ea5a335642e9cb4515b15", func := "accounting/accountinglaw38.CostingReturns", spec := "costingReturns", unfollowed := true, recurses := true, named := ["accounting/days.lengths"], plainKeys := false, apart := false, laid := [("accounting/days.lengths", laid_accounting_days_lengths)] }
def CostingReturnsSaid : Prop := costingReturnsRow.holds Tryz.pinned (OpenSpec.ofChange costingReturnsSpec)

/-- ITS FALSE NEIGHBOUR: 'it returns false'. Refute it at one input. -/
def costingReturnsWrong : ChangeSpec := { name := "costingReturns", fn := fun _ => fun
  | [d1, d2, d3] => { results := [.lit (.bool false)], args := [d1, d2, d3] }
  | _ => none }
def CostingReturnsWrongFalsely : Prop := costingReturnsRow.holds Tryz.pinned (OpenSpec.ofChange costingReturnsWrong)

/-- 'accountinglaw38.CostingPrefix': WHATEVER THE INPUT: true; the input reads as it did. -/
def costingPrefixSpec : ChangeSpec := { name := "costingPrefix", fn := fun _ => fun
  | [d1, d2, d3] => { results := [.lit (.bool true)], args := [d1, d2, d3] }
  | _ => none }
def costingPrefixRow : OpenClaim := { program := "ytbglbbmlohfemaagreatdoor", sum := "b639d21919de8d6926f617d3e768c5acfd678746094ea5a335642e9cb4515b15", func := "accounting/accountinglaw38.CostingPrefix", spec := "costingPrefix", unfollowed := true, recurses := true, named := ["accounting/days.lengths"], plainKeys := false, apart := false, laid := [("accounting/days.lengths", laid_accounting_days_lengths)] }
def CostingPrefixSaid : Prop := costingPrefixRow.holds Tryz.pinned (OpenSpec.ofChange costingPrefixSpec)

/-- ITS FALSE NEIGHBOUR: 'it returns false'. Refute it at one input. -/
def costingPrefixWrong : ChangeSpec := { name := "costingPrefix", fn := fun _ => fun
  | [d1, d2, d3] => { results := [.lit (.bool false)], args := [d1, d2, d3] }
  | _ => none }
def CostingPrefixWrongFalsely : Prop := costingPrefixRow.holds Tryz.pinned (OpenSpec.ofChange costingPrefixWrong)

/-- 'accountingtop.TopRecost': WHATEVER THE INPUT: true; the input reads as it did. -/
def topRecostSpec : ChangeSpec := { name := "topRecost", fn := fun _ => fun
  | [d1, d2, d3] => { results := [.lit (.bool true)], args := [d1, d2, d3] }
  | _ => none }
def topRecostRow : OpenClaim := { program := "ytbglbbmlohfemaagreatdoor", sum := "b639d21919de8d6926f617d3e768c5acfd678746094ea5a335642e9cb4515b15", func := "accounting/accountingtop.TopRecost", spec := "topRecost", inPlace := ["slices.overlaps[int]"], unfollowed := true, recurses := true, named := ["accounting/days.lengths"], plainKeys := false, apart := false, laid := [("accounting/days.lengths", laid_accounting_days_lengths)] }
def TopRecostSaid : Prop := topRecostRow.holds Tryz.pinned (OpenSpec.ofChange topRecostSpec)

/-- ITS FALSE NEIGHBOUR: 'it returns false'. Refute it at one input. -/
def topRecostWrong : ChangeSpec := { name := "topRecost", fn := fun _ => fun
  | [d1, d2, d3] => { results := [.lit (.bool false)], args := [d1, d2, d3] }
  | _ => none }
def TopRecostWrongFalsely : Prop := topRecostRow.holds Tryz.pinned (OpenSpec.ofChange topRecostWrong)

/-- 'accountinglaw38.CostingMethods': WHATEVER THE INPUT: true; the input reads as it did. -/
def costingMethodsSpec : ChangeSpec := { name := "costingMethods", fn := fun _ => fun
  | [d1, d2, d3] => { results := [.lit (.bool true)], args := [d1, d2, d3] }
  | _ => none }
def costingMethodsRow : OpenClaim := { program := "ytbglbbmlohfemaagreatdoor", sum := "b639d21919de8d6926f617d3e768c5acfd678746094ea5a335642e9cb4515b15", func := "accounting/accountinglaw38.CostingMethods", spec := "costingMethods", unfollowed := true, recurses := true, named := ["accounting/days.lengths"], plainKeys := false, apart := false, laid := [("accounting/days.lengths", laid_accounting_days_lengths)] }
def CostingMethodsSaid : Prop := costingMethodsRow.holds Tryz.pinned (OpenSpec.ofChange costingMethodsSpec)

/-- ITS FALSE NEIGHBOUR: 'it returns false'. Refute it at one input. -/
def costingMethodsWrong : ChangeSpec := { name := "costingMethods", fn := fun _ => fun
  | [d1, d2, d3] => { results := [.lit (.bool false)], args := [d1, d2, d3] }
  | _ => none }
def CostingMethodsWrongFalsely : Prop := costingMethodsRow.holds Tryz.pinned (OpenSpec.ofChange costingMethodsWrong)

/-- 'accountinglaw38.CostingLevels': WHATEVER THE INPUT: true; the input reads as it did. -/
def costingLevelsSpec : ChangeSpec := { name := "costingLevels", fn := fun _ => fun
  | [d1, d2, d3] => { results := [.lit (.bool true)], args := [d1, d2, d3] }
  | _ => none }
def costingLevelsRow : OpenClaim := { program := "ytbglbbmlohfemaagreatdoor", sum := "b639d21919de8d6926f617d3e768c5acfd678746094ea5a335642e9cb4515b15", func := "accounting/accountinglaw38.CostingLevels", spec := "costingLevels", unfollowed := true, recurses := true, named := ["accounting/days.lengths"], plainKeys := false, apart := false, laid := [("accounting/days.lengths", laid_accounting_days_lengths)] }
def CostingLevelsSaid : Prop := costingLevelsRow.holds Tryz.pinned (OpenSpec.ofChange costingLevelsSpec)

/-- ITS FALSE NEIGHBOUR: 'it returns false'. Refute it at one input. -/
def costingLevelsWrong : ChangeSpec := { name := "costingLevels", fn := fun _ => fun
  | [d1, d2, d3] => { results := [.lit (.bool false)], args := [d1, d2, d3] }
  | _ => none }
def CostingLevelsWrongFalsely : Prop := costingLevelsRow.holds Tryz.pinned (OpenSpec.ofChange costingLevelsWrong)

/-- 'accountinglaw39.RecostAdjust': WHATEVER THE INPUT: true; the input reads as it did. -/
def recostAdjustSpec : ChangeSpec := { name := "recostAdjust", fn := fun _ => fun
  | [d1, d2] => { results := [.lit (.bool true)], args := [d1, d2] }
  | _ => none }
def recostAdjustRow : OpenClaim := { program := "ytbglbbmlohfemaagreatdoor", sum := "b639d21919de8d6926f617d3e768c5acfd678746094ea5a335642e9cb4515b15", func := "accounting/accountinglaw39.RecostAdjust", spec := "recostAdjust", inPlace := ["slices.overlaps[int]"], unfollowed := true, recurses := true, named := ["accounting/days.lengths"], plainKeys := false, apart := false, laid := [("accounting/days.lengths", laid_accounting_days_lengths)] }
def RecostAdjustSaid : Prop := recostAdjustRow.holds Tryz.pinned (OpenSpec.ofChange recostAdjustSpec)

/-- ITS FALSE NEIGHBOUR: 'it returns false'. Refute it at one input. -/
def recostAdjustWrong : ChangeSpec := { name := "recostAdjust", fn := fun _ => fun
  | [d1, d2] => { results := [.lit (.bool false)], args := [d1, d2] }
  | _ => none }
def RecostAdjustWrongFalsely : Prop := recostAdjustRow.holds Tryz.pinned (OpenSpec.ofChange recostAdjustWrong)

/-- 'accountinglaw39.RecostAdds': WHATEVER THE INPUT: true; the input reads as it did. -/
def recostAddsSpec : ChangeSpec := { name := "recostAdds", fn := fun _ => fun
  | [d1, d2, d3] => { results := [.lit (.bool true)], args := [d1, d2, d3] }
  | _ => none }
def recostAddsRow : OpenClaim := { program := "ytbglbbmlohfemaagreatdoor", sum := "b639d21919de8d6926f617d3e768c5acfd678746094ea5a335642e9cb4515b15", func := "accounting/accountinglaw39.RecostAdds", spec := "recostAdds", inPlace := ["slices.overlaps[int]"], unfollowed := true, recurses := true, named := ["accounting/days.lengths"], plainKeys := false, apart := false, laid := [("accounting/days.lengths", laid_accounting_days_lengths)] }
def RecostAddsSaid : Prop := recostAddsRow.holds Tryz.pinned (OpenSpec.ofChange recostAddsSpec)

/-- ITS FALSE NEIGHBOUR: 'it returns false'. Refute it at one input. -/
def recostAddsWrong : ChangeSpec := { name := "recostAdds", fn := fun _ => fun
  | [d1, d2, d3] => { results := [.lit (.bool false)], args := [d1, d2, d3] }
  | _ => none }
def RecostAddsWrongFalsely : Prop := recostAddsRow.holds Tryz.pinned (OpenSpec.ofChange recostAddsWrong)

/-- 'accountinglaw39.RecostFails': WHATEVER THE INPUT: true; the input reads as it did. -/
def recostFailsSpec : ChangeSpec := { name := "recostFails", fn := fun _ => fun
  | [d1, d2, d3] => { results := [.lit (.bool true)], args := [d1, d2, d3] }
  | _ => none }
def recostFailsRow : OpenClaim := { program := "ytbglbbmlohfemaagreatdoor", sum := "b639d21919de8d6926f617d3e768c5acfd678746094ea5a335642e9cb4515b15", func := "accounting/accountinglaw39.RecostFails", spec := "recostFails", inPlace := ["slices.overlaps[int]"], unfollowed := true, recurses := true, named := ["accounting/days.lengths"], plainKeys := false, apart := false, laid := [("accounting/days.lengths", laid_accounting_days_lengths)] }
def RecostFailsSaid : Prop := recostFailsRow.holds Tryz.pinned (OpenSpec.ofChange recostFailsSpec)

/-- ITS FALSE NEIGHBOUR: 'it returns false'. Refute it at one input. -/
def recostFailsWrong : ChangeSpec := { name := "recostFails", fn := fun _ => fun
  | [d1, d2, d3] => { results := [.lit (.bool false)], args := [d1, d2, d3] }
  | _ => none }
def RecostFailsWrongFalsely : Prop := recostFailsRow.holds Tryz.pinned (OpenSpec.ofChange recostFailsWrong)

/-- 'accountinglaw39.RecostAt': WHATEVER THE INPUT: true; the input reads as it did. -/
def recostAtSpec : ChangeSpec := { name := "recostAt", fn := fun _ => fun
  | [d1, d2, d3, d4] => { results := [.lit (.bool true)], args := [d1, d2, d3, d4] }
  | _ => none }
def recostAtRow : OpenClaim := { program := "ytbglbbmlohfemaagreatdoor", sum := "b639d21919de8d6926f617d3e768c5acfd678746094ea5a335642e9cb4515b15", func := "accounting/accountinglaw39.RecostAt", spec := "recostAt", inPlace := ["slices.overlaps[int]"], unfollowed := true, recurses := true, named := ["accounting/days.lengths"], plainKeys := false, apart := false, laid := [("accounting/days.lengths", laid_accounting_days_lengths)] }
def RecostAtSaid : Prop := recostAtRow.holds Tryz.pinned (OpenSpec.ofChange recostAtSpec)

/-- ITS FALSE NEIGHBOUR: 'it returns false'. Refute it at one input. -/
def recostAtWrong : ChangeSpec := { name := "recostAt", fn := fun _ => fun
  | [d1, d2, d3, d4] => { results := [.lit (.bool false)], args := [d1, d2, d3, d4] }
  | _ => none }
def RecostAtWrongFalsely : Prop := recostAtRow.holds Tryz.pinned (OpenSpec.ofChange recostAtWrong)

/-- 'accountinglaw39.RecostNil': WHATEVER THE INPUT: true; the input reads as it did. -/
def recostNilSpec : ChangeSpec := { name := "recostNil", fn := fun _ => fun
  | [d1, d2] => { results := [.lit (.bool true)], args := [d1, d2] }
  | _ => none }
def recostNilRow : OpenClaim := { program := "ytbglbbmlohfemaagreatdoor", sum := "b639d21919de8d6926f617d3e768c5acfd678746094ea5a335642e9cb4515b15", func := "accounting/accountinglaw39.RecostNil", spec := "recostNil", inPlace := ["slices.overlaps[int]"], unfollowed := true, recurses := true, named := ["accounting/days.lengths"], plainKeys := false, apart := false, laid := [("accounting/days.lengths", laid_accounting_days_lengths)] }
def RecostNilSaid : Prop := recostNilRow.holds Tryz.pinned (OpenSpec.ofChange recostNilSpec)

/-- ITS FALSE NEIGHBOUR: 'it returns false'. Refute it at one input. -/
def recostNilWrong : ChangeSpec := { name := "recostNil", fn := fun _ => fun
  | [d1, d2] => { results := [.lit (.bool false)], args := [d1, d2] }
  | _ => none }
def RecostNilWrongFalsely : Prop := recostNilRow.holds Tryz.pinned (OpenSpec.ofChange recostNilWrong)

/-- 'accountinglaw39.RecostOrder': WHATEVER THE INPUT: true; the input reads as it did. -/
def recostOrderSpec : ChangeSpec := { name := "recostOrder", fn := fun _ => fun
  | [d1, d2] => { results := [.lit (.bool true)], args := [d1, d2] }
  | _ => none }
def recostOrderRow : OpenClaim := { program := "ytbglbbmlohfemaagreatdoor", sum := "b639d21919de8d6926f617d3e768c5acfd678746094ea5a335642e9cb4515b15", func := "accounting/accountinglaw39.RecostOrder", spec := "recostOrder", inPlace := ["slices.overlaps[int]"], unfollowed := true, recurses := true, named := ["accounting/days.lengths"], plainKeys := false, apart := false, laid := [("accounting/days.lengths", laid_accounting_days_lengths)] }
def RecostOrderSaid : Prop := recostOrderRow.holds Tryz.pinned (OpenSpec.ofChange recostOrderSpec)

/-- ITS FALSE NEIGHBOUR: 'it returns false'. Refute it at one input. -/
def recostOrderWrong : ChangeSpec := { name := "recostOrder", fn := fun _ => fun
  | [d1, d2] => { results := [.lit (.bool false)], args := [d1, d2] }
  | _ => none }
def RecostOrderWrongFalsely : Prop := recostOrderRow.holds Tryz.pinned (OpenSpec.ofChange recostOrderWrong)

/-- 'accountinglaw39.RecostReplay': WHATEVER THE INPUT: true; the input reads as it did. -/
def recostReplaySpec : ChangeSpec := { name := "recostReplay", fn := fun _ => fun
  | [d1, d2] => { results := [.lit (.bool true)], args := [d1, d2] }
  | _ => none }
def recostReplayRow : OpenClaim := { program := "ytbglbbmlohfemaagreatdoor", sum := "b639d21919de8d6926f617d3e768c5acfd678746094ea5a335642e9cb4515b15", func := "accounting/accountinglaw39.RecostReplay", spec := "recostReplay", inPlace := ["slices.overlaps[int]"], unfollowed := true, recurses := true, named := ["accounting/days.lengths"], plainKeys := false, apart := false, laid := [("accounting/days.lengths", laid_accounting_days_lengths)] }
def RecostReplaySaid : Prop := recostReplayRow.holds Tryz.pinned (OpenSpec.ofChange recostReplaySpec)

/-- ITS FALSE NEIGHBOUR: 'it returns false'. Refute it at one input. -/
def recostReplayWrong : ChangeSpec := { name := "recostReplay", fn := fun _ => fun
  | [d1, d2] => { results := [.lit (.bool false)], args := [d1, d2] }
  | _ => none }
def RecostReplayWrongFalsely : Prop := recostReplayRow.holds Tryz.pinned (OpenSpec.ofChange recostReplayWrong)

/- THE SECOND FORM. 'bulk': how many values and letters a reading holds, each counted each time it is reached (what is shared counts as often as it is met; a slice's spare places count too). A statement '..UptoSaid' is the law's where the arguments, and the package variables that the reading takes, are together of bulk at most 1048576: NARROWER than '..Said'. Prove '..Said' where nothing that the law and all that it calls make is longer than what came in: it says more and counts as full. Else prove '..UptoSaid'. A law counts once. -/
mutual
def uptoBulk {H : Type} : DataW H → Nat
  | .lit (.string bytes) => bytes.length + 1
  | .lit _ => 1
  | .nil => 1
  | .ptr d => uptoBulk d + 1
  | .slice elems spare => uptoBulkAll elems + uptoBulkAll spare + 1
  | .agg parts => uptoBulkAll parts + 1
  | .iface _ d => uptoBulk d + 1
  | .map entries => uptoBulkEntries entries + 1
  | .held _ => 1
def uptoBulkAll {H : Type} : List (DataW H) → Nat
  | [] => 0
  | d :: r => uptoBulk d + uptoBulkAll r
def uptoBulkEntries {H : Type} : List (Lit × DataW H) → Nat
  | [] => 0
  | x :: r => uptoBulkEntry x + uptoBulkEntries r
def uptoBulkEntry {H : Type} : Lit × DataW H → Nat
  | (.string bytes, d) => bytes.length + uptoBulk d + 1
  | (_, d) => uptoBulk d + 1
 end
def uptoSmall : (H : Type) → List (DataW H) → Bool := fun _ ds => decide (uptoBulkAll ds ≤ 1048576)
def OpenSpec.upto (s : _root_.Go.ChangeSpec) : _root_.Go.OpenSpec := { _root_.Go.OpenSpec.ofChange s with cond := some uptoSmall }

/-- 'accountinglaw38.CostingRuns', WHERE WHAT IT READS IS OF BULK AT MOST 1048576: true; the input reads as it did. -/
def costingRunsUptoRow : OpenClaim := { program := "ytbglbbmlohfemaagreatdoor", sum := "b639d21919de8d6926f617d3e768c5acfd678746094ea5a335642e9cb4515b15", func := "accounting/accountinglaw38.CostingRuns", spec := "costingRuns", unfollowed := true, recurses := true, named := ["accounting/days.lengths"], plainKeys := false, apart := false, laid := [("accounting/days.lengths", laid_accounting_days_lengths)], narrowed := true }
def CostingRunsUptoSaid : Prop := costingRunsUptoRow.holds Tryz.pinned (OpenSpec.upto costingRunsSpec)

/-- 'accountinglaw38.CostingSteps', WHERE WHAT IT READS IS OF BULK AT MOST 1048576: true; the input reads as it did. -/
def costingStepsUptoRow : OpenClaim := { program := "ytbglbbmlohfemaagreatdoor", sum := "b639d21919de8d6926f617d3e768c5acfd678746094ea5a335642e9cb4515b15", func := "accounting/accountinglaw38.CostingSteps", spec := "costingSteps", unfollowed := true, recurses := true, named := ["accounting/days.lengths"], plainKeys := false, apart := false, laid := [("accounting/days.lengths", laid_accounting_days_lengths)], narrowed := true }
def CostingStepsUptoSaid : Prop := costingStepsUptoRow.holds Tryz.pinned (OpenSpec.upto costingStepsSpec)

/-- 'accountinglaw38.CostingConserves', WHERE WHAT IT READS IS OF BULK AT MOST 1048576: true; the input reads as it did. -/
def costingConservesUptoRow : OpenClaim := { program := "ytbglbbmlohfemaagreatdoor", sum := "b639d21919de8d6926f617d3e768c5acfd678746094ea5a335642e9cb4515b15", func := "accounting/accountinglaw38.CostingConserves", spec := "costingConserves", unfollowed := true, recurses := true, named := ["accounting/days.lengths"], plainKeys := false, apart := false, laid := [("accounting/days.lengths", laid_accounting_days_lengths)], narrowed := true }
def CostingConservesUptoSaid : Prop := costingConservesUptoRow.holds Tryz.pinned (OpenSpec.upto costingConservesSpec)

/-- 'accountinglaw38.CostingEach', WHERE WHAT IT READS IS OF BULK AT MOST 1048576: true; the input reads as it did. -/
def costingEachUptoRow : OpenClaim := { program := "ytbglbbmlohfemaagreatdoor", sum := "b639d21919de8d6926f617d3e768c5acfd678746094ea5a335642e9cb4515b15", func := "accounting/accountinglaw38.CostingEach", spec := "costingEach", unfollowed := true, recurses := true, named := ["accounting/days.lengths"], plainKeys := false, apart := false, laid := [("accounting/days.lengths", laid_accounting_days_lengths)], narrowed := true }
def CostingEachUptoSaid : Prop := costingEachUptoRow.holds Tryz.pinned (OpenSpec.upto costingEachSpec)

/-- 'accountinglaw38.CostingReturns', WHERE WHAT IT READS IS OF BULK AT MOST 1048576: true; the input reads as it did. -/
def costingReturnsUptoRow : OpenClaim := { program := "ytbglbbmlohfemaagreatdoor", sum := "b639d21919de8d6926f617d3e768c5acfd678746094ea5a335642e9cb4515b15", func := "accounting/accountinglaw38.CostingReturns", spec := "costingReturns", unfollowed := true, recurses := true, named := ["accounting/days.lengths"], plainKeys := false, apart := false, laid := [("accounting/days.lengths", laid_accounting_days_lengths)], narrowed := true }
def CostingReturnsUptoSaid : Prop := costingReturnsUptoRow.holds Tryz.pinned (OpenSpec.upto costingReturnsSpec)

/-- 'accountinglaw38.CostingPrefix', WHERE WHAT IT READS IS OF BULK AT MOST 1048576: true; the input reads as it did. -/
def costingPrefixUptoRow : OpenClaim := { program := "ytbglbbmlohfemaagreatdoor", sum := "b639d21919de8d6926f617d3e768c5acfd678746094ea5a335642e9cb4515b15", func := "accounting/accountinglaw38.CostingPrefix", spec := "costingPrefix", unfollowed := true, recurses := true, named := ["accounting/days.lengths"], plainKeys := false, apart := false, laid := [("accounting/days.lengths", laid_accounting_days_lengths)], narrowed := true }
def CostingPrefixUptoSaid : Prop := costingPrefixUptoRow.holds Tryz.pinned (OpenSpec.upto costingPrefixSpec)

/-- 'accountingtop.TopRecost', WHERE WHAT IT READS IS OF BULK AT MOST 1048576: true; the input reads as it did. -/
def topRecostUptoRow : OpenClaim := { program := "ytbglbbmlohfemaagreatdoor", sum := "b639d21919de8d6926f617d3e768c5acfd678746094ea5a335642e9cb4515b15", func := "accounting/accountingtop.TopRecost", spec := "topRecost", inPlace := ["slices.overlaps[int]"], unfollowed := true, recurses := true, named := ["accounting/days.lengths"], plainKeys := false, apart := false, laid := [("accounting/days.lengths", laid_accounting_days_lengths)], narrowed := true }
def TopRecostUptoSaid : Prop := topRecostUptoRow.holds Tryz.pinned (OpenSpec.upto topRecostSpec)

/-- 'accountinglaw38.CostingMethods', WHERE WHAT IT READS IS OF BULK AT MOST 1048576: true; the input reads as it did. -/
def costingMethodsUptoRow : OpenClaim := { program := "ytbglbbmlohfemaagreatdoor", sum := "b639d21919de8d6926f617d3e768c5acfd678746094ea5a335642e9cb4515b15", func := "accounting/accountinglaw38.CostingMethods", spec := "costingMethods", unfollowed := true, recurses := true, named := ["accounting/days.lengths"], plainKeys := false, apart := false, laid := [("accounting/days.lengths", laid_accounting_days_lengths)], narrowed := true }
def CostingMethodsUptoSaid : Prop := costingMethodsUptoRow.holds Tryz.pinned (OpenSpec.upto costingMethodsSpec)

/-- 'accountinglaw38.CostingLevels', WHERE WHAT IT READS IS OF BULK AT MOST 1048576: true; the input reads as it did. -/
def costingLevelsUptoRow : OpenClaim := { program := "ytbglbbmlohfemaagreatdoor", sum := "b639d21919de8d6926f617d3e768c5acfd678746094ea5a335642e9cb4515b15", func := "accounting/accountinglaw38.CostingLevels", spec := "costingLevels", unfollowed := true, recurses := true, named := ["accounting/days.lengths"], plainKeys := false, apart := false, laid := [("accounting/days.lengths", laid_accounting_days_lengths)], narrowed := true }
def CostingLevelsUptoSaid : Prop := costingLevelsUptoRow.holds Tryz.pinned (OpenSpec.upto costingLevelsSpec)

/-- 'accountinglaw39.RecostAdjust', WHERE WHAT IT READS IS OF BULK AT MOST 1048576: true; the input reads as it did. -/
def recostAdjustUptoRow : OpenClaim := { program := "ytbglbbmlohfemaagreatdoor", sum := "b639d21919de8d6926f617d3e768c5acfd678746094ea5a335642e9cb4515b15", func := "accounting/accountinglaw39.RecostAdjust", spec := "recostAdjust", inPlace := ["slices.overlaps[int]"], unfollowed := true, recurses := true, named := ["accounting/days.lengths"], plainKeys := false, apart := false, laid := [("accounting/days.lengths", laid_accounting_days_lengths)], narrowed := true }
def RecostAdjustUptoSaid : Prop := recostAdjustUptoRow.holds Tryz.pinned (OpenSpec.upto recostAdjustSpec)

/-- 'accountinglaw39.RecostAdds', WHERE WHAT IT READS IS OF BULK AT MOST 1048576: true; the input reads as it did. -/
def recostAddsUptoRow : OpenClaim := { program := "ytbglbbmlohfemaagreatdoor", sum := "b639d21919de8d6926f617d3e768c5acfd678746094ea5a335642e9cb4515b15", func := "accounting/accountinglaw39.RecostAdds", spec := "recostAdds", inPlace := ["slices.overlaps[int]"], unfollowed := true, recurses := true, named := ["accounting/days.lengths"], plainKeys := false, apart := false, laid := [("accounting/days.lengths", laid_accounting_days_lengths)], narrowed := true }
def RecostAddsUptoSaid : Prop := recostAddsUptoRow.holds Tryz.pinned (OpenSpec.upto recostAddsSpec)

/-- 'accountinglaw39.RecostFails', WHERE WHAT IT READS IS OF BULK AT MOST 1048576: true; the input reads as it did. -/
def recostFailsUptoRow : OpenClaim := { program := "ytbglbbmlohfemaagreatdoor", sum := "b639d21919de8d6926f617d3e768c5acfd678746094ea5a335642e9cb4515b15", func := "accounting/accountinglaw39.RecostFails", spec := "recostFails", inPlace := ["slices.overlaps[int]"], unfollowed := true, recurses := true, named := ["accounting/days.lengths"], plainKeys := false, apart := false, laid := [("accounting/days.lengths", laid_accounting_days_lengths)], narrowed := true }
def RecostFailsUptoSaid : Prop := recostFailsUptoRow.holds Tryz.pinned (OpenSpec.upto recostFailsSpec)

/-- 'accountinglaw39.RecostAt', WHERE WHAT IT READS IS OF BULK AT MOST 1048576: true; the input reads as it did. -/
def recostAtUptoRow : OpenClaim := { program := "ytbglbbmlohfemaagreatdoor", sum := "b639d21919de8d6926f617d3e768c5acfd678746094ea5a335642e9cb4515b15", func := "accounting/accountinglaw39.RecostAt", spec := "recostAt", inPlace := ["slices.overlaps[int]"], unfollowed := true, recurses := true, named := ["accounting/days.lengths"], plainKeys := false, apart := false, laid := [("accounting/days.lengths", laid_accounting_days_lengths)], narrowed := true }
def RecostAtUptoSaid : Prop := recostAtUptoRow.holds Tryz.pinned (OpenSpec.upto recostAtSpec)

/-- 'accountinglaw39.RecostNil', WHERE WHAT IT READS IS OF BULK AT MOST 1048576: true; the input reads as it did. -/
def recostNilUptoRow : OpenClaim := { program := "ytbglbbmlohfemaagreatdoor", sum := "b639d21919de8d6926f617d3e768c5acfd678746094ea5a335642e9cb4515b15", func := "accounting/accountinglaw39.RecostNil", spec := "recostNil", inPlace := ["slices.overlaps[int]"], unfollowed := true, recurses := true, named := ["accounting/days.lengths"], plainKeys := false, apart := false, laid := [("accounting/days.lengths", laid_accounting_days_lengths)], narrowed := true }
def RecostNilUptoSaid : Prop := recostNilUptoRow.holds Tryz.pinned (OpenSpec.upto recostNilSpec)

/-- 'accountinglaw39.RecostOrder', WHERE WHAT IT READS IS OF BULK AT MOST 1048576: true; the input reads as it did. -/
def recostOrderUptoRow : OpenClaim := { program := "ytbglbbmlohfemaagreatdoor", sum := "b639d21919de8d6926f617d3e768c5acfd678746094ea5a335642e9cb4515b15", func := "accounting/accountinglaw39.RecostOrder", spec := "recostOrder", inPlace := ["slices.overlaps[int]"], unfollowed := true, recurses := true, named := ["accounting/days.lengths"], plainKeys := false, apart := false, laid := [("accounting/days.lengths", laid_accounting_days_lengths)], narrowed := true }
def RecostOrderUptoSaid : Prop := recostOrderUptoRow.holds Tryz.pinned (OpenSpec.upto recostOrderSpec)

/-- 'accountinglaw39.RecostReplay', WHERE WHAT IT READS IS OF BULK AT MOST 1048576: true; the input reads as it did. -/
def recostReplayUptoRow : OpenClaim := { program := "ytbglbbmlohfemaagreatdoor", sum := "b639d21919de8d6926f617d3e768c5acfd678746094ea5a335642e9cb4515b15", func := "accounting/accountinglaw39.RecostReplay", spec := "recostReplay", inPlace := ["slices.overlaps[int]"], unfollowed := true, recurses := true, named := ["accounting/days.lengths"], plainKeys := false, apart := false, laid := [("accounting/days.lengths", laid_accounting_days_lengths)], narrowed := true }
def RecostReplayUptoSaid : Prop := recostReplayUptoRow.holds Tryz.pinned (OpenSpec.upto recostReplaySpec)

end Rows
end Go.Proofs.YtbglbbmlohfemaaGreatDoor
