/- Closed facts of the program that every row asks. -/
import Derived.Test.YtbglbbmlohfemaaGreatDoorCards
import Derived.Test.YtbglbbmlohfemaaGreatDoorTie
import Derived.Test.YtbglbbmlohfemaaGreatDoorB8
import Derived.WalkKit
import Derived.ProofKit
namespace Go.Proofs.YtbglbbmlohfemaaGreatDoor
open Go.ChangeShapes Go.WideShapes Go.RowKit Go.X
theorem prog_enter : Tryz.pinned.checked.prog.mayEnter = true := by kernel_rfl
theorem prog_lifts : (false == Tryz.pinned.checked.prog.liftsFinal) = true := by kernel_rfl
theorem prog_make : (Tryz.pinned.checked.prog.make == some Rows.costingConservesRow.make) = true := by kernel_rfl
theorem prog_rest : (false == Tryz.pinned.checked.prog.plainKeys) = true ∧ Tryz.pinned.checked.prog.stopsHeard = true ∧ mapsRowed Tryz.pinned.checked.prog = true ∧ laidOutB Tryz.pinned.checked.prog = true := ⟨by kernel_rfl, by kernel_rfl, by kernel_rfl, by kernel_rfl⟩
theorem prog_main : Tryz.pinned.checked.prog.mainIs = some (true, "434b4eb12f0d6e0a09a304b00fa2dd68240f2cd0369d4acd7a6d6b8765bbc4bc".toList) := by kernel_rfl
theorem prog_looks : false = Tryz.pinned.checked.prog.looks [] := by kernel_rfl
end Go.Proofs.YtbglbbmlohfemaaGreatDoor
