/- Facts of the whole program that every statement of this seat asks for: they are computed. -/
import Derived.Test.YtikmcenkjiebmaaGreatDoorRows
import Derived.Test.YtikmcenkjiebmaaGreatDoorErLB
set_option linter.unusedVariables false
namespace Go.Proofs.YtikmcenkjiebmaaGreatDoor
open Go.Mr Go.RowKit Go.ChangeShapes Go.WideShapes Go.ChangeAt Go.Proofs
theorem own : ownKnob Tryz.prog.godebug = none := by kernel_rfl
theorem laidOut : laidOutB Tryz.prog = true := by kernel_rfl
theorem fMay : Tryz.pinned.checked.prog.mayEnter = true := by kernel_rfl
theorem fHeard : Tryz.pinned.checked.prog.stopsHeard = true := by kernel_rfl
theorem fLift : Tryz.pinned.checked.prog.liftsFinal = false := by kernel_rfl
end Go.Proofs.YtikmcenkjiebmaaGreatDoor
