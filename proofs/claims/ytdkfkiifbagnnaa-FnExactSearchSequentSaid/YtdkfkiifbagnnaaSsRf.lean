/- Facts of the whole program that every statement of this seat asks for: they are computed. -/
import Derived.Test.YtdkfkiifbagnnaaRows
import Derived.Test.YtdkfkiifbagnnaaSsLC
set_option linter.unusedVariables false
namespace Go.Proofs.Ytdkfkiifbagnnaa
open Go.Mr Go.RowKit Go.ChangeShapes Go.WideShapes Go.ChangeAt Go.Proofs
theorem own : ownKnob Try.prog.godebug = none := by kernel_rfl
theorem laidOut : laidOutB Try.prog = true := by kernel_rfl
theorem fMay : Try.pinned.checked.prog.mayEnter = true := by kernel_rfl
theorem fHeard : Try.pinned.checked.prog.stopsHeard = true := by kernel_rfl
theorem fLift : Try.pinned.checked.prog.liftsFinal = false := by kernel_rfl
end Go.Proofs.Ytdkfkiifbagnnaa
