/- This text lays what the statements' rows ask of the program. It has no conditions. -/
import Derived.Test.YtfhccmegobbnaaaRegexZL
import Derived.SizedLaws
namespace Go.Proofs.Ytfhccmegobbnaaa
open Go.ChangeShapes Go.WideShapes Go.ChangeAt Go.RowKit
set_option linter.unusedVariables false

theorem own : ownKnob Try.prog.godebug = none := by kernel_rfl
theorem laidOut : laidOutB Try.prog = true := by kernel_rfl

end Go.Proofs.Ytfhccmegobbnaaa
