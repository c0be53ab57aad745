import Derived.Test.YtpijekgiblcfhaaU14d
import Derived.Test.YtpijekgiblcfhaaRows
import Derived.Test.YtpijekgiblcfhaaChecked
set_option linter.unusedVariables false
set_option maxRecDepth 100000
namespace Go.Proofs.Ytpijekgiblcfhaa
open Go X RowKit Go.ChangeShapes Go.WideShapes Go.ChangeAt Go.Proofs
theorem own : ownKnob Try.prog.godebug = none := by kernel_rfl
end Go.Proofs.Ytpijekgiblcfhaa
