import Derived.Test.YtmfmihkjkgifiaaU10g
import Derived.Test.YtmfmihkjkgifiaaRows
import Derived.Test.YtmfmihkjkgifiaaChecked
set_option linter.unusedVariables false
set_option maxRecDepth 100000
namespace Go.Proofs.Ytmfmihkjkgifiaa
open Go X RowKit Go.ChangeShapes Go.WideShapes Go.ChangeAt Go.Proofs
theorem own : ownKnob Try.prog.godebug = none := by kernel_rfl
end Go.Proofs.Ytmfmihkjkgifiaa
