import Derived.Test.YtcnbnehammbncaaDoorCore
import Derived.Test.YtcnbnehammbncaaDoorBox
namespace Go.Proofs.YtcnbnehammbncaaDoor
open Go.RowKit Go.Sort
set_option linter.unusedVariables false
/-! ### state.own: a copy of an inode -/
end Go.Proofs.YtcnbnehammbncaaDoor
