import Derived.Test.YtkglaofiencfdaaPkN
import Derived.Test.YtkglaofiencfdaaRMk
namespace Go.Proofs.Ytkglaofiencfdaa
open Go.RowKit Go.Sort
set_option linter.unusedVariables false
/-! ### a directory is inside of itself; law 15 awake -/
end Go.Proofs.Ytkglaofiencfdaa
