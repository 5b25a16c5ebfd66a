import Derived.Test.YtdiaibkpcnknbaaDoorGrP
import Derived.Test.YtdiaibkpcnknbaaDoorRRen
namespace Go.Proofs.YtdiaibkpcnknbaaDoor
open Go.RowKit Go.Sort
set_option linter.unusedVariables false
end Go.Proofs.YtdiaibkpcnknbaaDoor
