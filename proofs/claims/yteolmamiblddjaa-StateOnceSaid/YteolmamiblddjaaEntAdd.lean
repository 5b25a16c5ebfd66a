import Derived.Test.YteolmamiblddjaaEntMap
import Derived.Test.YteolmamiblddjaaRefAdd
import Derived.Test.YteolmamiblddjaaClone
namespace Go.Proofs.Yteolmamiblddjaa
open Go.RowKit Go.Sort
set_option linter.unusedVariables false
/-! ### entries.Add: the closure, slices.IndexFunc -/
theorem not_leB (a b : ByteArray) : (!Op.bytesLess a.toList b.toList && !(a.toList == b.toList)) = !leB a b := by unfold leB; rw [Bool.not_or]
def ixGt (xs : List Entry) (s : ByteArray) : Int := if posE xs s < xs.length then posE xs s else -1
end Go.Proofs.Yteolmamiblddjaa
