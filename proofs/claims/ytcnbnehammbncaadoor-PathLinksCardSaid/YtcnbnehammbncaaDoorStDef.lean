import Derived.Test.YtcnbnehammbncaaDoorStApp
import Derived.Test.YtcnbnehammbncaaDoorInodeN
namespace Go.Proofs.YtcnbnehammbncaaDoor
open Go.RowKit Go.Sort
set_option linter.unusedVariables false
def newS : State := ⟨2, [newI 1 2 ⟨#[]⟩], []⟩
def wideG : Geo := ⟨8, 2048, 12, 8, 32⟩
end Go.Proofs.YtcnbnehammbncaaDoor
