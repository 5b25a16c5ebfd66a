import Derived.Test.YtcnbnehammbncaaDoorStOwn
import Derived.Test.YtcnbnehammbncaaDoorDelF
namespace Go.Proofs.YtcnbnehammbncaaDoor
open Go.RowKit Go.Sort
set_option linter.unusedVariables false
def fitI (x : Inode) : Prop := x.entries.length * 24 ≤ 140737488355328 ∧ x.runs.length * 24 ≤ 140737488355328
/-- An own row, whose elements' parts lie in what was made. -/
def RetOwnX {α : Type} [Enc α] (h : FH) (w : World) (T : TypeId) (xs : List α) (e : Ending) (w' : World) : Prop := ∃ v h1, e = .returned v ∧ OwnL h1 w' w.heap.size T v xs ∧ Ext h w h1 w'
theorem take_snoc {α : Type} {xs : List α} {k : Nat} {x : α} (hx : xs[k]? = some x) : xs.take (k + 1) = xs.take k ++ [x] := by
  rw [List.take_add_one, hx]; rfl
end Go.Proofs.YtcnbnehammbncaaDoor
