import Derived.Test.YtbnpccilccibkaaData
namespace Go.Proofs.Ytbnpccilccibkaa
open Go.RowKit Go.Sort
set_option linter.unusedVariables false
theorem contains_snoc (xs : List Int) (k : Nat) (y x : Int) (hy : xs[k]? = some y) : (xs.take (k + 1)).contains x = ((xs.take k).contains x || (y == x)) := by
  rw [List.take_add_one, hy]
  simp only [Option.toList_some, List.contains_eq_any_beq, List.any_append, List.any_cons, List.any_nil, Bool.or_false]
  rw [Bool.beq_comm (a := x) (b := y)]
end Go.Proofs.Ytbnpccilccibkaa
