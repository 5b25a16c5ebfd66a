import Derived.Test.YteolmamiblddjaaIns2
namespace Go.Proofs.Yteolmamiblddjaa
open Go.RowKit Go.Sort
set_option linter.unusedVariables false
/-! ### entries.Add -/
theorem posE_le : ∀ (xs : List Entry) (s : ByteArray), posE xs s ≤ xs.length := fun xs s => by
  unfold posE
  induction xs with
  | nil => simp
  | cons x xs ih => rw [List.takeWhile_cons]; split <;> simp <;> omega
end Go.Proofs.Yteolmamiblddjaa
