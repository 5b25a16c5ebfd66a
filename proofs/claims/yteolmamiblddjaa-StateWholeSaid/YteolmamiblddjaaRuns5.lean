import Derived.Test.YteolmamiblddjaaRuns4
namespace Go.Proofs.Yteolmamiblddjaa
open Go.RowKit Go.Sort
set_option linter.unusedVariables false
/-! ### drawn, Set -/
def drawStep (l : List Run) (i : Int) (v : Option Int) : List Run :=
  match v with
  | none => l
  | some x => if 0 < l.length ∧ goesB (l.getD (l.length - 1) default) ⟨i, x, 1⟩ = true then l.set (l.length - 1) { l.getD (l.length - 1) default with count := wrap64 ((l.getD (l.length - 1) default).count + 1) } else l ++ [⟨i, x, 1⟩]
def drawnL (g : Int → Option Int) : Nat → List Run
  | 0 => []
  | k + 1 => drawStep (drawnL g k) k (g k)
theorem drawnL_len (g : Int → Option Int) : ∀ k, (drawnL g k).length ≤ k
  | 0 => Nat.le_refl _
  | k + 1 => by
    have ih := drawnL_len g k
    unfold drawnL drawStep
    split
    · omega
    · split
      · rw [List.length_set]; omega
      · rw [List.length_append, List.length_singleton]; omega
end Go.Proofs.Yteolmamiblddjaa
