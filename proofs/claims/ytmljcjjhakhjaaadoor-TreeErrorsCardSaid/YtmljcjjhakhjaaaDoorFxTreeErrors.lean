import Derived.Test.YtmljcjjhakhjaaaDoorRows
import Derived.JoinedOf
namespace Go.Proofs.YtmljcjjhakhjaaaDoor.treeErrorsDone
/- The closed facts of the row, one by one. -/
set_option maxHeartbeats 0 in
set_option maxRecDepth 100000 in
theorem facts : joinedFacts Tryd.pinned.checked.prog 6 Tryd.f6 Rows.treeErrorsSpec Rows.treeErrorsRow = true := by
  unfold joinedFacts
  with_reducible repeat' (refine Bool.and_eq_true_iff.2 ⟨?_, ?_⟩)
  all_goals (as_aux_lemma => kernel_rfl)
end Go.Proofs.YtmljcjjhakhjaaaDoor.treeErrorsDone
