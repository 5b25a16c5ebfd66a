import Derived.Test.YtkglaofiencfdaaRows
import Derived.JoinedOf
namespace Go.Proofs.Ytkglaofiencfdaa.stateSoundDone
/- The closed facts of the row, one by one. -/
set_option maxHeartbeats 0 in
set_option maxRecDepth 100000 in
theorem facts : joinedFacts Try.pinned.checked.prog 3 Try.f3 Rows.stateSoundSpec Rows.stateSoundRow = true := by
  unfold joinedFacts
  with_reducible repeat' (refine Bool.and_eq_true_iff.2 ⟨?_, ?_⟩)
  all_goals (as_aux_lemma => kernel_rfl)
end Go.Proofs.Ytkglaofiencfdaa.stateSoundDone
