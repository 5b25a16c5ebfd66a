import Derived.Test.YtcnbnehammbncaaDoorStOwn
import Derived.Test.YtcnbnehammbncaaDoorDelF
namespace Go.Proofs.YtcnbnehammbncaaDoor
open Go.RowKit Go.Sort
set_option linter.unusedVariables false
/-! ### boxes at a function's head -/
theorem Ext.boxF {h h1 : FH} {w w1 : World} (E : Ext h w h1 w1) (C : Array Value) (T : TypeId) : ∃ h2, Ext h w h2 (w1.alloc (.cells C T)) ∧ h2 w1.heap.size = some (.cells C T (0, 0)) ∧ FLe h1 h2 ∧ h2 = h1.add w1.heap.size (.cells C T (0, 0)) :=
  ⟨_, (E.alloc _).add (heap_new _ _) (E.sits.none (Nat.le_refl _)) E.size, FH.add_same _ _ _, FLe.add (E.sits.none (Nat.le_refl _)) _, rfl⟩
theorem FH.at {h : FH} {g j : Nat} {C : Array Value} {T : TypeId} {v : Value} (hb : h g = some (.cells C T (0, 0))) (hv : C[j]? = some v) : h.cell ⟨g, j, none⟩ = some v := by
  unfold FH.cell; rw [hb]; exact hv
theorem Sits_at {h : FH} {w : World} (hs : Sits h w) {g j : Nat} {C : Array Value} {T : TypeId} {v : Value} (hb : h g = some (.cells C T (0, 0))) (hv : C[j]? = some v) : w.cell? ⟨g, j, none⟩ = some v := hs.cell (FH.at hb hv)
/-- Something that is the caller's own behind a call, or later. -/
theorem own_out {α : Type} [Enc α] {h h1 : FH} {w w1 : World} {base : Nat} {e : TypeId} {v : Value} {xs : List α} (O : OwnL h w base e v xs) (E : Ext h w h1 w1) : OwnL h1 w1 base e v xs := O.ext E
end Go.Proofs.YtcnbnehammbncaaDoor
