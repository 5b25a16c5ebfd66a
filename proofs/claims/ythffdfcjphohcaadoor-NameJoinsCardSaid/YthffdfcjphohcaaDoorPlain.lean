import Derived.Test.YthffdfcjphohcaaDoorKeys
import Derived.Laws.StructEq
namespace Go.Proofs.YthffdfcjphohcaaDoor
open Go.RowKit Go.Sort
set_option linter.unusedVariables false
theorem bytes_toList_eq (a b : ByteArray) : (a.toList = b.toList) = (a = b) := propext ⟨bytes_toList_inj, fun h => by rw [h]⟩
theorem take_eq_snoc {α : Type} {xs ys : List α} {k : Nat} {x y : α} (h : xs.take k = ys.take k) (hx : xs[k]? = some x) (hy : ys[k]? = some y) (e : x = y) : xs.take (k + 1) = ys.take (k + 1) := by
  rw [List.take_add_one, List.take_add_one, h, hx, hy, e]
theorem ne_of_at {α : Type} {xs ys : List α} {k : Nat} {x y : α} (hx : xs[k]? = some x) (hy : ys[k]? = some y) (e : x ≠ y) : xs ≠ ys := fun h => by
  rw [h, hy] at hx; cases hx; exact e rfl
instance : DecidableEq Block := fun a b => by
  obtain ⟨a0, a1, a2, a3⟩ := a
  obtain ⟨b0, b1, b2, b3⟩ := b
  simp only [Block.mk.injEq]
  exact inferInstance
instance : DecidableEq Run := fun a b => by
  obtain ⟨a0, a1, a2⟩ := a
  obtain ⟨b0, b1, b2⟩ := b
  simp only [Run.mk.injEq]
  exact inferInstance
instance : DecidableEq Entry := fun a b => by
  obtain ⟨a0, a1⟩ := a
  obtain ⟨b0, b1⟩ := b
  simp only [Entry.mk.injEq]
  exact inferInstance
end Go.Proofs.YthffdfcjphohcaaDoor
