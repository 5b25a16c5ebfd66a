import Derived.Test.YtcnbnehammbncaaDoorBox
import Derived.Test.YtcnbnehammbncaaDoorCore
namespace Go.Proofs.YtcnbnehammbncaaDoor
open Go.RowKit Go.Sort
set_option linter.unusedVariables false
def ixB {α : Type} (p : α → Bool) (xs : List α) : Int := match xs.findIdx? p with
  | some i => (i : Int)
  | none => -1
theorem ixB_hit {α : Type} {p : α → Bool} {xs : List α} {k : Nat} {x : α} (h : ∀ i y, i < k → xs[i]? = some y → p y = false) (hx : xs[k]? = some x) (hp : p x = true) : ixB p xs = (k : Int) := by
  unfold ixB
  have : xs.findIdx? p = some k := by
    rw [List.findIdx?_eq_some_iff_getElem]
    obtain ⟨hk, he⟩ := List.getElem?_eq_some_iff.1 hx
    exact ⟨hk, by rw [he]; exact hp, fun j hj => by
      have := h j (xs[j]'(by omega)) hj (List.getElem?_eq_getElem _)
      simp [this]⟩
  rw [this]
theorem ixB_none {α : Type} {p : α → Bool} {xs : List α} (h : ∀ i y, i < xs.length → xs[i]? = some y → p y = false) : ixB p xs = -1 := by
  unfold ixB
  have : xs.findIdx? p = none := by
    rw [List.findIdx?_eq_none_iff]
    intro y hy
    obtain ⟨i, hi, rfl⟩ := List.mem_iff_getElem.1 hy
    exact h i _ hi (List.getElem?_eq_getElem _)
  rw [this]
theorem no_step {α : Type} {p : α → Bool} {xs : List α} {k : Nat} {x : α} (h : ∀ i y, i < k → xs[i]? = some y → p y = false) (hx : xs[k]? = some x) (hp : p x = false) : ∀ i y, i < k + 1 → xs[i]? = some y → p y = false := fun i y hi hy => by
  by_cases e : i = k
  · subst e; rw [hx] at hy; cases hy; exact hp
  · exact h i y (by omega) hy
def isI (no : Int) (x : Inode) : Bool := x.no == no
def gtI (no : Int) (x : Inode) : Bool := decide (no < x.no)
def gtZ (no : Int) (x : Int) : Bool := decide (no < x)
def eqZ (no : Int) (x : Int) : Bool := no == x
theorem ixB_any {α : Type} (p : α → Bool) (xs : List α) : decide (0 ≤ ixB p xs) = xs.any p := by
  unfold ixB
  cases e : xs.findIdx? p with
  | none =>
    have := List.findIdx?_eq_none_iff.1 e
    rw [List.any_eq_false.2 (fun y hy => by simp [this y hy])]
    rfl
  | some i =>
    obtain ⟨hi, hp, _⟩ := List.findIdx?_eq_some_iff_getElem.1 e
    rw [List.any_eq_true.2 ⟨_, List.getElem_mem hi, hp⟩]
    simp
end Go.Proofs.YtcnbnehammbncaaDoor
