import Derived.Test.YtdiaibkpcnknbaaDoorCore
namespace Go.Proofs.YtdiaibkpcnknbaaDoor
open Go.RowKit Go.Sort
set_option linter.unusedVariables false
theorem ret_val3 {a b : Bool} (h : a = b) : Value.bool a = .bool b := by rw [h]

/-! ### what package runs means -/
def goesB (a b : Run) : Bool := b.from_ == wrap64 (a.from_ + a.count) && b.at_ == wrap64 (a.at_ + a.count)
def ok1 (r : Run) : Bool := decide (0 ≤ r.from_) && decide (0 ≤ r.at_) && decide (1 ≤ r.count) && decide (r.count ≤ 64) && decide (r.from_ ≤ 64 - r.count) && decide (r.at_ ≤ 2147483648 - r.count)
theorem ok1_iff (r : Run) : ok1 r = true ↔ 0 ≤ r.from_ ∧ 0 ≤ r.at_ ∧ 1 ≤ r.count ∧ r.count ≤ 64 ∧ r.from_ ≤ 64 - r.count ∧ r.at_ ≤ 2147483648 - r.count := by
  simp [ok1, and_assoc]
def okPair (p r : Run) : Bool := !(decide (r.from_ < p.from_ + p.count)) && !goesB p r
/-- The run number i is right, and fits the one ahead. -/
def okAt (xs : List Run) (i : Nat) : Bool := ok1 (xs.getD i default) && (i == 0 || okPair (xs.getD (i - 1) default) (xs.getD i default))
def rightB (xs : List Run) : Bool := (List.range xs.length).all (okAt xs)
theorem rightB_true {xs : List Run} (h : ∀ i, i < xs.length → okAt xs i = true) : rightB xs = true := by
  unfold rightB; rw [List.all_eq_true]; intro i hi; exact h i (by simpa using hi)
theorem rightB_false {xs : List Run} {i : Nat} (hi : i < xs.length) (h : okAt xs i = false) : rightB xs = false := by
  unfold rightB
  rw [List.all_eq_false]
  exact ⟨i, by simpa using hi, by simp [h]⟩
theorem rightB_at {xs : List Run} (h : rightB xs = true) {i : Nat} (hi : i < xs.length) : okAt xs i = true := by
  unfold rightB at h; rw [List.all_eq_true] at h; exact h i (by simpa using hi)
theorem getD_run {xs : List Run} {i : Nat} {x : Run} (h : xs[i]? = some x) : xs.getD i default = x := by rw [List.getD_eq_getElem?_getD, h]; rfl
theorem rightB_ok1 {xs : List Run} (h : rightB xs = true) {i : Nat} {x : Run} (hx : xs[i]? = some x) : ok1 x = true := by
  have := rightB_at h (List.getElem?_eq_some_iff.1 hx).1
  simp only [okAt, Bool.and_eq_true, getD_run hx] at this
  exact this.1

end Go.Proofs.YtdiaibkpcnknbaaDoor
