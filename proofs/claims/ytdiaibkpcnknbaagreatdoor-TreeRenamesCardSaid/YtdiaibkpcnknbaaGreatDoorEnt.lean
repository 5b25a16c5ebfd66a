import Derived.Test.YtdiaibkpcnknbaaGreatDoorNameF
import Derived.Test.YtdiaibkpcnknbaaGreatDoorRuns
namespace Go.Proofs.YtdiaibkpcnknbaaGreatDoor
open Go.RowKit Go.Sort
set_option linter.unusedVariables false
/-! ### what entries mean -/
def leB (a b : ByteArray) : Bool := Op.bytesLess a.toList b.toList || a.toList == b.toList
def okEnt (x : Entry) : Bool := nameB x.name && decide (0 < x.no)
def okEAt (xs : List Entry) (i : Nat) : Bool := okEnt (xs.getD i default) && (i == 0 || !leB (xs.getD i default).name (xs.getD (i - 1) default).name)
def rightE (xs : List Entry) : Bool := (List.range xs.length).all (okEAt xs) && decide (xs.length ≤ 100)
theorem rightE_true {xs : List Entry} (h : ∀ i, i < xs.length → okEAt xs i = true) : rightE xs = decide (xs.length ≤ 100) := by
  unfold rightE
  rw [show (List.range xs.length).all (okEAt xs) = true by rw [List.all_eq_true]; intro i hi; exact h i (by simpa using hi), Bool.true_and]
theorem rightE_false {xs : List Entry} {i : Nat} (hi : i < xs.length) (h : okEAt xs i = false) : rightE xs = false := by
  unfold rightE
  rw [show (List.range xs.length).all (okEAt xs) = false by rw [List.all_eq_false]; exact ⟨i, by simpa using hi, by simp [h]⟩, Bool.false_and]
theorem rightE_at {xs : List Entry} (h : rightE xs = true) {i : Nat} (hi : i < xs.length) : okEAt xs i = true := by
  unfold rightE at h
  rw [Bool.and_eq_true, List.all_eq_true] at h
  exact h.1 i (by simpa using hi)
theorem rightE_len {xs : List Entry} (h : rightE xs = true) : xs.length ≤ 100 := by
  unfold rightE at h
  rw [Bool.and_eq_true] at h
  simpa using h.2
theorem getD_ent {xs : List Entry} {i : Nat} {x : Entry} (h : xs[i]? = some x) : xs.getD i default = x := by rw [List.getD_eq_getElem?_getD, h]; rfl
theorem okE_a {xs : List Entry} {k : Nat} {x : Entry} (hx : xs[k]? = some x) (h : nameB x.name = false) : okEAt xs k = false := by simp only [okEAt, getD_ent hx, okEnt, h]; rfl
theorem okE_b {xs : List Entry} {k : Nat} {x : Entry} (hx : xs[k]? = some x) (h : x.no ≤ 0) : okEAt xs k = false := by
  have : decide (0 < x.no) = false := by simpa using h
  simp only [okEAt, getD_ent hx, okEnt, this, Bool.and_false, Bool.false_and]
theorem okE_c {xs : List Entry} {x : Entry} (hx : xs[0]? = some x) (h : nameB x.name = true) (h1 : 0 < x.no) : okEAt xs 0 = true := by
  have : decide (0 < x.no) = true := by simpa using h1
  simp only [okEAt, getD_ent hx, okEnt, h, this]; rfl
theorem okE_d {xs : List Entry} {m : Nat} {x y : Entry} (hx : xs[m + 1]? = some x) (hy : xs[m]? = some y) (h : nameB x.name = true) (h1 : 0 < x.no) : okEAt xs (m + 1) = !leB x.name y.name := by
  have : decide (0 < x.no) = true := by simpa using h1
  simp only [okEAt, getD_ent hx, Nat.add_sub_cancel, getD_ent hy, okEnt, h, this]; simp
end Go.Proofs.YtdiaibkpcnknbaaGreatDoor
