import Derived.Test.YteolmamiblddjaaRuns2
namespace Go.Proofs.Yteolmamiblddjaa
open Go.RowKit Go.Sort
set_option linter.unusedVariables false
/-! ### Pages, Count -/
def pagesOf (x : Run) : List Int := (List.range x.count.toNat).map fun i => x.at_ + (i : Nat)
def pagesL (xs : List Run) : List Int := xs.flatMap pagesOf
theorem pagesL_snoc (xs : List Run) (k : Nat) (x : Run) (hx : xs[k]? = some x) : pagesL (xs.take (k + 1)) = pagesL (xs.take k) ++ pagesOf x := by
  unfold pagesL
  rw [List.take_add_one, hx]
  simp [List.flatMap_append]
theorem rightB_step {xs : List Run} (hR : rightB xs = true) {k : Nat} {y x : Run} (hy : xs[k]? = some y) (hx : xs[k + 1]? = some x) : y.from_ + y.count ≤ x.from_ ∧ goesB y x = false := by
  have := rightB_at hR (List.getElem?_eq_some_iff.1 hx).1
  simp only [okAt, Bool.and_eq_true, getD_run hx, Nat.add_sub_cancel, getD_run hy] at this
  have h2 := this.2
  simp [okPair] at h2
  exact h2
theorem pages_le {xs : List Run} (hR : rightB xs = true) : ∀ (k : Nat) (x : Run), xs[k]? = some x → ((pagesL (xs.take (k + 1))).length : Int) ≤ x.from_ + x.count
  | 0, x, hx => by
    obtain ⟨x0, x1, x2, x3, x4, x5⟩ := (ok1_iff x).1 (rightB_ok1 hR hx)
    rw [pagesL_snoc xs 0 x hx]
    simp [pagesL, pagesOf]
    omega
  | k + 1, x, hx => by
    obtain ⟨x0, x1, x2, x3, x4, x5⟩ := (ok1_iff x).1 (rightB_ok1 hR hx)
    have hlt := (List.getElem?_eq_some_iff.1 hx).1
    obtain ⟨y, hy⟩ : ∃ y, xs[k]? = some y := ⟨xs[k]'(by omega), List.getElem?_eq_getElem _⟩
    have h1 := pages_le hR k y hy
    have h2 := (rightB_step hR hy hx).1
    rw [pagesL_snoc xs (k + 1) x hx, List.length_append]
    simp [pagesOf]
    omega
theorem pages_lt {xs : List Run} (hR : rightB xs = true) (k : Nat) (x : Run) (hx : xs[k]? = some x) : ((pagesL (xs.take k)).length : Int) + x.count ≤ 64 := by
  obtain ⟨x0, x1, x2, x3, x4, x5⟩ := (ok1_iff x).1 (rightB_ok1 hR hx)
  have h1 := pages_le hR k x hx
  rw [pagesL_snoc xs k x hx, List.length_append] at h1
  simp [pagesOf] at h1
  omega
theorem pagesOf_snoc (x : Run) (j : Nat) : (List.range (j + 1)).map (fun i => x.at_ + (i : Nat)) = (List.range j).map (fun i => x.at_ + ((i : Nat) : Int)) ++ [x.at_ + (j : Int)] := by
  rw [List.range_succ, List.map_append]; rfl
def pagesR (xs : List Run) : List Int := if rightB xs then pagesL xs else []
end Go.Proofs.Yteolmamiblddjaa
