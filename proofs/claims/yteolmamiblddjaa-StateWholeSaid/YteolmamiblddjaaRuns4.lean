import Derived.Test.YteolmamiblddjaaRuns3
namespace Go.Proofs.Yteolmamiblddjaa
open Go.RowKit Go.Sort
set_option linter.unusedVariables false
/-! ### Cut -/
theorem right_from {xs : List Run} (hR : rightB xs = true) : ∀ (k : Nat) (x : Run), xs[k]? = some x → (k : Int) ≤ x.from_
  | 0, x, hx => by
    obtain ⟨x0, _⟩ := (ok1_iff x).1 (rightB_ok1 hR hx)
    exact x0
  | k + 1, x, hx => by
    have hlt := (List.getElem?_eq_some_iff.1 hx).1
    obtain ⟨y, hy⟩ : ∃ y, xs[k]? = some y := ⟨xs[k]'(by omega), List.getElem?_eq_getElem _⟩
    have h1 := right_from hR k y hy
    obtain ⟨_, _, y2, _⟩ := (ok1_iff y).1 (rightB_ok1 hR hy)
    have h2 := (rightB_step hR hy hx).1
    omega
theorem right_len {xs : List Run} (hR : rightB xs = true) : xs.length ≤ 64 := by
  rcases Nat.eq_zero_or_pos xs.length with h | h
  · omega
  · obtain ⟨x, hx⟩ : ∃ x, xs[xs.length - 1]? = some x := ⟨xs[xs.length - 1]'(by omega), List.getElem?_eq_getElem _⟩
    have h1 := right_from hR _ x hx
    obtain ⟨_, _, x2, _, x4, _⟩ := (ok1_iff x).1 (rightB_ok1 hR hx)
    omega
def cut1 (n : Int) (x : Run) : List Run := if x.from_ < n then [⟨x.from_, x.at_, (if n - x.from_ < x.count then n - x.from_ else x.count)⟩] else []
def cutL (xs : List Run) (n : Int) : List Run := xs.flatMap (cut1 n)
theorem cutL_snoc (xs : List Run) (n : Int) (k : Nat) (x : Run) (hx : xs[k]? = some x) : cutL (xs.take (k + 1)) n = cutL (xs.take k) n ++ cut1 n x := by
  unfold cutL
  rw [List.take_add_one, hx]
  simp [List.flatMap_append]
theorem cutL_len (xs : List Run) (n : Int) : (cutL xs n).length ≤ xs.length := by
  unfold cutL
  induction xs with
  | nil => simp
  | cons x xs ih =>
    simp only [List.flatMap_cons, List.length_append, List.length_cons]
    have : (cut1 n x).length ≤ 1 := by unfold cut1; split <;> simp
    omega
def cutR (xs : List Run) (n : Int) : List Run := if rightB xs then cutL xs n else []
end Go.Proofs.Yteolmamiblddjaa
