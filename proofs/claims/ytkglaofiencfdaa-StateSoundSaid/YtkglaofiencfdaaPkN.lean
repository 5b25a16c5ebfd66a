import Derived.Test.YtkglaofiencfdaaPkAll
import Derived.Test.YtkglaofiencfdaaRMk
namespace Go.Proofs.Ytkglaofiencfdaa
open Go.RowKit Go.Sort
set_option linter.unusedVariables false
theorem walkF_okAt {xs : List Inode} {f : Bool} : ∀ {n : Nat} {st : Wk}, walkF (n + 1) xs st [] f = (st.at_, 0) := fun {n st} => rfl
theorem walkF_bad {xs : List Inode} {f : Bool} {n : Nat} : ∀ {st : Wk} {names : List ByteArray} {no cd : Int}, walkF n xs st names f = (no, cd) → cd ≠ 0 → no = 0 := by
  induction n with
  | zero => intro st names no cd h _; simp only [walkF, Prod.mk.injEq] at h; exact h.1.symm
  | succ n ih =>
    intro st names no cd h hc
    cases names with
    | nil => simp only [walkF, Prod.mk.injEq] at h; exact absurd h.2.symm hc
    | cons a names =>
      obtain ⟨⟨st', l, code⟩, hr⟩ : ∃ r, stepW xs st a (f || decide (0 < names.length)) = r := ⟨_, rfl⟩
      rw [walkF_cons hr] at h
      by_cases h0 : code = 0
      · rw [if_pos h0] at h; exact ih h hc
      · rw [if_neg h0] at h; simp only [Prod.mk.injEq] at h; exact h.1.symm
theorem walkP_bad {xs : List Inode} {f : Bool} {names : List ByteArray} {no cd : Int} (h : walkP xs names f = (no, cd)) (hc : cd ≠ 0) : no = 0 := walkF_bad h hc
end Go.Proofs.Ytkglaofiencfdaa
