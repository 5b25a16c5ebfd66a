import Derived.Test.YtcnbnehammbncaaDoorGrP
import Derived.Test.YtcnbnehammbncaaDoorPkI
import Derived.Test.YtcnbnehammbncaaDoorPkN
namespace Go.Proofs.YtcnbnehammbncaaDoor
open Go.RowKit Go.Sort
set_option linter.unusedVariables false
/-! ### ways that say the same -/
theorem walkP_up (xs : List Inode) (a : ByteArray) (names : List ByteArray) (f : Bool) (ha : (a.toList == [46, 46]) = false) : walkP xs (⟨#[46, 46]⟩ :: a :: names) f = walkP xs (a :: names) f := by
  show walkF ((8 * 402 + (names.length + 1)) + 1 + 1) xs st0 (⟨#[46, 46]⟩ :: a :: names) f = walkF ((8 * 402 + (names.length + 1)) + 1) xs st0 (a :: names) f
  generalize 8 * 402 + (names.length + 1) = n
  have e1 : walkF (n + 1 + 1) xs st0 (⟨#[46, 46]⟩ :: a :: names) f = (if (stepW xs st0 ⟨#[46, 46]⟩ (f || decide (0 < (a :: names).length))).2.2 = 0 then walkF (n + 1) xs (stepW xs st0 ⟨#[46, 46]⟩ (f || decide (0 < (a :: names).length))).1 ((stepW xs st0 ⟨#[46, 46]⟩ (f || decide (0 < (a :: names).length))).2.1 ++ (a :: names)) f else (0, (stepW xs st0 ⟨#[46, 46]⟩ (f || decide (0 < (a :: names).length))).2.2)) := rfl
  rw [e1]
  have h46 : ((⟨#[46, 46]⟩ : ByteArray).toList == [46, 46]) = true := by decide +kernel
  cases hx : findI xs 1 with
  | none =>
    have e2 : ∀ b g, stepW xs st0 b g = (st0, [], 11) := fun b g => by
      unfold stepW; rw [show st0.at_ = 1 from rfl, hx]
    rw [e2]
    show _ = (if (stepW xs st0 a (f || decide (0 < names.length))).2.2 = 0 then _ else (0, (stepW xs st0 a (f || decide (0 < names.length))).2.2))
    rw [e2]
    rfl
  | some x =>
    by_cases hk : x.kind = 2
    · have e2 : ∀ g, stepW xs st0 ⟨#[46, 46]⟩ g = (st0, [], 0) := fun g => by
        unfold stepW; rw [show st0.at_ = 1 from rfl, hx]
        simp only [hk, if_true, h46]
        rfl
      rw [e2]
      rfl
    · have e2 : ∀ b g, stepW xs st0 b g = (st0, [], 13) := fun b g => by
        unfold stepW; rw [show st0.at_ = 1 from rfl, hx]
        simp only [hk, if_false]
      rw [e2]
      show _ = (if (stepW xs st0 a (f || decide (0 < names.length))).2.2 = 0 then _ else (0, (stepW xs st0 a (f || decide (0 < names.length))).2.2))
      rw [e2]
      rfl
/-- A way, and what says the same. -/
structure SaysSame (w : ByteArray) : Prop where
  size : w.size ≤ 10
  res1 : ∀ xs, resolveP xs (⟨#[47, 46]⟩ ++ w ++ ⟨#[47, 47, 46]⟩) false = resolveP xs w false
  res2 : ∀ xs, resolveP xs (⟨#[47, 46, 46]⟩ ++ w) false = resolveP xs w false
  par : ∀ xs, parentP xs (⟨#[47, 47]⟩ ++ w ++ ⟨#[47, 46, 47]⟩) = parentP xs w
theorem same_of {w : ByteArray} {a : ByteArray} {names : List ByteArray} (h0 : w.size ≤ 10) (hw : waysCode w = 0) (hx : waysXs w = a :: names) (ha : (a.toList == [46, 46]) = false)
    (h1 : waysCode (⟨#[47, 46]⟩ ++ w ++ ⟨#[47, 47, 46]⟩) = 0) (x1 : waysXs (⟨#[47, 46]⟩ ++ w ++ ⟨#[47, 47, 46]⟩) = a :: names)
    (h2 : waysCode (⟨#[47, 46, 46]⟩ ++ w) = 0) (x2 : waysXs (⟨#[47, 46, 46]⟩ ++ w) = ⟨#[46, 46]⟩ :: a :: names)
    (h3 : waysCode (⟨#[47, 47]⟩ ++ w ++ ⟨#[47, 46, 47]⟩) = 0) (x3 : waysXs (⟨#[47, 47]⟩ ++ w ++ ⟨#[47, 46, 47]⟩) = a :: names) : SaysSame w :=
  ⟨h0, fun xs => by unfold resolveP; rw [h1, hw, x1, hx], fun xs => by unfold resolveP; rw [if_pos h2, if_pos hw, x2, hx]; exact walkP_up xs a names false ha, fun xs => by unfold parentP; rw [h3, hw, x3, hx]⟩
def fiveW : List ByteArray := [⟨#[47, 97]⟩, ⟨#[47, 98]⟩, ⟨#[47, 100]⟩, ⟨#[47, 100, 47, 97]⟩, ⟨#[47, 100, 47, 98]⟩]
theorem five_same : ∀ w ∈ fiveW, SaysSame w := by
  intro w hw
  simp only [fiveW, List.mem_cons, List.not_mem_nil, or_false] at hw
  rcases hw with rfl | rfl | rfl | rfl | rfl
  · exact same_of (a := ⟨#[97]⟩) (names := []) (by decide +kernel) (by decide +kernel) (by decide +kernel) (by decide +kernel) (by decide +kernel) (by decide +kernel) (by decide +kernel) (by decide +kernel) (by decide +kernel) (by decide +kernel)
  · exact same_of (a := ⟨#[98]⟩) (names := []) (by decide +kernel) (by decide +kernel) (by decide +kernel) (by decide +kernel) (by decide +kernel) (by decide +kernel) (by decide +kernel) (by decide +kernel) (by decide +kernel) (by decide +kernel)
  · exact same_of (a := ⟨#[100]⟩) (names := []) (by decide +kernel) (by decide +kernel) (by decide +kernel) (by decide +kernel) (by decide +kernel) (by decide +kernel) (by decide +kernel) (by decide +kernel) (by decide +kernel) (by decide +kernel)
  · exact same_of (a := ⟨#[100]⟩) (names := [⟨#[97]⟩]) (by decide +kernel) (by decide +kernel) (by decide +kernel) (by decide +kernel) (by decide +kernel) (by decide +kernel) (by decide +kernel) (by decide +kernel) (by decide +kernel) (by decide +kernel)
  · exact same_of (a := ⟨#[100]⟩) (names := [⟨#[98]⟩]) (by decide +kernel) (by decide +kernel) (by decide +kernel) (by decide +kernel) (by decide +kernel) (by decide +kernel) (by decide +kernel) (by decide +kernel) (by decide +kernel) (by decide +kernel)
end Go.Proofs.YtcnbnehammbncaaDoor
