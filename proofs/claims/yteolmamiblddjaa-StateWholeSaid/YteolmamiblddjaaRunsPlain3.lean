import Derived.Test.YteolmamiblddjaaRunsPlain
/-! How many runs there are, told page by page. -/
namespace Go.Proofs.Yteolmamiblddjaa
open Go.RowKit
set_option linter.unusedVariables false
theorem cut_ends {xs : List Run} {n : Int} {y : Run} (hy : y ∈ cutL xs n) : y.from_ + y.count ≤ n := by
  unfold cutL at hy
  obtain ⟨x, hx, hy⟩ := List.mem_flatMap.1 hy
  unfold cut1 at hy
  split at hy
  · simp at hy; subst hy; simp only; split <;> omega
  · cases hy
theorem right_starts (xs : List Run) (hR : rightB xs = true) : ∀ k : Nat, k ≤ 64 → (cutL xs k).length = startsG (getB xs) k
  | 0, _ => by
    have := cutL_zero xs hR
    show (cutL xs 0).length = 0
    rw [this]; rfl
  | k + 1, hk => by
    have ih := right_starts xs hR k (by omega)
    obtain ⟨hc, hg⟩ := cut_right xs k hR
    have he : ∀ y ∈ cutL xs (k : Int), y.from_ + y.count ≤ (k : Int) := fun y hy => cut_ends hy
    rw [cut_step xs k (by omega) hR]
    show _ = startsG (getB xs) k + if startB (getB xs) k then 1 else 0
    rw [← ih]
    have hg1 : 0 < k → getB (cutL xs (k : Int)) ((k : Int) - 1) = getB xs ((k : Int) - 1) := fun h0 => by
      rw [hg _ (by omega) (by omega), if_pos (by omega)]
    generalize cutL xs (k : Int) = l at *
    cases hv : getB xs (k : Int) with
    | none => simp [startB, hv, drawStep]
    | some v =>
      rcases nil_or_snoc l with rfl | ⟨l0, p, rfl⟩
      · have hs : startB (getB xs) k = true := by
          unfold startB
          rw [hv]
          by_cases h0 : k = 0
          · simp [h0]
          · have h1 := hg1 (by omega)
            have h2 : getB ([] : List Run) ((k : Int) - 1) = none := rfl
            rw [h2] at h1
            simp [← h1]
        rw [hs]; rfl
      · obtain ⟨j1, j2, _⟩ := (rightB_snoc _ _).1 hc
        obtain ⟨x0, x1, x2, x3, x4, x5⟩ := (ok1_iff p).1 j2
        have hpe := he p (by simp)
        have h0 : 0 < k := by omega
        have h1 := hg1 h0
        have hends := right_ends l0 p hc
        rw [drawStep_snoc]
        by_cases hgo : goesB p ⟨k, v, 1⟩ = true
        · rw [if_pos hgo]
          obtain ⟨e1, e2⟩ := (goesB_iff j2).1 hgo
          rw [getB_snoc _ _ j2 (by omega) (by omega), getB_none_end l0 (by omega) (by omega) j1 (fun y hy => by have := hends y hy; omega), if_pos (by omega), Option.none_or] at h1
          have hs : startB (getB xs) k = false := by
            unfold startB
            rw [hv, ← h1]
            have : p.at_ + ((k : Int) - 1 - p.from_) = v - 1 := by omega
            simp [this]
            omega
          rw [hs]; simp
        · rw [if_neg hgo]
          have hs : startB (getB xs) k = true := by
            unfold startB
            rw [hv, ← h1]
            by_cases h2 : p.from_ + p.count = (k : Int)
            · rw [getB_snoc _ _ j2 (by omega) (by omega), getB_none_end l0 (by omega) (by omega) j1 (fun y hy => by have := hends y hy; omega), if_pos (by omega), Option.none_or]
              have h3 : ¬ (p.at_ + ((k : Int) - 1 - p.from_) = v - 1) := fun h => hgo ((goesB_iff j2).2 ⟨by omega, by omega⟩)
              simp [h3]
            · rw [getB_none_end (l0 ++ [p]) (by omega) (by omega) hc (fun y hy => by
                rcases List.mem_append.1 hy with hy | hy
                · have := hends y hy; omega
                · simp at hy; subst hy; omega)]
              simp
          rw [hs]; simp
theorem right_all {xs : List Run} (hR : rightB xs = true) : cutL xs ((64 : Nat) : Int) = xs :=
  cutL_all xs _ hR (fun y hy => by
    obtain ⟨i, hi, rfl⟩ := List.mem_iff_getElem.1 hy
    obtain ⟨_, _, _, _, x4, _⟩ := (ok1_iff _).1 (rightB_ok1 hR (List.getElem?_eq_getElem hi))
    show _ ≤ (64 : Int)
    omega)
/-- So many runs, and so many pages. -/
theorem right_told {xs : List Run} (hR : rightB xs = true) : xs.length = startsG (getB xs) 64 ∧ (pagesR xs).length = cntG (getB xs) 64 := by
  have h1 := right_starts xs hR 64 (Nat.le_refl _)
  have h2 := right_cnt xs hR 64 (Nat.le_refl _)
  rw [right_all hR] at h1 h2
  refine ⟨h1, ?_⟩
  unfold pagesR
  rw [if_pos hR, h2]
end Go.Proofs.Yteolmamiblddjaa
