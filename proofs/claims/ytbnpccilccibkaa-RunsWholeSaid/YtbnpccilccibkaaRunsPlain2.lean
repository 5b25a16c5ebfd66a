import Derived.Test.YtbnpccilccibkaaRunsPlain
namespace Go.Proofs.Ytbnpccilccibkaa
open Go.RowKit
set_option linter.unusedVariables false
theorem right_single {x : Run} (h : ok1 x = true) : rightB [x] = true := (rightB_snoc [] _).2 ⟨rfl, h, fun h => by simp at h⟩
theorem getB_single {x : Run} (h : ok1 x = true) {q : Int} (q0 : 0 ≤ q) (q1 : q < 64) : getB [x] q = if x.from_ ≤ q ∧ q < x.from_ + x.count then some (x.at_ + (q - x.from_)) else none := by
  have e := getB_snoc [] x h q0 q1
  simpa [getB] using e
theorem right_two {x y : Run} (hx : ok1 x = true) (hy : ok1 y = true) (h1 : x.from_ + x.count ≤ y.from_) (h2 : y.at_ ≠ x.at_ + x.count) : rightB [x, y] = true :=
  (rightB_snoc [x] y).2 ⟨right_single hx, hy, fun _ => okPair_iff.2 ⟨h1, by
    cases hg : goesB x y with
    | false => exact hg
    | true => exact absurd ((goesB_iff hx (i := y.from_) (v := y.at_) (c := y.count)).1 hg).2 h2⟩⟩
theorem whole_back {fr ac nn ot : Nat} (hf : fr < 40) (ha : ac < 100000) (hn1 : 3 ≤ nn) (hn : nn ≤ 22) (ho : ot < nn) :
    ∃ m, setR [⟨fr, ac, nn⟩] (fr + ot) (ac + nn + 7) = m ∧ setR m (fr + ot) (ac + ot) = [⟨fr, ac, nn⟩] ∧ m.length = (if ot = 0 ∨ ot = nn - 1 then 2 else 3) ∧ (pagesR m).length = nn := by
  have hok : ok1 ⟨fr, ac, nn⟩ = true := (ok1_iff _).2 (by simp only; omega)
  have hR := right_single hok
  obtain ⟨s1, s2⟩ := set_right _ hR (i := (fr : Int) + ot) (a := (ac : Int) + nn + 7) (by omega) (by omega) (by omega) (by omega)
  refine ⟨_, rfl, ?_, ?_⟩
  · obtain ⟨t1, t2⟩ := set_right _ s1 (i := (fr : Int) + ot) (a := (ac : Int) + ot) (by omega) (by omega) (by omega) (by omega)
    refine right_same t1 hR (fun q q0 q1 => ?_)
    rw [t2 q q0 q1, s2 q q0 q1, getB_single hok q0 q1]
    simp only
    by_cases h : q = (fr : Int) + ot
    · rw [if_pos h, if_pos (by omega)]; congr 1; omega
    · rw [if_neg h, if_neg h]
  · have o1 : ok1 ⟨fr + ot, ac + nn + 7, 1⟩ = true := (ok1_iff _).2 (by simp only; omega)
    have ext : ∀ m : List Run, rightB m = true → (∀ q : Int, 0 ≤ q → q < 64 → getB m q = if q = (fr : Int) + ot then some ((ac : Int) + nn + 7) else if (fr : Int) ≤ q ∧ q < (fr : Int) + nn then some ((ac : Int) + (q - fr)) else none) → setR [⟨fr, ac, nn⟩] (fr + ot) (ac + nn + 7) = m := fun m hm hg =>
      right_same s1 hm (fun q q0 q1 => by rw [s2 q q0 q1, hg q q0 q1, getB_single hok q0 q1])
    by_cases h0 : ot = 0
    · have o2 : ok1 ⟨fr + 1, ac + 1, (nn : Int) - 1⟩ = true := (ok1_iff _).2 (by simp only; omega)
      have hm : rightB ([⟨fr + ot, ac + nn + 7, 1⟩, ⟨fr + 1, ac + 1, (nn : Int) - 1⟩] : List Run) = true := right_two o1 o2 (by simp only; omega) (by simp only; omega)
      have e := ext [⟨fr + ot, ac + nn + 7, 1⟩, ⟨fr + 1, ac + 1, (nn : Int) - 1⟩] hm (fun q q0 q1 => by
        have e := getB_snoc [⟨fr + ot, ac + nn + 7, 1⟩] ⟨fr + 1, ac + 1, (nn : Int) - 1⟩ o2 q0 q1
        rw [getB_single o1 q0 q1] at e
        simp only at e
        refine Eq.trans e ?_
        by_cases h : q = (fr : Int) + ot
        · rw [if_pos h, if_pos (by omega)]; simp; omega
        · rw [if_neg h, if_neg (by omega), Option.none_or]
          by_cases h5 : (fr : Int) ≤ q ∧ q < (fr : Int) + nn
          · rw [if_pos h5, if_pos (by omega)]; congr 1; omega
          · rw [if_neg h5, if_neg (by omega)])
      rw [e]
      refine ⟨by rw [if_pos (.inl h0)]; rfl, ?_⟩
      unfold pagesR
      rw [if_pos hm]
      simp [pagesL, pagesOf]
      omega
    · by_cases h1 : ot = nn - 1
      · have o2 : ok1 ⟨fr, ac, (nn : Int) - 1⟩ = true := (ok1_iff _).2 (by simp only; omega)
        have hm : rightB ([⟨fr, ac, (nn : Int) - 1⟩, ⟨fr + ot, ac + nn + 7, 1⟩] : List Run) = true := right_two o2 o1 (by simp only; omega) (by simp only; omega)
        have e := ext [⟨fr, ac, (nn : Int) - 1⟩, ⟨fr + ot, ac + nn + 7, 1⟩] hm (fun q q0 q1 => by
          have e := getB_snoc [⟨fr, ac, (nn : Int) - 1⟩] ⟨fr + ot, ac + nn + 7, 1⟩ o1 q0 q1
          rw [getB_single o2 q0 q1] at e
          simp only at e
          refine Eq.trans e ?_
          by_cases h : q = (fr : Int) + ot
          · rw [if_pos h, if_neg (by omega), if_pos (by omega), Option.none_or]; congr 1; omega
          · rw [if_neg h]
            by_cases h5 : (fr : Int) ≤ q ∧ q < (fr : Int) + nn
            · rw [if_pos h5, if_pos (by omega)]; rfl
            · rw [if_neg h5, if_neg (by omega), if_neg (by omega)]; rfl)
        rw [e]
        refine ⟨by rw [if_pos (.inr h1)]; rfl, ?_⟩
        unfold pagesR
        rw [if_pos hm]
        simp [pagesL, pagesOf]
        omega
      · have o2 : ok1 ⟨fr, ac, ot⟩ = true := (ok1_iff _).2 (by simp only; omega)
        have o3 : ok1 ⟨fr + ot + 1, ac + ot + 1, (nn : Int) - 1 - ot⟩ = true := (ok1_iff _).2 (by simp only; omega)
        have hm2 : rightB ([⟨fr, ac, ot⟩, ⟨fr + ot, ac + nn + 7, 1⟩] : List Run) = true := right_two o2 o1 (by simp only; omega) (by simp only; omega)
        have hm : rightB ([⟨fr, ac, ot⟩, ⟨fr + ot, ac + nn + 7, 1⟩, ⟨fr + ot + 1, ac + ot + 1, (nn : Int) - 1 - ot⟩] : List Run) = true :=
          (rightB_snoc [⟨fr, ac, ot⟩, ⟨fr + ot, ac + nn + 7, 1⟩] _).2 ⟨hm2, o3, fun _ => okPair_iff.2 ⟨by show (fr : Int) + ot + 1 ≤ fr + ot + 1; omega, by
            cases hg : goesB (⟨fr + ot, ac + nn + 7, 1⟩ : Run) ⟨fr + ot + 1, ac + ot + 1, (nn : Int) - 1 - ot⟩ with
            | false => exact hg
            | true => have := ((goesB_iff o1).1 hg).2; simp only at this; omega⟩⟩
        have e := ext [⟨fr, ac, ot⟩, ⟨fr + ot, ac + nn + 7, 1⟩, ⟨fr + ot + 1, ac + ot + 1, (nn : Int) - 1 - ot⟩] hm (fun q q0 q1 => by
          have e0 := getB_snoc [⟨fr, ac, ot⟩] ⟨fr + ot, ac + nn + 7, 1⟩ o1 q0 q1
          rw [getB_single o2 q0 q1] at e0
          have e := getB_snoc [⟨fr, ac, ot⟩, ⟨fr + ot, ac + nn + 7, 1⟩] ⟨fr + ot + 1, ac + ot + 1, (nn : Int) - 1 - ot⟩ o3 q0 q1
          have e0' : getB ([⟨fr, ac, ot⟩, ⟨fr + ot, ac + nn + 7, 1⟩] : List Run) q = _ := e0
          rw [e0'] at e
          simp only at e
          refine Eq.trans e ?_
          by_cases h : q = (fr : Int) + ot
          · rw [if_pos h, if_neg (by omega), if_pos (by omega), Option.none_or, Option.some_or]; congr 1; omega
          · rw [if_neg h]
            by_cases h5 : (fr : Int) ≤ q ∧ q < (fr : Int) + nn
            · rw [if_pos h5]
              by_cases h6 : q < (fr : Int) + ot
              · rw [if_pos (by omega)]; rfl
              · rw [if_neg (by omega), if_neg (by omega), if_pos (by omega), Option.none_or, Option.none_or]; congr 1; omega
            · rw [if_neg h5, if_neg (by omega), if_neg (by omega), if_neg (by omega)]; rfl)
        rw [e]
        refine ⟨by rw [if_neg (by omega)]; rfl, ?_⟩
        unfold pagesR
        rw [if_pos hm]
        simp [pagesL, pagesOf]
        omega
end Go.Proofs.Ytbnpccilccibkaa
