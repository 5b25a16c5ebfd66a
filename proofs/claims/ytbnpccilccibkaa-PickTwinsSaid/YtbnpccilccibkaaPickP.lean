import Derived.Test.YtbnpccilccibkaaPick3
namespace Go.Proofs.Ytbnpccilccibkaa
set_option linter.unusedVariables false
/-- An order without ties but for equals. -/
structure Weak (bet : Block → Block → Bool) : Prop where
  asym : ∀ a b, bet a b = true → bet b a = false
  cotr : ∀ a b c, bet a b = true → bet a c = true ∨ bet c b = true
theorem weak_younger : Weak younger := ⟨fun a b h => by simp [younger] at *; omega, fun a b c h => by simp [younger] at *; omega⟩
theorem weak_bestV : Weak bestV := ⟨fun a b h => by simp [bestV, younger] at *; omega, fun a b c h => by simp [bestV, younger] at *; omega⟩
theorem weak_none : Weak (fun _ _ => false) := ⟨fun a b h => by simp at h, fun a b c h => by simp at h⟩
theorem getD_of {xs : List Block} {i : Nat} {x : Block} (h : xs[i]? = some x) : xs.getD i default = x := by rw [List.getD_eq_getElem?_getD, h]; rfl
/-- What is best. -/
theorem best_spec (may : Int → Block → Bool) (bet : Block → Block → Bool) (W : Weak bet) (xs : List Block) : ∀ n, n ≤ xs.length →
    (bestGo may bet xs n < 0 → ∀ i : Nat, i < n → may i (xs.getD i default) = false) ∧
    (0 ≤ bestGo may bet xs n → may (bestGo may bet xs n) (xs.getD (bestGo may bet xs n).toNat default) = true ∧
      ∀ i : Nat, i < n → may i (xs.getD i default) = true → bet (xs.getD i default) (xs.getD (bestGo may bet xs n).toNat default) = false ∧ ((i : Int) < bestGo may bet xs n → bet (xs.getD (bestGo may bet xs n).toNat default) (xs.getD i default) = true)) := by
  intro n
  induction n with
  | zero => intro _; exact ⟨fun _ i hi => by omega, fun h => by simp [bestGo] at h⟩
  | succ k ih =>
    intro hk
    obtain ⟨i1, i2⟩ := ih (by omega)
    have hbd := bestGo_bd may bet xs k
    have hstep : bestGo may bet xs (k + 1) = if may k (xs.getD k default) && (decide (bestGo may bet xs k < 0) || bet (xs.getD k default) (xs.getD (bestGo may bet xs k).toNat default)) then (k : Int) else bestGo may bet xs k := rfl
    rw [hstep]
    generalize bestGo may bet xs k = r at *
    by_cases hc : (may k (xs.getD k default) && (decide (r < 0) || bet (xs.getD k default) (xs.getD r.toNat default))) = true
    · rw [if_pos hc]
      simp only [Bool.and_eq_true, Bool.or_eq_true, decide_eq_true_eq] at hc
      obtain ⟨h1, h2⟩ := hc
      refine ⟨fun h => by omega, fun _ => ⟨by simpa using h1, fun i hi hm => ?_⟩⟩
      simp only [Int.toNat_natCast]
      by_cases hik : i = k
      · subst hik
        have : bet (xs.getD i default) (xs.getD i default) = false := by
          cases e : bet (xs.getD i default) (xs.getD i default)
          · rfl
          · have := W.asym _ _ e; rw [e] at this; cases this
        exact ⟨this, fun h => by omega⟩
      · have hik' : i < k := by omega
        by_cases hr : r < 0
        · have := i1 hr i hik'; rw [this] at hm; cases hm
        · have hb := h2.resolve_left hr
          obtain ⟨_, j2⟩ := i2 (by omega)
          obtain ⟨j3, _⟩ := j2 i hik' hm
          have h4 : bet (xs.getD k default) (xs.getD i default) = true := (W.cotr _ _ (xs.getD i default) hb).resolve_right (by rw [j3]; simp)
          exact ⟨W.asym _ _ h4, fun _ => h4⟩
    · rw [if_neg hc]
      simp only [Bool.not_eq_true] at hc
      refine ⟨fun h i hi => ?_, fun h => ⟨(i2 h).1, fun i hi hm => ?_⟩⟩
      · by_cases hik : i = k
        · subst hik
          simp only [Bool.and_eq_false_iff, Bool.or_eq_false_iff, decide_eq_false_iff_not] at hc
          rcases hc with hc | hc
          · exact hc
          · exact absurd h hc.1
        · exact i1 h i (by omega)
      · by_cases hik : i = k
        · subst hik
          simp only [Bool.and_eq_false_iff, Bool.or_eq_false_iff, decide_eq_false_iff_not] at hc
          rcases hc with hc | hc
          · rw [hc] at hm; cases hm
          · exact ⟨hc.2, fun h' => by omega⟩
        · exact (i2 h).2 i (by omega) hm
/-- With no order the best is the first. -/
theorem best_first (may : Int → Block → Bool) (xs : List Block) (n : Nat) (hn : n ≤ xs.length) (i : Nat) (hi : i < n) (hm : may i (xs.getD i default) = true) (hf : ∀ j : Nat, j < i → may j (xs.getD j default) = false) : bestGo may (fun _ _ => false) xs n = i := by
  obtain ⟨h1, h2⟩ := best_spec may _ weak_none xs n hn
  have hbd := bestGo_bd may (fun _ _ => false) xs n
  generalize bestGo may (fun _ _ => false) xs n = r at *
  by_cases hr : r < 0
  · have := h1 hr i hi; rw [hm] at this; cases this
  · obtain ⟨h3, h4⟩ := h2 (by omega)
    have h5 := (h4 i hi hm).2
    have h6 : ¬ ((i : Int) < r) := fun h => by have := h5 h; cases this
    have h7 : ¬ (r < (i : Int)) := fun h => by
      have h8 := hf r.toNat (by omega)
      rw [show ((r.toNat : Nat) : Int) = r from by omega] at h8
      rw [h3] at h8; cases h8
    omega
theorem best_none (may : Int → Block → Bool) (bet : Block → Block → Bool) (xs : List Block) : ∀ n, (∀ j : Nat, j < n → may j (xs.getD j default) = false) → bestGo may bet xs n = -1 := by
  intro n
  induction n with
  | zero => intro _; rfl
  | succ k ih =>
    intro h
    simp only [bestGo, ih (fun j hj => h j (by omega)), h k (by omega), Bool.false_and, Bool.false_eq_true, if_false]
/-- What is told of the best, by elements. -/
structure BestOk (may : Int → Block → Bool) (bet : Block → Block → Bool) (xs : List Block) (a : Nat) (t : Bool) : Prop where
  yes : t = true → ∃ x, xs[a]? = some x ∧ may a x = true ∧ ∀ (i : Nat) y, xs[i]? = some y → may i y = true → bet y x = false ∧ (i < a → bet x y = true)
  no : t = false → a = 0 ∧ ∀ (i : Nat) y, xs[i]? = some y → may i y = false
theorem best_ok (may : Int → Block → Bool) (bet : Block → Block → Bool) (W : Weak bet) (xs : List Block) : ∃ (a : Nat) (t : Bool), max (bestGo may bet xs xs.length) 0 = (a : Int) ∧ decide (0 ≤ bestGo may bet xs xs.length) = t ∧ BestOk may bet xs a t := by
  obtain ⟨f1, f2⟩ := best_spec may bet W xs xs.length (Nat.le_refl _)
  have fb := bestGo_bd may bet xs xs.length
  generalize bestGo may bet xs xs.length = q at *
  refine ⟨(max q 0).toNat, _, by omega, rfl, fun ht => ?_, fun ht => ?_⟩
  · have h0 : 0 ≤ q := by simpa using ht
    obtain ⟨g1, g2⟩ := f2 h0
    rw [show max q 0 = q from by omega]
    have hlt : q.toNat < xs.length := by omega
    have hx : xs[q.toNat]? = some xs[q.toNat] := List.getElem?_eq_getElem hlt
    rw [getD_of hx] at g1 g2
    refine ⟨_, hx, by rw [show ((q.toNat : Nat) : Int) = q from by omega]; exact g1, fun i y hy hm => ?_⟩
    have hi := (List.getElem?_eq_some_iff.1 hy).1
    obtain ⟨g3, g4⟩ := g2 i hi (by rw [getD_of hy]; exact hm)
    rw [getD_of hy] at g3 g4
    exact ⟨g3, fun h => g4 (by omega)⟩
  · have h0 : ¬ 0 ≤ q := by simpa using ht
    refine ⟨by omega, fun i y hy => ?_⟩
    have := f1 (by omega) i (List.getElem?_eq_some_iff.1 hy).1
    rwa [getD_of hy] at this
end Go.Proofs.Ytbnpccilccibkaa
