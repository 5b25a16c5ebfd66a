import Derived.Test.YteolmamiblddjaaRuns
import Derived.Test.YteolmamiblddjaaClone
namespace Go.Proofs.Yteolmamiblddjaa
open Go.RowKit Go.Sort
set_option linter.unusedVariables false

/-! ### Get -/
def getHit (index : Int) (x : Run) : Bool := decide (0 < x.count) && decide (x.from_ ≤ index) && decide (IntKind.u64.wrap (IntKind.u64.wrap index - IntKind.u64.wrap x.from_) < IntKind.u64.wrap x.count)
def getB (xs : List Run) (index : Int) : Option Int := (xs.find? (getHit index)).map fun x => wrap64 (x.at_ + wrap64 (index - x.from_))
theorem find_none_take {α : Type} {p : α → Bool} {xs : List α} {k : Nat} {x : α} (h : ∀ i y, i < k → xs[i]? = some y → p y = false) (hx : xs[k]? = some x) (hp : p x = true) : xs.find? p = some x := by
  have hk := (List.getElem?_eq_some_iff.1 hx)
  have e : xs = xs.take k ++ (x :: xs.drop (k + 1)) := by
    obtain ⟨h1, h2⟩ := hk
    rw [← h2, List.getElem_cons_drop, List.take_append_drop]
  rw [e, List.find?_append]
  have : (xs.take k).find? p = none := by
    rw [List.find?_eq_none]
    intro y hy
    obtain ⟨i, hi, rfl⟩ := List.mem_iff_getElem.1 hy
    have hi2 : i < k ∧ i < xs.length := by simpa [Nat.lt_min] using hi
    rw [List.getElem_take, h i _ hi2.1 (List.getElem?_eq_getElem hi2.2)]
    simp
  rw [this, List.find?_cons, hp]
  rfl
theorem find_none_all {α : Type} {p : α → Bool} {xs : List α} (h : ∀ i y, i < xs.length → xs[i]? = some y → p y = false) : xs.find? p = none := by
  rw [List.find?_eq_none]
  intro y hy
  obtain ⟨i, hi, rfl⟩ := List.mem_iff_getElem.1 hy
  rw [h i _ hi (List.getElem?_eq_getElem _)]
  simp
theorem ret_ib' {k : IntKind} {a b : Int} {c d : Bool} (h : a = b) (h' : c = d) : Ending.returned (.tuple #[.int k a, .bool c]) = .returned (.tuple #[.int k b, .bool d]) := by rw [h, h']
/-! ### places -/
def plRun (x : Run) (n : Int) (f : Int → Option Value) : Int → Option Value := fun a => if x.from_ ≤ a ∧ a < x.from_ + n then some (.int .i64 (x.at_ + (a - x.from_))) else f a
def placesF (xs : List Run) : Int → Option Value := xs.foldl (fun f x => plRun x x.count f) (fun _ => none)
theorem placesF_snoc (xs : List Run) (k : Nat) (x : Run) (hx : xs[k]? = some x) : placesF (xs.take (k + 1)) = plRun x x.count (placesF (xs.take k)) := by
  unfold placesF
  rw [List.take_add_one, hx]
  simp [List.foldl_append]
theorem plRun_zero (x : Run) (f : Int → Option Value) (a : Int) : f a = plRun x 0 f a := by
  unfold plRun
  rw [if_neg (by omega)]
theorem plRun_succ (x : Run) (j : Int) (hj : 0 ≤ j) (f : Int → Option Value) (a : Int) : (if a = x.from_ + j then some (Value.int .i64 (x.at_ + j)) else plRun x j f a) = plRun x (j + 1) f a := by
  unfold plRun
  by_cases h : a = x.from_ + j
  · rw [if_pos h, if_pos (by omega)]
    rw [show x.at_ + (a - x.from_) = x.at_ + j from by omega]
  · rw [if_neg h]
    by_cases h2 : x.from_ ≤ a ∧ a < x.from_ + j
    · rw [if_pos h2, if_pos (by omega)]
    · rw [if_neg h2, if_neg (by omega)]
end Go.Proofs.Yteolmamiblddjaa
