import Derived.Test.YteolmamiblddjaaRuns5
namespace Go.Proofs.Yteolmamiblddjaa
open Go.RowKit Go.Sort
set_option linter.unusedVariables false
theorem ret_val6 {a b : Bool} (h : a = b) : Value.bool a = .bool b := by rw [h]
def plRunG (x : Run) (f : Int → Option Int) : Int → Option Int := fun a => if x.from_ ≤ a ∧ a < x.from_ + x.count then some (x.at_ + (a - x.from_)) else f a
def placesG (xs : List Run) : Int → Option Int := xs.foldl (fun f x => plRunG x f) (fun _ => none)
theorem placesFG_go (xs : List Run) : ∀ (f : Int → Option Value) (g : Int → Option Int), (∀ a, f a = (g a).map (Value.int .i64)) → ∀ a, xs.foldl (fun f x => plRun x x.count f) f a = (xs.foldl (fun f x => plRunG x f) g a).map (Value.int .i64) := by
  induction xs with
  | nil => intro f g h a; exact h a
  | cons x xs ih =>
    intro f g h a
    simp only [List.foldl_cons]
    apply ih
    intro a
    unfold plRun plRunG
    split
    · rfl
    · exact h a
theorem placesFG (xs : List Run) (a : Int) : placesF xs a = (placesG xs a).map (Value.int .i64) := placesFG_go xs (fun _ => none) (fun _ => none) (fun _ => rfl) a
def setG (xs : List Run) (i a : Int) : Int → Option Int := fun q => if q = i then some a else placesG xs q
def setR (xs : List Run) (i a : Int) : List Run :=
  if rightB xs then (if decide (i < 0) || decide (64 ≤ i) || decide (a < 0) || decide (2147483647 < a) then xs else drawnL (setG xs i a) 64) else []
end Go.Proofs.Yteolmamiblddjaa
