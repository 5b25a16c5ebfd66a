import Derived.Test.YtdiaibkpcnknbaaDoorApp
import Derived.Test.YtdiaibkpcnknbaaDoorEnt
import Derived.Test.YtdiaibkpcnknbaaDoorRunsAll
namespace Go.Proofs.YtdiaibkpcnknbaaDoor
open Go.RowKit Go.Sort
set_option linter.unusedVariables false
/-! ### finding an entry -/
def isE (s : ByteArray) (x : Entry) : Bool := decide (x.name = s)
def findE (xs : List Entry) (s : ByteArray) : Option Int := (xs.find? (isE s)).map (·.no)
theorem isE_eq (s : ByteArray) (x : Entry) : (x.name.toList == s.toList) = isE s x := bytes_toList_beq x.name s
theorem find_hit {α : Type} {p : α → Bool} {xs : List α} {k : Nat} {x : α} (h : ∀ i y, i < k → xs[i]? = some y → p y = false) (hx : xs[k]? = some x) (hp : p x = true) : xs.find? p = some x := find_none_take h hx hp
theorem not_step {α : Type} {p : α → Bool} {xs : List α} {k : Nat} {x : α} (h : ∀ i y, i < k → xs[i]? = some y → p y = false) (hx : xs[k]? = some x) (hp : p x = false) : ∀ i y, i < k + 1 → xs[i]? = some y → p y = false := fun i y hi hy => by
  by_cases e : i = k
  · subst e; rw [hx] at hy; cases hy; exact hp
  · exact h i y (by omega) hy
/-! ### taking an entry away -/
def remE (xs : List Entry) (s : ByteArray) : List Entry := match xs.findIdx? (isE s) with
  | some i => xs.take i ++ xs.drop (i + 1)
  | none => []
def remC (xs : List Entry) (s : ByteArray) : Int := if (findE xs s).isSome then 0 else 11
theorem findIdx_hit {α : Type} {p : α → Bool} {xs : List α} {k : Nat} {x : α} (h : ∀ i y, i < k → xs[i]? = some y → p y = false) (hx : xs[k]? = some x) (hp : p x = true) : xs.findIdx? p = some k := by
  rw [List.findIdx?_eq_some_iff_getElem]
  obtain ⟨hk, he⟩ := List.getElem?_eq_some_iff.1 hx
  refine ⟨hk, by rw [he]; exact hp, fun j hj => by
    have := h j (xs[j]'(by omega)) hj (List.getElem?_eq_getElem _)
    simp [this]⟩
theorem findIdx_none_all {α : Type} {p : α → Bool} {xs : List α} (h : ∀ i y, i < xs.length → xs[i]? = some y → p y = false) : xs.findIdx? p = none := by
  rw [List.findIdx?_eq_none_iff]
  intro y hy
  obtain ⟨i, hi, rfl⟩ := List.mem_iff_getElem.1 hy
  exact h i _ hi (List.getElem?_eq_getElem _)
theorem row_drop {h : FH} {b off c : Nat} {xs : List Entry} (r : RowAt h (some ⟨b, off, none⟩) xs) (k : Nat) (hk : k < xs.length) (hlc : xs.length ≤ c) : RowAt h (if c = k + 1 then some ⟨b, off, none⟩ else some ⟨b, off + (k + 1) * 2, none⟩) (xs.drop (k + 1)) := by
  by_cases e : c = k + 1
  · rw [if_pos e, List.drop_of_length_le (by omega)]; exact RowAt.nil _ _
  · rw [if_neg e]; exact r.dropN (k + 1)
end Go.Proofs.YtdiaibkpcnknbaaDoor
