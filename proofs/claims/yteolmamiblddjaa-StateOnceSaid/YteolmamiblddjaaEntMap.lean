import Derived.Test.YteolmamiblddjaaRefEnt
import Derived.Test.YteolmamiblddjaaMapOps
namespace Go.Proofs.Yteolmamiblddjaa
open Go.RowKit Go.Sort
set_option linter.unusedVariables false
/-! ### entries: places, Find -/
def firstIx : List Entry → Nat → ByteArray → Option Nat
  | [], _, _ => none
  | x :: xs, i, a => if a = x.name then some i else firstIx xs (i + 1) a
def placesE (xs : List Entry) (k : Nat) : ByteArray → Option Value := fun a => (firstIx (xs.drop k) k a).map fun j => Value.int .i64 (j : Nat)
theorem placesE_end (xs : List Entry) (a : ByteArray) : placesE xs xs.length a = none := by unfold placesE; rw [List.drop_length]; rfl
theorem placesE_step {xs : List Entry} {k : Nat} {x : Entry} (hx : xs[k]? = some x) (a : ByteArray) : placesE xs k a = if a = x.name then some (Value.int .i64 (k : Nat)) else placesE xs (k + 1) a := by
  obtain ⟨hk, he⟩ := List.getElem?_eq_some_iff.1 hx
  unfold placesE
  rw [List.drop_eq_getElem_cons hk, he]
  show (if a = x.name then some k else firstIx (xs.drop (k + 1)) (k + 1) a).map _ = _
  split <;> rfl
theorem firstIx_none : ∀ {xs : List Entry} {i : Nat} {a : ByteArray}, firstIx xs i a = none → findE xs a = none ∧ xs.findIdx? (isE a) = none
  | [], _, _, _ => ⟨rfl, rfl⟩
  | x :: xs, i, a, h => by
    unfold firstIx at h
    split at h
    · cases h
    · rename_i hne
      obtain ⟨h1, h2⟩ := firstIx_none h
      have hp : isE a x = false := decide_eq_false (fun e => hne e.symm)
      refine ⟨?_, ?_⟩
      · unfold findE at h1 ⊢
        rw [List.find?_cons, hp]; exact h1
      · rw [List.findIdx?_cons, hp]
        simp [h2]
theorem firstIx_some : ∀ {xs : List Entry} {i j : Nat} {a : ByteArray}, firstIx xs i a = some j → i ≤ j ∧ ∃ y, xs[j - i]? = some y ∧ findE xs a = some y.no ∧ xs.findIdx? (isE a) = some (j - i)
  | [], _, _, _, h => by cases h
  | x :: xs, i, j, a, h => by
    unfold firstIx at h
    split at h
    · rename_i he
      cases h
      have hp : isE a x = true := decide_eq_true he.symm
      refine ⟨Nat.le_refl _, x, by simp, ?_, ?_⟩
      · unfold findE; rw [List.find?_cons, hp]; rfl
      · rw [List.findIdx?_cons, hp]; simp
    · rename_i hne
      obtain ⟨h1, y, h2, h3, h4⟩ := firstIx_some h
      have hp : isE a x = false := decide_eq_false (fun e => hne e.symm)
      have e : j - i = (j - (i + 1)) + 1 := by omega
      refine ⟨by omega, y, by rw [e]; simpa using h2, ?_, ?_⟩
      · unfold findE at h3 ⊢
        rw [List.find?_cons, hp]; exact h3
      · rw [List.findIdx?_cons, hp, e]
        simp [h4]
end Go.Proofs.Yteolmamiblddjaa
