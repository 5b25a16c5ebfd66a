import Derived.Test.YtkglaofiencfdaaRefEnt
import Derived.Test.YtkglaofiencfdaaCore
import Derived.Test.YtkglaofiencfdaaRefAdd
import Derived.Test.YtkglaofiencfdaaStAll
import Derived.Laws.CopyRow
namespace Go.Proofs.Ytkglaofiencfdaa
open Go.RowKit Go.Sort
set_option linter.unusedVariables false
/-! ### entries: places, Find -/
def firstIx : List Entry → Nat → ByteArray → Option Nat
  | [], _, _ => none
  | x :: xs, i, a => if a = x.name then some i else firstIx xs (i + 1) a
def placesE (xs : List Entry) (k : Nat) : ByteArray → Option Value := fun a => (firstIx (xs.drop k) k a).map fun j => Value.int .i64 (j : Nat)
theorem placesE_end (xs : List Entry) (a : ByteArray) : placesE xs xs.length a = none := by unfold placesE; rw [List.drop_length]; rfl
theorem placesE_step {xs : List Entry} {k : Nat} {x : Entry} (hx : xs[k]? = some x) (a : ByteArray) : placesE xs k a = if a = x.name then some (Value.int .i64 (k : Nat)) else placesE xs (k + 1) a := by
  obtain ⟨hk, he⟩ := List.getElem?_eq_some_iff.1 hx
  unfold placesE
  rw [List.drop_eq_getElem_cons hk, he]
  show (if a = x.name then some k else firstIx (xs.drop (k + 1)) (k + 1) a).map _ = _
  split <;> rfl
theorem firstIx_none : ∀ {xs : List Entry} {i : Nat} {a : ByteArray}, firstIx xs i a = none → findE xs a = none ∧ xs.findIdx? (isE a) = none
  | [], _, _, _ => ⟨rfl, rfl⟩
  | x :: xs, i, a, h => by
    unfold firstIx at h
    split at h
    · cases h
    · rename_i hne
      obtain ⟨h1, h2⟩ := firstIx_none h
      have hp : isE a x = false := decide_eq_false (fun e => hne e.symm)
      refine ⟨?_, ?_⟩
      · unfold findE at h1 ⊢
        rw [List.find?_cons, hp]; exact h1
      · rw [List.findIdx?_cons, hp]
        simp [h2]
theorem firstIx_some : ∀ {xs : List Entry} {i j : Nat} {a : ByteArray}, firstIx xs i a = some j → i ≤ j ∧ ∃ y, xs[j - i]? = some y ∧ findE xs a = some y.no ∧ xs.findIdx? (isE a) = some (j - i)
  | [], _, _, _, h => by cases h
  | x :: xs, i, j, a, h => by
    unfold firstIx at h
    split at h
    · rename_i he
      cases h
      have hp : isE a x = true := decide_eq_true he.symm
      refine ⟨Nat.le_refl _, x, by simp, ?_, ?_⟩
      · unfold findE; rw [List.find?_cons, hp]; rfl
      · rw [List.findIdx?_cons, hp]; simp
    · rename_i hne
      obtain ⟨h1, y, h2, h3, h4⟩ := firstIx_some h
      have hp : isE a x = false := decide_eq_false (fun e => hne e.symm)
      have e : j - i = (j - (i + 1)) + 1 := by omega
      refine ⟨by omega, y, by rw [e]; simpa using h2, ?_, ?_⟩
      · unfold findE at h3 ⊢
        rw [List.find?_cons, hp]; exact h3
      · rw [List.findIdx?_cons, hp, e]
        simp [h4]
end Go.Proofs.Ytkglaofiencfdaa

namespace Go.Proofs.Ytkglaofiencfdaa
open Go.RowKit Go.Sort
set_option linter.unusedVariables false
/-! ### entries.Add: the closure, slices.IndexFunc -/
theorem not_leB (a b : ByteArray) : (!Op.bytesLess a.toList b.toList && !(a.toList == b.toList)) = !leB a b := by unfold leB; rw [Bool.not_or]
def ixGt (xs : List Entry) (s : ByteArray) : Int := if posE xs s < xs.length then posE xs s else -1
end Go.Proofs.Ytkglaofiencfdaa

namespace Go.Proofs.Ytkglaofiencfdaa
open Go.RowKit Go.Sort
set_option linter.unusedVariables false
/-! ### slices.Insert at Entry, one element -/
theorem ent_row {h : FH} {gv : Nat} {e : Entry} (hsz : e.name.size ≤ 9223372036854775807) (hb : h gv = some (.cells #[.string e.name, .int .i64 e.no] 44 (0, 0))) : RowAt h (some ⟨gv, 0, none⟩) [e] :=
  RowAt.of_block hb ⟨_, _, rfl, ⟨rfl, hsz⟩, rfl⟩ (by simp)
theorem Reps.take2 {h : FH} : ∀ {cells : List Value} {xs : List Entry} (_ : Reps h cells xs) (i : Nat), Reps h (cells.take (i * 2)) (xs.take i)
  | _, _, r, 0 => by simp; rfl
  | cells, [], r, i + 1 => by
    have : cells = [] := r
    subst this; simp; rfl
  | _, x :: xs, ⟨cs, rest, e, r, t⟩, i + 1 => by
    have hl : cs.length = 2 := Enc.len r
    subst e
    exact ⟨cs, rest.take (i * 2), by rw [List.take_append, hl, List.take_of_length_le (by omega)]; congr 2; omega, r, t.take2 i⟩
theorem Reps.drop2 {h : FH} : ∀ {cells : List Value} {xs : List Entry} (_ : Reps h cells xs) (i : Nat), Reps h (cells.drop (i * 2)) (xs.drop i)
  | _, _, r, 0 => by simpa using r
  | cells, [], r, i + 1 => by
    have : cells = [] := r
    subst this; simp; rfl
  | _, x :: xs, ⟨cs, rest, e, r, t⟩, i + 1 => by
    have hl : cs.length = 2 := Enc.len r
    subst e
    rw [List.drop_append, hl, List.drop_of_length_le (by omega), List.nil_append, show (i + 1) * 2 - 2 = i * 2 by omega]
    exact t.drop2 i
end Go.Proofs.Ytkglaofiencfdaa

namespace Go.Proofs.Ytkglaofiencfdaa
open Go.RowKit Go.Sort
set_option linter.unusedVariables false
/-! ### slices.Insert at Entry: no room -/
theorem grown_new {w0 : World} {r : Option Nat} (g : Nat) (hg : w0.heap.size ≤ g) : ∀ (vs : List Value) (o : Nat) (w : World), w0.grownBy w r → w0.grownBy (w.setCells g o vs) r
  | [], _, _, a => a
  | v :: vs, o, w, a => grown_new g hg vs (o + 1) _ ⟨a.os, a.tape, a.output, by simpa [World.setCell] using a.size, fun k hk hne => by
      rw [← a.block k hk hne]
      simp only [World.setCell]
      rw [Array.getElem?_modify, if_neg (by omega)]⟩
theorem setCells_ne {g k : Nat} (hne : k ≠ g) : ∀ {vs : List Value} {o : Nat} {w : World}, (w.setCells g o vs).heap[k]? = w.heap[k]?
  | [], _, _ => rfl
  | v :: vs, o, w => by
    rw [World.setCells, setCells_ne hne (vs := vs)]
    simp only [World.setCell]
    rw [Array.getElem?_modify, if_neg (fun e => hne e.symm)]
end Go.Proofs.Ytkglaofiencfdaa

namespace Go.Proofs.Ytkglaofiencfdaa
open Go.RowKit Go.Sort
set_option linter.unusedVariables false
/-! ### entries.Add -/
theorem posE_le : ∀ (xs : List Entry) (s : ByteArray), posE xs s ≤ xs.length := fun xs s => by
  unfold posE
  induction xs with
  | nil => simp
  | cons x xs ih => rw [List.takeWhile_cons]; split <;> simp <;> omega
end Go.Proofs.Ytkglaofiencfdaa

namespace Go.Proofs.Ytkglaofiencfdaa
open Go.RowKit Go.Sort
set_option linter.unusedVariables false
/-! ### slices.Delete at Entry, one element -/
section
variable {P : Program}
theorem step_append_run (w : World) {o : Oper} {a : Act} {K : Act → World → Prop} {Q : Exit → Act → World → Prop} (d s : Operand) (dT sT : TypeId)
    (ho : o.op = .call { callee := .builtin .append, args := #[d, s], argTypes := #[dT, sT] }) (vd vs : Value) (hd : a.eval d = vd) (hs : a.eval s = vs)
    (v' : Value) (w' : World) (hr : (Builtin.append_ #[dT, sT] o.type #[vd, vs]).run P w = .ok v' w') (h : K (a.put o.dst v') w') : o.wp P a w K Q := by
  unfold Oper.wp
  simp [execOp, ho, resolve, invoke, builtin, hd, hs, hr, Result.andThen]
  exact h
end
end Go.Proofs.Ytkglaofiencfdaa

namespace Go.Proofs.Ytkglaofiencfdaa
open Go.RowKit Go.Sort
set_option linter.unusedVariables false
end Go.Proofs.Ytkglaofiencfdaa

namespace Go.Proofs.Ytkglaofiencfdaa
open Go.RowKit Go.Sort
set_option linter.unusedVariables false
/-! ### entries.Remove -/
end Go.Proofs.Ytkglaofiencfdaa
