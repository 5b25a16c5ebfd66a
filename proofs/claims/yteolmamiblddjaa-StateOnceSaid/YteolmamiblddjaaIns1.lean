import Derived.Test.YteolmamiblddjaaIns0
import Derived.Test.YteolmamiblddjaaEntAdd
namespace Go.Proofs.Yteolmamiblddjaa
open Go.RowKit Go.Sort
set_option linter.unusedVariables false
/-! ### slices.Insert at Entry, one element -/
theorem ent_row {h : FH} {gv : Nat} {e : Entry} (hsz : e.name.size ≤ 9223372036854775807) (hb : h gv = some (.cells #[.string e.name, .int .i64 e.no] 44 (0, 0))) : RowAt h (some ⟨gv, 0, none⟩) [e] :=
  RowAt.of_block hb ⟨_, _, rfl, ⟨rfl, hsz⟩, rfl⟩ (by simp)
theorem grown_setCells {w0 : World} (g : Nat) : ∀ (vs : List Value) (o : Nat) (w : World), w0.grownBy w (some g) → w0.grownBy (w.setCells g o vs) (some g)
  | [], _, _, a => a
  | v :: r, o, w, a => grown_setCells g r (o + 1) _ ⟨a.os, a.tape, a.output, by simpa [World.setCell] using a.size, fun k hk hne => by
      rw [← a.block k hk hne]
      simp only [World.setCell]
      rw [Array.getElem?_modify, if_neg (by rintro rfl; exact hne rfl)]⟩
theorem Reps.take2 {h : FH} : ∀ {cells : List Value} {xs : List Entry} (_ : Reps h cells xs) (i : Nat), Reps h (cells.take (i * 2)) (xs.take i)
  | _, _, r, 0 => by simp; rfl
  | cells, [], r, i + 1 => by
    have : cells = [] := r
    subst this; simp; rfl
  | _, x :: xs, ⟨cs, rest, e, r, t⟩, i + 1 => by
    have hl : cs.length = 2 := Enc.len r
    subst e
    exact ⟨cs, rest.take (i * 2), by rw [List.take_append, hl, List.take_of_length_le (by omega)]; congr 2; omega, r, t.take2 i⟩
theorem Reps.drop2 {h : FH} : ∀ {cells : List Value} {xs : List Entry} (_ : Reps h cells xs) (i : Nat), Reps h (cells.drop (i * 2)) (xs.drop i)
  | _, _, r, 0 => by simpa using r
  | cells, [], r, i + 1 => by
    have : cells = [] := r
    subst this; simp; rfl
  | _, x :: xs, ⟨cs, rest, e, r, t⟩, i + 1 => by
    have hl : cs.length = 2 := Enc.len r
    subst e
    rw [List.drop_append, hl, List.drop_of_length_le (by omega), List.nil_append, show (i + 1) * 2 - 2 = i * 2 by omega]
    exact t.drop2 i
end Go.Proofs.Yteolmamiblddjaa
