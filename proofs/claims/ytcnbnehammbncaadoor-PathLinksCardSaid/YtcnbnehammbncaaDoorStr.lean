import Derived.Test.YtcnbnehammbncaaDoorCore
namespace Go.Proofs.YtcnbnehammbncaaDoor
open Go.RowKit Go.Sort
set_option linter.unusedVariables false
/-! ### a string's bytes -/
theorem index_str {P : Program} (t : TypeId) (ht : P.underlying t = some .string) {s : ByteArray} {n : Nat} {c : UInt8} (hc : s.data[n]? = some c) (k : IntKind) (w : World) : (Instr.index t (.string s) (.int k n)).run P w = .ok (.int .u8 c.toNat) w := by
  obtain ⟨h1, h2⟩ := Array.getElem?_eq_some_iff.1 hc
  have hn : n < s.size := h1
  rw [run_index_string w t s k n ht, dif_pos ⟨by omega, by omega⟩]
  have e : s[(n : Int).toNat]'(by simpa using hn) = c := h2
  rw [e]
/-- s[n], its byte under a name. -/
theorem wpList_indexS {P : Program} {w : World} {ops : Array Oper} {rest : List Oper} {o : Oper} {a : Act} {Q : Exit → Act → World → Prop} (hgd : o.guard = none) (t : TypeId) (x y : Operand) (ho : o.op = .index t x y) (ht : P.underlying t = some .string)
    (s : ByteArray) (hx : a.eval x = .string s) (k : IntKind) (n : Nat) (hy : a.eval y = .int k n) (c : UInt8) (hc : s.data[n]? = some c)
    (h : wpList P ops Q rest (a.put o.dst (.int .u8 c.toNat)) w) : wpList P ops Q (o :: rest) a w := by
  refine wpList_plain hgd fun K hK => ?_
  obtain ⟨h1, h2⟩ := Array.getElem?_eq_some_iff.1 hc
  have hn : n < s.size := h1
  have hr : (Instr.index t (.string s) (.int k n)).run P w = .ok (.int .u8 c.toNat) w := by
    rw [run_index_string w t s k n ht, dif_pos ⟨by omega, by omega⟩]
    have e : s[(n : Int).toNat]'(by simpa using hn) = c := h2
    rw [e]
  unfold Oper.wp
  simp [execOp, ho, hx, hy, hr, Result.andThen]
  exact hK _ _ h
theorem byte_lt (c : UInt8) : (c.toNat : Int) < 256 := by have := c.toNat_lt; omega
end Go.Proofs.YtcnbnehammbncaaDoor
