import Derived.Test.YteolmamiblddjaaKeys
namespace Go.Proofs.Yteolmamiblddjaa
open Go.RowKit Go.Sort
set_option linter.unusedVariables false
/-- m[a] = v, for the walk. -/
theorem wpList_mapSet {κ : Type} [DecidableEq κ] {P : Program} {k : TypeId} {enc : κ → Value} (w : World) {ops : Array Oper} {rest : List Oper} {o : Oper} {a : Act} {Q : Exit → Act → World → Prop} (hg : o.guard = none) (m x v : Operand) (t e : TypeId) (hop : o.op = Op.mapUpdate t m x v)
    (K : KeyT κ P k enc) (ht : P.underlying t = some (.map k e)) (b : Nat) (f : κ → Option Value) (hm : a.eval m = .map (some b)) (M : MapIs enc w b f) (key : κ) (hx : a.eval x = enc key) (val : Value) (hv : a.eval v = val)
    (hK : ∀ w', MapIs enc w' b (fun x => if x = key then some val else f x) → w.grownBy w' (some b) → wpList P ops Q rest (a.put o.dst undef) w') : wpList P ops Q (o :: rest) a w := by
  refine wpList_plain hg fun K' hK' => ?_
  obtain ⟨w', hrun, r1, r2⟩ := M.update K ht key val
  unfold Oper.wp
  simp [execOp, hop, hm, hx, hv, hrun, Result.andThen]
  exact hK' _ _ (hK w' r1 r2)
/-- A row of the call's own is handed back. -/
def RetOwn {α : Type} [Enc α] (h : FH) (w : World) (T : TypeId) (xs : List α) (e : Ending) (w' : World) : Prop := ∃ v, e = .returned v ∧ OwnL h w' w.heap.size T v xs ∧ Ext h w h w'
/-- A map of the call's own is handed back. -/
def RetMap {κ : Type} [DecidableEq κ] (enc : κ → Value) (h : FH) (w : World) (f : κ → Option Value) (e : Ending) (w' : World) : Prop := ∃ b, e = .returned (.map (some b)) ∧ MapIs enc w' b f ∧ w.heap.size ≤ b ∧ Ext h w h w'
theorem OwnL.rebase {α : Type} [Enc α] {h : FH} {w : World} {base base' : Nat} {e : TypeId} {v : Value} {xs : List α} (o : OwnL h w base e v xs) (hb : base' ≤ base) : OwnL h w base' e v xs := by
  obtain ⟨cells, hw, r⟩ := o.own
  refine ⟨⟨cells, ⟨hw.1, ?_⟩, r⟩, o.free⟩
  rcases hw.2 with h1 | ⟨g, cap, cur, h1, h2, h3⟩
  · exact .inl h1
  · exact .inr ⟨g, cap, cur, h1, Nat.le_trans hb h2, h3⟩
end Go.Proofs.Yteolmamiblddjaa
