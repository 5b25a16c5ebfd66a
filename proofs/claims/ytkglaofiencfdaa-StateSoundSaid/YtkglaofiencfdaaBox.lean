import Derived.Test.YtkglaofiencfdaaInoAll
import Derived.Test.YtkglaofiencfdaaApp
import Derived.Lib.SmallJoins
namespace Go.Proofs.Ytkglaofiencfdaa
open Go.RowKit Go.Sort
set_option linter.unusedVariables false
/-! ### boxes that are written, own rows that are put into them -/
theorem Ext.drop {h h1 h2 : FH} {w w' : World} (E : Ext h w h2 w') (l : FLe h h1) (l2 : FLe h1 h2) : Ext h w h1 w' :=
  ⟨l, fun b o hb => E.sits b o (l2 b o hb), E.below, fun b hb => E.fresh b (fun e => by
    cases e1 : h1 b with
    | none => exact hb e1
    | some o => rw [l2 b o e1] at e; cases e)⟩
/-- What is free behind a call. -/
theorem Ext.none {h h' : FH} {w w' : World} (E : Ext h w h' w') {g : Nat} (hn : h g = none) (hg : g < w.heap.size) : h' g = none := by
  cases e : h' g with
  | none => rfl
  | some o =>
    rcases E.fresh g (by rw [e]; simp) with h2 | h2
    · exact absurd hn h2
    · omega
theorem OwnL.stayX {α : Type} [Enc α] {h0 h : FH} {w0 w : World} {base : Nat} {e : TypeId} {v : Value} {xs : List α} (o : OwnL h w base e v xs) (E : Ext h0 w0 h w) (hb : w0.heap.size ≤ base) (hlen : xs.length ≤ 9223372036854775807) :
    ∃ h' A c, v = .slice A xs.length c ∧ RowAt h' A xs ∧ FLe h h' ∧ Ext h0 w0 h' w ∧ xs.length ≤ c ∧ c ≤ 9223372036854775807 ∧ (A = none → c = 0) ∧ ∀ b, h' b ≠ none → h b ≠ none ∨ base ≤ b := by
  have hx : ∃ A c, v = .slice A xs.length c ∧ c ≤ 9223372036854775807 ∧ (A = none → c = 0) := by
    obtain ⟨cells, hw, _⟩ := o.own
    rcases hw.2 with ⟨rfl, hn⟩ | ⟨g, cap, cur, rfl, _, _, hc, hm, _⟩
    · exact ⟨none, 0, by rw [hn], by decide, fun _ => rfl⟩
    · exact ⟨_, cap, rfl, by unfold maxLen at hm; omega, fun e => by cases e⟩
  obtain ⟨A1, c1, hv1, k1, k2⟩ := hx
  obtain ⟨h', A, c, hv, hc, r, l, s, f⟩ := o.freeze E.sits hlen
  rw [hv1] at hv
  simp only [Value.slice.injEq, true_and] at hv
  obtain ⟨rfl, rfl⟩ := hv
  exact ⟨h', A1, c1, hv1, r, l, ⟨E.le.trans l, s, E.below, fun b hb' => by
    rcases f b hb' with h3 | h3
    · exact E.fresh b h3
    · exact .inr (Nat.le_trans hb h3)⟩, hc, k1, k2, f⟩
/-- A pair that stays as it is, with what its slice has room for. -/
theorem RetTup.stayX {α : Type} [Enc α] {h : FH} {w : World} {T : TypeId} {xs : List α} {code : Int} {e : Ending} {w' : World} (R : RetTup h w T xs code e w') (hlen : xs.length ≤ 9223372036854775807) :
    ∃ A c h1, e = .returned (.tuple #[.slice A xs.length c, .int .i64 code]) ∧ RowAt h1 A xs ∧ Ext h w h1 w' ∧ (A = none → c = 0) ∧ xs.length ≤ c ∧ c ≤ 9223372036854775807 := by
  obtain ⟨v, rfl, O, E⟩ := R
  obtain ⟨h', A, c, rfl, r, l, E1, hc, k1, k2, f⟩ := O.stayX E (Nat.le_refl _) hlen
  exact ⟨A, c, h', rfl, r, E1, k2, hc, k1⟩
theorem RetOwn.stayX {α : Type} [Enc α] {h : FH} {w : World} {T : TypeId} {xs : List α} {e : Ending} {w' : World} (R : RetOwn h w T xs e w') (hlen : xs.length ≤ 9223372036854775807) :
    ∃ A c h1, e = .returned (.slice A xs.length c) ∧ RowAt h1 A xs ∧ Ext h w h1 w' ∧ (A = none → c = 0) ∧ xs.length ≤ c ∧ c ≤ 9223372036854775807 := by
  obtain ⟨v, rfl, O, E⟩ := R
  obtain ⟨h', A, c, rfl, r, l, E1, hc, k1, k2, f⟩ := O.stayX E (Nat.le_refl _) hlen
  exact ⟨A, c, h', rfl, r, E1, k2, hc, k1⟩
theorem box_set {w : World} {g i : Nat} {cs : Array Value} {t : TypeId} (h : w.heap[g]? = some (.cells cs t (0, 0))) (v : Value) : (w.setCell ⟨g, i, none⟩ v).heap[g]? = some (.cells (cs.setIfInBounds i v) t (0, 0)) := Joins.block_setCell h v
theorem box_other {w : World} {g i k : Nat} {o : Obj} (h : w.heap[k]? = some o) (hne : k ≠ g) (v : Value) : (w.setCell ⟨g, i, none⟩ v).heap[k]? = some o := by
  rw [Below.heap_setCell _ _ _ _ (by simpa using hne)]; exact h
theorem boxes_other {k g : Nat} {o : Obj} (hne : k ≠ g) : ∀ (vs : List Value) (j : Nat) (w : World), w.heap[k]? = some o → (w.setCells g j vs).heap[k]? = some o
  | [], _, _, h => h
  | v :: r, j, w, h => boxes_other hne r (j + 1) _ (box_other h hne v)
theorem box_alloc {w : World} {g : Nat} {o : Obj} (h : w.heap[g]? = some o) (x : Obj) : (w.alloc x).heap[g]? = some o := by
  rw [Below.heap_alloc _ _ _ (Array.getElem?_eq_some_iff.1 h).1]; exact h
theorem box_cell {w : World} {g j : Nat} {cs : Array Value} {t : TypeId} {v : Value} (h : w.heap[g]? = some (.cells cs t (0, 0))) (hv : cs[j]? = some v) : w.cell? ⟨g, j, none⟩ = some v := by
  rw [cell_of_row _ _ _ _ _ _ h]; exact hv
theorem box_free {w : World} {g j : Nat} {cs : Array Value} {t : TypeId} (h : w.heap[g]? = some (.cells cs t (0, 0))) : w.frozen? ⟨g, j, none⟩ = false := frozen_of_row _ _ j _ _ h
end Go.Proofs.Ytkglaofiencfdaa
