import Derived.Test.YtkglaofiencfdaaCore
namespace Go.Proofs.Ytkglaofiencfdaa
open Go.RowKit Go.Sort
set_option linter.unusedVariables false
/-! ### append, in a region that draws its order -/
section
variable {α : Type} [Enc α] {P : Program}
theorem step_appendR {h : FH} {w : World} {o : Oper} {a : Act} {K : Act → World → Prop} {Q : Exit → Act → World → Prop} (s x : Operand) (t : TypeId)
    (ho : o.op = .call { callee := .builtin .append, args := #[s, x], argTypes := #[t, t] }) (base : Nat) (e : TypeId) (bytes : Nat) (T : TyOk P t e (Enc.sz α) bytes) (v : Value) (xs ys : List α) (hv : a.eval s = v) (O : OwnL h w base e v xs) (hs : Sits h w)
    (A : Option Addr) (n c : Nat) (hx : a.eval x = .slice A n c) (hny : n = ys.length) (r : RowAt h A ys) (hbytes : (xs.length + ys.length) * bytes ≤ 140737488355328) (hpos : 0 < bytes) (hbase : base ≤ w.heap.size)
    (k : ∀ v' w', OwnL h w' base e v' (xs ++ ys) → w.grownBy w' v.ownBlock → K (a.put o.dst v') w') : o.wp P a w K Q := by
  subst hny
  cases A with
  | some ad =>
    obtain ⟨v', w', hr, h2, h3, h4⟩ := run_appendL (ty := o.type) (c := c) T O hs r (by simp) hbytes hpos hbase
    unfold Oper.wp execOp
    simp only [ho, resolve, invoke, builtin, Sem.run_bind, Sem.run_pure, Result.andThen_ok, List.map_toArray, List.map_cons, List.map_nil, hv, hx, hr]
    exact k v' w' h2 h3
  | none =>
    have hy : ys = [] := by
      cases ys with
      | nil => rfl
      | cons y ys => obtain ⟨b, off, e, _⟩ := r.2 (by simp); cases e
    subst hy
    obtain ⟨i, z, hi, _⟩ := T.info
    obtain ⟨cells, hw, R⟩ := O.own
    have hr := run_append_none' (P := P) base t o.type e i (Enc.sz α) T.und hi v xs.length cells hw c
    unfold Oper.wp execOp
    simp only [ho, resolve, invoke, builtin, Sem.run_bind, Sem.run_pure, Result.andThen_ok, List.map_toArray, List.map_cons, List.map_nil, hv, hx]
    rw [show ([] : List α).length = 0 from rfl, hr]
    exact k v w (by simpa using O) ⟨rfl, rfl, rfl, Nat.le_refl _, fun _ _ _ => rfl⟩
/-- One element, which lies in a block of its own. -/
theorem run_append1At {h : FH} {w : World} {base : Nat} {t ty e : TypeId} {bytes : Nat} (T : TyOk P t e (Enc.sz α) bytes) {v : Value} {xs : List α} (O : OwnL h w base e v xs) (hs : Sits h w) {g : Nat} {cs : List Value} {y : α} (hy : Enc.rep h cs y) (hc : ∀ j u, cs[j]? = some u → w.cell? ⟨g, j, none⟩ = some u)
    (hbytes : (xs.length + 1) * bytes ≤ 140737488355328) (hpos : 0 < bytes) (hbase : base ≤ w.heap.size) :
    ∃ v' w', (Builtin.append_ #[t, t] ty #[v, .slice (some ⟨g, 0, none⟩) 1 1]).run P w = .ok v' w' ∧ OwnL h w' base e v' (xs ++ [y]) ∧ w.grownBy w' v.ownBlock := by
  obtain ⟨i, z, hi, hz0, hz1, hz2, hz3⟩ := T.info
  obtain ⟨cells, hw, R⟩ := O.own
  have hlen : xs.length + 1 ≤ 140737488355328 := Nat.le_trans (Nat.le_mul_of_pos_right _ hpos) hbytes
  have RN := Reps.single hy
  obtain ⟨v', w', hr, h2, h3, h4, h5⟩ := run_append_own_at (P := P) w base t ty e i z (Enc.sz α) bytes T.und hi hz0 hz1 hz2 hz3 Enc.pos v xs.length cells hw ⟨g, 0, none⟩ 1 1 cs (by rw [Enc.len hy]; omega) (fun j u hu => by
      rw [show (⟨g, 0, none⟩ : Addr).add j = ⟨g, j, none⟩ from by unfold Addr.add; split <;> simp_all]
      exact hc j u hu) RN.one (by unfold maxLen; omega) hbytes hbase
  refine ⟨v', w', hr, ⟨⟨_, by rw [List.length_append]; exact h2, R.append RN⟩, fun g hg => ?_⟩, h3⟩
  rcases h5 with h6 | h6
  · exact O.free g (by rw [← h6]; exact hg)
  · rw [h6] at hg
    cases hg
    cases e : h w.heap.size with
    | none => rfl
    | some x => exact absurd (hs.lt (b := w.heap.size) (by rw [e]; simp)) (by omega)
theorem step_append1At {h : FH} {w : World} {o : Oper} {a : Act} {K : Act → World → Prop} {Q : Exit → Act → World → Prop} (s x : Operand) (t : TypeId)
    (ho : o.op = .call { callee := .builtin .append, args := #[s, x], argTypes := #[t, t] }) (base : Nat) (e : TypeId) (bytes : Nat) (T : TyOk P t e (Enc.sz α) bytes) (v : Value) (xs : List α) (hv : a.eval s = v) (O : OwnL h w base e v xs) (hs : Sits h w)
    (g : Nat) (hx : a.eval x = .slice (some ⟨g, 0, none⟩) 1 1) (cs : List Value) (y : α) (hy : Enc.rep h cs y) (hc : ∀ j u, cs[j]? = some u → w.cell? ⟨g, j, none⟩ = some u) (hbytes : (xs.length + 1) * bytes ≤ 140737488355328) (hpos : 0 < bytes) (hbase : base ≤ w.heap.size)
    (k : ∀ v' w', OwnL h w' base e v' (xs ++ [y]) → w.grownBy w' v.ownBlock → K (a.put o.dst v') w') : o.wp P a w K Q := by
  obtain ⟨v', w', hr, h2, h3⟩ := run_append1At (ty := o.type) T O hs hy hc hbytes hpos hbase
  unfold Oper.wp execOp
  simp only [ho, resolve, invoke, builtin, Sem.run_bind, Sem.run_pure, Result.andThen_ok, List.map_toArray, List.map_cons, List.map_nil, hv, hx, hr]
  exact k v' w' h2 h3
end
/-- An own row, and an error's number. -/
def RetTup {α : Type} [Enc α] (h : FH) (w : World) (T : TypeId) (xs : List α) (code : Int) (e : Ending) (w' : World) : Prop := ∃ v, e = .returned (.tuple #[v, .int .i64 code]) ∧ OwnL h w' w.heap.size T v xs ∧ Ext h w h w'
/-- A part of what lies. -/
theorem RowAt.takeN {α : Type} [Enc α] {h : FH} {A : Option Addr} {xs : List α} (r : RowAt h A xs) (n : Nat) : RowAt h A (xs.take n) := by
  refine RowAt.take (ys := xs.drop n) ?_
  rw [List.take_append_drop]; exact r
theorem RowAt.dropN {α : Type} [Enc α] {h : FH} {b off : Nat} {xs : List α} (r : RowAt h (some ⟨b, off, none⟩) xs) (n : Nat) : RowAt h (some ⟨b, off + n * Enc.sz α, none⟩) (xs.drop n) := by
  obtain ⟨h1, h2⟩ := r
  refine ⟨by rw [List.length_drop]; omega, fun hp => ⟨b, _, rfl, fun i x hx => ?_⟩⟩
  rw [List.length_drop] at hp
  obtain ⟨b', off', e, f⟩ := h2 (by omega)
  cases e
  rw [List.getElem?_drop] at hx
  obtain ⟨cs, hr, hc⟩ := f _ x hx
  refine ⟨cs, hr, fun j u hu => ?_⟩
  have := hc j u hu
  rwa [show off + (n + i) * Enc.sz α + j = off + n * Enc.sz α + i * Enc.sz α + j by rw [Nat.add_mul]; omega] at this
end Go.Proofs.Ytkglaofiencfdaa
