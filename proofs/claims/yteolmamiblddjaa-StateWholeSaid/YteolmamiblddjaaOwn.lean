import Derived.Test.YteolmamiblddjaaData
namespace Go.Proofs.Yteolmamiblddjaa
open Go.RowKit Go.Sort
set_option linter.unusedVariables false
section
variable {α : Type} [Enc α]
/-- An element of a row of the call's own. -/
theorem OwnL.get {h : FH} {w : World} {base : Nat} {e : TypeId} {v : Value} {xs : List α} (o : OwnL h w base e v xs) {i : Nat} {x : α} (hx : xs[i]? = some x) :
    ∃ g cap cs, v = .slice (some ⟨g, 0, none⟩) xs.length cap ∧ base ≤ g ∧ g < w.heap.size ∧ h g = none ∧ Enc.rep h cs x ∧ (∀ j u, cs[j]? = some u → w.cell? ⟨g, i * Enc.sz α + j, none⟩ = some u) ∧ ∀ k, w.frozen? ⟨g, k, none⟩ = false := by
  obtain ⟨cells, hw, r⟩ := o.own
  have hi := (List.getElem?_eq_some_iff.1 hx).1
  rcases hw.2 with ⟨rfl, hn⟩ | ⟨g, cap, cur, rfl, hb, hg, hc, _, hcs, htake⟩
  · omega
  · obtain ⟨cs, hr, hcc⟩ := r.get hx
    refine ⟨g, cap, cs, rfl, hb, (Array.getElem?_eq_some_iff.1 hg).1, o.free g rfl, hr, fun j u hu => ?_, fun k => by simp [World.frozen?, hg]⟩
    have h1 := hcc j u hu
    rw [← htake, List.getElem?_take] at h1
    rw [cell_of_row _ g _ cur e (0, 0) hg]
    split at h1
    · simpa using h1
    · cases h1
theorem set_take {α : Type} (l : List α) (n j : Nat) (u : α) (hj : j < n) : (l.set j u).take n = (l.take n).set j u := by
  apply List.ext_getElem?
  intro i
  rw [List.getElem?_take, List.getElem?_set, List.getElem?_set, List.getElem?_take]
  by_cases h1 : i < n
  · simp only [h1, if_true, List.length_take]
    by_cases h2 : j = i
    · subst h2
      by_cases h3 : j < l.length
      · have : j < min n l.length := by omega
        simp [h3, this]
      · have : ¬ j < min n l.length := by omega
        simp [h3, this]
    · simp [h2]
  · simp only [h1, if_false]
    by_cases h2 : j = i
    · omega
    · simp [h2]
theorem Reps.put {h : FH} : ∀ {cells : List Value} {xs : List α}, Reps h cells xs → ∀ {i j : Nat} {x y : α} {u : Value}, xs[i]? = some x → j < Enc.sz α → (∀ cs, Enc.rep h cs x → Enc.rep h (cs.set j u) y) → Reps h (cells.set (i * Enc.sz α + j) u) (xs.set i y)
  | _, [], _, _, _, _, _, _, hx, _, _ => by simp at hx
  | _, a :: az, ⟨cs, rest, e, r, t⟩, 0, j, x, y, u, hx, hj, hy => by
    simp at hx; subst hx
    have hl := Enc.len r
    refine ⟨cs.set j u, rest, ?_, hy cs r, t⟩
    rw [e, Nat.zero_mul, Nat.zero_add, List.set_append, if_pos (by omega)]
  | _, a :: az, ⟨cs, rest, e, r, t⟩, i + 1, j, x, y, u, hx, hj, hy => by
    have hl := Enc.len r
    refine ⟨cs, rest.set (i * Enc.sz α + j) u, ?_, r, t.put (by simpa using hx) hj hy⟩
    rw [e, List.set_append, if_neg (by rw [hl, Nat.add_mul]; omega), hl, show (i + 1) * Enc.sz α + j - Enc.sz α = i * Enc.sz α + j from by rw [Nat.add_mul]; omega]
/-- A cell of it is written. -/
theorem OwnL.setCell {h : FH} {w : World} {base : Nat} {e : TypeId} {g n cap : Nat} {xs : List α} (o : OwnL h w base e (.slice (some ⟨g, 0, none⟩) n cap) xs) {i j : Nat} {x y : α} {u : Value} (hx : xs[i]? = some x) (hj : j < Enc.sz α) (hy : ∀ cs, Enc.rep h cs x → Enc.rep h (cs.set j u) y) :
    OwnL h (w.setCell ⟨g, i * Enc.sz α + j, none⟩ u) base e (.slice (some ⟨g, 0, none⟩) n cap) (xs.set i y) := by
  obtain ⟨cells, hw, r⟩ := o.own
  have hi := (List.getElem?_eq_some_iff.1 hx).1
  refine ⟨⟨cells.set (i * Enc.sz α + j) u, ⟨?_, ?_⟩, r.put hx hj hy⟩, o.free⟩
  · rw [List.length_set, List.length_set]; exact hw.1
  · rcases hw.2 with ⟨he, hn⟩ | ⟨g', cap', cur, he, hb, hg, hc, hm, hcs, htake⟩
    · cases he
    · cases he
      refine .inr ⟨g, cap, cur.setIfInBounds (i * Enc.sz α + j) u, by rw [List.length_set], hb, ?_, by rw [List.length_set]; exact hc, hm, by simpa using hcs, ?_⟩
      · simp only [World.setCell, Array.getElem?_modify, if_true, hg, Option.map_some, Option.isSome_none, Bool.false_eq_true, if_false]
      · have hlt : i * Enc.sz α + j < xs.length * Enc.sz α := by
          have : (i + 1) * Enc.sz α ≤ xs.length * Enc.sz α := Nat.mul_le_mul_right _ hi
          rw [Nat.add_mul] at this; omega
        rw [List.length_set, Array.toList_setIfInBounds, set_take _ _ _ _ hlt, htake]
theorem run_append_none' {P : Program} {w : World} (base : Nat) (t ty e : TypeId) (i : TypeInfo) (size : Nat) (ht : P.underlying t = some (.slice e)) (hi : P.info? e = some i)
    (v : Value) (n : Nat) (xs : List Value) (hown : w.ownsRow base e size v n xs) (c : Nat) : (Builtin.append_ #[t, t] ty #[v, .slice none 0 c]).run P w = .ok v w := by
  rcases hown.2 with ⟨rfl, rfl⟩ | ⟨g, cap, cur, rfl, _, _, hnc, _⟩
  · simp [Builtin.append_, run_underlying ht, sizeOf, typeInfo, hi, Builtin.lenOf, Builtin.firstCells]
  · simp [Builtin.append_, run_underlying ht, sizeOf, typeInfo, hi, Builtin.lenOf, Builtin.firstCells, hnc, storeCells]
/-- append(v, ys...), whatever address ys has. -/
theorem wpList_appendR {P : Program} {h : FH} {w : World} {ops : Array Oper} {rest : List Oper} {o : Oper} {a : Act} {Q : Exit → Act → World → Prop} (hgd : o.guard = none) (s x : Operand) (t : TypeId)
    (ho : o.op = .call { callee := .builtin .append, args := #[s, x], argTypes := #[t, t] }) (base : Nat) (e : TypeId) (bytes : Nat) (T : TyOk P t e (Enc.sz α) bytes) (v : Value) (xs ys : List α) (hv : a.eval s = v) (O : OwnL h w base e v xs) (hs : Sits h w)
    (A : Option Addr) (n c : Nat) (hx : a.eval x = .slice A n c) (hny : n = ys.length) (r : RowAt h A ys) (hbytes : (xs.length + ys.length) * bytes ≤ 140737488355328) (hpos : 0 < bytes) (hbase : base ≤ w.heap.size)
    (k : ∀ v' w', OwnL h w' base e v' (xs ++ ys) → w.grownBy w' v.ownBlock → (v'.ownBlock = v.ownBlock ∨ v'.ownBlock = some w.heap.size) → wpList P ops Q rest (a.put o.dst v') w') : wpList P ops Q (o :: rest) a w := by
  cases A with
  | some ad => exact wpList_appendL hgd s x t ho base e bytes T v xs ys hv O hs (some ad) n c hx hny r (by simp) hbytes hpos hbase k
  | none =>
    have hy : ys = [] := by
      cases ys with
      | nil => rfl
      | cons y ys => obtain ⟨b, off, e, _⟩ := r.2 (by simp); cases e
    subst hy
    subst hny
    obtain ⟨i, z, hi, _⟩ := T.info
    obtain ⟨cells, hw, R⟩ := O.own
    refine wpList_plain hgd fun K hK => ?_
    have hr := run_append_none' (P := P) base t o.type e i (Enc.sz α) T.und hi v xs.length cells hw c
    unfold Oper.wp execOp
    simp only [ho, resolve, invoke, builtin, Sem.run_bind, Sem.run_pure, Result.andThen_ok, List.map_toArray, List.map_cons, List.map_nil, hv, hx]
    rw [show ([] : List α).length = 0 from rfl, hr]
    exact hK _ _ (k v w (by simpa using O) ⟨rfl, rfl, rfl, Nat.le_refl _, fun _ _ _ => rfl⟩ (.inl rfl))
end
end Go.Proofs.Yteolmamiblddjaa
