import Derived.Test.YtcnbnehammbncaaDoorIns0
import Derived.Test.YtcnbnehammbncaaDoorStFn
namespace Go.Proofs.YtcnbnehammbncaaDoor
open Go.RowKit Go.Sort
set_option linter.unusedVariables false
section
variable {α : Type} [Enc α] {P : Program}
/-- append(v, y), y's block known in the world. -/
theorem wpList_append1At {h : FH} {w : World} {ops : Array Oper} {rest : List Oper} {o : Oper} {a : Act} {Q : Exit → Act → World → Prop} (hgd : o.guard = none) (s x : Operand) (t : TypeId)
    (ho : o.op = .call { callee := .builtin .append, args := #[s, x], argTypes := #[t, t] }) (base : Nat) (e : TypeId) (bytes : Nat) (T : TyOk P t e (Enc.sz α) bytes) (v : Value) (xs : List α) (hv : a.eval s = v) (O : OwnL h w base e v xs) (hs : Sits h w)
    (g : Nat) (hx : a.eval x = .slice (some ⟨g, 0, none⟩) 1 1) (cs : List Value) (y : α) (hy : Enc.rep h cs y) (hc : ∀ j u, cs[j]? = some u → w.cell? ⟨g, j, none⟩ = some u) (hbytes : (xs.length + 1) * bytes ≤ 140737488355328) (hpos : 0 < bytes) (hbase : base ≤ w.heap.size)
    (k : ∀ v' w', OwnL h w' base e v' (xs ++ [y]) → w.grownBy w' v.ownBlock → wpList P ops Q rest (a.put o.dst v') w') : wpList P ops Q (o :: rest) a w := by
  refine wpList_plain hgd fun K hK => ?_
  obtain ⟨v', w', hr, h2, h3⟩ := run_append1At (ty := o.type) T O hs hy hc hbytes hpos hbase
  unfold Oper.wp execOp
  simp only [ho, resolve, invoke, builtin, Sem.run_bind, Sem.run_pure, Result.andThen_ok, List.map_toArray, List.map_cons, List.map_nil, hv, hx, hr]
  exact hK _ _ (k v' w' h2 h3)
end
theorem cells_of_box {w : World} {g : Nat} {cs : List Value} {t : TypeId} (h : w.heap[g]? = some (.cells cs.toArray t (0, 0))) : ∀ j u, cs[j]? = some u → w.cell? ⟨g, j, none⟩ = some u := fun j u hu => by
  rw [cell_of_row _ _ _ _ _ _ h]; simpa using hu
theorem grown_setCells' {w0 : World} (g : Nat) : ∀ (vs : List Value) (o : Nat) (w : World), w0.grownBy w (some g) → w0.grownBy (w.setCells g o vs) (some g)
  | [], _, _, a => a
  | v :: r, o, w, a => grown_setCells' g r (o + 1) _ ⟨a.os, a.tape, a.output, by simpa [World.setCell] using a.size, fun k hk hne => by
      rw [← a.block k hk hne]
      simp only [World.setCell]
      rw [Array.getElem?_modify, if_neg (by rintro rfl; exact hne rfl)]⟩
theorem grown_new' {w0 : World} {r : Option Nat} (g : Nat) (hg : w0.heap.size ≤ g) : ∀ (vs : List Value) (o : Nat) (w : World), w0.grownBy w r → w0.grownBy (w.setCells g o vs) r
  | [], _, _, a => a
  | v :: vs, o, w, a => grown_new' g hg vs (o + 1) _ ⟨a.os, a.tape, a.output, by simpa [World.setCell] using a.size, fun k hk hne => by
      rw [← a.block k hk hne]
      simp only [World.setCell]
      rw [Array.getElem?_modify, if_neg (by omega)]⟩
theorem setCells_ne' {g k : Nat} (hne : k ≠ g) : ∀ {vs : List Value} {o : Nat} {w : World}, (w.setCells g o vs).heap[k]? = w.heap[k]?
  | [], _, _ => rfl
  | v :: vs, o, w => by
    rw [World.setCells, setCells_ne' hne (vs := vs)]
    simp only [World.setCell]
    rw [Array.getElem?_modify, if_neg (fun e => hne e.symm)]

/-! ### slices.Insert at Inode -/
theorem splice_In {cells E : List Value} {i n : Nat} (hE : E.length = 7) (hc : cells.length = n * 7) (hi : i ≤ n) {cur cur2 : Array Value} (hsz : (n + 1) * 7 ≤ cur.size) (hs2 : cur2.size = cur.size)
    (hpre : ∀ j, j < i * 7 → cur[j]? = cells[j]?) (hget : ∀ j, j < cur.size → cur2[j]? = if i * 7 ≤ j ∧ j < i * 7 + 7 then E[j - i * 7]? else if (i + 1) * 7 ≤ j ∧ j < (i + 1) * 7 + (n - i) * 7 then cells[j - 7]? else cur[j]?) :
    cur2.toList.take ((n + 1) * 7) = cells.take (i * 7) ++ E ++ cells.drop (i * 7) := by
  apply List.ext_getElem?
  intro j
  rw [List.getElem?_take]
  by_cases hj : j < (n + 1) * 7
  · rw [if_pos hj, Array.getElem?_toList, hget j (by omega)]
    by_cases h1 : j < i * 7
    · rw [if_neg (by omega), if_neg (by omega), hpre j h1, List.append_assoc, List.getElem?_append_left (by simp; omega), List.getElem?_take, if_pos h1]
    · by_cases h2 : j < i * 7 + 7
      · rw [if_pos (by omega), List.append_assoc, List.getElem?_append_right (by simp; omega), List.getElem?_append_left (by simp; omega)]
        congr 1
        simp; omega
      · rw [if_neg (by omega), if_pos (by omega), List.getElem?_append_right (by simp; omega), List.getElem?_drop]
        congr 1
        simp; omega
  · rw [if_neg hj, List.getElem?_eq_none (by simp; omega)]
theorem reps_ins_In {h : FH} {cells E : List Value} {xs : List Inode} {e : Inode} (R : Reps h cells xs) (hE : Enc.rep h E e) (i : Nat) : Reps h (cells.take (i * 7) ++ E ++ cells.drop (i * 7)) (xs.take i ++ [e] ++ xs.drop i) := by
  have h1 := R.take i
  have h2 := R.drop i
  rw [show i * Enc.sz Inode = i * 7 from by show i * 7 = _; omega] at h1 h2
  exact (h1.append (Reps.single hE)).append h2
/-! ### slices.Insert at Int -/
theorem splice_Z {cells E : List Value} {i n : Nat} (hE : E.length = 1) (hc : cells.length = n) (hi : i ≤ n) {cur cur2 : Array Value} (hsz : n + 1 ≤ cur.size) (hs2 : cur2.size = cur.size)
    (hpre : ∀ j, j < i → cur[j]? = cells[j]?) (hget : ∀ j, j < cur.size → cur2[j]? = if i ≤ j ∧ j < i + 1 then E[j - i]? else if i + 1 ≤ j ∧ j < i + 1 + (n - i) then cells[j - 1]? else cur[j]?) :
    cur2.toList.take (n + 1) = cells.take (i) ++ E ++ cells.drop (i) := by
  apply List.ext_getElem?
  intro j
  rw [List.getElem?_take]
  by_cases hj : j < n + 1
  · rw [if_pos hj, Array.getElem?_toList, hget j (by omega)]
    by_cases h1 : j < i
    · rw [if_neg (by omega), if_neg (by omega), hpre j h1, List.append_assoc, List.getElem?_append_left (by simp; omega), List.getElem?_take, if_pos h1]
    · by_cases h2 : j < i + 1
      · rw [if_pos (by omega), List.append_assoc, List.getElem?_append_right (by simp; omega), List.getElem?_append_left (by simp; omega)]
        congr 1
        simp; omega
      · rw [if_neg (by omega), if_pos (by omega), List.getElem?_append_right (by simp; omega), List.getElem?_drop]
        congr 1
        simp; omega
  · rw [if_neg hj, List.getElem?_eq_none (by simp; omega)]
theorem reps_ins_Z {h : FH} {cells E : List Value} {xs : List Int} {e : Int} (R : Reps h cells xs) (hE : Enc.rep h E e) (i : Nat) : Reps h (cells.take (i) ++ E ++ cells.drop (i)) (xs.take i ++ [e] ++ xs.drop i) := by
  have h1 := R.take i
  have h2 := R.drop i
  rw [show i * Enc.sz Int = i from by show i * 1 = _; omega] at h1 h2
  exact (h1.append (Reps.single hE)).append h2
end Go.Proofs.YtcnbnehammbncaaDoor
