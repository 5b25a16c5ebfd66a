import Derived.Test.YtdiaibkpcnknbaaDoorRHard
namespace Go.Proofs.YtdiaibkpcnknbaaDoor
open Go.RowKit Go.Sort
set_option linter.unusedVariables false
/-! ### a queue of numbers: an own row, of which the head is cut off -/
structure QI (base : Nat) (h : FH) (w : World) (v : Value) (xs : List Int) : Prop where
  ex : ∃ (g off cap : Nat) (cur : Array Value), v = .slice (some ⟨g, off, none⟩) xs.length cap ∧ base ≤ g ∧ h g = none ∧ w.heap[g]? = some (.cells cur 3 (0, 0)) ∧ off + cap ≤ cur.size ∧ xs.length ≤ cap ∧ cap ≤ 9223372036854775807 ∧ ∀ (i : Nat) (x : Int), xs[i]? = some x → cur[off + i]? = some (.int .i64 x)
theorem QI.made {base : Nat} {h : FH} {w : World} (hs : Sits h w) (hb : base ≤ w.heap.size) (x : Int) : QI base h (w.alloc (.cells #[.int .i64 x] 3)) (.slice (some ⟨w.heap.size, 0, none⟩) 1 1) [x] :=
  ⟨w.heap.size, 0, 1, #[.int .i64 x], rfl, hb, hs.none (Nat.le_refl _), heap_new _ _, Nat.le_refl _, Nat.le_refl _, by decide, fun i y hi => by
    cases i with
    | zero => simp at hi; subst hi; rfl
    | succ i => simp at hi⟩
theorem QI.ext {base : Nat} {h h' : FH} {w w' : World} {v : Value} {xs : List Int} (q : QI base h w v xs) (E : Ext h w h' w') : QI base h' w' v xs := by
  obtain ⟨g, off, cap, cur, e, hb, hn, hg, h1, h2, h3, h4⟩ := q.ex
  exact ⟨g, off, cap, cur, e, hb, E.none hn (Array.getElem?_eq_some_iff.1 hg).1, E.row hg, h1, h2, h3, h4⟩
theorem QI.alloc {base : Nat} {h : FH} {w : World} {v : Value} {xs : List Int} (q : QI base h w v xs) (o : Obj) : QI base h (w.alloc o) v xs := by
  obtain ⟨g, off, cap, cur, e, hb, hn, hg, h1, h2, h3, h4⟩ := q.ex
  exact ⟨g, off, cap, cur, e, hb, hn, box_alloc hg o, h1, h2, h3, h4⟩
theorem QI.drew {base : Nat} {h : FH} {w : World} {v : Value} {xs : List Int} (q : QI base h w v xs) : QI base h w.drew v xs := by
  obtain ⟨g, off, cap, cur, e, hb, hn, hg, h1, h2, h3, h4⟩ := q.ex
  exact ⟨g, off, cap, cur, e, hb, hn, hg, h1, h2, h3, h4⟩
theorem QI.grown {base : Nat} {h : FH} {w w' : World} {v : Value} {xs : List Int} (q : QI base h w v xs) {row : Option Nat} (G : w.grownBy w' row) (hr : ∀ g off n c, v = .slice (some ⟨g, off, none⟩) n c → row ≠ some g) : QI base h w' v xs := by
  obtain ⟨g, off, cap, cur, e, hb, hn, hg, h1, h2, h3, h4⟩ := q.ex
  exact ⟨g, off, cap, cur, e, hb, hn, by rw [G.block g (Array.getElem?_eq_some_iff.1 hg).1 (fun e2 => hr _ _ _ _ e e2.symm)]; exact hg, h1, h2, h3, h4⟩
/-- One more, behind. -/
theorem wpList_appendQ {P : Program} {h : FH} {w : World} {ops : Array Oper} {rest : List Oper} {o : Oper} {a : Act} {Q : Exit → Act → World → Prop} (hgd : o.guard = none) (s x : Operand) (t : TypeId)
    (ho : o.op = .call { callee := .builtin .append, args := #[s, x], argTypes := #[t, t] }) (base : Nat) (T : TyOk P t 3 1 8) (v : Value) (xs : List Int) (hv : a.eval s = v) (O : QI base h w v xs) (hs : Sits h w)
    (gy : Nat) (hx : a.eval x = .slice (some ⟨gy, 0, none⟩) 1 1) (y : Int) (hc : w.cell? ⟨gy, 0, none⟩ = some (.int .i64 y)) (hbytes : (xs.length + 1) * 8 ≤ 140737488355328) (hbase : base ≤ w.heap.size)
    (k : ∀ v' w' row, QI base h w' v' (xs ++ [y]) → w.grownBy w' row → (∀ k, row = some k → base ≤ k ∧ h k = none ∧ ∃ off n c, v = .slice (some ⟨k, off, none⟩) n c) → (∃ g' off' c', v' = .slice (some ⟨g', off', none⟩) (xs.length + 1) c' ∧ ((∃ off n c, v = .slice (some ⟨g', off, none⟩) n c) ∨ w.heap.size ≤ g')) → wpList P ops Q rest (a.put o.dst v') w') : wpList P ops Q (o :: rest) a w := by
  obtain ⟨g, off, cap, cur, rfl, hb, hn, hg, hfit, hle, hmx, hcs⟩ := O.ex
  refine wpList_plain hgd fun K hK => ?_
  obtain ⟨i, z, hi, hz0, hz1, hz2, hz3⟩ := T.info
  have hnews : ∀ j u, ([Value.int .i64 y] : List Value)[j]? = some u → w.cell? ((⟨gy, 0, none⟩ : Addr).add j) = some u := fun j u hu => by
    rw [show (⟨gy, 0, none⟩ : Addr).add j = ⟨gy, j, none⟩ from by unfold Addr.add; split <;> simp_all]
    cases j with
    | zero => simp at hu; subst hu; exact hc
    | succ j => simp at hu
  have h1 : ∀ u ∈ ([Value.int .i64 y] : List Value), u.oneCell' = true := fun u hu => by simp at hu; subst hu; rfl
  by_cases room : xs.length + 1 ≤ cap
  · have hlt : off + xs.length < cur.size := by omega
    have hr := run_append_room_cells (P := P) w t o.type 3 i T.und hi g off xs.length cap ⟨gy, 0, none⟩ 1 1 [.int .i64 y] (by simp [hz1]) hnews h1 room
      (fun j hj => by
        have : j = 0 := by simpa using hj
        subst this
        rw [hz1, cell_of_row _ _ _ _ _ _ hg, Nat.mul_one, Nat.add_zero, Array.getElem?_eq_getElem hlt]; rfl)
      (fun j hj => frozen_of_row _ _ _ _ _ hg)
    unfold Oper.wp execOp
    simp only [ho, resolve, invoke, builtin, Sem.run_bind, Sem.run_pure, Result.andThen_ok, List.map_toArray, List.map_cons, List.map_nil, hv, hx, hr]
    rw [hz1, Nat.mul_one]
    refine hK _ _ (k _ _ (some g) ⟨g, off, cap, cur.setIfInBounds (off + xs.length) (.int .i64 y), by rw [List.length_append]; rfl, hb, hn, box_set hg _, by simpa using hfit, by rw [List.length_append]; exact room, hmx, fun j u hu => ?_⟩ ?_ ?_ ⟨g, off, cap, rfl, .inl ⟨off, _, _, rfl⟩⟩)
    · rw [Array.getElem?_setIfInBounds]
      by_cases e : j = xs.length
      · subst e
        rw [if_pos rfl, if_pos hlt]
        rw [List.getElem?_append_right (Nat.le_refl _), Nat.sub_self] at hu
        simp at hu; rw [hu]
      · rw [if_neg (by omega)]
        refine hcs j u ?_
        have hj : j < (xs ++ [y]).length := (List.getElem?_eq_some_iff.1 hu).1
        rw [List.length_append, List.length_singleton] at hj
        rwa [List.getElem?_append_left (by omega)] at hu
    · exact grown_setCells' g [.int .i64 y] (off + xs.length) w ⟨rfl, rfl, rfl, Nat.le_refl _, fun _ _ _ => rfl⟩
    · intro k hk
      cases hk
      exact ⟨hb, hn, off, _, _, rfl⟩
  · have hlen : xs.length + 1 ≤ 140737488355328 := by omega
    obtain ⟨v', w', hr, hown, G⟩ := run_append_arg_grows (P := P) w t o.type 3 i z 1 8 T.und hi hz0 hz1 hz2 hz3 (by decide) ⟨g, off, none⟩ xs.length cap (xs.map fun x => .int .i64 x) (by simp) (fun j u hu => by
      rw [show (⟨g, off, none⟩ : Addr).add j = ⟨g, off + j, none⟩ from by unfold Addr.add; split <;> simp_all]
      rw [cell_of_row _ _ _ _ _ _ hg]
      rw [List.getElem?_map] at hu
      cases e : xs[j]? with
      | none => rw [e] at hu; cases hu
      | some x => rw [e] at hu; cases hu; exact hcs j x e) ⟨gy, 0, none⟩ 1 1 [.int .i64 y] (by simp) hnews (by omega) (by unfold maxLen; omega) (by omega)
    unfold Oper.wp execOp
    simp only [ho, resolve, invoke, builtin, Sem.run_bind, Sem.run_pure, Result.andThen_ok, List.map_toArray, List.map_cons, List.map_nil, hv, hx, hr]
    rcases hown.2 with ⟨_, h0⟩ | ⟨g', cap', cur', rfl, hb', hg', hle', hm', hsz', htk⟩
    · omega
    · refine hK _ _ (k _ _ none ⟨g', 0, cap', cur', by rw [List.length_append]; rfl, by omega, hs.none hb', hg', by rw [hsz']; omega, by rw [List.length_append]; exact hle', by unfold maxLen at hm'; omega, fun j u hu => ?_⟩ G (fun k hk => by cases hk) ⟨g', 0, cap', rfl, .inr hb'⟩)
      have hj : j < xs.length + 1 := by have := (List.getElem?_eq_some_iff.1 hu).1; simpa using this
      have q : (cur'.toList.take ((xs.length + 1) * 1))[j]? = ((xs.map fun x => Value.int .i64 x) ++ [.int .i64 y])[j]? := by rw [htk]
      rw [List.getElem?_take_of_lt (by omega)] at q
      rw [Nat.zero_add, ← Array.getElem?_toList, q]
      rw [show ((xs.map fun x => Value.int .i64 x) ++ [Value.int .i64 y]) = (xs ++ [y]).map fun x => .int .i64 x by simp, List.getElem?_map, hu]; rfl
end Go.Proofs.YtdiaibkpcnknbaaDoor

namespace Go.Proofs.YtdiaibkpcnknbaaDoor
open Go.RowKit Go.Sort
set_option linter.unusedVariables false
theorem QI.lt {base : Nat} {h : FH} {w : World} {v : Value} {xs : List Int} (q : QI base h w v xs) {g off n c : Nat} (e : v = .slice (some ⟨g, off, none⟩) n c) : g < w.heap.size := by
  obtain ⟨g', off', cap, cur, e', hb, hn, hg, h1, h2, h3, h4⟩ := q.ex
  rw [e'] at e
  cases e
  exact (Array.getElem?_eq_some_iff.1 hg).1
/-- What was seen, and what is to do: two own rows. -/
structure Two (base : Nat) (h : FH) (w : World) (s7 s8 : Value) (seen todo : List Int) : Prop where
  O : OwnL h w base 3 s7 seen
  Q : QI base h w s8 todo
  ne : ∀ g off n c, s8 = .slice (some ⟨g, off, none⟩) n c → s7.ownBlock ≠ some g
theorem Two.ext {base : Nat} {h h' : FH} {w w' : World} {s7 s8 : Value} {seen todo : List Int} (t : Two base h w s7 s8 seen todo) (E : Ext h w h' w') : Two base h' w' s7 s8 seen todo := ⟨t.O.ext E, t.Q.ext E, t.ne⟩
theorem Two.alloc {base : Nat} {h : FH} {w : World} {s7 s8 : Value} {seen todo : List Int} (t : Two base h w s7 s8 seen todo) (x : Obj) : Two base h (w.alloc x) s7 s8 seen todo := ⟨t.O.alloc x, t.Q.alloc x, t.ne⟩
theorem Two.drew {base : Nat} {h : FH} {w : World} {s7 s8 : Value} {seen todo : List Int} (t : Two base h w s7 s8 seen todo) : Two base h w.drew s7 s8 seen todo := ⟨t.O.drew, t.Q.drew, t.ne⟩
theorem Two.seenM {base : Nat} {h : FH} {w w' : World} {s7 s8 v' : Value} {seen todo seen' : List Int} (t : Two base h w s7 s8 seen todo) (O' : OwnL h w' base 3 v' seen') (G : w.grownBy w' s7.ownBlock) (h5 : v'.ownBlock = s7.ownBlock ∨ ∃ b, v'.ownBlock = some b ∧ w.heap.size ≤ b) : Two base h w' v' s8 seen' todo :=
  ⟨O', t.Q.grown G (fun g off n c e => t.ne g off n c e), fun g off n c e => by
    rcases h5 with h6 | ⟨b, h6, hb⟩
    · rw [h6]; exact t.ne g off n c e
    · rw [h6]; have := t.Q.lt e; intro e2; cases e2; omega⟩
theorem Two.todoM {base : Nat} {h : FH} {w w' : World} {s7 s8 v' : Value} {seen todo todo' : List Int} {row : Option Nat} (t : Two base h w s7 s8 seen todo) (Q' : QI base h w' v' todo') (G : w.grownBy w' row) (hr : ∀ k, row = some k → base ≤ k ∧ h k = none ∧ ∃ off n c, s8 = .slice (some ⟨k, off, none⟩) n c)
    {m : Nat} (h5 : ∃ g' off' c', v' = .slice (some ⟨g', off', none⟩) m c' ∧ ((∃ off n c, s8 = .slice (some ⟨g', off, none⟩) n c) ∨ w.heap.size ≤ g')) : Two base h w' s7 v' seen todo' :=
  ⟨t.O.kept G (by
      cases row with
      | none => cases s7.ownBlock <;> simp
      | some k =>
        obtain ⟨_, _, off, n, c, e⟩ := hr k rfl
        exact .inr (t.ne k off n c e)) (FLe.refl _) t.O.free, Q', fun g off n c e => by
    obtain ⟨g', off', c', e', h6⟩ := h5
    rw [e'] at e
    cases e
    rcases h6 with ⟨off2, n2, c2, e2⟩ | h6
    · exact t.ne _ _ _ _ e2
    · intro e3; have := (t.O.lt _ e3).2; omega⟩
theorem ext_rowE {base : Nat} {h h1 : FH} {w w1 w2 : World} (E : Ext h w h1 w1) {row : Option Nat} (G : w1.grownBy w2 row) (hr : ∀ k, row = some k → w.heap.size ≤ k ∧ h1 k = none) : Ext h w h1 w2 := E.grown G hr
def kidE (xs : List Inode) (e : Entry) : Option Int := match findI xs e.no with
  | some y => if y.kind = 2 then some y.no else none
  | none => none
def kidsR (xs : List Inode) (d : Int) : List Int := if ((findI xs d).getD zeroI).kind = 2 then ((findI xs d).getD zeroI).entries.filterMap (kidE xs) else []
def insR : Nat → List Inode → Int → List Int → List Int → Bool
  | 0, _, _, _, _ => false
  | n + 1, xs, no, seen, todo => match todo with
    | [] => false
    | d :: rest => if 200 < seen.length then false else if d = no then true else if seen.contains d = true then insR n xs no seen rest else insR n xs no (seen ++ [d]) (rest ++ kidsR xs d)
def insideR (xs : List Inode) (no dir : Int) : Bool := insR 202000 xs no [] [dir]
theorem heap_drew {w : World} {g : Nat} {o : Option Obj} (e : w.heap[g]? = o) : w.drew.heap[g]? = o := e
theorem newlt_drew (w : World) (x : Obj) : w.heap.size < ((w.alloc x).drew).heap.size := by show w.heap.size < (w.heap.push x).size; simp
theorem kid_skip {xs : List Inode} {es : List Entry} {k : Nat} {e : Entry} {rest L : List Int} {b : Prop} [Decidable b] (hb : b) (he : es[k]? = some e) (hk : kidE xs e = none) (hL : L = rest ++ (if b then (es.take k).filterMap (kidE xs) else [])) : L = rest ++ (if b then (es.take (k + 1)).filterMap (kidE xs) else []) := by
  rw [if_pos hb] at hL ⊢
  rw [List.take_add_one, he, List.filterMap_append, hL]
  simp [hk]
theorem kid_add {xs : List Inode} {es : List Entry} {k : Nat} {e : Entry} {rest L : List Int} {i : Int} {b : Prop} [Decidable b] (hb : b) (he : es[k]? = some e) (hk : kidE xs e = some i) (hL : L = rest ++ (if b then (es.take k).filterMap (kidE xs) else [])) : L ++ [i] = rest ++ (if b then (es.take (k + 1)).filterMap (kidE xs) else []) := by
  rw [if_pos hb] at hL ⊢
  rw [List.take_add_one, he, List.filterMap_append, hL]
  simp [hk]
theorem kid_no {xs : List Inode} {e : Entry} {v : Option Inode} {y : Inode} (hv : findI xs e.no = v) (hy : v.getD zeroI = y) (h : v.isSome = false ∨ y.kind ≠ 2) : kidE xs e = none := by
  unfold kidE
  rw [hv]
  subst hy
  cases v with
  | none => rfl
  | some z => simp at h ⊢; exact h
theorem kid_yes {xs : List Inode} {e : Entry} {v : Option Inode} {y : Inode} (hv : findI xs e.no = v) (hy : v.getD zeroI = y) (h : v.isSome = true) (hk : y.kind = 2) : kidE xs e = some y.no := by
  unfold kidE
  rw [hv]
  subst hy
  cases v with
  | none => cases h
  | some z => simp at hk ⊢; exact hk
def lenV : Value → Nat
  | .slice _ n _ => n
  | _ => 0
theorem insR_nil (n : Nat) (xs : List Inode) (no : Int) (seen : List Int) : insR n xs no seen [] = false := by cases n <;> rfl
theorem insR_cons (n : Nat) (xs : List Inode) (no : Int) (seen : List Int) (d : Int) (rest : List Int) : insR (n + 1) xs no seen (d :: rest) = if 200 < seen.length then false else if d = no then true else if seen.contains d = true then insR n xs no seen rest else insR n xs no (seen ++ [d]) (rest ++ kidsR xs d) := rfl

end Go.Proofs.YtdiaibkpcnknbaaDoor
