import Derived.Test.YtkglaofiencfdaaRHard
namespace Go.Proofs.Ytkglaofiencfdaa
open Go.RowKit Go.Sort
set_option linter.unusedVariables false
/-! ### a queue of numbers: an own row, of which the head is cut off -/
structure QI (base : Nat) (h : FH) (w : World) (v : Value) (xs : List Int) : Prop where
  ex : ∃ (g off cap : Nat) (cur : Array Value), v = .slice (some ⟨g, off, none⟩) xs.length cap ∧ base ≤ g ∧ h g = none ∧ w.heap[g]? = some (.cells cur 3 (0, 0)) ∧ off + cap ≤ cur.size ∧ xs.length ≤ cap ∧ cap ≤ 9223372036854775807 ∧ ∀ (i : Nat) (x : Int), xs[i]? = some x → cur[off + i]? = some (.int .i64 x)
theorem QI.made {base : Nat} {h : FH} {w : World} (hs : Sits h w) (hb : base ≤ w.heap.size) (x : Int) : QI base h (w.alloc (.cells #[.int .i64 x] 3)) (.slice (some ⟨w.heap.size, 0, none⟩) 1 1) [x] :=
  ⟨w.heap.size, 0, 1, #[.int .i64 x], rfl, hb, hs.none (Nat.le_refl _), heap_new _ _, Nat.le_refl _, Nat.le_refl _, by decide, fun i y hi => by
    cases i with
    | zero => simp at hi; subst hi; rfl
    | succ i => simp at hi⟩
theorem QI.ext {base : Nat} {h h' : FH} {w w' : World} {v : Value} {xs : List Int} (q : QI base h w v xs) (E : Ext h w h' w') : QI base h' w' v xs := by
  obtain ⟨g, off, cap, cur, e, hb, hn, hg, h1, h2, h3, h4⟩ := q.ex
  exact ⟨g, off, cap, cur, e, hb, E.none hn (Array.getElem?_eq_some_iff.1 hg).1, E.row hg, h1, h2, h3, h4⟩
theorem QI.alloc {base : Nat} {h : FH} {w : World} {v : Value} {xs : List Int} (q : QI base h w v xs) (o : Obj) : QI base h (w.alloc o) v xs := by
  obtain ⟨g, off, cap, cur, e, hb, hn, hg, h1, h2, h3, h4⟩ := q.ex
  exact ⟨g, off, cap, cur, e, hb, hn, box_alloc hg o, h1, h2, h3, h4⟩
theorem QI.drew {base : Nat} {h : FH} {w : World} {v : Value} {xs : List Int} (q : QI base h w v xs) : QI base h w.drew v xs := by
  obtain ⟨g, off, cap, cur, e, hb, hn, hg, h1, h2, h3, h4⟩ := q.ex
  exact ⟨g, off, cap, cur, e, hb, hn, hg, h1, h2, h3, h4⟩
theorem QI.grown {base : Nat} {h : FH} {w w' : World} {v : Value} {xs : List Int} (q : QI base h w v xs) {row : Option Nat} (G : w.grownBy w' row) (hr : ∀ g off n c, v = .slice (some ⟨g, off, none⟩) n c → row ≠ some g) : QI base h w' v xs := by
  obtain ⟨g, off, cap, cur, e, hb, hn, hg, h1, h2, h3, h4⟩ := q.ex
  exact ⟨g, off, cap, cur, e, hb, hn, by rw [G.block g (Array.getElem?_eq_some_iff.1 hg).1 (fun e2 => hr _ _ _ _ e e2.symm)]; exact hg, h1, h2, h3, h4⟩
/-- One more, behind. -/
theorem wpList_appendQ {P : Program} {h : FH} {w : World} {ops : Array Oper} {rest : List Oper} {o : Oper} {a : Act} {Q : Exit → Act → World → Prop} (hgd : o.guard = none) (s x : Operand) (t : TypeId)
    (ho : o.op = .call { callee := .builtin .append, args := #[s, x], argTypes := #[t, t] }) (base : Nat) (T : TyOk P t 3 1 8) (v : Value) (xs : List Int) (hv : a.eval s = v) (O : QI base h w v xs) (hs : Sits h w)
    (gy : Nat) (hx : a.eval x = .slice (some ⟨gy, 0, none⟩) 1 1) (y : Int) (hc : w.cell? ⟨gy, 0, none⟩ = some (.int .i64 y)) (hbytes : (xs.length + 1) * 8 ≤ 140737488355328) (hbase : base ≤ w.heap.size)
    (k : ∀ v' w' row, QI base h w' v' (xs ++ [y]) → w.grownBy w' row → (∀ k, row = some k → base ≤ k ∧ h k = none ∧ ∃ off n c, v = .slice (some ⟨k, off, none⟩) n c) → (∃ g' off' c', v' = .slice (some ⟨g', off', none⟩) (xs.length + 1) c' ∧ ((∃ off n c, v = .slice (some ⟨g', off, none⟩) n c) ∨ w.heap.size ≤ g')) → wpList P ops Q rest (a.put o.dst v') w') : wpList P ops Q (o :: rest) a w := by
  obtain ⟨g, off, cap, cur, rfl, hb, hn, hg, hfit, hle, hmx, hcs⟩ := O.ex
  refine wpList_plain hgd fun K hK => ?_
  obtain ⟨i, z, hi, hz0, hz1, hz2, hz3⟩ := T.info
  have hnews : ∀ j u, ([Value.int .i64 y] : List Value)[j]? = some u → w.cell? ((⟨gy, 0, none⟩ : Addr).add j) = some u := fun j u hu => by
    rw [show (⟨gy, 0, none⟩ : Addr).add j = ⟨gy, j, none⟩ from by unfold Addr.add; split <;> simp_all]
    cases j with
    | zero => simp at hu; subst hu; exact hc
    | succ j => simp at hu
  have h1 : ∀ u ∈ ([Value.int .i64 y] : List Value), u.oneCell' = true := fun u hu => by simp at hu; subst hu; rfl
  by_cases room : xs.length + 1 ≤ cap
  · have hlt : off + xs.length < cur.size := by omega
    have hr := run_append_room_cells (P := P) w t o.type 3 i T.und hi g off xs.length cap ⟨gy, 0, none⟩ 1 1 [.int .i64 y] (by simp [hz1]) hnews h1 room
      (fun j hj => by
        have : j = 0 := by simpa using hj
        subst this
        rw [hz1, cell_of_row _ _ _ _ _ _ hg, Nat.mul_one, Nat.add_zero, Array.getElem?_eq_getElem hlt]; rfl)
      (fun j hj => frozen_of_row _ _ _ _ _ hg)
    unfold Oper.wp execOp
    simp only [ho, resolve, invoke, builtin, Sem.run_bind, Sem.run_pure, Result.andThen_ok, List.map_toArray, List.map_cons, List.map_nil, hv, hx, hr]
    rw [hz1, Nat.mul_one]
    refine hK _ _ (k _ _ (some g) ⟨g, off, cap, cur.setIfInBounds (off + xs.length) (.int .i64 y), by rw [List.length_append]; rfl, hb, hn, box_set hg _, by simpa using hfit, by rw [List.length_append]; exact room, hmx, fun j u hu => ?_⟩ ?_ ?_ ⟨g, off, cap, rfl, .inl ⟨off, _, _, rfl⟩⟩)
    · rw [Array.getElem?_setIfInBounds]
      by_cases e : j = xs.length
      · subst e
        rw [if_pos rfl, if_pos hlt]
        rw [List.getElem?_append_right (Nat.le_refl _), Nat.sub_self] at hu
        simp at hu; rw [hu]
      · rw [if_neg (by omega)]
        refine hcs j u ?_
        have hj : j < (xs ++ [y]).length := (List.getElem?_eq_some_iff.1 hu).1
        rw [List.length_append, List.length_singleton] at hj
        rwa [List.getElem?_append_left (by omega)] at hu
    · exact grown_setCells' g [.int .i64 y] (off + xs.length) w ⟨rfl, rfl, rfl, Nat.le_refl _, fun _ _ _ => rfl⟩
    · intro k hk
      cases hk
      exact ⟨hb, hn, off, _, _, rfl⟩
  · have hlen : xs.length + 1 ≤ 140737488355328 := by omega
    obtain ⟨v', w', hr, hown, G⟩ := run_append_arg_grows (P := P) w t o.type 3 i z 1 8 T.und hi hz0 hz1 hz2 hz3 (by decide) ⟨g, off, none⟩ xs.length cap (xs.map fun x => .int .i64 x) (by simp) (fun j u hu => by
      rw [show (⟨g, off, none⟩ : Addr).add j = ⟨g, off + j, none⟩ from by unfold Addr.add; split <;> simp_all]
      rw [cell_of_row _ _ _ _ _ _ hg]
      rw [List.getElem?_map] at hu
      cases e : xs[j]? with
      | none => rw [e] at hu; cases hu
      | some x => rw [e] at hu; cases hu; exact hcs j x e) ⟨gy, 0, none⟩ 1 1 [.int .i64 y] (by simp) hnews (by omega) (by unfold maxLen; omega) (by omega)
    unfold Oper.wp execOp
    simp only [ho, resolve, invoke, builtin, Sem.run_bind, Sem.run_pure, Result.andThen_ok, List.map_toArray, List.map_cons, List.map_nil, hv, hx, hr]
    rcases hown.2 with ⟨_, h0⟩ | ⟨g', cap', cur', rfl, hb', hg', hle', hm', hsz', htk⟩
    · omega
    · refine hK _ _ (k _ _ none ⟨g', 0, cap', cur', by rw [List.length_append]; rfl, by omega, hs.none hb', hg', by rw [hsz']; omega, by rw [List.length_append]; exact hle', by unfold maxLen at hm'; omega, fun j u hu => ?_⟩ G (fun k hk => by cases hk) ⟨g', 0, cap', rfl, .inr hb'⟩)
      have hj : j < xs.length + 1 := by have := (List.getElem?_eq_some_iff.1 hu).1; simpa using this
      have q : (cur'.toList.take ((xs.length + 1) * 1))[j]? = ((xs.map fun x => Value.int .i64 x) ++ [.int .i64 y])[j]? := by rw [htk]
      rw [List.getElem?_take_of_lt (by omega)] at q
      rw [Nat.zero_add, ← Array.getElem?_toList, q]
      rw [show ((xs.map fun x => Value.int .i64 x) ++ [Value.int .i64 y]) = (xs ++ [y]).map fun x => .int .i64 x by simp, List.getElem?_map, hu]; rfl
end Go.Proofs.Ytkglaofiencfdaa

namespace Go.Proofs.Ytkglaofiencfdaa
open Go.RowKit Go.Sort
set_option linter.unusedVariables false
theorem QI.lt {base : Nat} {h : FH} {w : World} {v : Value} {xs : List Int} (q : QI base h w v xs) {g off n c : Nat} (e : v = .slice (some ⟨g, off, none⟩) n c) : g < w.heap.size := by
  obtain ⟨g', off', cap, cur, e', hb, hn, hg, h1, h2, h3, h4⟩ := q.ex
  rw [e'] at e
  cases e
  exact (Array.getElem?_eq_some_iff.1 hg).1
/-- What was seen, and what is to do: two own rows. -/
structure Two (base : Nat) (h : FH) (w : World) (s7 s8 : Value) (seen todo : List Int) : Prop where
  O : OwnL h w base 3 s7 seen
  Q : QI base h w s8 todo
  ne : ∀ g off n c, s8 = .slice (some ⟨g, off, none⟩) n c → s7.ownBlock ≠ some g
theorem Two.ext {base : Nat} {h h' : FH} {w w' : World} {s7 s8 : Value} {seen todo : List Int} (t : Two base h w s7 s8 seen todo) (E : Ext h w h' w') : Two base h' w' s7 s8 seen todo := ⟨t.O.ext E, t.Q.ext E, t.ne⟩
theorem Two.alloc {base : Nat} {h : FH} {w : World} {s7 s8 : Value} {seen todo : List Int} (t : Two base h w s7 s8 seen todo) (x : Obj) : Two base h (w.alloc x) s7 s8 seen todo := ⟨t.O.alloc x, t.Q.alloc x, t.ne⟩
theorem Two.drew {base : Nat} {h : FH} {w : World} {s7 s8 : Value} {seen todo : List Int} (t : Two base h w s7 s8 seen todo) : Two base h w.drew s7 s8 seen todo := ⟨t.O.drew, t.Q.drew, t.ne⟩
theorem Two.seenM {base : Nat} {h : FH} {w w' : World} {s7 s8 v' : Value} {seen todo seen' : List Int} (t : Two base h w s7 s8 seen todo) (O' : OwnL h w' base 3 v' seen') (G : w.grownBy w' s7.ownBlock) (h5 : v'.ownBlock = s7.ownBlock ∨ ∃ b, v'.ownBlock = some b ∧ w.heap.size ≤ b) : Two base h w' v' s8 seen' todo :=
  ⟨O', t.Q.grown G (fun g off n c e => t.ne g off n c e), fun g off n c e => by
    rcases h5 with h6 | ⟨b, h6, hb⟩
    · rw [h6]; exact t.ne g off n c e
    · rw [h6]; have := t.Q.lt e; intro e2; cases e2; omega⟩
theorem Two.todoM {base : Nat} {h : FH} {w w' : World} {s7 s8 v' : Value} {seen todo todo' : List Int} {row : Option Nat} (t : Two base h w s7 s8 seen todo) (Q' : QI base h w' v' todo') (G : w.grownBy w' row) (hr : ∀ k, row = some k → base ≤ k ∧ h k = none ∧ ∃ off n c, s8 = .slice (some ⟨k, off, none⟩) n c)
    {m : Nat} (h5 : ∃ g' off' c', v' = .slice (some ⟨g', off', none⟩) m c' ∧ ((∃ off n c, s8 = .slice (some ⟨g', off, none⟩) n c) ∨ w.heap.size ≤ g')) : Two base h w' s7 v' seen todo' :=
  ⟨t.O.kept G (by
      cases row with
      | none => cases s7.ownBlock <;> simp
      | some k =>
        obtain ⟨_, _, off, n, c, e⟩ := hr k rfl
        exact .inr (t.ne k off n c e)) (FLe.refl _) t.O.free, Q', fun g off n c e => by
    obtain ⟨g', off', c', e', h6⟩ := h5
    rw [e'] at e
    cases e
    rcases h6 with ⟨off2, n2, c2, e2⟩ | h6
    · exact t.ne _ _ _ _ e2
    · intro e3; have := (t.O.lt _ e3).2; omega⟩
theorem ext_rowE {base : Nat} {h h1 : FH} {w w1 w2 : World} (E : Ext h w h1 w1) {row : Option Nat} (G : w1.grownBy w2 row) (hr : ∀ k, row = some k → w.heap.size ≤ k ∧ h1 k = none) : Ext h w h1 w2 := E.grown G hr
def kidE (xs : List Inode) (e : Entry) : Option Int := match findI xs e.no with
  | some y => if y.kind = 2 then some y.no else none
  | none => none
def kidsR (xs : List Inode) (d : Int) : List Int := if ((findI xs d).getD zeroI).kind = 2 then ((findI xs d).getD zeroI).entries.filterMap (kidE xs) else []
def insR : Nat → List Inode → Int → List Int → List Int → Bool
  | 0, _, _, _, _ => false
  | n + 1, xs, no, seen, todo => match todo with
    | [] => false
    | d :: rest => if 200 < seen.length then false else if d = no then true else if seen.contains d = true then insR n xs no seen rest else insR n xs no (seen ++ [d]) (rest ++ kidsR xs d)
def insideR (xs : List Inode) (no dir : Int) : Bool := insR 202000 xs no [] [dir]
theorem heap_drew {w : World} {g : Nat} {o : Option Obj} (e : w.heap[g]? = o) : w.drew.heap[g]? = o := e
theorem newlt_drew (w : World) (x : Obj) : w.heap.size < ((w.alloc x).drew).heap.size := by show w.heap.size < (w.heap.push x).size; simp
theorem kid_skip {xs : List Inode} {es : List Entry} {k : Nat} {e : Entry} {rest L : List Int} {b : Prop} [Decidable b] (hb : b) (he : es[k]? = some e) (hk : kidE xs e = none) (hL : L = rest ++ (if b then (es.take k).filterMap (kidE xs) else [])) : L = rest ++ (if b then (es.take (k + 1)).filterMap (kidE xs) else []) := by
  rw [if_pos hb] at hL ⊢
  rw [List.take_add_one, he, List.filterMap_append, hL]
  simp [hk]
theorem kid_add {xs : List Inode} {es : List Entry} {k : Nat} {e : Entry} {rest L : List Int} {i : Int} {b : Prop} [Decidable b] (hb : b) (he : es[k]? = some e) (hk : kidE xs e = some i) (hL : L = rest ++ (if b then (es.take k).filterMap (kidE xs) else [])) : L ++ [i] = rest ++ (if b then (es.take (k + 1)).filterMap (kidE xs) else []) := by
  rw [if_pos hb] at hL ⊢
  rw [List.take_add_one, he, List.filterMap_append, hL]
  simp [hk]
theorem kid_no {xs : List Inode} {e : Entry} {v : Option Inode} {y : Inode} (hv : findI xs e.no = v) (hy : v.getD zeroI = y) (h : v.isSome = false ∨ y.kind ≠ 2) : kidE xs e = none := by
  unfold kidE
  rw [hv]
  subst hy
  cases v with
  | none => rfl
  | some z => simp at h ⊢; exact h
theorem kid_yes {xs : List Inode} {e : Entry} {v : Option Inode} {y : Inode} (hv : findI xs e.no = v) (hy : v.getD zeroI = y) (h : v.isSome = true) (hk : y.kind = 2) : kidE xs e = some y.no := by
  unfold kidE
  rw [hv]
  subst hy
  cases v with
  | none => cases h
  | some z => simp at hk ⊢; exact hk
def lenV : Value → Nat
  | .slice _ n _ => n
  | _ => 0
theorem insR_nil (n : Nat) (xs : List Inode) (no : Int) (seen : List Int) : insR n xs no seen [] = false := by cases n <;> rfl
theorem insR_cons (n : Nat) (xs : List Inode) (no : Int) (seen : List Int) (d : Int) (rest : List Int) : insR (n + 1) xs no seen (d :: rest) = if 200 < seen.length then false else if d = no then true else if seen.contains d = true then insR n xs no seen rest else insR n xs no (seen ++ [d]) (rest ++ kidsR xs d) := rfl

set_option maxHeartbeats 32000000 in
set_option maxRecDepth 100000 in
theorem ref_Inside (s : State) (cs : List Value) (no dir : Int) (t : Bool) (ht : insideR s.inodes no dir = t) (hent : ∀ x ∈ s.inodes, x.entries.length ≤ 1000) (h : FH) (w : World) (hs : Sits h w) (rS : repState h cs s) :
    Calls Try.prog 93 #[.agg cs.toArray, .int .i64 no, .int .i64 dir] w fun e w' => e = .returned (.bool t) ∧ Ext h w h w' := by
  have RS := hid rS
  have HENT := hid hent
  have HT := hid ht
  clear rS hent ht
  obtain ⟨h1, E1, hb1, le1, hh1⟩ := (Ext.refl hs).boxF cs.toArray 31
  clear hh1
  go_enter Try.func93, Try.ntmps93
  go_upto_region 1 with (fail)
  generalize hgx : w.heap.size = gx at *
  with_reducible generalize w.alloc (.cells cs.toArray 31) = W2 at E1 ⊢
  clear hgx
  have E2 := hid E1
  have hb1 := hid hb1
  have le1 := hid le1
  clear E1
  go_upto_region 3 with (fail)
  have T3 := (⟨OwnL.nil _ _ _ _, QI.made E2.out.sits E2.out.size dir, fun g off n c e e2 => by cases e2⟩ : Two w.heap.size h1 (W2.alloc (.cells #[.int .i64 dir] 3)) (.slice none 0 0) (.slice (some ⟨W2.heap.size, 0, none⟩) 1 1) [] [dir])
  have E3 := E2.out.alloc (.cells #[.int .i64 dir] 3)
  generalize W2.heap.size = g0 at *
  with_reducible generalize W2.alloc (.cells #[.int .i64 dir] 3) = w3 at T3 E3 ⊢
  have T3 := hid T3
  have E3 := hid E3
  clear E2
  go_wp2_with fail
  go_loopw [7, 8] (fun s7 s8 wr => ∃ (n : Nat) (seen todo : List Int) (h' : FH), (201 - seen.length) * 1001 + todo.length < n ∧ Hid (insR n s.inodes no seen todo = t) ∧ seen.length ≤ 201 ∧ todo.length ≤ 1 + seen.length * 1000 ∧ lenV s7 = seen.length ∧ lenV s8 = todo.length ∧ Hid (Two w.heap.size h' wr s7 s8 seen todo) ∧ Hid (Ext h w h' wr) ∧ Hid (FLe h1 h')) (fun s7 s8 _ => (201 - lenV s7) * 1001 + lenV s8)
  case atStart => exact ⟨202000, [], [dir], h1, (by show (201 - 0) * 1001 + 1 < 202000; decide), HT, (by show 0 ≤ 201; decide), (by show 1 ≤ 1 + 0 * 1000; decide), rfl, rfl, T3, E3, hid (FLe.refl _)⟩
  case round =>
    obtain ⟨n, seen, todo, h', hm, HI, hs1, hs2, hl7, hl8, TW, E, LE⟩ := hrel
    obtain ⟨A7, c7, rfl, hc7⟩ := TW.out.O.slice
    obtain ⟨g8, off8, cap8, cur8, rfl, hb8, hn8, hg8, hf8, hle8, hm8, hcs8⟩ := TW.out.Q.ex
    clear hl7 hl8
    cases todo with
    | nil =>
      have HF := hid (show t = false by rw [← HI.out]; exact insR_nil _ _ _ _)
      have hz : (([] : List Int).length : Int) = 0 := rfl
      clear hcs8 hm hs2 hle8
      go_wp2_with fail
      go_ret
      exact ⟨by rw [HF.out]; rfl, E.out.back⟩
    | cons d rest =>
      obtain ⟨n, rfl⟩ : ∃ m, n = m + 1 := ⟨n - 1, by omega⟩
      have HI2 := hid ((insR_cons n s.inodes no seen d rest).symm.trans HI.out)
      have hlr : (d :: rest).length = rest.length + 1 := rfl
      rw [hlr] at hm hs2 hle8 ⊢
      have HM := hid hm
      have HS1 := hid hs1
      have HS2 := hid hs2
      have HN8 := hid hn8
      have HG8 := hid hg8
      have HF8 := hid hf8
      have HCS8 := hid hcs8
      have HLE8 := hid hle8
      have HB8 := hid hb8
      have HC7 := hid hc7
      have d8 : wr.cell? ⟨g8, off8, none⟩ = some (.int .i64 d) := by rw [cell_of_row _ _ _ _ _ _ hg8]; exact hcs8 0 d rfl
      by_cases h200 : 200 < seen.length
      · have HF := hid (show t = false by rw [← HI2.out, if_pos h200])
        have h201 : ¬ ((seen.length : Int) ≤ 200) := by omega
        clear hcs8 hg8 hm hs2 h200
        go_wp2_with fail
        go_ret
        exact ⟨by rw [HF.out]; rfl, E.out.back⟩
      · have HI3 := hid (HI2.out.symm.trans (if_neg h200))
        have h201 : (seen.length : Int) ≤ 200 := by omega
        have HS3 := hid (show seen.length ≤ 200 by omega)
        clear hcs8 hg8 hn8 hf8 hb8 hc7 hm hs2 hs1 h200
        go_upto_region 5 with (fail)
        clear d8
        go_cut [8] (fun s8 wx => ∃ off' cap', s8 = .slice (some ⟨g8, off', none⟩) rest.length cap' ∧ Hid (Two w.heap.size h' wr (.slice A7 seen.length c7) (.slice (some ⟨g8, off', none⟩) rest.length cap') seen rest) ∧ wx = wr)
        case first =>
          by_cases hc1 : cap8 = 1
          · subst hc1
            obtain rfl : rest = [] := List.eq_nil_of_length_eq_zero (by have := HLE8.out; omega)
            go_wp2_with fail
            go_meet
            exact ⟨off8, 0, rfl, hid ⟨TW.out.O, ⟨g8, off8, 0, cur8, rfl, HB8.out, HN8.out, HG8.out, by have := HF8.out; omega, Nat.le_refl _, by decide, fun i x hi => by cases hi⟩, fun g off n c e => by cases e; exact TW.out.ne g8 off8 _ _ rfl⟩, rfl⟩
          · go_wp2_with fail
            go_meet
            exact ⟨off8 + 1, cap8 - 1, rfl, hid ⟨TW.out.O, ⟨g8, off8 + 1, cap8 - 1, cur8, rfl, HB8.out, HN8.out, HG8.out, by have := HF8.out; have := HLE8.out; omega, by have := HLE8.out; omega, by omega, fun i x hi => by
              have q := HCS8.out (i + 1) x (by simpa using hi)
              rwa [show off8 + (i + 1) = off8 + 1 + i by omega] at q⟩, fun g off n c e => by cases e; exact TW.out.ne g8 off8 _ _ rfl⟩, rfl⟩
        case rest =>
        obtain ⟨off', cap', rfl, T5, rfl⟩ := hcut
        clear hm8
        by_cases hd : d = no
        · have bd : (d == no) = true := by simpa using hd
          have HF := hid (show t = true by rw [HI3.out, if_pos hd])
          clear hd
          go_wp2_with fail
          go_ret
          exact ⟨by rw [HF.out]; rfl, E.out.back⟩
        · have bd : (d == no) = false := by simpa using hd
          have HI4 := hid (HI3.out.trans (if_neg hd))
          obtain ⟨hF, AF, cF, hvF, hcF, rF, lF, sF, fF⟩ := T5.out.O.freeze E.out.sits (by have := HS3.out; omega)
          injection hvF with e1 e2 e3
          subst e1; subst e3
          obtain ⟨q, hq⟩ : ∃ q, seen.contains d = q := ⟨_, rfl⟩
          have KIn := hid (help_In seen A7 c7 d q hq hF _ sF rF)
          rw [hq] at HI4
          clear hd hcF rF lF sF fF hq e2
          cases q
          · obtain ⟨sn, hsn⟩ : ∃ l, l = seen ++ [d] := ⟨_, rfl⟩
            have HSN := hid hsn
            have HSNL := hid (show sn.length = seen.length + 1 by rw [hsn]; simp)
            have HI5 := hid (show insR n s.inodes no sn (rest ++ kidsR s.inodes d) = t by rw [hsn]; exact (HI4.out.trans (if_neg (by simp))).symm)
            clear hsn
            have HBB := hid (show (seen.length + 1) * 8 ≤ 140737488355328 by have := HS3.out; omega)
            obtain ⟨v, hv⟩ : ∃ v, findI s.inodes d = v := ⟨_, rfl⟩
            obtain ⟨x, hx⟩ : ∃ x, v.getD zeroI = x := ⟨_, rfl⟩
            have HXE := hid (show x.entries.length ≤ 1000 by
              rw [← hx, ← hv]; exact findI_all (Q := fun x => x.entries.length ≤ 1000) (by decide) HENT.out d)
            have HX := hid hx
            have HK := hid (show kidsR s.inodes d = if x.kind = 2 then x.entries.filterMap (kidE s.inodes) else [] by unfold kidsR; rw [hv, hx])
            have HV := hid hv
            clear hx hv
            go_upto_region 10 with (first | (go_at_call 62; refine KIn.out.mono ?_; rintro e w4 ⟨rfl, F⟩; have F4 := Ext.of_below E.out.sits F.below; have E4 := hid (E.out.trans F4); have T6 := hid (T5.out.ext F4); clear F F4) | (at_builtin; refine wpList_append1 rfl _ _ 29 rfl w.heap.size 3 8 ty_Int _ _ rfl T6.out.O E4.out.sits [.int .i64 d] (d : Int) 3 rfl rfl HBB.out (by decide) E4.out.size ?_; intro v7 w5 O7 G7 h57; rw [← HSN.out] at O7; have T7 := T6.out.seenM O7 G7 h57; have E5 := hid (E4.out.grown G7 (fun k hk => ⟨(T6.out.O.lt k hk).1, T6.out.O.free k hk⟩)); obtain ⟨A9, c9, rfl, hc9⟩ := O7.slice; have T7 := hid T7; clear O7 G7 h57 hc9))
            clear T5 T6 E4 KIn TW
            have HS5 := hid (LE.out _ _ hb1.out)
            have KF := hid (ref_FindInode s cs d v HV.out h' w5 E5.out.sits (repState.mono (le1.out.trans LE.out) RS.out))
            go_upto_region 11 with (first | (refine wpList_load_row rfl 31 _ rfl gx rfl 31 cs.toArray (0, 0) _ (E5.out.sits _ _ HS5.out) Try.underlying31 rfl (info_State RS.out.len) ?_) | (go_at_call 14; refine KF.out.mono ?_; rintro e w6 ⟨xl, h6, rfl, rx, F6⟩; rw [HX.out] at rx; have E6 := hid (E5.out.trans F6); have T8 := hid (T7.out.ext F6); have l6 := hid F6.le; have rx := hid rx; clear F6) | (refine wpList_store_row rfl 37 _ _ rfl w6.heap.size xl.toArray rfl rfl 37 #[.int .i64 0, .int .i64 0, .int .i64 0, .int .i64 0, .string ⟨#[]⟩, .slice none 0 0, .slice none 0 0] (heap_new w6 _) (info_Inode rx.out.len) (zi_sizeR rx.out) (one_arr rx.out.one) ?_))
            rw [World.setRow_alloc_new]
            obtain ⟨h8, F8, hbx, l8, hh8⟩ := (Ext.refl E6.out.sits).boxF xl.toArray 37
            have E8 := E6.out.trans F8
            have T9 := T8.out.ext F8
            generalize w6.heap.size = gy at *
            with_reducible generalize w6.alloc (.cells xl.toArray 37) = w8 at E8 T9 F8 ⊢
            have E8 := hid E8
            have T9 := hid T9
            have hbx := hid hbx
            have rx8 := hid (rx.out.mono l8)
            have LE8 := hid (LE.out.trans (l6.out.trans l8))
            clear hh8 l8 F8 T8 E6 E5 T7 KF
            go_wp2_with fail
            go_loopw [8, 12] (fun s8 i w2 => ∃ (k : Nat) (L : List Int) (hK : FH), k ≤ x.entries.length ∧ i = .int .i64 k ∧ Hid (Two w.heap.size hK w2 (.slice A9 sn.length c9) s8 sn L) ∧ Hid (L = rest ++ (if x.kind = 2 then (x.entries.take k).filterMap (kidE s.inodes) else [])) ∧ Hid (Ext h w hK w2) ∧ Hid (FLe h8 hK)) (fun _ i _ => x.entries.length - (intOf i).toNat)
            case atStart => exact ⟨0, rest, h8, Nat.zero_le _, rfl, T9, hid (by simp), E8, hid (FLe.refl _)⟩
            case round =>
              obtain ⟨k, L, hK, hk, rfl, TK, HL, EK, LK⟩ := hrel
              have n1 := sits_cellL EK.out.sits (LK.out _ _ hbx.out) rx8.out.at1
              obtain ⟨A5, c5, at5, k5, row5⟩ := rx8.out.at5
              have n5 := sits_cellL EK.out.sits (LK.out _ _ hbx.out) at5
              have HKL := hid (show (kidsR s.inodes d).length ≤ 1000 by
                rw [HK.out]; split
                · exact Nat.le_trans (List.length_filterMap_le _ _) HXE.out
                · exact Nat.zero_le _)
              by_cases hke : k < x.entries.length
              · have hke2 : (k : Int) < (x.entries.length : Int) := by omega
                by_cases hkd : x.kind = 2
                · have bk : (x.kind == 2) = true := by simpa using hkd
                  obtain ⟨en, hen⟩ : ∃ e, x.entries[k]? = some e := ⟨x.entries[k], by simp [hke]⟩
                  obtain ⟨b, off, rfl, frow⟩ := (row5.mono LK.out).2 (by omega)
                  obtain ⟨ce, ⟨rfl, hez⟩, hce⟩ := frow k en hen
                  have hno := hce 1 _ rfl
                  obtain ⟨v2, hv2⟩ : ∃ v, findI s.inodes en.no = v := ⟨_, rfl⟩
                  obtain ⟨y, hy⟩ : ∃ y, v2.getD zeroI = y := ⟨_, rfl⟩
                  have HY := hid hy
                  have HV2 := hid hv2
                  have HKD := hid hkd
                  have HEN := hid hen
                  obtain ⟨A1, c1, A2, c2, rfl, -⟩ := id RS.out
                  have hbS := LK.out _ _ (LE8.out _ _ hb1.out)
                  have hq0 : ∀ w' : World, Ext h w hK w' → w'.cell? ⟨gx, 0, none⟩ = some (.int .i64 s.next) := fun w' E => sits_cellG E.sits hbS rfl
                  have hq1 : ∀ w' : World, Ext h w hK w' → w'.cell? ⟨gx, 1, none⟩ = some (.slice A1 s.inodes.length c1) := fun w' E => sits_cellG E.sits hbS rfl
                  have hq2 : ∀ w' : World, Ext h w hK w' → w'.cell? ⟨gx, 2, none⟩ = some (.slice A2 s.bads.length c2) := fun w' E => sits_cellG E.sits hbS rfl
                  have hq5 : ∀ w' : World, Ext h w hK w' → w'.cell? ⟨gy, 5, none⟩ = some (.slice (some ⟨b, off, none⟩) x.entries.length c5) := fun w' E => sits_cellL E.sits (LK.out _ _ hbx.out) at5
                  have hqn : ∀ w' : World, Ext h w hK w' → w'.cell? ⟨b, off + k * 2 + 1, none⟩ = some (.int .i64 en.no) := fun w' E => E.sits.cell hno
                  have KF2 := hid (fun (w' : World) (hs' : Sits hK w') => ref_FindInode s _ en.no v2 hv2 hK w' hs' (repState.mono (le1.out.trans (LE8.out.trans LK.out)) RS.out))
                  clear hv2 hy hkd hen hno hce frow hbS
                  obtain ⟨g9, off9, cap9, cur9, rfl, -⟩ := id TK.out.Q.ex
                  go_upto_region 14 with (fail)
                  go_cut [13, 14] (fun s13 s14 wx => ∃ (g13 : Nat) (hM : FH), s13 = .pointer (some ⟨g13, 0, none⟩) ∧ s14 = .bool v2.isSome ∧ Hid (Ext h w hM wx) ∧ Hid (Two w.heap.size hM wx (.slice A9 sn.length c9) (.slice (some ⟨g9, off9, none⟩) L.length cap9) sn L) ∧ wx.cell? ⟨g13, 0, none⟩ = some (.int .i64 y.no) ∧ wx.cell? ⟨g13, 1, none⟩ = some (.int .i64 y.kind) ∧ Hid (FLe hK hM))
                  case first =>
                    have E14 := EK.out.drew
                    have Tc := hid TK.out.drew
                    clear n1 n5
                    go_region_held3 (fun w' => Ext h w hK w') (first | with_reducible assumption | with_reducible exact Eg | with_reducible exact Ext.alloc Eg _ | with_reducible exact (Ext.alloc EK.out _).drew | with_reducible exact Ext.alloc E14 _ | exact Ext.setCells EK.out.size (EK.out.sits.none (Nat.le_refl _)) [.int .i64 y.no, .int .i64 y.kind, .int .i64 y.links, .int .i64 y.size, .string y.target, .slice B5 y.entries.length d5, .slice B6 y.runs.length d6] 0 _ Eg) (first | (go_at_call 14; (with_reducible refine (KF2.out _ (Ext.sits (h := h) (h' := hK) (w := w) (by with_reducible assumption))).mono ?_); rintro e wf ⟨yl, hY, rfl, ry, Fy⟩; rw [HY.out] at ry; obtain ⟨B5, d5, B6, d6, rfl⟩ := ry.open; have Eg := Ext.trans (h := h) (w := w) (h1 := hK) (by with_reducible assumption) Fy.back; have Ed := hid (Ext.trans (h := h) (w := w) (h1 := hK) (by with_reducible assumption) Fy); have Td := hid (Two.ext (base := w.heap.size) (h := hK) (s7 := .slice A9 sn.length c9) (seen := sn) (todo := L) (by first | with_reducible exact Tc.out | with_reducible exact Tc.out.alloc _ | with_reducible exact (TK.out.alloc _).drew) Fy); have lY := hid Fy.le; have ry := hid ry; (first | (have mrow : wf.heap[wr.heap.size]? = some (.cells #[.int .i64 0, .int .i64 0, .int .i64 0, .int .i64 0, .string ⟨#[]⟩, .slice none 0 0, .slice none 0 0] 37 (0, 0)) := (by first | with_reducible exact Fy.row (heap_new wr _) | with_reducible exact Fy.row (heap_new wr.drew _) | with_reducible exact Fy.row (heap_drew (heap_new wr _))); have Ek := hid (Ext.trans ((Ext.refl EK.out.sits).alloc _).drew Fy); have mn := hid (Fy.none (EK.out.sits.none (Nat.le_refl _)) (newlt_drew wr _)); have mz0 := box_cell (j := 0) (v := .int .i64 0) mrow rfl; have fz0 := box_free (j := 0) mrow; have mz1 := box_cell (j := 1) (v := .int .i64 0) mrow rfl; have fz1 := box_free (j := 1) mrow; have mz2 := box_cell (j := 2) (v := .int .i64 0) mrow rfl; have fz2 := box_free (j := 2) mrow; have mz3 := box_cell (j := 3) (v := .int .i64 0) mrow rfl; have fz3 := box_free (j := 3) mrow; have mz4 := box_cell (j := 4) (v := .string ⟨#[]⟩) mrow rfl; have fz4 := box_free (j := 4) mrow; have mz5 := box_cell (j := 5) (v := .slice none 0 0) mrow rfl; have fz5 := box_free (j := 5) mrow; have mz6 := box_cell (j := 6) (v := .slice none 0 0) mrow rfl; have fz6 := box_free (j := 6) mrow; have mrow := hid mrow) | skip); clear Fy))
                    · go_wp2_with fail
                      go_meet
                      exact ⟨_, hY, rfl, rfl, hid (Ed.out.alloc _), hid (Td.out.alloc _), box_cell (j := 0) (heap_new _ _) rfl, box_cell (j := 1) (heap_new _ _) rfl, lY⟩
                    · go_wp2_with fail
                      go_meet
                      have EF := Ext.setCells (Nat.le_refl _) mn.out [.int .i64 y.no, .int .i64 y.kind, .int .i64 y.links, .int .i64 y.size, .string y.target, .slice B5 y.entries.length d5, .slice B6 y.runs.length d6] 0 _ Ek.out
                      have rowF := setCells_row [.int .i64 y.no, .int .i64 y.kind, .int .i64 y.links, .int .i64 y.size, .string y.target, .slice B5 y.entries.length d5, .slice B6 y.runs.length d6] mrow.out rfl
                      exact ⟨_, hY, rfl, rfl, hid (EK.out.trans EF), hid (TK.out.ext EF), box_cell (j := 0) rowF rfl, box_cell (j := 1) rowF rfl, lY⟩
                  case rest =>
                    obtain ⟨g13, hM, rfl, rfl, EM, TM, y0, y1, LM⟩ := hcut
                    have hLl := hid (show L.length ≤ rest.length + 1000 by
                      rw [HL.out, List.length_append]
                      split
                      · have := List.length_filterMap_le (kidE s.inodes) (x.entries.take k); rw [List.length_take] at this; have := HXE.out; omega
                      · simp)
                    have HBL := hid (show (L.length + 1) * 8 ≤ 140737488355328 by have := hLl.out; have := HS2.out; have := HS3.out; omega)
                    have hxe := HXE.out
                    cases hq : v2.isSome with
                    | false =>
                      have HLN := hid (kid_skip HKD.out HEN.out (kid_no HV2.out HY.out (.inl hq)) HL.out)
                      clear hq
                      go_at_K
                      go_wp2_with fail
                      go_roundw
                      case rel => exact ⟨k + 1, L, hM, by omega, by go_num, TM, HLN, EM, hid (LK.out.trans LM.out)⟩
                      case measure => simp [intOf]; omega
                    | true =>
                      by_cases hyk : y.kind = 2
                      · have by2 : (y.kind == 2) = true := by simpa using hyk
                        have HLN := hid (kid_add HKD.out HEN.out (kid_yes HV2.out HY.out hq hyk) HL.out)
                        clear hq hyk
                        go_at_K
                        go_wp2_with (at_builtin; refine wpList_appendQ rfl _ _ 29 rfl w.heap.size ty_Int _ _ rfl (TM.out.alloc _).Q (EM.out.alloc _).sits wc.heap.size rfl y.no (box_cell (j := 0) (heap_new _ _) rfl) HBL.out (EM.out.alloc _).size ?_; intro v' w5 row Q5 G5 hr5 h55)
                        go_roundw
                        case rel => exact ⟨k + 1, (L ++ [y.no]), hM, by omega, by go_num, hid ((TM.out.alloc _).todoM Q5 G5 hr5 h55), HLN, hid ((EM.out.alloc _).grown G5 (fun k hk => ⟨(hr5 k hk).1, (hr5 k hk).2.1⟩)), hid (LK.out.trans LM.out)⟩
                        case measure => simp [intOf]; omega
                      · have by2 : (y.kind == 2) = false := by simpa using hyk
                        have HLN := hid (kid_skip HKD.out HEN.out (kid_no HV2.out HY.out (.inr hyk)) HL.out)
                        clear hq hyk
                        go_at_K
                        go_wp2_with fail
                        go_roundw
                        case rel => exact ⟨k + 1, L, hM, by omega, by go_num, TM, HLN, EM, hid (LK.out.trans LM.out)⟩
                        case measure => simp [intOf]; omega
                · have bk : (x.kind == 2) = false := by simpa using hkd
                  obtain ⟨g9, off9, cap9, cur9, rfl, -⟩ := TK.out.Q.ex
                  have HLK := hid (show L = rest ++ kidsR s.inodes d by rw [HL.out, HK.out]; rw [if_neg hkd, if_neg hkd])
                  go_wp2_with fail
                  go_roundw
                  case rel => exact ⟨n, sn, L, hK, by have := HM.out; have := HS3.out; have := HKL.out; rw [HLK.out, HSNL.out, List.length_append]; omega, by rw [HLK.out]; exact HI5, by rw [HSNL.out]; have := HS3.out; omega, by have := HS2.out; have := HKL.out; rw [HLK.out, HSNL.out, List.length_append]; omega, rfl, rfl, TK, EK, hid (LE8.out.trans LK.out)⟩
                  case measure => (have := HKL.out; have := HS3.out; simp only [lenV]; rw [HLK.out, HSNL.out, List.length_append]; omega)
              · have hke2 : ¬ ((k : Int) < (x.entries.length : Int)) := by omega
                obtain rfl : k = x.entries.length := by omega
                obtain ⟨g9, off9, cap9, cur9, rfl, -⟩ := TK.out.Q.ex
                have HLK := hid (show L = rest ++ kidsR s.inodes d by rw [HL.out, HK.out]; rw [List.take_length])
                go_wp2_with fail
                go_roundw
                case rel => exact ⟨n, sn, L, hK, by have := HM.out; have := HS3.out; have := HKL.out; rw [HLK.out, HSNL.out, List.length_append]; omega, by rw [HLK.out]; exact HI5, by rw [HSNL.out]; have := HS3.out; omega, by have := HS2.out; have := HKL.out; rw [HLK.out, HSNL.out, List.length_append]; omega, rfl, rfl, TK, EK, hid (LE8.out.trans LK.out)⟩
                case measure => (have := HKL.out; have := HS3.out; simp only [lenV]; rw [HLK.out, HSNL.out, List.length_append]; omega)
          · have HI5 := hid (show insR n s.inodes no seen rest = t from (HI4.out.trans (if_pos rfl)).symm)
            go_wp2_with (go_at_call 62; refine KIn.out.mono ?_; rintro e w4 ⟨rfl, F⟩; have F4 := Ext.of_below E.out.sits F.below; have E4 := hid (E.out.trans F4); have T6 := hid (T5.out.ext F4); clear F F4)
            go_roundw
            case rel => exact ⟨n, seen, rest, h', by have := HM.out; omega, HI5, HS1.out, by have := HS2.out; omega, rfl, rfl, T6, E4, LE⟩
            case measure => simp [lenV]
end Go.Proofs.Ytkglaofiencfdaa
