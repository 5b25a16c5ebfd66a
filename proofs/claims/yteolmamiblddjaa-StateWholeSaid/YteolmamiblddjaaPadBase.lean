import Derived.Test.YteolmamiblddjaaPlain
import Derived.Test.YteolmamiblddjaaTys
import Derived.OwnWalk
import Derived.Deep.MidRow
namespace Go.Proofs.Yteolmamiblddjaa
open Go.RowKit Go.Sort
set_option linter.unusedVariables false
section
variable {α : Type} [Enc α]
theorem heap_setCells (g : Nat) (e : TypeId) (fr : Nat × Nat) : ∀ (vs : List Value) (o : Nat) (w : World) (cur : Array Value), w.heap[g]? = some (.cells cur e fr) →
    ∃ cur', (w.setCells g o vs).heap[g]? = some (.cells cur' e fr) ∧ cur'.size = cur.size ∧ ∀ i, i < cur.size → cur'[i]? = if o ≤ i ∧ i < o + vs.length then vs[i - o]? else cur[i]?
  | [], o, w, cur, h => ⟨cur, h, rfl, fun i hi => by rw [if_neg (by simp)]⟩
  | v :: r, o, w, cur, h => by
    obtain ⟨cur', h1, h2, h3⟩ := heap_setCells g e fr r (o + 1) (w.setCell ⟨g, o, none⟩ v) (cur.setIfInBounds o v) (by
      simp only [World.setCell, Array.getElem?_modify, if_true, h, Option.map_some, Option.isSome_none, Bool.false_eq_true, if_false])
    refine ⟨cur', h1, by simpa using h2, fun i hi => ?_⟩
    rw [h3 i (by simpa using hi)]
    by_cases h4 : i = o
    · subst h4
      rw [if_neg (by omega), if_pos (by simp)]
      simp [hi]
    · by_cases h5 : o ≤ i ∧ i < o + (v :: r).length
      · rw [if_pos h5, if_pos (by simp at h5; omega)]
        rw [show i - o = (i - (o + 1)) + 1 from by omega]
        simp
      · rw [if_neg h5, if_neg (by simp at h5; omega)]
        rw [Array.getElem?_setIfInBounds]
        rw [if_neg (fun e => h4 e.symm)]
theorem Ext.setCells {h h1 : FH} {w : World} {g : Nat} (hp : w.heap.size ≤ g) (hn : h1 g = none) : ∀ (vs : List Value) (o : Nat) (w1 : World), Ext h w h1 w1 → Ext h w h1 (w1.setCells g o vs)
  | [], _, _, a => a
  | v :: r, o, w1, a => Ext.setCells hp hn r (o + 1) _ (a.setCell (p := ⟨g, o, none⟩) hp hn v)
/-- The room behind an own row is filled, one by one. -/
theorem OwnL.push {h : FH} {w : World} {base : Nat} {e : TypeId} {g n cap : Nat} {xs : List α} (o : OwnL h w base e (.slice (some ⟨g, 0, none⟩) n cap) xs) {cs : List Value} {y : α} (hy : Enc.rep h cs y) (hlt : xs.length < cap) :
    OwnL h (w.setCells g (xs.length * Enc.sz α) cs) base e (.slice (some ⟨g, 0, none⟩) (xs.length + 1) cap) (xs ++ [y]) ∧ w.there g (xs.length * Enc.sz α) (Enc.sz α) := by
  obtain ⟨cells, hw, r⟩ := o.own
  have hl := Enc.len hy
  rcases hw.2 with ⟨he, hn⟩ | ⟨g', cap', cur, he, hb, hg, hc, hm, hcs, htake⟩
  · cases he
  · cases he
    have hsz : (xs.length + 1) * Enc.sz α ≤ cur.size := by rw [hcs]; exact Nat.mul_le_mul_right _ hlt
    rw [Nat.add_mul, Nat.one_mul] at hsz
    refine ⟨⟨⟨cells ++ cs, ⟨?_, ?_⟩, r.append (Reps.single hy)⟩, o.free⟩, fun j hj => ⟨?_, by simp [World.frozen?, hg]⟩⟩
    · rw [List.length_append, hw.1, hl, List.length_append, List.length_singleton, Nat.add_mul]; omega
    · obtain ⟨cur', h1, h2, h3⟩ := heap_setCells g e (0, 0) cs (xs.length * Enc.sz α) w cur hg
      refine .inr ⟨g, cap, cur', by rw [List.length_append]; rfl, hb, h1, by rw [List.length_append]; exact hlt, hm, by rw [h2, hcs], ?_⟩
      apply List.ext_getElem?
      intro i
      rw [List.length_append, List.length_singleton, Nat.add_mul, Nat.one_mul, List.getElem?_take]
      by_cases hi : i < xs.length * Enc.sz α + Enc.sz α
      · rw [if_pos hi, Array.getElem?_toList, h3 i (by omega)]
        by_cases hi2 : i < xs.length * Enc.sz α
        · rw [if_neg (by omega), List.getElem?_append_left (by rw [hw.1]; exact hi2), ← htake, List.getElem?_take, if_pos hi2, Array.getElem?_toList]
        · rw [if_pos (by rw [hl]; omega), List.getElem?_append_right (by rw [hw.1]; omega), hw.1]
      · rw [if_neg hi, List.getElem?_eq_none (by rw [List.length_append, hw.1, hl]; omega)]
    · rw [cell_of_row _ g _ cur e (0, 0) hg]
      rw [Array.getElem?_eq_getElem (by omega)]; rfl
/-- 'append' within the capacity of an own row. -/
theorem wpList_appendIn {P : Program} {h : FH} {w : World} {ops : Array Oper} {rest : List Oper} {o : Oper} {a : Act} {Q : Exit → Act → World → Prop} (hgd : o.guard = none) (s x : Operand) (t : TypeId)
    (ho : o.op = .call { callee := .builtin .append, args := #[s, x], argTypes := #[t, t] }) (base : Nat) (e : TypeId) (bytes : Nat) (T : TyOk P t e (Enc.sz α) bytes) (g cap : Nat) (xs ys : List α) {n0 : Nat} (hv : a.eval s = .slice (some ⟨g, 0, none⟩) n0 cap) (O : OwnL h w base e (.slice (some ⟨g, 0, none⟩) n0 cap) xs) (hn0 : n0 = xs.length) (hs : Sits h w)
    (A : Option Addr) (n c : Nat) (hx : a.eval x = .slice A n c) (hny : n = ys.length) (r : RowAt h A ys) (b1 : xs.length + ys.length ≤ cap)
    (k : ∀ w', OwnL h w' base e (.slice (some ⟨g, 0, none⟩) (n0 + n) cap) (xs ++ ys) → w.grownBy w' (some g) → wpList P ops Q rest (a.put o.dst (.slice (some ⟨g, 0, none⟩) (n0 + n) cap)) w') : wpList P ops Q (o :: rest) a w := by
  subst hny hn0
  obtain ⟨i, z, hi, hz0, hz1, hz2, hz3⟩ := T.info
  obtain ⟨cells, hw, R⟩ := O.own
  cases A with
  | none =>
    have hy : ys = [] := by
      cases ys with
      | nil => rfl
      | cons y ys => obtain ⟨b, off, e, _⟩ := r.2 (by simp); cases e
    subst hy
    refine wpList_plain hgd fun K hK => ?_
    have hr := run_append_none' (P := P) base t o.type e i (Enc.sz α) T.und hi _ xs.length cells hw c
    unfold Oper.wp execOp
    simp only [ho, resolve, invoke, builtin, Sem.run_bind, Sem.run_pure, Result.andThen_ok, List.map_toArray, List.map_cons, List.map_nil, hv, hx]
    rw [show ([] : List α).length = 0 from rfl, hr]
    exact hK _ _ (by simpa using k w (by simpa using O) ⟨rfl, rfl, rfl, Nat.le_refl _, fun _ _ _ => rfl⟩)
  | some ad =>
    obtain ⟨news, RN, hnews⟩ : ∃ news, Reps h news ys ∧ ∀ j u, news[j]? = some u → w.cell? (ad.add j) = some u := by
      by_cases hy : 0 < ys.length
      · obtain ⟨b, off, e, f⟩ := r.2 hy
        cases e
        obtain ⟨news, RN, hn⟩ := RowAt.reps (h := h) (b := b) (off := off) (xs := ys) 0 (fun i x hx => by simpa using f i x hx)
        exact ⟨news, RN, fun j u hu => by rw [show (⟨b, off, none⟩ : Addr).add j = ⟨b, off + j, none⟩ from by unfold Addr.add; split <;> simp_all]; exact hs.cell (by simpa using hn j u hu)⟩
      · have : ys = [] := List.eq_nil_of_length_eq_zero (by omega)
        subst this
        exact ⟨[], rfl, fun j u hu => by simp at hu⟩
    exact wpList_append_fits w hgd s x t ho base e i (Enc.sz α) T.und hi hz1 g xs.length cap cells hv hw ad ys.length c news hx RN.length hnews RN.one b1 (fun w' O' hg => k w' ⟨⟨_, by rw [List.length_append]; exact O', R.append RN⟩, O.free⟩ hg)
theorem RowAt.take {h : FH} {A : Option Addr} {xs ys : List α} (r : RowAt h A (xs ++ ys)) : RowAt h A xs := by
  obtain ⟨h1, h2⟩ := r
  rw [List.length_append] at h1 h2
  exact ⟨by omega, fun hp => by
    obtain ⟨b, off, e, f⟩ := h2 (by omega)
    exact ⟨b, off, e, fun i x hx => f i x (by rw [List.getElem?_append_left (List.getElem?_eq_some_iff.1 hx).1]; exact hx)⟩⟩
/-- A copy with room behind it, and something in it. -/
def RetPad (h : FH) (w : World) (T : TypeId) (xs : List α) (f : α) (e : Ending) (w' : World) : Prop :=
  ∃ g h1, e = .returned (.slice (some ⟨g, 0, none⟩) xs.length (xs.length + 3)) ∧ RowAt h1 (some ⟨g, 0, none⟩) (xs ++ List.replicate 3 f) ∧ Ext h w h1 w'
end
theorem own_zero' {w : World} {base g n m : Nat} {e : TypeId} {size : Nat} {cells : List Value} (h : w.ownsRow base e size (.slice (some ⟨g, 0, none⟩) m n) m cells) : w.ownsRow base e size (.slice (some ⟨g, 0, none⟩) 0 n) 0 [] := by
  rcases h.2 with ⟨he, _⟩ | ⟨g', cap, cur, he, hb, hg, hc, hm, hcs, ht⟩
  · cases he
  · cases he
    exact ⟨by simp, .inr ⟨g, n, cur, rfl, hb, hg, Nat.zero_le _, hm, hcs, by simp⟩⟩
/-- A row of the call's own, from now on as it is. -/
theorem OwnL.stay {α : Type} [Enc α] {h0 h : FH} {w0 w : World} {base : Nat} {e : TypeId} {v : Value} {xs : List α} (o : OwnL h w base e v xs) (E : Ext h0 w0 h w) (hb : w0.heap.size ≤ base) (hlen : xs.length ≤ 9223372036854775807) :
    ∃ h' A c, v = .slice A xs.length c ∧ RowAt h' A xs ∧ FLe h h' ∧ Ext h0 w0 h' w := by
  obtain ⟨h', A, c, hv, _, r, l, s, f⟩ := o.freeze E.sits hlen
  exact ⟨h', A, c, hv, r, l, ⟨E.le.trans l, s, E.below, fun b hb' => by
    rcases f b hb' with h3 | h3
    · exact E.fresh b h3
    · exact .inr (Nat.le_trans hb h3)⟩⟩
theorem cell_int {h : FH} {w : World} {base : Nat} {e : TypeId} {g n cap : Nat} {xs : List Int} (o : OwnL h w base e (.slice (some ⟨g, 0, none⟩) n cap) xs) {i : Nat} {x : Int} (hx : xs[i]? = some x) :
    w.cell? ⟨g, i, none⟩ = some (.int .i64 x) ∧ w.frozen? ⟨g, i, none⟩ = false ∧ h g = none ∧ base ≤ g := by
  obtain ⟨g1, cap1, cs1, hv1, hb, _, hn, hr1, hc1, hf1⟩ := o.get hx
  obtain ⟨rfl, -⟩ : g = g1 ∧ _ := by simpa using hv1
  have hr1 : cs1 = [.int .i64 x] := hr1
  subst hr1
  have := hc1 0 _ rfl
  rw [show i * Enc.sz Int + 0 = i from Nat.mul_one i] at this
  exact ⟨this, hf1 i, hn, hb⟩
theorem put_int {h : FH} {w : World} {base : Nat} {e : TypeId} {g n cap : Nat} {xs : List Int} (o : OwnL h w base e (.slice (some ⟨g, 0, none⟩) n cap) xs) {i : Nat} {x : Int} (hx : xs[i]? = some x) (y : Int) :
    OwnL h (w.setCell ⟨g, i, none⟩ (.int .i64 y)) base e (.slice (some ⟨g, 0, none⟩) n cap) (xs.set i y) := by
  have P1 := o.setCell (y := y) (j := 0) (u := .int .i64 y) hx (by decide) (fun cs hcs => by have hcs : cs = [.int .i64 x] := hcs; subst hcs; exact (rfl : _ = _))
  rwa [show i * Enc.sz Int + 0 = i from Nat.mul_one i] at P1
end Go.Proofs.Yteolmamiblddjaa
