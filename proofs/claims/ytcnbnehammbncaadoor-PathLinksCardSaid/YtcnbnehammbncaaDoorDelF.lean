import Derived.Test.YtcnbnehammbncaaDoorInsT
namespace Go.Proofs.YtcnbnehammbncaaDoor
open Go.RowKit Go.Sort
set_option linter.unusedVariables false
section
variable {α : Type} [Enc α]
theorem Sits.grown {h : FH} {w w' : World} (hs : Sits h w) {g : Nat} (G : w.grownBy w' (some g)) (hn : h g = Option.none) : Sits h w' := fun b x hb => by
  rw [G.block b (hs.lt (by rw [hb]; simp)) (fun e => by cases e; rw [hn] at hb; cases hb)]; exact hs b x hb
theorem Ext.grownBy {h h1 : FH} {w w1 : World} (E : Ext h w h1 w1) (r : Option Nat) : w.grownBy w1 r := grownBy_of_ext E r
theorem frozen_set {w : World} {g : Nat} {cells : Array Value} {t : TypeId} {fr : Nat × Nat} : True := trivial
/-- A whole element is written. -/
theorem OwnL.setElem {h : FH} {w : World} {base : Nat} {e : TypeId} {g n cap : Nat} {xs : List α} (o : OwnL h w base e (.slice (some ⟨g, 0, none⟩) n cap) xs) {i : Nat} {y : α} {cs : List Value} (hi : i < xs.length) (hy : Enc.rep h cs y) :
    OwnL h (w.setCells g (i * Enc.sz α) cs) base e (.slice (some ⟨g, 0, none⟩) n cap) (xs.set i y) := by
  obtain ⟨cells, hw, r⟩ := o.own
  have hcl : cells.length = xs.length * Enc.sz α := hw.1
  have hyl : cs.length = Enc.sz α := Enc.len hy
  have hlt : (i + 1) * Enc.sz α ≤ xs.length * Enc.sz α := Nat.mul_le_mul_right _ hi
  have hlt2 : i * Enc.sz α + Enc.sz α ≤ xs.length * Enc.sz α := by rw [Nat.add_mul] at hlt; omega
  refine ⟨⟨cells.take (i * Enc.sz α) ++ cs ++ cells.drop ((i + 1) * Enc.sz α), ⟨?_, ?_⟩, r.set hi hy⟩, o.free⟩
  · rw [List.length_set]; simp only [List.length_append, List.length_take, List.length_drop, hcl, hyl, Nat.add_mul, Nat.one_mul]; omega
  · rcases hw.2 with ⟨he, hn⟩ | ⟨g', cap', cur, he, hb, hg, hc, hm, hcs, htake⟩
    · cases he
    · cases he
      obtain ⟨cur2, m1, m2, m3⟩ := heap_setCells g e (0, 0) cs (i * Enc.sz α) w cur hg
      refine .inr ⟨g, cap, cur2, by rw [List.length_set], hb, m1, by rw [List.length_set]; exact hc, hm, by rw [m2]; exact hcs, ?_⟩
      have hcap : xs.length * Enc.sz α ≤ cap * Enc.sz α := Nat.mul_le_mul_right _ hc
      have hcs' : cur.size = cap * Enc.sz α := hcs
      rw [List.length_set]
      apply List.ext_getElem?
      intro j
      rw [List.getElem?_take]
      by_cases hj : j < xs.length * Enc.sz α
      · rw [if_pos hj, Array.getElem?_toList, m3 j (by omega), hyl]
        by_cases h1 : i * Enc.sz α ≤ j ∧ j < i * Enc.sz α + Enc.sz α
        · rw [if_pos h1, List.append_assoc, List.getElem?_append_right (by simp only [List.length_take, hcl]; omega), List.getElem?_append_left (by simp only [List.length_take, hcl, hyl]; omega)]
          congr 1
          simp only [List.length_take, hcl]; omega
        · rw [if_neg h1]
          have hcj : cur[j]? = cells[j]? := by rw [← htake, List.getElem?_take, if_pos hj, Array.getElem?_toList]
          rw [hcj]
          by_cases h2 : j < i * Enc.sz α
          · rw [List.append_assoc, List.getElem?_append_left (by simp only [List.length_take, hcl]; omega), List.getElem?_take, if_pos h2]
          · rw [List.getElem?_append_right (by simp only [List.length_append, List.length_take, hcl, hyl]; omega), List.getElem?_drop]
            congr 1
            simp only [List.length_append, List.length_take, hcl, hyl, Nat.add_mul, Nat.one_mul]; omega
      · rw [if_neg hj, List.getElem?_eq_none]
        simp only [List.length_append, List.length_take, List.length_drop, hcl, hyl, Nat.add_mul, Nat.one_mul]; omega
/-- What lies behind is written, and cut off. -/
theorem OwnL.cut {h : FH} {w : World} {base : Nat} {e : TypeId} {g n cap : Nat} {xs : List α} (o : OwnL h w base e (.slice (some ⟨g, 0, none⟩) n cap) xs) {i : Nat} (hi : i ≤ xs.length) (vs : List Value) :
    OwnL h (w.setCells g (i * Enc.sz α) vs) base e (.slice (some ⟨g, 0, none⟩) i cap) (xs.take i) := by
  obtain ⟨cells, hw, r⟩ := o.own
  have hcl : cells.length = xs.length * Enc.sz α := hw.1
  have hlt : i * Enc.sz α ≤ xs.length * Enc.sz α := Nat.mul_le_mul_right _ hi
  have hli : (xs.take i).length = i := by rw [List.length_take]; omega
  refine ⟨⟨cells.take (i * Enc.sz α), ⟨?_, ?_⟩, r.take i⟩, fun g' hg' => o.free g' hg'⟩
  · rw [hli, List.length_take, hcl]; omega
  · rcases hw.2 with ⟨he, hn⟩ | ⟨g', cap', cur, he, hb, hg, hc, hm, hcs, htake⟩
    · cases he
    · cases he
      obtain ⟨cur2, m1, m2, m3⟩ := heap_setCells g e (0, 0) vs (i * Enc.sz α) w cur hg
      have hcap : xs.length * Enc.sz α ≤ cap * Enc.sz α := Nat.mul_le_mul_right _ hc
      have hcs' : cur.size = cap * Enc.sz α := hcs
      refine .inr ⟨g, cap, cur2, by rw [hli], hb, m1, by rw [hli]; omega, hm, by rw [m2]; exact hcs, ?_⟩
      rw [hli]
      apply List.ext_getElem?
      intro j
      rw [List.getElem?_take, List.getElem?_take]
      by_cases hj : j < i * Enc.sz α
      · rw [if_pos hj, if_pos hj, Array.getElem?_toList, m3 j (by omega), if_neg (by omega), ← htake, List.getElem?_take, if_pos (by omega), Array.getElem?_toList]
      · rw [if_neg hj, if_neg hj]
end
def neI (no : Int) (x : Inode) : Bool := !isI no x
theorem keep_filter {p : Inode → Bool} {xs ys : List Inode} {i j : Nat} {x : Inode} (hl : ys.length = xs.length) (ht : ys.take i = (xs.take j).filter p) (hd : ys.drop j = xs.drop j) (hi : i < j) (hj : j < xs.length) (hx : ys[j]? = some x) :
    xs[j]? = some x ∧ (p x = false → ys.take i = (xs.take (j + 1)).filter p ∧ ys.drop (j + 1) = xs.drop (j + 1)) ∧ (p x = true → (ys.set i x).take (i + 1) = (xs.take (j + 1)).filter p ∧ (ys.set i x).drop (j + 1) = xs.drop (j + 1)) := by
  have hxj : xs[j]? = some x := by
    have : (ys.drop j)[0]? = (xs.drop j)[0]? := by rw [hd]
    rw [List.getElem?_drop, List.getElem?_drop, Nat.add_zero] at this
    rw [← this]; exact hx
  have hts : xs.take (j + 1) = xs.take j ++ [x] := by
    rw [List.take_add_one, hxj]; rfl
  have hd1 : ys.drop (j + 1) = xs.drop (j + 1) := by
    have : (ys.drop j).drop 1 = (xs.drop j).drop 1 := by rw [hd]
    rw [List.drop_drop, List.drop_drop] at this
    exact this
  refine ⟨hxj, fun hp => ⟨?_, hd1⟩, fun hp => ⟨?_, ?_⟩⟩
  · rw [hts, List.filter_append, ← ht]; simp [hp]
  · rw [hts, List.filter_append, ← ht]
    rw [List.take_add_one, List.getElem?_set_self (by omega)]
    have : (ys.set i x).take i = ys.take i := by rw [List.take_set_of_le (Nat.le_refl _)]
    rw [this]; simp [hp]
  · rw [List.drop_set_of_lt (by omega)]; exact hd1
theorem skip_filter {p : Inode → Bool} {xs : List Inode} {k : Nat} {x : Inode} (h : ∀ i y, i < k → xs[i]? = some y → p y = true) (hx : xs[k]? = some x) (hp : p x = false) : xs.take k = (xs.take (k + 1)).filter p := by
  have hk := (List.getElem?_eq_some_iff.1 hx).1
  rw [List.take_add_one, hx, List.filter_append]
  have : (xs.take k).filter p = xs.take k := List.filter_eq_self.2 fun y hy => by
    obtain ⟨i, hi, rfl⟩ := List.mem_iff_getElem.1 hy
    rw [List.length_take] at hi
    exact h i _ (by omega) (by rw [List.getElem_take]; exact List.getElem?_eq_getElem _)
  rw [this]; simp [hp]
theorem zero_Inode : ∀ w, (zeroValue 50).run Tryd.prog w = .ok (.agg #[.int .i64 0, .int .i64 0, .int .i64 0, .int .i64 0, .string ⟨#[]⟩, .slice none 0 0, .slice none 0 0]) w := fun w => by
  obtain ⟨i, hi, hz, _⟩ := info_parts (show (Tryd.prog.info? 50).map (fun i => (i.zero, i.size, i.bytes)) = some (some (.agg #[.int .i64 0, .int .i64 0, .int .i64 0, .int .i64 0, .string ⟨#[]⟩, .slice none 0 0, .slice none 0 0]), 7, 96) from by kernel_rfl)
  simp [zeroValue, typeInfo, hi, hz]
end Go.Proofs.YtcnbnehammbncaaDoor
