import Derived.Test.YtmljcjjhakhjaaaDoorRMk
namespace Go.Proofs.YtmljcjjhakhjaaaDoor
open Go.RowKit Go.Sort
set_option linter.unusedVariables false
/-! ### boxes that a function makes, and writes -/
structure BoxU (w0 : World) (h : FH) (w : World) (g : Nat) (cs : Array Value) (T : TypeId) : Prop where
  row : w.heap[g]? = some (.cells cs T (0, 0))
  free : h g = none
  base : w0.heap.size ≤ g
theorem BoxU.lt {w0 : World} {h : FH} {w : World} {g : Nat} {cs : Array Value} {T : TypeId} (b : BoxU w0 h w g cs T) : g < w.heap.size := (Array.getElem?_eq_some_iff.1 b.row).1
theorem BoxU.new {w0 : World} {h h1 : FH} {w : World} (E : Ext h w0 h1 w) (cs : Array Value) (T : TypeId) : BoxU w0 h1 (w.alloc (.cells cs T)) w.heap.size cs T := ⟨heap_new _ _, E.sits.none (Nat.le_refl _), E.size⟩
theorem BoxU.alloc {w0 : World} {h : FH} {w : World} {g : Nat} {cs : Array Value} {T : TypeId} (b : BoxU w0 h w g cs T) (o : Obj) : BoxU w0 h (w.alloc o) g cs T := ⟨box_alloc b.row o, b.free, b.base⟩
theorem BoxU.ext {w0 : World} {h h' : FH} {w w' : World} {g : Nat} {cs : Array Value} {T : TypeId} (b : BoxU w0 h w g cs T) (E : Ext h w h' w') : BoxU w0 h' w' g cs T := ⟨E.row b.row, E.none b.free b.lt, b.base⟩
theorem BoxU.drew {w0 : World} {h : FH} {w : World} {g : Nat} {cs : Array Value} {T : TypeId} (b : BoxU w0 h w g cs T) : BoxU w0 h w.drew g cs T := ⟨b.row, b.free, b.base⟩
theorem BoxU.cell {w0 : World} {h : FH} {w : World} {g : Nat} {cs : Array Value} {T : TypeId} (b : BoxU w0 h w g cs T) {j : Nat} {v : Value} (hv : cs[j]? = some v) : w.cell? ⟨g, j, none⟩ = some v := box_cell b.row hv
theorem BoxU.open_ {w0 : World} {h : FH} {w : World} {g : Nat} {cs : Array Value} {T : TypeId} (b : BoxU w0 h w g cs T) (j : Nat) : w.frozen? ⟨g, j, none⟩ = false := box_free b.row
theorem BoxU.sets {w0 : World} {h : FH} {w : World} {g : Nat} {cs : Array Value} {T : TypeId} (b : BoxU w0 h w g cs T) (vs : List Value) (hl : vs.length = cs.size) : BoxU w0 h (w.setCells g 0 vs) g vs.toArray T := ⟨setCells_row vs b.row hl, b.free, b.base⟩
theorem setCells_part {w : World} {g : Nat} {cs : Array Value} {t : TypeId} (o : Nat) (vs : List Value) (hg : w.heap[g]? = some (.cells cs t (0, 0))) (hl : o + vs.length ≤ cs.size) : (w.setCells g o vs).heap[g]? = some (.cells (cs.toList.take o ++ vs ++ cs.toList.drop (o + vs.length)).toArray t (0, 0)) := by
  obtain ⟨cur', h1, h2, h3⟩ := heap_setCells g t (0, 0) vs o w cs hg
  rw [h1]
  congr 2
  apply Array.ext_getElem?
  intro i
  rw [show (cs.toList.take o ++ vs ++ cs.toList.drop (o + vs.length)).toArray[i]? = (cs.toList.take o ++ vs ++ cs.toList.drop (o + vs.length))[i]? from by simp, List.append_assoc]
  by_cases hi : i < cs.size
  · rw [h3 i hi]
    by_cases h4 : i < o
    · rw [if_neg (by omega), List.getElem?_append_left (by simp; omega), List.getElem?_take_of_lt h4]; simp
    · by_cases h5 : i < o + vs.length
      · rw [if_pos ⟨by omega, h5⟩, List.getElem?_append_right (by simp; omega), List.getElem?_append_left (by simp; omega)]
        congr 1; simp; omega
      · rw [if_neg (by omega), List.getElem?_append_right (by simp; omega), List.getElem?_append_right (by simp; omega), List.getElem?_drop]
        rw [← Array.getElem?_toList]; congr 1; simp; omega
  · rw [Array.getElem?_eq_none (by omega), List.getElem?_eq_none (by simp; omega)]
theorem BoxU.part {w0 : World} {h : FH} {w : World} {g : Nat} {cs : Array Value} {T : TypeId} (b : BoxU w0 h w g cs T) (o : Nat) (vs : List Value) (hl : o + vs.length ≤ cs.size) : BoxU w0 h (w.setCells g o vs) g (cs.toList.take o ++ vs ++ cs.toList.drop (o + vs.length)).toArray T := ⟨setCells_part o vs b.row hl, b.free, b.base⟩
theorem BoxU.other {w0 : World} {h : FH} {w : World} {g k : Nat} {cs : Array Value} {T : TypeId} (b : BoxU w0 h w g cs T) (hne : g ≠ k) (o : Nat) (vs : List Value) : BoxU w0 h (w.setCells k o vs) g cs T := ⟨boxes_other hne vs o w b.row, b.free, b.base⟩
theorem BoxU.wr {w0 : World} {h h1 : FH} {w : World} {g : Nat} {cs : Array Value} {T : TypeId} (b : BoxU w0 h1 w g cs T) (E : Ext h w0 h1 w) (o : Nat) (vs : List Value) : Ext h w0 h1 (w.setCells g o vs) := Ext.setCells b.base b.free vs o w E
/-- From now on it stays as it is. -/
theorem BoxU.freeze {w0 : World} {h h1 : FH} {w : World} {g : Nat} {cs : Array Value} {T : TypeId} (b : BoxU w0 h1 w g cs T) (E : Ext h w0 h1 w) : ∃ h2, Ext h w0 h2 w ∧ h2 g = some (.cells cs T (0, 0)) ∧ FLe h1 h2 ∧ ∀ k, k ≠ g → h2 k = h1 k :=
  ⟨_, E.add b.row b.free b.base, FH.add_same _ _ _, FLe.add b.free _, fun k hk => FH.add_other _ _ hk⟩
theorem BoxU.keep {w0 : World} {h h2 : FH} {w : World} {g k : Nat} {cs : Array Value} {T : TypeId} (b : BoxU w0 h w g cs T) (hk : ∀ j, j ≠ k → h2 j = h j) (hne : g ≠ k) : BoxU w0 h2 w g cs T := ⟨b.row, by rw [hk _ hne]; exact b.free, b.base⟩
theorem BoxU.ne {w0 : World} {h h' : FH} {w : World} {g k : Nat} {cs cs' : Array Value} {T T' : TypeId} (b : BoxU w0 h w g cs T) (b' : BoxU w0 h' w k cs' T') (hT : T ≠ T') : g ≠ k := fun e => by
  have h1 := b.row; have h2 := b'.row; rw [e, h2] at h1
  simp only [Option.some.injEq, Obj.cells.injEq] at h1
  exact hT h1.2.1.symm
theorem BoxU.neS {w0 : World} {h h' : FH} {w : World} {g k : Nat} {cs cs' : Array Value} {T T' : TypeId} (b : BoxU w0 h w g cs T) (b' : BoxU w0 h' w k cs' T') (hT : cs.size ≠ cs'.size) : g ≠ k := fun e => by
  have h1 := b.row; have h2 := b'.row; rw [e, h2] at h1
  simp only [Option.some.injEq, Obj.cells.injEq] at h1
  exact hT (by rw [h1.1])
end Go.Proofs.YtmljcjjhakhjaaaDoor
