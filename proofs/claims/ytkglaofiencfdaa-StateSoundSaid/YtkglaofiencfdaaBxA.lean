import Derived.Test.YtkglaofiencfdaaRMk
import Derived.Laws.Tables
import Derived.Laws.CopyOwn
namespace Go.Proofs.Ytkglaofiencfdaa
open Go.RowKit Go.Sort
set_option linter.unusedVariables false
/-! ### boxes that a function makes, and writes -/
structure BoxU (w0 : World) (h : FH) (w : World) (g : Nat) (cs : Array Value) (T : TypeId) : Prop where
  row : w.heap[g]? = some (.cells cs T (0, 0))
  free : h g = none
  base : w0.heap.size ≤ g
theorem BoxU.lt {w0 : World} {h : FH} {w : World} {g : Nat} {cs : Array Value} {T : TypeId} (b : BoxU w0 h w g cs T) : g < w.heap.size := (Array.getElem?_eq_some_iff.1 b.row).1
theorem BoxU.new {w0 : World} {h h1 : FH} {w : World} (E : Ext h w0 h1 w) (cs : Array Value) (T : TypeId) : BoxU w0 h1 (w.alloc (.cells cs T)) w.heap.size cs T := ⟨heap_new _ _, E.sits.none (Nat.le_refl _), E.size⟩
theorem BoxU.alloc {w0 : World} {h : FH} {w : World} {g : Nat} {cs : Array Value} {T : TypeId} (b : BoxU w0 h w g cs T) (o : Obj) : BoxU w0 h (w.alloc o) g cs T := ⟨box_alloc b.row o, b.free, b.base⟩
theorem BoxU.ext {w0 : World} {h h' : FH} {w w' : World} {g : Nat} {cs : Array Value} {T : TypeId} (b : BoxU w0 h w g cs T) (E : Ext h w h' w') : BoxU w0 h' w' g cs T := ⟨E.row b.row, E.none b.free b.lt, b.base⟩
theorem BoxU.drew {w0 : World} {h : FH} {w : World} {g : Nat} {cs : Array Value} {T : TypeId} (b : BoxU w0 h w g cs T) : BoxU w0 h w.drew g cs T := ⟨b.row, b.free, b.base⟩
theorem BoxU.cell {w0 : World} {h : FH} {w : World} {g : Nat} {cs : Array Value} {T : TypeId} (b : BoxU w0 h w g cs T) {j : Nat} {v : Value} (hv : cs[j]? = some v) : w.cell? ⟨g, j, none⟩ = some v := box_cell b.row hv
theorem BoxU.open_ {w0 : World} {h : FH} {w : World} {g : Nat} {cs : Array Value} {T : TypeId} (b : BoxU w0 h w g cs T) (j : Nat) : w.frozen? ⟨g, j, none⟩ = false := box_free b.row
theorem BoxU.sets {w0 : World} {h : FH} {w : World} {g : Nat} {cs : Array Value} {T : TypeId} (b : BoxU w0 h w g cs T) (vs : List Value) (hl : vs.length = cs.size) : BoxU w0 h (w.setCells g 0 vs) g vs.toArray T := ⟨setCells_row vs b.row hl, b.free, b.base⟩
theorem setCells_part {w : World} {g : Nat} {cs : Array Value} {t : TypeId} (o : Nat) (vs : List Value) (hg : w.heap[g]? = some (.cells cs t (0, 0))) (hl : o + vs.length ≤ cs.size) : (w.setCells g o vs).heap[g]? = some (.cells (cs.toList.take o ++ vs ++ cs.toList.drop (o + vs.length)).toArray t (0, 0)) := by
  obtain ⟨cur', h1, h2, h3⟩ := heap_setCells g t (0, 0) vs o w cs hg
  rw [h1]
  congr 2
  apply Array.ext_getElem?
  intro i
  rw [show (cs.toList.take o ++ vs ++ cs.toList.drop (o + vs.length)).toArray[i]? = (cs.toList.take o ++ vs ++ cs.toList.drop (o + vs.length))[i]? from by simp, List.append_assoc]
  by_cases hi : i < cs.size
  · rw [h3 i hi]
    by_cases h4 : i < o
    · rw [if_neg (by omega), List.getElem?_append_left (by simp; omega), List.getElem?_take_of_lt h4]; simp
    · by_cases h5 : i < o + vs.length
      · rw [if_pos ⟨by omega, h5⟩, List.getElem?_append_right (by simp; omega), List.getElem?_append_left (by simp; omega)]
        congr 1; simp; omega
      · rw [if_neg (by omega), List.getElem?_append_right (by simp; omega), List.getElem?_append_right (by simp; omega), List.getElem?_drop]
        rw [← Array.getElem?_toList]; congr 1; simp; omega
  · rw [Array.getElem?_eq_none (by omega), List.getElem?_eq_none (by simp; omega)]
theorem BoxU.part {w0 : World} {h : FH} {w : World} {g : Nat} {cs : Array Value} {T : TypeId} (b : BoxU w0 h w g cs T) (o : Nat) (vs : List Value) (hl : o + vs.length ≤ cs.size) : BoxU w0 h (w.setCells g o vs) g (cs.toList.take o ++ vs ++ cs.toList.drop (o + vs.length)).toArray T := ⟨setCells_part o vs b.row hl, b.free, b.base⟩
theorem BoxU.other {w0 : World} {h : FH} {w : World} {g k : Nat} {cs : Array Value} {T : TypeId} (b : BoxU w0 h w g cs T) (hne : g ≠ k) (o : Nat) (vs : List Value) : BoxU w0 h (w.setCells k o vs) g cs T := ⟨boxes_other hne vs o w b.row, b.free, b.base⟩
theorem BoxU.wr {w0 : World} {h h1 : FH} {w : World} {g : Nat} {cs : Array Value} {T : TypeId} (b : BoxU w0 h1 w g cs T) (E : Ext h w0 h1 w) (o : Nat) (vs : List Value) : Ext h w0 h1 (w.setCells g o vs) := Ext.setCells b.base b.free vs o w E
/-- From now on it stays as it is. -/
theorem BoxU.freeze {w0 : World} {h h1 : FH} {w : World} {g : Nat} {cs : Array Value} {T : TypeId} (b : BoxU w0 h1 w g cs T) (E : Ext h w0 h1 w) : ∃ h2, Ext h w0 h2 w ∧ h2 g = some (.cells cs T (0, 0)) ∧ FLe h1 h2 ∧ ∀ k, k ≠ g → h2 k = h1 k :=
  ⟨_, E.add b.row b.free b.base, FH.add_same _ _ _, FLe.add b.free _, fun k hk => FH.add_other _ _ hk⟩
theorem BoxU.keep {w0 : World} {h h2 : FH} {w : World} {g k : Nat} {cs : Array Value} {T : TypeId} (b : BoxU w0 h w g cs T) (hk : ∀ j, j ≠ k → h2 j = h j) (hne : g ≠ k) : BoxU w0 h2 w g cs T := ⟨b.row, by rw [hk _ hne]; exact b.free, b.base⟩
theorem BoxU.ne {w0 : World} {h h' : FH} {w : World} {g k : Nat} {cs cs' : Array Value} {T T' : TypeId} (b : BoxU w0 h w g cs T) (b' : BoxU w0 h' w k cs' T') (hT : T ≠ T') : g ≠ k := fun e => by
  have h1 := b.row; have h2 := b'.row; rw [e, h2] at h1
  simp only [Option.some.injEq, Obj.cells.injEq] at h1
  exact hT h1.2.1.symm
theorem BoxU.neS {w0 : World} {h h' : FH} {w : World} {g k : Nat} {cs cs' : Array Value} {T T' : TypeId} (b : BoxU w0 h w g cs T) (b' : BoxU w0 h' w k cs' T') (hT : cs.size ≠ cs'.size) : g ≠ k := fun e => by
  have h1 := b.row; have h2 := b'.row; rw [e, h2] at h1
  simp only [Option.some.injEq, Obj.cells.injEq] at h1
  exact hT (by rw [h1.1])
end Go.Proofs.Ytkglaofiencfdaa

namespace Go.Proofs.Ytkglaofiencfdaa
open Go.RowKit Go.Sort
set_option linter.unusedVariables false
/-! ### rows that are read and written whole, their cells behind a letter -/
theorem BoxU.range {w0 : World} {h : FH} {w : World} {g : Nat} {cs : Array Value} {T : TypeId} (b : BoxU w0 h w g cs T) (o : Nat) (vs : List Value) (hv : ∀ j v, vs[j]? = some v → cs[o + j]? = some v) : w.rangeAt g o vs := fun j v hj => b.cell (hv j v hj)
theorem BoxU.there_ {w0 : World} {h : FH} {w : World} {g : Nat} {cs : Array Value} {T : TypeId} (b : BoxU w0 h w g cs T) (o n : Nat) (hn : o + n ≤ cs.size) : w.there g o n := fun j hj => ⟨by rw [cell_of_row _ _ _ _ _ _ b.row, Array.getElem?_eq_getElem (by omega)]; rfl, b.open_ _⟩
theorem BoxU.setRow {w0 : World} {h : FH} {w : World} {g : Nat} {cs : Array Value} {T : TypeId} (b : BoxU w0 h w g cs T) (c' : Array Value) : BoxU w0 h (w.setRow g c') g c' T := ⟨setRow_heap _ _ _ _ _ _ b.row, b.free, b.base⟩
theorem BoxU.rowOther {w0 : World} {h : FH} {w : World} {g k : Nat} {cs : Array Value} {T : TypeId} (b : BoxU w0 h w g cs T) (hne : g ≠ k) (c' : Array Value) : BoxU w0 h (w.setRow k c') g cs T := ⟨by rw [setRow_other _ _ _ _ hne]; exact b.row, b.free, b.base⟩
theorem BoxU.wrRow {w0 : World} {h h1 : FH} {w : World} {g : Nat} {cs : Array Value} {T : TypeId} (b : BoxU w0 h1 w g cs T) (E : Ext h w0 h1 w) (c' : Array Value) : Ext h w0 h1 (w.setRow g c') :=
  ⟨E.le, fun k o hk => by
    have hne : k ≠ g := fun e => by rw [e, b.free] at hk; cases hk
    rw [setRow_other _ _ _ _ hne]; exact E.sits k o hk, below_setRow E.below b.base c', E.fresh⟩
theorem List.get_app1 {α : Type} {a b : List α} {j : Nat} {v : α} (h : a[j]? = some v) : (a ++ b)[j]? = some v := by
  rw [List.getElem?_append_left (List.getElem?_eq_some_iff.1 h).1]; exact h
theorem List.get_app2 {α : Type} {a b : List α} {j n : Nat} (hn : a.length = n) : (a ++ b)[n + j]? = b[j]? := by
  rw [List.getElem?_append_right (by omega)]; congr 1; omega
theorem results_cell_tmp {P : Program} {fn : Func} {p q : Tmp} {ty : TypeId} (h : fn.results = #[.cell p ty, .tmp q]) (tmps : Array Value) (w : World) (g : Nat) (t : TypeId) (cs : Array Value) (fr : Nat × Nat) (d : TypeDesc) (v : Value)
    (hp : tmps.getD p undef = .pointer (some ⟨g, 0, none⟩)) (hq : tmps.getD q undef = v) (hg : w.heap[g]? = some (.cells cs t fr))
    (hu : P.underlying ty = some d) (hd : (match d with | .struct _ | .array _ _ => true | _ => false) = true) (hi : (P.info? ty).map (·.size) = some cs.size) :
    (results fn tmps).run P w = .ok (.tuple #[.agg cs, v]) w := by
  have hp' : tmps[p]?.getD undef = .pointer (some ⟨g, 0, none⟩) := by simpa using hp
  have hq' : tmps[q]?.getD undef = v := by simpa using hq
  simp [results, h, hp', hq', asAddr, run_loadVar_row w g t ty cs fr d hg hu hd hi]
theorem info_State {cs : List Value} (h : cs.length = 3) : (Try.prog.info? 31).map (·.size) = some cs.toArray.size := by rw [List.size_toArray, h]; kernel_rfl
theorem info_Inode {cs : List Value} (h : cs.length = 7) : (Try.prog.info? 37).map (·.size) = some cs.toArray.size := by rw [List.size_toArray, h]; kernel_rfl
theorem info_Deed {cs : List Value} (h : cs.length = 9) : (Try.prog.info? 39).map (·.size) = some cs.toArray.size := by rw [List.size_toArray, h]; kernel_rfl
theorem infoL_Inode {cs : List Value} (h : cs.length = 7) : (Try.prog.info? 37).map (·.size) = some cs.length := by rw [h]; kernel_rfl
theorem one_arr {cs : List Value} (h : ∀ u ∈ cs, u.oneCell' = true) : cs.toArray.all (·.oneCell') = true := all_oneCell_toArray h
/-- A spot's cells. -/
def spotL (dl : List Value) (name : ByteArray) (xl : List Value) (is : Bool) : List Value := dl ++ .string name :: (xl ++ [.bool is])
theorem spotL_len {dl xl : List Value} (hd : dl.length = 7) (hx : xl.length = 7) (name : ByteArray) (is : Bool) : (spotL dl name xl is).length = 16 := by simp [spotL, hd, hx]
theorem spotL_one {dl xl : List Value} (hd : ∀ u ∈ dl, u.oneCell' = true) (hx : ∀ u ∈ xl, u.oneCell' = true) (name : ByteArray) (is : Bool) : ∀ u ∈ spotL dl name xl is, u.oneCell' = true := fun u hu => by
  simp only [spotL, List.mem_append, List.mem_cons, List.not_mem_nil, or_false] at hu
  rcases hu with hu | rfl | hu | rfl
  · exact hd u hu
  · rfl
  · exact hx u hu
  · rfl
theorem spotL_dir {dl xl : List Value} {name : ByteArray} {is : Bool} (j : Nat) (v : Value) (hv : dl[j]? = some v) : (spotL dl name xl is).toArray[j]? = some v := by
  rw [List.getElem?_toArray]; exact List.get_app1 hv
theorem spotL_name {dl xl : List Value} {name : ByteArray} {is : Bool} (hd : dl.length = 7) : (spotL dl name xl is).toArray[7]? = some (.string name) := by
  rw [List.getElem?_toArray]; exact List.get_app2 (j := 0) hd
theorem spotL_x {dl xl : List Value} {name : ByteArray} {is : Bool} (hd : dl.length = 7) (j : Nat) (v : Value) (hv : xl[j]? = some v) : (spotL dl name xl is).toArray[8 + j]? = some v := by
  rw [List.getElem?_toArray, show 8 + j = 7 + (j + 1) by omega]
  unfold spotL
  rw [List.get_app2 hd, List.getElem?_cons_succ]
  exact List.get_app1 hv
theorem spotL_is {dl xl : List Value} {name : ByteArray} {is : Bool} (hd : dl.length = 7) (hx : xl.length = 7) : (spotL dl name xl is).toArray[15]? = some (.bool is) := by
  rw [List.getElem?_toArray, show 15 = 7 + (7 + 0 + 1) by omega]
  unfold spotL
  rw [List.get_app2 hd, List.getElem?_cons_succ]
  exact List.get_app2 (j := 0) hx
theorem spotL_setDir {dl dl' xl : List Value} {name : ByteArray} {is : Bool} (hd : dl.length = 7) (hd' : dl'.length = 7) :
    ((spotL dl name xl is).toArray.toList.take 0 ++ dl' ++ (spotL dl name xl is).toArray.toList.drop (0 + dl'.length)).toArray = (spotL dl' name xl is).toArray := by
  congr 1
  rw [List.take_zero, List.nil_append, Nat.zero_add, hd', ← hd]
  simp [spotL]
theorem spotL_setX {dl xl xl' : List Value} {name : ByteArray} {is : Bool} (hd : dl.length = 7) (hx : xl.length = 7) (hx' : xl'.length = 7) :
    ((spotL dl name xl is).toArray.toList.take 8 ++ xl' ++ (spotL dl name xl is).toArray.toList.drop (8 + xl'.length)).toArray = (spotL dl name xl' is).toArray := by
  congr 1
  rw [hx']
  unfold spotL
  rw [List.take_append, List.drop_append, hd, List.take_of_length_le (by omega : dl.length ≤ 8), List.drop_eq_nil_of_le (by omega : dl.length ≤ 8 + 7)]
  simp [hx]
theorem spotL_setIs {dl xl : List Value} {name : ByteArray} {is b : Bool} (hd : dl.length = 7) (hx : xl.length = 7) : (spotL dl name xl is).toArray.setIfInBounds 15 (.bool b) = (spotL dl name xl b).toArray := by
  unfold spotL
  rw [List.setIfInBounds_toArray]
  congr 1
  rw [List.set_append, if_neg (by omega), hd]
  show dl ++ (Value.string name :: (xl ++ [Value.bool is])).set (7 + 1) (.bool b) = _
  rw [List.set_cons_succ, List.set_append, if_neg (by omega), hx]
  rfl
/-- The cells of an inode, one by one. -/
theorem repInode.at0 {h : FH} {cs : List Value} {x : Inode} (r : repInode h cs x) : cs[0]? = some (.int .i64 x.no) := by obtain ⟨A5, c5, A6, c6, rfl, _⟩ := r; rfl
theorem repInode.at1 {h : FH} {cs : List Value} {x : Inode} (r : repInode h cs x) : cs[1]? = some (.int .i64 x.kind) := by obtain ⟨A5, c5, A6, c6, rfl, _⟩ := r; rfl
theorem repInode.at2 {h : FH} {cs : List Value} {x : Inode} (r : repInode h cs x) : cs[2]? = some (.int .i64 x.links) := by obtain ⟨A5, c5, A6, c6, rfl, _⟩ := r; rfl
theorem repInode.at5 {h : FH} {cs : List Value} {x : Inode} (r : repInode h cs x) : ∃ A c, cs[5]? = some (.slice A x.entries.length c) ∧ CapLe A x.entries.length c ∧ RowAt h A x.entries := by obtain ⟨A5, c5, A6, c6, rfl, s0, s1, s2, s3⟩ := r; exact ⟨A5, c5, rfl, s1, s2⟩
theorem repInode.setLinks {h : FH} {cs : List Value} {x : Inode} (r : repInode h cs x) (n : Int) : repInode h (cs.set 2 (.int .i64 n)) { x with links := n } := by obtain ⟨A5, c5, A6, c6, rfl, s⟩ := r; exact ⟨A5, c5, A6, c6, rfl, s⟩
theorem repInode.setEnt {h : FH} {cs : List Value} {x : Inode} (r : repInode h cs x) {A : Option Addr} {c : Nat} {l : List Entry} (k : CapLe A l.length c) (ra : RowAt h A l) : repInode h (cs.set 5 (.slice A l.length c)) { x with entries := l } := by obtain ⟨A5, c5, A6, c6, rfl, s0, s1, s2, s3⟩ := r; exact ⟨A, c, A6, c6, rfl, s0, k, ra, s3⟩
theorem repState.at0 {h : FH} {cs : List Value} {x : State} (r : repState h cs x) : cs[0]? = some (.int .i64 x.next) := by obtain ⟨A1, c1, A2, c2, rfl, _⟩ := r; rfl
theorem repState.at1 {h : FH} {cs : List Value} {x : State} (r : repState h cs x) : ∃ A c, cs[1]? = some (.slice A x.inodes.length c) ∧ CapLe A x.inodes.length c ∧ RowAt h A x.inodes := by obtain ⟨A1, c1, A2, c2, rfl, s1, s2, _⟩ := r; exact ⟨A1, c1, rfl, s1, s2⟩
def zeroL : List Value := [.int .i64 0, .int .i64 0, .int .i64 0, .int .i64 0, .string ⟨#[]⟩, .slice none 0 0, .slice none 0 0]
theorem zeroL_rep (h : FH) : repInode h zeroL zeroI := zeroI_rep h
theorem Sits.rangeRow {h : FH} {w : World} (hs : Sits h w) {g : Nat} {cs : Array Value} {T : TypeId} {fr : Nat × Nat} (hb : h g = some (.cells cs T fr)) : w.heap[g]? = some (.cells cs T fr) := hs _ _ hb
end Go.Proofs.Ytkglaofiencfdaa
