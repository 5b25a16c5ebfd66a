import Derived.Test.YtcnbnehammbncaaDoorWkF
import Derived.Test.YtcnbnehammbncaaDoorCore
namespace Go.Proofs.YtcnbnehammbncaaDoor
open Go.RowKit Go.Sort
set_option linter.unusedVariables false
/-! ### package path: the walk, and the inodes by their numbers -/
theorem check_path_key (w : World) (em : Bool) (a : Int) : (Instr.checkKey em 10000 78 (encI a)).run Tryd.prog w = .ok () w := by kernel_rfl
theorem equal_path_key (w : World) (a b : Int) : (Op.equal 78 (encI a) (encI b)).run Tryd.prog w = .ok (decide (a = b)) w := by
  by_cases h : a = b
  · subst h
    simp [Op.equal, Op.maxDepth, encI, go_sem, Tryd.underlying78, Tryd.underlying3]
  · simp [Op.equal, Op.maxDepth, encI, go_sem, h]
theorem kt_path_key : KeyT Int Tryd.prog 78 encI := ⟨check_path_key, find_of_equal Tryd.underlying78 (fun a => ⟨_, rfl⟩) equal_path_key, stays_int Tryd.prog⟩
theorem zero_inode (w : World) : (zeroValue 50).run Tryd.prog w = .ok (.agg #[.int .i64 0, .int .i64 0, .int .i64 0, .int .i64 0, .string ⟨#[]⟩, .slice none 0 0, .slice none 0 0]) w := by kernel_rfl
/-- What a call may have done to what the caller made from B on. -/
structure BExt (B : Nat) (h : FH) (w : World) (h' : FH) (w' : World) : Prop where
  le : FLe h h'
  sits : Sits h' w'
  below : Below B w w'
  size : w.heap.size ≤ w'.heap.size
  fresh : ∀ b, h' b ≠ none → h b ≠ none ∨ w.heap.size ≤ b
theorem BExt.of {B : Nat} {h h' : FH} {w w' : World} (E : Ext h w h' w') (hB : B ≤ w.heap.size) : BExt B h w h' w' := ⟨E.le, E.sits, E.below.mono hB, E.size, E.fresh⟩
theorem BExt.refl {B : Nat} {h : FH} {w : World} (hs : Sits h w) : BExt B h w h w := ⟨FLe.refl _, hs, Below.refl _ _, Nat.le_refl _, fun _ x => .inl x⟩
theorem BExt.trans {B : Nat} {h h1 h2 : FH} {w w1 w2 : World} (a : BExt B h w h1 w1) (b : BExt B h1 w1 h2 w2) : BExt B h w h2 w2 :=
  ⟨a.le.trans b.le, b.sits, a.below.trans b.below, Nat.le_trans a.size b.size, fun k hk => by
    rcases b.fresh k hk with h3 | h3
    · exact a.fresh k h3
    · exact .inr (Nat.le_trans a.size h3)⟩
theorem BExt.lift {B : Nat} {h0 h h1 : FH} {w0 w w1 : World} (E : Ext h0 w0 h w) (a : BExt B h w h1 w1) (hB : w0.heap.size ≤ B) : Ext h0 w0 h1 w1 :=
  ⟨E.le.trans a.le, a.sits, E.below.trans (a.below.mono hB), fun b hb => by
    rcases a.fresh b hb with h2 | h2
    · exact E.fresh b h2
    · exact .inr (Nat.le_trans E.size h2)⟩
theorem BExt.drew {B : Nat} {h h1 : FH} {w w1 : World} (a : BExt B h w h1 w1) : BExt B h w h1 w1.drew := ⟨a.le, a.sits, a.below.drew, a.size, a.fresh⟩
theorem BExt.set {B : Nat} {h h1 : FH} {w w1 : World} (a : BExt B h w h1 w1) {g i : Nat} (hg : B ≤ g) (hn : h1 g = none) (v : Value) : BExt B h w h1 (w1.setCell ⟨g, i, none⟩ v) :=
  ⟨a.le, fun b o hb => by
    by_cases e : b = g
    · subst e; rw [hn] at hb; cases hb
    · rw [Below.heap_setCell _ _ _ _ e]; exact a.sits b o hb, a.below.setCell hg v, by simpa [World.setCell] using a.size, a.fresh⟩
theorem BExt.row {B : Nat} {h h1 : FH} {w w1 w2 : World} (a : BExt B h w h1 w1) {row : Option Nat} (G : w1.grownBy w2 row) (hB : B ≤ w1.heap.size) (hr : ∀ k, row = some k → B ≤ k ∧ h1 k = none) : BExt B h w h1 w2 :=
  ⟨a.le, fun b o hb => by
    rw [G.block b (a.sits.lt (by rw [hb]; simp)) (fun e => by have := (hr b e.symm).2; rw [hb] at this; cases this)]; exact a.sits b o hb,
   a.below.grown G hB (fun k hk => (hr k hk).1), Nat.le_trans a.size G.size, a.fresh⟩
theorem BExt.none {B : Nat} {h h' : FH} {w w' : World} (E : BExt B h w h' w') {g : Nat} (hn : h g = Option.none) (hg : g < w.heap.size) : h' g = Option.none := by
  cases e : h' g with
  | none => rfl
  | some o =>
    rcases E.fresh g (by rw [e]; simp) with h2 | h2
    · exact absurd hn h2
    · omega
theorem InBox.drewB {h h0 : FH} {w wx : World} {x : Inode} {p : Value} (I : InBox h w h0 x p wx) : InBox h w h0 x p wx.drew := by
  obtain ⟨g, h3, A5, c5, A6, c6, e, E, l, hb, r, hg⟩ := I
  exact ⟨g, h3, A5, c5, A6, c6, e, E.drew, l, hb, r, hg⟩
/-- What the map of the inodes holds. -/
def ByIs (h : FH) (xs : List Inode) (C : Int → Option Value) : Prop := ∀ no, (findI xs no = none → C no = none) ∧ ∀ x, findI xs no = some x → ∃ cs : List Value, C no = some (.agg cs.toArray) ∧ repInode h cs x
theorem ByIs.mono {h h' : FH} {xs : List Inode} {C : Int → Option Value} (b : ByIs h xs C) (l : FLe h h') : ByIs h' xs C := fun no => ⟨(b no).1, fun x hx => by
  obtain ⟨cs, h1, h2⟩ := (b no).2 x hx
  exact ⟨cs, h1, h2.mono l⟩⟩
theorem ByIs.nil (h : FH) : ByIs h [] (fun _ => none) := fun no => ⟨fun _ => rfl, fun x hx => by cases hx⟩
theorem ByIs.cons {h : FH} {xs : List Inode} {C : Int → Option Value} (b : ByIs h xs C) {x : Inode} {cs : List Value} (r : repInode h cs x) : ByIs h (x :: xs) (fun a => if a = x.no then some (.agg cs.toArray) else C a) := fun no => by
  unfold findI
  by_cases e : no = x.no
  · have hi : isI no x = true := by unfold isI; simp [e]
    rw [List.find?_cons_of_pos hi]
    refine ⟨fun h => by (cases h), fun y hy => ?_⟩
    cases hy
    exact ⟨cs, by simp only [if_pos e], r⟩
  · have hi : ¬ isI no x = true := by unfold isI; simp; exact fun h => e h.symm
    rw [List.find?_cons_of_neg hi]
    simp only [if_neg e]
    exact b no
theorem OwnL.mk1 {α : Type} [Enc α] {h : FH} {w : World} (hs : Sits h w) {cs : List Value} {x : α} (T : TypeId) (r : Enc.rep h cs x) : OwnL h (w.alloc (.cells cs.toArray T)) w.heap.size T (.slice (some ⟨w.heap.size, 0, none⟩) 1 1) [x] := by
  have hl := Enc.len r
  refine ⟨⟨cs, ⟨by simp [hl], .inr ⟨w.heap.size, 1, cs.toArray, rfl, Nat.le_refl _, heap_new _ _, Nat.le_refl _, by unfold maxLen; omega, by simp [hl], by simp; exact List.take_of_length_le (by omega)⟩⟩, Reps.single r⟩, fun g hg => ?_⟩
  have : g = w.heap.size := by simpa [Value.ownBlock] using hg.symm
  rw [this]; exact hs.none (Nat.le_refl _)
/-- The walk's struct. -/
structure PkAt (B : Nat) (h : FH) (wr : World) (gp bm : Nat) (D : Option Addr) (cD : Nat) (st : Wk) : Prop where
  box : wr.heap[gp]? = some (.cells #[.map (some bm), .slice D st.kept.length cD, .int .i64 st.at_, .int .i64 st.loops] 73 (0, 0))
  free : h gp = none
  own : OwnL h wr B 3 (.slice D st.kept.length cD) st.kept
  hB : B ≤ gp
  hw : B ≤ wr.heap.size
theorem PkAt.lt {B : Nat} {h : FH} {wr : World} {gp bm : Nat} {D : Option Addr} {cD : Nat} {st : Wk} (I : PkAt B h wr gp bm D cD st) : gp < wr.heap.size := (Array.getElem?_eq_some_iff.1 I.box).1
theorem PkAt.more {B : Nat} {h h' : FH} {w w' : World} {gp bm : Nat} {D : Option Addr} {cD : Nat} {st : Wk} (I : PkAt B h w gp bm D cD st) (E : Ext h w h' w') : PkAt B h' w' gp bm D cD st :=
  ⟨E.row I.box, E.none I.free I.lt, I.own.ext E, I.hB, Nat.le_trans I.hw E.size⟩
theorem OwnL.neBox {α : Type} [Enc α] {h : FH} {w : World} {base : Nat} {T T' : TypeId} {v : Value} {xs : List α} (O : OwnL h w base T v xs) {g : Nat} {cs : Array Value} (hb : w.heap[g]? = some (.cells cs T' (0, 0))) (hT : T ≠ T') : v.ownBlock ≠ some g := by
  obtain ⟨c1, w1, _⟩ := O.own
  rcases w1.2 with ⟨rfl, _⟩ | ⟨g2, cap, cur, rfl, _, hg, _⟩
  · simp [Value.ownBlock]
  · intro e
    have e : g2 = g := by simpa [Value.ownBlock] using e
    subst e
    rw [hg] at hb
    simp only [Option.some.injEq, Obj.cells.injEq] at hb
    exact hT hb.2.1
theorem PkAt.setOwn {B : Nat} {h : FH} {w : World} {gp bm : Nat} {D : Option Addr} {cD : Nat} {st : Wk} (I : PkAt B h w gp bm D cD st) (i : Nat) (v : Value) : OwnL h (w.setCell ⟨gp, i, none⟩ v) B 3 (.slice D st.kept.length cD) st.kept :=
  I.own.kept (row := some gp) (grown_set1 w gp i v) (.inr (I.own.neBox I.box (by decide))) (FLe.refl _) I.own.free
theorem PkAt.at_ {B : Nat} {h : FH} {w : World} {gp bm : Nat} {D : Option Addr} {cD : Nat} {st : Wk} (I : PkAt B h w gp bm D cD st) (n : Int) : PkAt B h (w.setCell ⟨gp, 2, none⟩ (.int .i64 n)) gp bm D cD { st with at_ := n } :=
  ⟨box_set (i := 2) I.box _, I.free, I.setOwn 2 _, I.hB, by simpa [World.setCell] using I.hw⟩
theorem PkAt.loop {B : Nat} {h : FH} {w : World} {gp bm : Nat} {D : Option Addr} {cD : Nat} {st : Wk} (I : PkAt B h w gp bm D cD st) (n : Int) : PkAt B h (w.setCell ⟨gp, 3, none⟩ (.int .i64 n)) gp bm D cD { st with loops := n } :=
  ⟨box_set (i := 3) I.box _, I.free, I.setOwn 3 _, I.hB, by simpa [World.setCell] using I.hw⟩
/-- Another row is put there. -/
theorem PkAt.keep {B : Nat} {h : FH} {w : World} {gp bm : Nat} {D : Option Addr} {cD : Nat} {st : Wk} (I : PkAt B h w gp bm D cD st) {ks : List Int} {D' : Option Addr} {c' : Nat} (O : OwnL h w B 3 (.slice D' ks.length c') ks) : PkAt B h (w.setCell ⟨gp, 1, none⟩ (.slice D' ks.length c')) gp bm D' c' { st with kept := ks } :=
  ⟨box_set (i := 1) I.box _, I.free, O.kept (row := some gp) (grown_set1 w gp 1 _) (.inr (O.neBox I.box (by decide))) (FLe.refl _) O.free, I.hB, by simpa [World.setCell] using I.hw⟩
/-- Behind an append to the row. -/
theorem PkAt.grown {B : Nat} {h : FH} {w w' : World} {gp bm : Nat} {D : Option Addr} {cD : Nat} {st : Wk} (I : PkAt B h w gp bm D cD st) (G : w.grownBy w' (Value.slice D st.kept.length cD).ownBlock) : w'.heap[gp]? = some (.cells #[.map (some bm), .slice D st.kept.length cD, .int .i64 st.at_, .int .i64 st.loops] 73 (0, 0)) := by
  rw [G.block gp I.lt (fun e => I.own.neBox I.box (by decide) e.symm)]; exact I.box
theorem PkAt.drewP {B : Nat} {h : FH} {w : World} {gp bm : Nat} {D : Option Addr} {cD : Nat} {st : Wk} (I : PkAt B h w gp bm D cD st) : PkAt B h w.drew gp bm D cD st := ⟨I.box, I.free, I.own.drew, I.hB, I.hw⟩
/-- Fewer of them. -/
theorem OwnL.takeO {α : Type} [Enc α] {h : FH} {w : World} {base : Nat} {T : TypeId} {A : Option Addr} {n c : Nat} {xs : List α} (O : OwnL h w base T (.slice A n c) xs) (k : Nat) (hk : k ≤ xs.length) (hA : A ≠ none) : OwnL h w base T (.slice A k c) (xs.take k) := by
  obtain ⟨cells, hw, r⟩ := O.own
  have hl : (xs.take k).length = k := by rw [List.length_take]; omega
  refine ⟨⟨cells.take (k * Enc.sz α), ⟨?_, ?_⟩, r.take k⟩, fun g hg => O.free g (by cases A <;> exact hg)⟩
  · rw [List.length_take, r.length, hl, Nat.min_eq_left (Nat.mul_le_mul_right _ hk)]
  · rcases hw.2 with ⟨he, hn⟩ | ⟨g, cap, cur, he, hb, hg, hc, hm, hcs, htake⟩
    · simp only [Value.slice.injEq] at he; exact absurd he.1 hA
    · simp only [Value.slice.injEq] at he
      obtain ⟨rfl, rfl, rfl⟩ := he
      refine .inr ⟨g, c, cur, by rw [hl], hb, hg, by rw [hl]; omega, hm, hcs, ?_⟩
      rw [hl, ← htake, List.take_take, Nat.min_eq_left (Nat.mul_le_mul_right _ hk)]
end Go.Proofs.YtcnbnehammbncaaDoor
