import Derived.Test.YtdiaibkpcnknbaaDoorWkAll
import Derived.Test.YtdiaibkpcnknbaaDoorCore
import Derived.Test.YtdiaibkpcnknbaaDoorEntOps
import Derived.Lib.AppendZeros
namespace Go.Proofs.YtdiaibkpcnknbaaDoor
open Go.RowKit Go.Sort
set_option linter.unusedVariables false
/-! ### package path: the walk, and the inodes by their numbers -/
theorem check_path_key (w : World) (em : Bool) (a : Int) : (Instr.checkKey em 10000 120 (encI a)).run Tryd.prog w = .ok () w := by kernel_rfl
theorem equal_path_key (w : World) (a b : Int) : (Op.equal 120 (encI a) (encI b)).run Tryd.prog w = .ok (decide (a = b)) w := by
  by_cases h : a = b
  · subst h
    simp [Op.equal, Op.maxDepth, encI, go_sem, Tryd.underlying120, Tryd.underlying3]
  · simp [Op.equal, Op.maxDepth, encI, go_sem, h]
theorem kt_path_key : KeyT Int Tryd.prog 120 encI := ⟨check_path_key, find_of_equal Tryd.underlying120 (fun a => ⟨_, rfl⟩) equal_path_key, stays_int Tryd.prog⟩
theorem zero_inode (w : World) : (zeroValue 51).run Tryd.prog w = .ok (.agg #[.int .i64 0, .int .i64 0, .int .i64 0, .int .i64 0, .string ⟨#[]⟩, .slice none 0 0, .slice none 0 0]) w := by kernel_rfl
/-- What a call may have done to what the caller made from B on. -/
structure BExt (B : Nat) (h : FH) (w : World) (h' : FH) (w' : World) : Prop where
  le : FLe h h'
  sits : Sits h' w'
  below : Below B w w'
  size : w.heap.size ≤ w'.heap.size
  fresh : ∀ b, h' b ≠ none → h b ≠ none ∨ w.heap.size ≤ b
theorem BExt.of {B : Nat} {h h' : FH} {w w' : World} (E : Ext h w h' w') (hB : B ≤ w.heap.size) : BExt B h w h' w' := ⟨E.le, E.sits, E.below.mono hB, E.size, E.fresh⟩
theorem BExt.refl {B : Nat} {h : FH} {w : World} (hs : Sits h w) : BExt B h w h w := ⟨FLe.refl _, hs, Below.refl _ _, Nat.le_refl _, fun _ x => .inl x⟩
theorem BExt.trans {B : Nat} {h h1 h2 : FH} {w w1 w2 : World} (a : BExt B h w h1 w1) (b : BExt B h1 w1 h2 w2) : BExt B h w h2 w2 :=
  ⟨a.le.trans b.le, b.sits, a.below.trans b.below, Nat.le_trans a.size b.size, fun k hk => by
    rcases b.fresh k hk with h3 | h3
    · exact a.fresh k h3
    · exact .inr (Nat.le_trans a.size h3)⟩
theorem BExt.lift {B : Nat} {h0 h h1 : FH} {w0 w w1 : World} (E : Ext h0 w0 h w) (a : BExt B h w h1 w1) (hB : w0.heap.size ≤ B) : Ext h0 w0 h1 w1 :=
  ⟨E.le.trans a.le, a.sits, E.below.trans (a.below.mono hB), fun b hb => by
    rcases a.fresh b hb with h2 | h2
    · exact E.fresh b h2
    · exact .inr (Nat.le_trans E.size h2)⟩
theorem BExt.drew {B : Nat} {h h1 : FH} {w w1 : World} (a : BExt B h w h1 w1) : BExt B h w h1 w1.drew := ⟨a.le, a.sits, a.below.drew, a.size, a.fresh⟩
theorem BExt.set {B : Nat} {h h1 : FH} {w w1 : World} (a : BExt B h w h1 w1) {g i : Nat} (hg : B ≤ g) (hn : h1 g = none) (v : Value) : BExt B h w h1 (w1.setCell ⟨g, i, none⟩ v) :=
  ⟨a.le, fun b o hb => by
    by_cases e : b = g
    · subst e; rw [hn] at hb; cases hb
    · rw [Below.heap_setCell _ _ _ _ e]; exact a.sits b o hb, a.below.setCell hg v, by simpa [World.setCell] using a.size, a.fresh⟩
theorem BExt.row {B : Nat} {h h1 : FH} {w w1 w2 : World} (a : BExt B h w h1 w1) {row : Option Nat} (G : w1.grownBy w2 row) (hB : B ≤ w1.heap.size) (hr : ∀ k, row = some k → B ≤ k ∧ h1 k = none) : BExt B h w h1 w2 :=
  ⟨a.le, fun b o hb => by
    rw [G.block b (a.sits.lt (by rw [hb]; simp)) (fun e => by have := (hr b e.symm).2; rw [hb] at this; cases this)]; exact a.sits b o hb,
   a.below.grown G hB (fun k hk => (hr k hk).1), Nat.le_trans a.size G.size, a.fresh⟩
theorem BExt.none {B : Nat} {h h' : FH} {w w' : World} (E : BExt B h w h' w') {g : Nat} (hn : h g = Option.none) (hg : g < w.heap.size) : h' g = Option.none := by
  cases e : h' g with
  | none => rfl
  | some o =>
    rcases E.fresh g (by rw [e]; simp) with h2 | h2
    · exact absurd hn h2
    · omega
theorem InBox.drewB {h h0 : FH} {w wx : World} {x : Inode} {p : Value} (I : InBox h w h0 x p wx) : InBox h w h0 x p wx.drew := by
  obtain ⟨g, h3, A5, c5, A6, c6, e, E, l, hb, r, hg⟩ := I
  exact ⟨g, h3, A5, c5, A6, c6, e, E.drew, l, hb, r, hg⟩
/-- What the map of the inodes holds. -/
def ByIs (h : FH) (xs : List Inode) (C : Int → Option Value) : Prop := ∀ no, (findI xs no = none → C no = none) ∧ ∀ x, findI xs no = some x → ∃ cs : List Value, C no = some (.agg cs.toArray) ∧ repInode h cs x
theorem ByIs.mono {h h' : FH} {xs : List Inode} {C : Int → Option Value} (b : ByIs h xs C) (l : FLe h h') : ByIs h' xs C := fun no => ⟨(b no).1, fun x hx => by
  obtain ⟨cs, h1, h2⟩ := (b no).2 x hx
  exact ⟨cs, h1, h2.mono l⟩⟩
theorem ByIs.nil (h : FH) : ByIs h [] (fun _ => none) := fun no => ⟨fun _ => rfl, fun x hx => by cases hx⟩
theorem ByIs.cons {h : FH} {xs : List Inode} {C : Int → Option Value} (b : ByIs h xs C) {x : Inode} {cs : List Value} (r : repInode h cs x) : ByIs h (x :: xs) (fun a => if a = x.no then some (.agg cs.toArray) else C a) := fun no => by
  unfold findI
  by_cases e : no = x.no
  · have hi : isI no x = true := by unfold isI; simp [e]
    rw [List.find?_cons_of_pos hi]
    refine ⟨fun h => by (cases h), fun y hy => ?_⟩
    cases hy
    exact ⟨cs, by simp only [if_pos e], r⟩
  · have hi : ¬ isI no x = true := by unfold isI; simp; exact fun h => e h.symm
    rw [List.find?_cons_of_neg hi]
    simp only [if_neg e]
    exact b no
theorem OwnL.mk1 {α : Type} [Enc α] {h : FH} {w : World} (hs : Sits h w) {cs : List Value} {x : α} (T : TypeId) (r : Enc.rep h cs x) : OwnL h (w.alloc (.cells cs.toArray T)) w.heap.size T (.slice (some ⟨w.heap.size, 0, none⟩) 1 1) [x] := by
  have hl := Enc.len r
  refine ⟨⟨cs, ⟨by simp [hl], .inr ⟨w.heap.size, 1, cs.toArray, rfl, Nat.le_refl _, heap_new _ _, Nat.le_refl _, by unfold maxLen; omega, by simp [hl], by simp; exact List.take_of_length_le (by omega)⟩⟩, Reps.single r⟩, fun g hg => ?_⟩
  have : g = w.heap.size := by simpa [Value.ownBlock] using hg.symm
  rw [this]; exact hs.none (Nat.le_refl _)
/-- The walk's struct. -/
structure PkAt (B : Nat) (h : FH) (wr : World) (gp bm : Nat) (D : Option Addr) (cD : Nat) (st : Wk) : Prop where
  box : wr.heap[gp]? = some (.cells #[.map (some bm), .slice D st.kept.length cD, .int .i64 st.at_, .int .i64 st.loops] 97 (0, 0))
  free : h gp = none
  own : OwnL h wr B 3 (.slice D st.kept.length cD) st.kept
  hB : B ≤ gp
  hw : B ≤ wr.heap.size
theorem PkAt.lt {B : Nat} {h : FH} {wr : World} {gp bm : Nat} {D : Option Addr} {cD : Nat} {st : Wk} (I : PkAt B h wr gp bm D cD st) : gp < wr.heap.size := (Array.getElem?_eq_some_iff.1 I.box).1
theorem PkAt.more {B : Nat} {h h' : FH} {w w' : World} {gp bm : Nat} {D : Option Addr} {cD : Nat} {st : Wk} (I : PkAt B h w gp bm D cD st) (E : Ext h w h' w') : PkAt B h' w' gp bm D cD st :=
  ⟨E.row I.box, E.none I.free I.lt, I.own.ext E, I.hB, Nat.le_trans I.hw E.size⟩
theorem OwnL.neBox {α : Type} [Enc α] {h : FH} {w : World} {base : Nat} {T T' : TypeId} {v : Value} {xs : List α} (O : OwnL h w base T v xs) {g : Nat} {cs : Array Value} (hb : w.heap[g]? = some (.cells cs T' (0, 0))) (hT : T ≠ T') : v.ownBlock ≠ some g := by
  obtain ⟨c1, w1, _⟩ := O.own
  rcases w1.2 with ⟨rfl, _⟩ | ⟨g2, cap, cur, rfl, _, hg, _⟩
  · simp [Value.ownBlock]
  · intro e
    have e : g2 = g := by simpa [Value.ownBlock] using e
    subst e
    rw [hg] at hb
    simp only [Option.some.injEq, Obj.cells.injEq] at hb
    exact hT hb.2.1
theorem PkAt.setOwn {B : Nat} {h : FH} {w : World} {gp bm : Nat} {D : Option Addr} {cD : Nat} {st : Wk} (I : PkAt B h w gp bm D cD st) (i : Nat) (v : Value) : OwnL h (w.setCell ⟨gp, i, none⟩ v) B 3 (.slice D st.kept.length cD) st.kept :=
  I.own.kept (row := some gp) (grown_set1 w gp i v) (.inr (I.own.neBox I.box (by decide))) (FLe.refl _) I.own.free
theorem PkAt.at_ {B : Nat} {h : FH} {w : World} {gp bm : Nat} {D : Option Addr} {cD : Nat} {st : Wk} (I : PkAt B h w gp bm D cD st) (n : Int) : PkAt B h (w.setCell ⟨gp, 2, none⟩ (.int .i64 n)) gp bm D cD { st with at_ := n } :=
  ⟨box_set (i := 2) I.box _, I.free, I.setOwn 2 _, I.hB, by simpa [World.setCell] using I.hw⟩
theorem PkAt.loop {B : Nat} {h : FH} {w : World} {gp bm : Nat} {D : Option Addr} {cD : Nat} {st : Wk} (I : PkAt B h w gp bm D cD st) (n : Int) : PkAt B h (w.setCell ⟨gp, 3, none⟩ (.int .i64 n)) gp bm D cD { st with loops := n } :=
  ⟨box_set (i := 3) I.box _, I.free, I.setOwn 3 _, I.hB, by simpa [World.setCell] using I.hw⟩
/-- Another row is put there. -/
theorem PkAt.keep {B : Nat} {h : FH} {w : World} {gp bm : Nat} {D : Option Addr} {cD : Nat} {st : Wk} (I : PkAt B h w gp bm D cD st) {ks : List Int} {D' : Option Addr} {c' : Nat} (O : OwnL h w B 3 (.slice D' ks.length c') ks) : PkAt B h (w.setCell ⟨gp, 1, none⟩ (.slice D' ks.length c')) gp bm D' c' { st with kept := ks } :=
  ⟨box_set (i := 1) I.box _, I.free, O.kept (row := some gp) (grown_set1 w gp 1 _) (.inr (O.neBox I.box (by decide))) (FLe.refl _) O.free, I.hB, by simpa [World.setCell] using I.hw⟩
/-- Behind an append to the row. -/
theorem PkAt.grown {B : Nat} {h : FH} {w w' : World} {gp bm : Nat} {D : Option Addr} {cD : Nat} {st : Wk} (I : PkAt B h w gp bm D cD st) (G : w.grownBy w' (Value.slice D st.kept.length cD).ownBlock) : w'.heap[gp]? = some (.cells #[.map (some bm), .slice D st.kept.length cD, .int .i64 st.at_, .int .i64 st.loops] 97 (0, 0)) := by
  rw [G.block gp I.lt (fun e => I.own.neBox I.box (by decide) e.symm)]; exact I.box
theorem PkAt.drewP {B : Nat} {h : FH} {w : World} {gp bm : Nat} {D : Option Addr} {cD : Nat} {st : Wk} (I : PkAt B h w gp bm D cD st) : PkAt B h w.drew gp bm D cD st := ⟨I.box, I.free, I.own.drew, I.hB, I.hw⟩
/-- Fewer of them. -/
theorem OwnL.takeO {α : Type} [Enc α] {h : FH} {w : World} {base : Nat} {T : TypeId} {A : Option Addr} {n c : Nat} {xs : List α} (O : OwnL h w base T (.slice A n c) xs) (k : Nat) (hk : k ≤ xs.length) (hA : A ≠ none) : OwnL h w base T (.slice A k c) (xs.take k) := by
  obtain ⟨cells, hw, r⟩ := O.own
  have hl : (xs.take k).length = k := by rw [List.length_take]; omega
  refine ⟨⟨cells.take (k * Enc.sz α), ⟨?_, ?_⟩, r.take k⟩, fun g hg => O.free g (by cases A <;> exact hg)⟩
  · rw [List.length_take, r.length, hl, Nat.min_eq_left (Nat.mul_le_mul_right _ hk)]
  · rcases hw.2 with ⟨he, hn⟩ | ⟨g, cap, cur, he, hb, hg, hc, hm, hcs, htake⟩
    · simp only [Value.slice.injEq] at he; exact absurd he.1 hA
    · simp only [Value.slice.injEq] at he
      obtain ⟨rfl, rfl, rfl⟩ := he
      refine .inr ⟨g, c, cur, by rw [hl], hb, hg, by rw [hl]; omega, hm, hcs, ?_⟩
      rw [hl, ← htake, List.take_take, Nat.min_eq_left (Nat.mul_le_mul_right _ hk)]
end Go.Proofs.YtdiaibkpcnknbaaDoor

namespace Go.Proofs.YtdiaibkpcnknbaaDoor
open Go.RowKit Go.Sort
set_option linter.unusedVariables false
/-- A walk that stands at the root. -/
def RetBegin (h : FH) (w : World) (s : State) (e : Ending) (w' : World) : Prop := ∃ gp bm C h1 D cD, e = .returned (.pointer (some ⟨gp, 0, none⟩)) ∧ Ext h w h1 w' ∧ PkAt w.heap.size h1 w' gp bm D cD st0 ∧ FMap encI h1 bm C ∧ ByIs h1 s.inodes C
set_option maxHeartbeats 8000000 in
set_option maxRecDepth 100000 in
theorem path_begin (s : State) (cs : List Value) (h : FH) (w : World) (hs : Sits h w) (rS : repState h cs s) :
    Calls Tryd.prog 45 #[.agg cs.toArray] w fun e w' => RetBegin h w s e w' := by
  obtain ⟨A1, c1, A2, c2, rfl, l1, r1, l2, r2⟩ := rS
  have hl := r1.1
  obtain ⟨h1, E1, hb1, le1, hh1⟩ := (Ext.refl hs).boxF #[.int .i64 s.next, .slice A1 s.inodes.length c1, .slice A2 s.bads.length c2] 31
  have r1 := r1.mono le1
  have hmm := @run_makeMap Tryd.prog
  clear hh1 l1 l2 r2
  go_enter Tryd.func45, Tryd.ntmps45
  go_upto_region 1 with (fail)
  generalize hgS : w.heap.size = gS at *
  with_reducible generalize w.alloc (.cells #[.int .i64 s.next, .slice A1 s.inodes.length c1, .slice A2 s.bads.length c2] 31) = w1 at E1 ⊢
  go_upto_region 2 with (fail)
  have M2 := MapIs.made encI w1
  have E2 := E1.alloc (.map #[] 0)
  have O3 := OwnL.mk1 E2.sits 3 (show Enc.rep h1 [.int .i64 1] (1 : Int) from rfl)
  have E3 := E2.alloc (.cells #[.int .i64 1] 3)
  have M3 := M2.alloc (.cells #[.int .i64 1] 3)
  have n2 := E1.sits.none (Nat.le_refl _)
  have n4 := E3.sits.none (Nat.le_refl _)
  have hz2 : (w1.alloc (.map #[] 0)).heap.size = w1.heap.size + 1 := by simp
  have hz3 : ((w1.alloc (.map #[] 0)).alloc (.cells #[.int .i64 1] 3)).heap.size = w1.heap.size + 2 := by simp
  obtain ⟨bm, hbm⟩ : ∃ b, b = w1.heap.size := ⟨_, rfl⟩
  obtain ⟨g1, hg1⟩ : ∃ b, b = w1.heap.size + 1 := ⟨_, rfl⟩
  obtain ⟨gp, hgp⟩ : ∃ b, b = w1.heap.size + 2 := ⟨_, rfl⟩
  rw [← hbm] at M3 n2
  rw [← hg1] at hz2
  rw [hz2] at O3
  rw [← hgp] at hz3
  rw [hz3] at n4
  simp only [← hgp]
  simp only [← hg1]
  simp only [← hbm]
  have hw1 := E1.size
  have hwB := hid (show w.heap.size ≤ bm by omega)
  have E4 := E3.alloc (.cells #[.map (some bm), .slice (some ⟨g1, 0, none⟩) 1 1, .int .i64 1, .int .i64 0] 97)
  have M4 := hid (M3.alloc (.cells #[.map (some bm), .slice (some ⟨g1, 0, none⟩) 1 1, .int .i64 1, .int .i64 0] 97))
  have hb4 := heap_new ((w1.alloc (.map #[] 0)).alloc (.cells #[.int .i64 1] 3)) (.cells #[.map (some bm), .slice (some ⟨g1, 0, none⟩) 1 1, .int .i64 1, .int .i64 0] 97)
  rw [hz3] at hb4
  have I4 := hid (show PkAt w.heap.size h1 (((w1.alloc (.map #[] 0)).alloc (.cells #[.int .i64 1] 3)).alloc (.cells #[.map (some bm), .slice (some ⟨g1, 0, none⟩) 1 1, .int .i64 1, .int .i64 0] 97)) gp bm (some ⟨g1, 0, none⟩) 1 st0 from ⟨hb4, n4, (O3.alloc _).rebase (by omega), by omega, E4.size⟩)
  have E4 := hid E4
  have n2 := hid n2
  have hbp := hid (show bm ≠ gp by omega)
  have hb2 := hid (show bm ≠ g1 by omega)
  clear M2 E2 E3 O3 M3 n4 hz2 hz3 hb4 hbm hg1 hgp hw1
  with_reducible generalize ((w1.alloc (.map #[] 0)).alloc (.cells #[.int .i64 1] 3)).alloc (.cells #[.map (some bm), .slice (some ⟨g1, 0, none⟩) 1 1, .int .i64 1, .int .i64 0] 97) = w4 at M4 E4 I4 ⊢
  have s1 : w4.cell? ⟨gS, 1, none⟩ = some (.slice A1 s.inodes.length c1) := Sits_at E4.out.sits hb1 rfl
  have hw0 : IntKind.i64.wrap ((s.inodes.length : Int) - 1) = (s.inodes.length : Int) - 1 := by rw [IntKind.wrap_i64]; omega
  go_wp2_with fail
  go_loopw [4] (fun i wr => ∃ (k : Nat) (C : Int → Option Value), k ≤ s.inodes.length ∧ i = .int .i64 ((k : Int) - 1) ∧ Hid (ByIs h1 (s.inodes.drop k) C) ∧ Hid (MapIs encI wr bm C) ∧ Hid (PkAt w.heap.size h1 wr gp bm (some ⟨g1, 0, none⟩) 1 st0) ∧ Hid (Ext h w h1 wr)) (fun i _ => (intOf i + 1).toNat)
  case atStart => exact ⟨s.inodes.length, _, Nat.le_refl _, rfl, hid (by rw [List.drop_length]; exact ByIs.nil _), M4, I4, E4⟩
  case round =>
    obtain ⟨k, C, hk, rfl, HB, M, I, E⟩ := hrel
    clear s1
    by_cases hk0 : k = 0
    · subst hk0
      obtain ⟨h2, E2, l2, FM, hh2⟩ := M.out.freeze E.out n2.out hwB.out
      have I2 : Hid (PkAt w.heap.size h2 wr gp bm (some ⟨g1, 0, none⟩) 1 st0) := hid ⟨I.out.box, by rw [hh2 _ hbp.out.symm]; exact I.out.free, by
        obtain ⟨cc, a, b⟩ := I.out.own.own
        refine ⟨⟨cc, a, b.mono l2⟩, fun g hg => ?_⟩
        have : g = g1 := by simpa [Value.ownBlock] using hg.symm
        subst this
        rw [hh2 _ hb2.out.symm]; exact I.out.own.free _ hg, I.out.hB, I.out.hw⟩
      have hlt : ¬ ((0 : Int) ≤ (0 : Int) - 1) := by omega
      have FM := hid FM
      have E2 := hid E2
      have HB := hid (HB.out.mono l2)
      clear hh2
      go_wp2_with fail
      go_ret
      exact ⟨gp, bm, C, h2, _, _, rfl, E2.out, I2.out, FM.out, HB.out⟩
    · obtain ⟨j, rfl⟩ : ∃ j, k = j + 1 := ⟨k - 1, by omega⟩
      obtain ⟨x, hx⟩ : ∃ x, s.inodes[j]? = some x := ⟨s.inodes[j], List.getElem?_eq_getElem (by omega)⟩
      have s1 : wr.cell? ⟨gS, 1, none⟩ = some (.slice A1 s.inodes.length c1) := Sits_at E.out.sits hb1 rfl
      obtain ⟨b, off, A5, c5, A6, c6, ha, hA, ⟨z0, z1, z2, z3, z4, z5, z6⟩, RX⟩ := r1.ixInode hx E.out.sits c1
      have hdr : s.inodes.drop j = x :: s.inodes.drop (j + 1) := by
        rw [List.drop_eq_getElem_cons (by omega)]
        congr 1
        rw [List.getElem?_eq_getElem (by omega)] at hx
        simpa using hx
      have HB2 := hid (show ByIs h1 (s.inodes.drop j) (fun a => if a = x.no then some (.agg #[.int .i64 x.no, .int .i64 x.kind, .int .i64 x.links, .int .i64 x.size, .string x.target, .slice A5 x.entries.length c5, .slice A6 x.runs.length c6]) else C a) by rw [hdr]; exact HB.out.cons RX)
      have p0 := box_cell (j := 0) (v := .map (some bm)) I.out.box rfl
      obtain ⟨w', hrun, M', G⟩ := M.out.drew.update kt_path_key Tryd.underlying95 x.no (.agg #[.int .i64 x.no, .int .i64 x.kind, .int .i64 x.links, .int .i64 x.size, .string x.target, .slice A5 x.entries.length c5, .slice A6 x.runs.length c6])
      have E' := hid (E.out.drew.grown G (fun k hk => by cases hk; exact ⟨hwB.out, n2.out⟩))
      have I' : Hid (PkAt w.heap.size h1 w' gp bm (some ⟨g1, 0, none⟩) 1 st0) := hid ⟨(G.block gp I.out.lt (by simpa using hbp.out.symm)).trans I.out.box, I.out.free, I.out.own.drew.kept G (.inr (by simpa [Value.ownBlock] using hb2.out.symm)) (FLe.refl _) I.out.own.free, I.out.hB, Nat.le_trans I.out.hw G.size⟩
      have M' := hid M'
      have hrun : (Instr.mapUpdate 95 (.map (some bm)) (.agg #[.int .i64 x.no]) (.agg #[.int .i64 x.no, .int .i64 x.kind, .int .i64 x.links, .int .i64 x.size, .string x.target, .slice A5 x.entries.length c5, .slice A6 x.runs.length c6])).run Tryd.prog wr.drew = .ok () w' := hrun
      have hcj : ((j + 1 : Nat) : Int) - 1 = (j : Int) := by omega
      have hj0 : (0 : Int) ≤ (j : Int) := by omega
      have hwj : IntKind.i64.wrap ((j : Int) - 1) = (j : Int) - 1 := by rw [IntKind.wrap_i64]; omega
      rw [hcj]
      clear hx hA hdr RX hcj hk0
      go_upto_region 5 with (fail)
      go_region
      all_goals
        go_wp2_with fail
        go_roundw
        case rel => exact ⟨j, _, by omega, by go_num, HB2, M', I', E'⟩
        case measure => first | (simp [intOf]; done) | (simp [intOf]; omega)

/-- The number's inode, and why it may not be gone on from. -/
def hereC (v : Option Inode) : Int := match v with
  | none => 11
  | some x => if x.kind = 2 then 0 else 13
def RetHere (h : FH) (w : World) (v : Option Inode) (e : Ending) (w' : World) : Prop := ∃ cs h1, e = .returned (.tuple #[.agg cs.toArray, .int .i64 (hereC v)]) ∧ repInode h1 cs (v.getD zeroI) ∧ Ext h w h1 w'
theorem ByIs.get {h : FH} {xs : List Inode} {C : Int → Option Value} (b : ByIs h xs C) (no : Int) : ∃ cs : List Value, (C no).getD (.agg #[.int .i64 0, .int .i64 0, .int .i64 0, .int .i64 0, .string ⟨#[]⟩, .slice none 0 0, .slice none 0 0]) = .agg cs.toArray ∧ (C no).isSome = (findI xs no).isSome ∧ repInode h cs ((findI xs no).getD zeroI) := by
  cases e : findI xs no with
  | none => exact ⟨_, by rw [(b no).1 e]; rfl, by rw [(b no).1 e]; rfl, zeroI_rep h⟩
  | some x =>
    obtain ⟨cs, h1, h2⟩ := (b no).2 x e
    exact ⟨cs, by rw [h1]; rfl, by rw [h1]; rfl, h2⟩
set_option maxHeartbeats 8000000 in
set_option maxRecDepth 100000 in
theorem path_here (xs : List Inode) (gp bm : Nat) (C : Int → Option Value) (D : Option Addr) (cD : Nat) (B : Nat) (st : Wk) (v : Option Inode) (hv : findI xs st.at_ = v) (h : FH) (w : World) (hs : Sits h w) (I : PkAt B h w gp bm D cD st) (FM : FMap encI h bm C) (HB : ByIs h xs C) :
    Calls Tryd.prog 69 #[.pointer (some ⟨gp, 0, none⟩)] w fun e w' => RetHere h w v e w' := by
  obtain ⟨cs, hc1, hc2, hc3⟩ := HB.get st.at_
  rw [hv] at hc2 hc3
  obtain ⟨A5, c5, A6, c6, rfl⟩ := hc3.open
  obtain ⟨y, hy⟩ : ∃ y, v.getD zeroI = y := ⟨_, rfl⟩
  rw [hy] at hc1 hc3
  have HC3 := hid hc3
  have HY := hid hy
  have hlook : ∀ wx : World, Ext h w h wx → (Instr.lookup 95 (.map (some bm)) (.agg #[.int .i64 st.at_]) true).run Tryd.prog wx = .ok (.tuple #[.agg #[.int .i64 y.no, .int .i64 y.kind, .int .i64 y.links, .int .i64 y.size, .string y.target, .slice A5 y.entries.length c5, .slice A6 y.runs.length c6], .bool v.isSome]) wx := fun wx E => by
    have q := (FM wx E.sits).lookOk kt_path_key Tryd.underlying95 zero_inode st.at_
    rw [hc1, hc2] at q
    exact q
  have E1 := (Ext.refl hs).alloc (.cells #[.int .i64 0, .int .i64 0, .int .i64 0, .int .i64 0, .string ⟨#[]⟩, .slice none 0 0, .slice none 0 0] 51)
  have hR := heap_new w (.cells #[.int .i64 0, .int .i64 0, .int .i64 0, .int .i64 0, .string ⟨#[]⟩, .slice none 0 0, .slice none 0 0] 51)
  have nR := hs.none (Nat.le_refl w.heap.size)
  have HgR := hid (Nat.le_refl w.heap.size)
  have I1 := I.more E1
  have hlt1 : w.heap.size < (w.alloc (.cells #[.int .i64 0, .int .i64 0, .int .i64 0, .int .i64 0, .string ⟨#[]⟩, .slice none 0 0, .slice none 0 0] 51)).heap.size := by simp
  go_enter Tryd.func69, Tryd.ntmps69
  go_upto_region 1 with (fail)
  with_reducible generalize w.alloc (.cells #[.int .i64 0, .int .i64 0, .int .i64 0, .int .i64 0, .string ⟨#[]⟩, .slice none 0 0, .slice none 0 0] 51) = W1 at E1 hR I1 hlt1 ⊢
  obtain ⟨gR, hgR⟩ : ∃ gR, gR = w.heap.size := ⟨_, rfl⟩
  rw [← hgR] at hR nR hlt1 ⊢
  have HgR := hid (show w.heap.size ≤ gR by omega)
  clear hgR
  have hlk := hlook _ E1.drew
  have hlk2 := hlook _ (E1.alloc (.cells #[.int .i64 0, .int .i64 0, .int .i64 0, .int .i64 0, .string ⟨#[]⟩, .slice none 0 0, .slice none 0 0] 51)).drew
  have b0 : W1.cell? ⟨gp, 0, none⟩ = some (.map (some bm)) := box_cell (j := 0) I1.box rfl
  have b2 : W1.cell? ⟨gp, 2, none⟩ = some (.int .i64 st.at_) := box_cell (j := 2) I1.box rfl
  have a0 := keep1 b0 (.cells #[.int .i64 0, .int .i64 0, .int .i64 0, .int .i64 0, .string ⟨#[]⟩, .slice none 0 0, .slice none 0 0] 51)
  have a2 := keep1 b2 (.cells #[.int .i64 0, .int .i64 0, .int .i64 0, .int .i64 0, .string ⟨#[]⟩, .slice none 0 0, .slice none 0 0] 51)
  have z0 := box_alloc hR (.cells #[.int .i64 0, .int .i64 0, .int .i64 0, .int .i64 0, .string ⟨#[]⟩, .slice none 0 0, .slice none 0 0] 51)
  have hRR := hid hR
  have hX := heap_new W1 (.cells #[.int .i64 0, .int .i64 0, .int .i64 0, .int .i64 0, .string ⟨#[]⟩, .slice none 0 0, .slice none 0 0] 51)
  have nX := E1.sits.none (Nat.le_refl _)
  have E2 := E1.alloc (.cells #[.int .i64 0, .int .i64 0, .int .i64 0, .int .i64 0, .string ⟨#[]⟩, .slice none 0 0, .slice none 0 0] 51)
  have x0 : (W1.alloc (.cells #[.int .i64 0, .int .i64 0, .int .i64 0, .int .i64 0, .string ⟨#[]⟩, .slice none 0 0, .slice none 0 0] 51)).cell? ⟨W1.heap.size, 0, none⟩ = some (.int .i64 0) := box_cell (j := 0) hX rfl
  have f0 := box_free (j := 0) hX
  have x1 : (W1.alloc (.cells #[.int .i64 0, .int .i64 0, .int .i64 0, .int .i64 0, .string ⟨#[]⟩, .slice none 0 0, .slice none 0 0] 51)).cell? ⟨W1.heap.size, 1, none⟩ = some (.int .i64 0) := box_cell (j := 1) hX rfl
  have f1 := box_free (j := 1) hX
  have x2 : (W1.alloc (.cells #[.int .i64 0, .int .i64 0, .int .i64 0, .int .i64 0, .string ⟨#[]⟩, .slice none 0 0, .slice none 0 0] 51)).cell? ⟨W1.heap.size, 2, none⟩ = some (.int .i64 0) := box_cell (j := 2) hX rfl
  have f2 := box_free (j := 2) hX
  have x3 : (W1.alloc (.cells #[.int .i64 0, .int .i64 0, .int .i64 0, .int .i64 0, .string ⟨#[]⟩, .slice none 0 0, .slice none 0 0] 51)).cell? ⟨W1.heap.size, 3, none⟩ = some (.int .i64 0) := box_cell (j := 3) hX rfl
  have f3 := box_free (j := 3) hX
  have x4 : (W1.alloc (.cells #[.int .i64 0, .int .i64 0, .int .i64 0, .int .i64 0, .string ⟨#[]⟩, .slice none 0 0, .slice none 0 0] 51)).cell? ⟨W1.heap.size, 4, none⟩ = some (.string ⟨#[]⟩) := box_cell (j := 4) hX rfl
  have f4 := box_free (j := 4) hX
  have x5 : (W1.alloc (.cells #[.int .i64 0, .int .i64 0, .int .i64 0, .int .i64 0, .string ⟨#[]⟩, .slice none 0 0, .slice none 0 0] 51)).cell? ⟨W1.heap.size, 5, none⟩ = some (.slice none 0 0) := box_cell (j := 5) hX rfl
  have f5 := box_free (j := 5) hX
  have x6 : (W1.alloc (.cells #[.int .i64 0, .int .i64 0, .int .i64 0, .int .i64 0, .string ⟨#[]⟩, .slice none 0 0, .slice none 0 0] 51)).cell? ⟨W1.heap.size, 6, none⟩ = some (.slice none 0 0) := box_cell (j := 6) hX rfl
  have f6 := box_free (j := 6) hX
  have HgX := hid E1.size
  have hRX := hid (show gR ≠ W1.heap.size by omega)
  have E2 := hid E2
  have hX := hid hX
  have z0 := hid z0
  have nR := hid nR
  have nX := hid nX
  have HC4 := hid hc3
  have HLT1 := hid hlt1
  clear hlook hc1 hc2 hR HB FM I1 hlt1 hc3
  have ER := hid (Ext.refl E1.sits)
  have E1 := hid E1
  have L1 := hid (FLe.refl h)
  go_cut [4, 5] (fun s4 s5 wx => s5 = .bool v.isSome ∧ InBox h W1 h y s4 wx ∧ Hid (wx.heap[gR]? = some (.cells #[.int .i64 0, .int .i64 0, .int .i64 0, .int .i64 0, .string ⟨#[]⟩, .slice none 0 0, .slice none 0 0] 51 (0, 0))))
  case first =>
    go_region
    all_goals
      go_wp2_with fail
      go_meet
      exact ⟨rfl, InBox.drewB (InBox.last ER.out L1.out HC4.out), hid (box_alloc hRR.out _)⟩
  case rest =>
    obtain ⟨rfl, ⟨g, h3, A5, c5, A6, c6, rfl, E3, l3, hb3, R3, hg3⟩, Z3⟩ := hcut
    have n3 := hid (E3.none nR.out HLT1.out)
    have m0 : wc.cell? ⟨g, 0, none⟩ = some (.int .i64 y.no) := Sits_at E3.sits hb3 rfl
    have m1 : wc.cell? ⟨g, 1, none⟩ = some (.int .i64 y.kind) := Sits_at E3.sits hb3 rfl
    have m2 : wc.cell? ⟨g, 2, none⟩ = some (.int .i64 y.links) := Sits_at E3.sits hb3 rfl
    have m3 : wc.cell? ⟨g, 3, none⟩ = some (.int .i64 y.size) := Sits_at E3.sits hb3 rfl
    have m4 : wc.cell? ⟨g, 4, none⟩ = some (.string y.target) := Sits_at E3.sits hb3 rfl
    have m5 : wc.cell? ⟨g, 5, none⟩ = some (.slice A5 y.entries.length c5) := Sits_at E3.sits hb3 rfl
    have m6 : wc.cell? ⟨g, 6, none⟩ = some (.slice A6 y.runs.length c6) := Sits_at E3.sits hb3 rfl
    have n10 : wc.cell? ⟨gR, 0, none⟩ = some (.int .i64 0) := box_cell (j := 0) Z3.out rfl
    have q0 := box_free (j := 0) Z3.out
    have n11 : wc.cell? ⟨gR, 1, none⟩ = some (.int .i64 0) := box_cell (j := 1) Z3.out rfl
    have q1 := box_free (j := 1) Z3.out
    have n12 : wc.cell? ⟨gR, 2, none⟩ = some (.int .i64 0) := box_cell (j := 2) Z3.out rfl
    have q2 := box_free (j := 2) Z3.out
    have n13 : wc.cell? ⟨gR, 3, none⟩ = some (.int .i64 0) := box_cell (j := 3) Z3.out rfl
    have q3 := box_free (j := 3) Z3.out
    have n14 : wc.cell? ⟨gR, 4, none⟩ = some (.string ⟨#[]⟩) := box_cell (j := 4) Z3.out rfl
    have q4 := box_free (j := 4) Z3.out
    have n15 : wc.cell? ⟨gR, 5, none⟩ = some (.slice none 0 0) := box_cell (j := 5) Z3.out rfl
    have q5 := box_free (j := 5) Z3.out
    have n16 : wc.cell? ⟨gR, 6, none⟩ = some (.slice none 0 0) := box_cell (j := 6) Z3.out rfl
    have q6 := box_free (j := 6) Z3.out
    have E3 := hid (E1.out.trans E3)
    have R3 := hid R3
    clear a0 a2 hlk hlk2 b0 b2 x0 f0 x1 f1 x2 f2 x3 f3 x4 f4 x5 f5 x6 f6 hb3 l3 hg3
    cases v with
    | none =>
      have b5 : (none : Option Inode).isSome = false := rfl
      go_wp2_with fail
      have E7 : Ext h w h3 (((((((wc.setCell ⟨gR, 0, none⟩ (.int .i64 y.no)).setCell ⟨gR, 1, none⟩ (.int .i64 y.kind)).setCell ⟨gR, 2, none⟩ (.int .i64 y.links)).setCell ⟨gR, 3, none⟩ (.int .i64 y.size)).setCell ⟨gR, 4, none⟩ (.string y.target)).setCell ⟨gR, 5, none⟩ (.slice A5 y.entries.length c5)).setCell ⟨gR, 6, none⟩ (.slice A6 y.runs.length c6)) := Ext.setCells (g := gR) HgR.out n3.out [.int .i64 y.no, .int .i64 y.kind, .int .i64 y.links, .int .i64 y.size, .string y.target, .slice A5 y.entries.length c5, .slice A6 y.runs.length c6] 0 _ E3.out
      have R7 : ((((((((wc.setCell ⟨gR, 0, none⟩ (.int .i64 y.no)).setCell ⟨gR, 1, none⟩ (.int .i64 y.kind)).setCell ⟨gR, 2, none⟩ (.int .i64 y.links)).setCell ⟨gR, 3, none⟩ (.int .i64 y.size)).setCell ⟨gR, 4, none⟩ (.string y.target)).setCell ⟨gR, 5, none⟩ (.slice A5 y.entries.length c5)).setCell ⟨gR, 6, none⟩ (.slice A6 y.runs.length c6))).heap[gR]? = some (.cells #[.int .i64 y.no, .int .i64 y.kind, .int .i64 y.links, .int .i64 y.size, .string y.target, .slice A5 y.entries.length c5, .slice A6 y.runs.length c6] 51 (0, 0)) := setCells_row [.int .i64 y.no, .int .i64 y.kind, .int .i64 y.links, .int .i64 y.size, .string y.target, .slice A5 y.entries.length c5, .slice A6 y.runs.length c6] Z3.out rfl
      with_reducible generalize (((((((wc.setCell ⟨gR, 0, none⟩ (.int .i64 y.no)).setCell ⟨gR, 1, none⟩ (.int .i64 y.kind)).setCell ⟨gR, 2, none⟩ (.int .i64 y.links)).setCell ⟨gR, 3, none⟩ (.int .i64 y.size)).setCell ⟨gR, 4, none⟩ (.string y.target)).setCell ⟨gR, 5, none⟩ (.slice A5 y.entries.length c5)).setCell ⟨gR, 6, none⟩ (.slice A6 y.runs.length c6)) = W9 at E7 R7 ⊢
      have y0 : W9.cell? ⟨gR, 0, none⟩ = some (.int .i64 y.no) := box_cell (j := 0) R7 rfl
      have y1 : W9.cell? ⟨gR, 1, none⟩ = some (.int .i64 y.kind) := box_cell (j := 1) R7 rfl
      have y2 : W9.cell? ⟨gR, 2, none⟩ = some (.int .i64 y.links) := box_cell (j := 2) R7 rfl
      have y3 : W9.cell? ⟨gR, 3, none⟩ = some (.int .i64 y.size) := box_cell (j := 3) R7 rfl
      have y4 : W9.cell? ⟨gR, 4, none⟩ = some (.string y.target) := box_cell (j := 4) R7 rfl
      have y5 : W9.cell? ⟨gR, 5, none⟩ = some (.slice A5 y.entries.length c5) := box_cell (j := 5) R7 rfl
      have y6 : W9.cell? ⟨gR, 6, none⟩ = some (.slice A6 y.runs.length c6) := box_cell (j := 6) R7 rfl
      refine bodyPost_ret (v := .tuple #[.agg #[.int .i64 y.no, .int .i64 y.kind, .int .i64 y.links, .int .i64 y.size, .string y.target, .slice A5 y.entries.length c5, .slice A6 y.runs.length c6], .int .i64 (11)]) (by simp [results, Tryd.results69, go_sem, y0, y1, y2, y3, y4, y5, y6]) rfl ⟨_, h3, rfl, by rw [HY.out]; exact R3.out, E7⟩
    | some x =>
      have b5 : (some x).isSome = true := rfl
      obtain rfl : x = y := HY.out
      by_cases hk : x.kind = 2
      · have b2 : (x.kind == 2) = true := by simpa using hk
        have b3 : (x.kind != 2) = false := by simpa using hk
        have HQ := hid (show hereC (some x) = 0 by unfold hereC; simp [hk])
        clear hk
        go_wp2_with fail
        have E7 : Ext h w h3 (((((((wc.setCell ⟨gR, 0, none⟩ (.int .i64 x.no)).setCell ⟨gR, 1, none⟩ (.int .i64 x.kind)).setCell ⟨gR, 2, none⟩ (.int .i64 x.links)).setCell ⟨gR, 3, none⟩ (.int .i64 x.size)).setCell ⟨gR, 4, none⟩ (.string x.target)).setCell ⟨gR, 5, none⟩ (.slice A5 x.entries.length c5)).setCell ⟨gR, 6, none⟩ (.slice A6 x.runs.length c6)) := Ext.setCells (g := gR) HgR.out n3.out [.int .i64 x.no, .int .i64 x.kind, .int .i64 x.links, .int .i64 x.size, .string x.target, .slice A5 x.entries.length c5, .slice A6 x.runs.length c6] 0 _ E3.out
        have R7 : ((((((((wc.setCell ⟨gR, 0, none⟩ (.int .i64 x.no)).setCell ⟨gR, 1, none⟩ (.int .i64 x.kind)).setCell ⟨gR, 2, none⟩ (.int .i64 x.links)).setCell ⟨gR, 3, none⟩ (.int .i64 x.size)).setCell ⟨gR, 4, none⟩ (.string x.target)).setCell ⟨gR, 5, none⟩ (.slice A5 x.entries.length c5)).setCell ⟨gR, 6, none⟩ (.slice A6 x.runs.length c6))).heap[gR]? = some (.cells #[.int .i64 x.no, .int .i64 x.kind, .int .i64 x.links, .int .i64 x.size, .string x.target, .slice A5 x.entries.length c5, .slice A6 x.runs.length c6] 51 (0, 0)) := setCells_row [.int .i64 x.no, .int .i64 x.kind, .int .i64 x.links, .int .i64 x.size, .string x.target, .slice A5 x.entries.length c5, .slice A6 x.runs.length c6] Z3.out rfl
        with_reducible generalize (((((((wc.setCell ⟨gR, 0, none⟩ (.int .i64 x.no)).setCell ⟨gR, 1, none⟩ (.int .i64 x.kind)).setCell ⟨gR, 2, none⟩ (.int .i64 x.links)).setCell ⟨gR, 3, none⟩ (.int .i64 x.size)).setCell ⟨gR, 4, none⟩ (.string x.target)).setCell ⟨gR, 5, none⟩ (.slice A5 x.entries.length c5)).setCell ⟨gR, 6, none⟩ (.slice A6 x.runs.length c6)) = W9 at E7 R7 ⊢
        have y0 : W9.cell? ⟨gR, 0, none⟩ = some (.int .i64 x.no) := box_cell (j := 0) R7 rfl
        have y1 : W9.cell? ⟨gR, 1, none⟩ = some (.int .i64 x.kind) := box_cell (j := 1) R7 rfl
        have y2 : W9.cell? ⟨gR, 2, none⟩ = some (.int .i64 x.links) := box_cell (j := 2) R7 rfl
        have y3 : W9.cell? ⟨gR, 3, none⟩ = some (.int .i64 x.size) := box_cell (j := 3) R7 rfl
        have y4 : W9.cell? ⟨gR, 4, none⟩ = some (.string x.target) := box_cell (j := 4) R7 rfl
        have y5 : W9.cell? ⟨gR, 5, none⟩ = some (.slice A5 x.entries.length c5) := box_cell (j := 5) R7 rfl
        have y6 : W9.cell? ⟨gR, 6, none⟩ = some (.slice A6 x.runs.length c6) := box_cell (j := 6) R7 rfl
        refine bodyPost_ret (v := .tuple #[.agg #[.int .i64 x.no, .int .i64 x.kind, .int .i64 x.links, .int .i64 x.size, .string x.target, .slice A5 x.entries.length c5, .slice A6 x.runs.length c6], .int .i64 (0)]) (by simp [results, Tryd.results69, go_sem, y0, y1, y2, y3, y4, y5, y6]) rfl ⟨_, h3, by rw [HQ.out], R3.out, E7⟩
      · have b2 : (x.kind == 2) = false := by simpa using hk
        have b3 : (x.kind != 2) = true := by simpa using hk
        have HQ := hid (show hereC (some x) = 13 by unfold hereC; simp [hk])
        clear hk
        go_wp2_with fail
        have E7 : Ext h w h3 (((((((wc.setCell ⟨gR, 0, none⟩ (.int .i64 x.no)).setCell ⟨gR, 1, none⟩ (.int .i64 x.kind)).setCell ⟨gR, 2, none⟩ (.int .i64 x.links)).setCell ⟨gR, 3, none⟩ (.int .i64 x.size)).setCell ⟨gR, 4, none⟩ (.string x.target)).setCell ⟨gR, 5, none⟩ (.slice A5 x.entries.length c5)).setCell ⟨gR, 6, none⟩ (.slice A6 x.runs.length c6)) := Ext.setCells (g := gR) HgR.out n3.out [.int .i64 x.no, .int .i64 x.kind, .int .i64 x.links, .int .i64 x.size, .string x.target, .slice A5 x.entries.length c5, .slice A6 x.runs.length c6] 0 _ E3.out
        have R7 : ((((((((wc.setCell ⟨gR, 0, none⟩ (.int .i64 x.no)).setCell ⟨gR, 1, none⟩ (.int .i64 x.kind)).setCell ⟨gR, 2, none⟩ (.int .i64 x.links)).setCell ⟨gR, 3, none⟩ (.int .i64 x.size)).setCell ⟨gR, 4, none⟩ (.string x.target)).setCell ⟨gR, 5, none⟩ (.slice A5 x.entries.length c5)).setCell ⟨gR, 6, none⟩ (.slice A6 x.runs.length c6))).heap[gR]? = some (.cells #[.int .i64 x.no, .int .i64 x.kind, .int .i64 x.links, .int .i64 x.size, .string x.target, .slice A5 x.entries.length c5, .slice A6 x.runs.length c6] 51 (0, 0)) := setCells_row [.int .i64 x.no, .int .i64 x.kind, .int .i64 x.links, .int .i64 x.size, .string x.target, .slice A5 x.entries.length c5, .slice A6 x.runs.length c6] Z3.out rfl
        with_reducible generalize (((((((wc.setCell ⟨gR, 0, none⟩ (.int .i64 x.no)).setCell ⟨gR, 1, none⟩ (.int .i64 x.kind)).setCell ⟨gR, 2, none⟩ (.int .i64 x.links)).setCell ⟨gR, 3, none⟩ (.int .i64 x.size)).setCell ⟨gR, 4, none⟩ (.string x.target)).setCell ⟨gR, 5, none⟩ (.slice A5 x.entries.length c5)).setCell ⟨gR, 6, none⟩ (.slice A6 x.runs.length c6)) = W9 at E7 R7 ⊢
        have y0 : W9.cell? ⟨gR, 0, none⟩ = some (.int .i64 x.no) := box_cell (j := 0) R7 rfl
        have y1 : W9.cell? ⟨gR, 1, none⟩ = some (.int .i64 x.kind) := box_cell (j := 1) R7 rfl
        have y2 : W9.cell? ⟨gR, 2, none⟩ = some (.int .i64 x.links) := box_cell (j := 2) R7 rfl
        have y3 : W9.cell? ⟨gR, 3, none⟩ = some (.int .i64 x.size) := box_cell (j := 3) R7 rfl
        have y4 : W9.cell? ⟨gR, 4, none⟩ = some (.string x.target) := box_cell (j := 4) R7 rfl
        have y5 : W9.cell? ⟨gR, 5, none⟩ = some (.slice A5 x.entries.length c5) := box_cell (j := 5) R7 rfl
        have y6 : W9.cell? ⟨gR, 6, none⟩ = some (.slice A6 x.runs.length c6) := box_cell (j := 6) R7 rfl
        refine bodyPost_ret (v := .tuple #[.agg #[.int .i64 x.no, .int .i64 x.kind, .int .i64 x.links, .int .i64 x.size, .string x.target, .slice A5 x.entries.length c5, .slice A6 x.runs.length c6], .int .i64 (13)]) (by simp [results, Tryd.results69, go_sem, y0, y1, y2, y3, y4, y5, y6]) rfl ⟨_, h3, by rw [HQ.out], R3.out, E7⟩

/-- Behind a method that goes on. -/
def RetBack (B : Nat) (h : FH) (w : World) (gp bm : Nat) (st : Wk) (e : Ending) (w' : World) : Prop := ∃ D cD, e = .returned (.tuple #[]) ∧ PkAt B h w' gp bm D cD st ∧ BExt B h w h w'
set_option maxHeartbeats 8000000 in
set_option maxRecDepth 100000 in
theorem path_back (gp bm : Nat) (D : Option Addr) (cD : Nat) (B : Nat) (st : Wk) (hk1 : 1 ≤ st.kept.length) (hk2 : st.kept.length ≤ 1000000) (h : FH) (w : World) (hs : Sits h w) (I : PkAt B h w gp bm D cD st) :
    Calls Tryd.prog 77 #[.pointer (some ⟨gp, 0, none⟩)] w fun e w' => RetBack B h w gp bm ⟨backK st.kept, (backK st.kept).getLast?.getD 0, st.loops⟩ e w' := by
  obtain ⟨ks, hks⟩ : ∃ ks, backK st.kept = ks := ⟨_, rfl⟩
  have HKS := hid hks
  have hkl := backK_len st.kept hk1
  rw [hks] at hkl
  rw [hks]
  clear hks
  have II := hid I
  have c1 := box_cell (j := 1) (v := .slice D st.kept.length cD) I.box rfl
  have hDn : D ≠ none := by
    obtain ⟨g2, cap2, cs2, hv2, _⟩ := I.own.get (List.getElem?_eq_getElem (show 0 < st.kept.length by omega))
    simp only [Value.slice.injEq] at hv2
    rw [hv2.1]; simp
  have HDN := hid hDn
  clear hDn
  go_enter Tryd.func77, Tryd.ntmps77
  go_upto_if 7 with (fail)
  go_cut [0] (fun s0 wx => s0 = .pointer (some ⟨gp, 0, none⟩) ∧ ∃ D' c', Hid (PkAt B h wx gp bm D' c' { st with kept := ks }) ∧ Hid (BExt B h w h wx))
  case first =>
    by_cases h1k : 1 < st.kept.length
    · obtain ⟨n, hn⟩ : ∃ n, st.kept.length = n + 1 := ⟨st.kept.length - 1, by omega⟩
      have HKD := hid (show ks = st.kept.take n by rw [← HKS.out]; unfold backK; rw [if_pos h1k, List.dropLast_eq_take, hn]; rfl)
      have hcl : (n : Int) ≤ (cD : Int) := by obtain ⟨A, c, hv, hc⟩ := I.own.slice; simp only [Value.slice.injEq, true_and] at hv; omega
      have hwr : IntKind.i64.wrap ((st.kept.length : Int) - 1) = (n : Int) := by rw [IntKind.wrap_i64]; omega
      have hn0 : (0 : Int) ≤ (n : Int) := by omega
      have hkn : ks.length = n := by rw [HKD.out, List.length_take]; omega
      have O2 := hid (show OwnL h w B 3 (.slice D ks.length cD) ks by rw [hkn, HKD.out]; exact I.own.takeO n (by omega) HDN.out)
      have HKN := hid hkn
      have f1 := box_free (j := 1) I.box
      clear hn hkn
      go_upto_region 1 with (fail)
      go_region
      all_goals
        go_wp2_with fail
        go_meet
        exact ⟨rfl, D, cD, hid (by rw [← HKN.out]; exact PkAt.drewP (II.out.keep O2.out)), hid (((BExt.refl hs).set II.out.hB II.out.free _).drew)⟩
    · have HKD := hid (show ks = st.kept by rw [← HKS.out]; unfold backK; rw [if_neg h1k])
      go_wp2_with fail
      go_meet
      exact ⟨rfl, D, cD, hid (by rw [HKD.out]; exact II.out), hid (BExt.refl hs)⟩
  case rest =>
    obtain ⟨rfl, D', c', I5, X5⟩ := hcut
    obtain ⟨n, hn⟩ : ∃ n, ks.length = n + 1 := ⟨ks.length - 1, by omega⟩
    have hwr : IntKind.i64.wrap ((ks.length : Int) - 1) = (n : Int) := by rw [IntKind.wrap_i64]; omega
    obtain ⟨y, hy⟩ : ∃ y, ks[n]? = some y := ⟨ks[n], List.getElem?_eq_getElem (by omega)⟩
    have HLY := hid (show ks.getLast?.getD 0 = y by rw [List.getLast?_eq_getElem?, hn]; simp [hy])
    obtain ⟨g2, cap2, cs2, hv2, _, _, _, rr, hcc, hfr⟩ := I5.out.own.get hy
    have hcs : cs2 = [.int .i64 y] := rr
    subst hcs
    have d0 : wc.cell? ⟨g2, n, none⟩ = some (.int .i64 y) := by have := hcc 0 _ rfl; rwa [show n * Enc.sz Int + 0 = n from by show n * 1 + 0 = n; omega] at this
    obtain ⟨rfl, hq, rfl⟩ : D' = some ⟨g2, 0, none⟩ ∧ ks.length = ks.length ∧ c' = cap2 := by simpa using hv2
    have z1 := box_cell (j := 1) (v := .slice (some ⟨g2, 0, none⟩) ks.length c') I5.out.box rfl
    have z2 := box_cell (j := 2) (v := .int .i64 st.at_) I5.out.box rfl
    have e2 := box_free (j := 2) I5.out.box
    have hn0 : (0 : Int) ≤ (n : Int) := by omega
    have hn1 : (n : Int) < (ks.length : Int) := by omega
    clear hy hn c1 hcc hfr hv2 hq rr
    go_upto_region 2 with (fail)
    go_region
    all_goals
      go_wp2_with fail
      go_end0
      exact ⟨_, _, rfl, by rw [HLY.out]; exact PkAt.drewP (I5.out.at_ y), (X5.out.set I5.out.hB I5.out.free _).drew⟩
end Go.Proofs.YtdiaibkpcnknbaaDoor

namespace Go.Proofs.YtdiaibkpcnknbaaDoor
open Go.RowKit Go.Sort
set_option linter.unusedVariables false
/-- A step is done. -/
def RetPk (B : Nat) (h : FH) (w : World) (gp bm : Nat) (r : Wk × List ByteArray × Int) (e : Ending) (w' : World) : Prop :=
  ∃ A c D cD h1, e = .returned (.tuple #[.slice A r.2.1.length c, .int .i64 r.2.2]) ∧ CapLe A r.2.1.length c ∧ RowAt h1 A r.2.1 ∧ PkAt B h1 w' gp bm D cD r.1 ∧ BExt B h w h1 w'
theorem PkAt.of {B : Nat} {h : FH} {w : World} {gp bm : Nat} {dv : Value} {a l : Int} (bx : w.heap[gp]? = some (.cells #[.map (some bm), dv, .int .i64 a, .int .i64 l] 97 (0, 0))) (hn : h gp = none) (hB : B ≤ gp) (hw : B ≤ w.heap.size) {ks : List Int} {D' : Option Addr} {c' : Nat} (O : OwnL h w B 3 (.slice D' ks.length c') ks) : PkAt B h (w.setCell ⟨gp, 1, none⟩ (.slice D' ks.length c')) gp bm D' c' ⟨ks, a, l⟩ :=
  ⟨box_set (i := 1) bx _, hn, O.kept (row := some gp) (grown_set1 w gp 1 _) (.inr (O.neBox bx (by decide))) (FLe.refl _) O.free, hB, by simpa [World.setCell] using hw⟩
theorem partsXs_bad {s : ByteArray} (h : partsCode s ≠ 0) : partsXs s = [] := by
  unfold partsCode at h
  unfold partsXs
  cases e : partsP s with
  | none => rfl
  | some ks => rw [e] at h; simp at h
set_option maxHeartbeats 8000000 in
set_option maxRecDepth 100000 in
theorem path_link (gp bm : Nat) (D : Option Addr) (cD : Nat) (B : Nat) (st : Wk) (y : Inode) (hk3 : y.kind = 3) (no : Int) (hsz : y.target.size ≤ 9223372036854775807) (hl0 : 0 ≤ st.loops) (hl1 : st.loops ≤ 100) (h : FH) (w : World) (hs : Sits h w) (I : PkAt B h w gp bm D cD st) :
    Calls Tryd.prog 78 #[.pointer (some ⟨gp, 0, none⟩), .string y.target] w fun e w' => RetPk B h w gp bm (follW st y no true) e w' := by
  have HK3 := hid hk3
  have I6 := hid I
  have p5 := box_cell (j := 3) (v := .int .i64 st.loops) I.box rfl
  have f5 := box_free (j := 3) I.box
  clear hk3 I
  go_enter Tryd.func78, Tryd.ntmps78
  by_cases h8 : 8 ≤ st.loops
  · have HS := hid (show follW st y no true = (st, [], 16) from follW_loop HK3.out h8)
    go_wp2_with fail
    go_ret2
    exact (by rw [HS.out]; exact ⟨none, 0, D, cD, h, rfl, ⟨Nat.zero_le _, fun _ => rfl, by decide⟩, RowAt.nil _ _, I6.out, BExt.refl hs⟩)
  · have H8 := hid h8
    have hl7 : st.loops < 8 := by omega
    clear h8
    go_upto_region 4 with (fail)
    have I7 := hid (I6.out.loop (st.loops + 1))
    have X7 := hid ((BExt.refl hs).set (B := B) (i := 3) I6.out.hB I6.out.free (.int .i64 (st.loops + 1)))
    with_reducible generalize w.setCell ⟨gp, 3, none⟩ (.int .i64 (st.loops + 1)) = w7 at I7 X7 ⊢
    clear p5 f5
    have KP := hid (name_Parts y.target hsz h w7 X7.out.sits)
    go_upto_region 5 with (go_at_call 36; refine KP.out.mono ?_; rintro e w8 R; obtain ⟨A9, c9, h8, rfl, k9, r9, F8⟩ := R.stayX (by have := (ways_lenW y.target).2; omega); have I8 := hid (I7.out.more F8); have X8 := hid (X7.out.trans (BExt.of F8 I7.out.hw)); have k9 := hid k9; have r9 := hid r9; clear F8 R)
    by_cases hc : partsCode y.target = 0
    · have bc : (partsCode y.target != 0) = false := by simp [hc]
      have bd : (partsCode y.target == 0) = true := by simp [hc]
      have HC := hid hc
      obtain ⟨t, ht⟩ : ∃ t, partsTop y.target = t := ⟨_, rfl⟩
      have HT := hid ht
      clear hc
      rw [ht]
      clear ht
      cases t
      · have HS := hid (show follW st y no true = (⟨st.kept, st.at_, st.loops + 1⟩, partsXs y.target, 0) from follW_from HK3.out (by have q := H8.out; omega) HC.out HT.out)
        go_wp2_with fail
        go_ret2
        rw [HC.out]
        exact (by rw [HS.out]; exact ⟨A9, c9, D, cD, h8, rfl, k9.out, r9.out, I8.out, X8.out⟩)
      · have HS := hid (show follW st y no true = (⟨[1], 1, st.loops + 1⟩, partsXs y.target, 0) from follW_top HK3.out (by have q := H8.out; omega) HC.out HT.out)
        have O9 := OwnL.mk1 X8.out.sits 3 (show Enc.rep h8 [.int .i64 1] (1 : Int) from rfl)
        have E9 := (Ext.refl X8.out.sits).alloc (.cells #[.int .i64 1] 3)
        have I9 := hid (I8.out.more E9)
        have X9 := hid (X8.out.trans (BExt.of E9 I8.out.hw))
        have O9 := hid (O9.rebase (base' := B) I8.out.hw)
        have z3 := box_cell (j := 1) (v := .slice D st.kept.length cD) I9.out.box rfl
        have z4 := box_cell (j := 2) (v := .int .i64 st.at_) I9.out.box rfl
        have e3 := box_free (j := 1) I9.out.box
        have e4 := box_free (j := 2) I9.out.box
        clear E9
        go_wp2_with fail
        have I10 := hid ((I9.out.keep (ks := [1]) O9.out).at_ 1)
        have X10 := hid ((X9.out.set I9.out.hB I9.out.free (i := 1) (.slice (some ⟨w8.heap.size, 0, none⟩) 1 1)).set I9.out.hB I9.out.free (i := 2) (.int .i64 1))
        go_ret2
        rw [HC.out]
        exact (by rw [HS.out]; exact ⟨A9, c9, _, _, h8, rfl, k9.out, r9.out, I10.out, X10.out⟩)
    · have bc : (partsCode y.target != 0) = true := by simp [hc]
      have bd : (partsCode y.target == 0) = false := by simp [hc]
      have HS := hid (show follW st y no true = (⟨st.kept, st.at_, st.loops + 1⟩, [], partsCode y.target) from follW_bad HK3.out (by have q := H8.out; omega) hc)
      have HX := hid (partsXs_bad hc)
      clear hc
      go_wp2_with fail
      go_ret2
      exact (by rw [HS.out]; have k := k9.out; have r := r9.out; rw [HX.out] at k r ⊢; exact ⟨A9, c9, D, cD, h8, rfl, k, r, I8.out, X8.out⟩)

set_option maxHeartbeats 8000000 in
set_option maxRecDepth 100000 in
theorem path_step (xs : List Inode) (gp bm : Nat) (C : Int → Option Value) (D : Option Addr) (cD : Nat) (B : Nat) (st : Wk) (name : ByteArray) (hsz : name.size ≤ 9223372036854775807) (follow : Bool) (hk1 : 1 ≤ st.kept.length) (hk2 : st.kept.length ≤ 1000000) (hl0 : 0 ≤ st.loops) (hl1 : st.loops ≤ 100) (h : FH) (w : World) (hs : Sits h w) (I : PkAt B h w gp bm D cD st) (FM : FMap encI h bm C) (HB : ByIs h xs C) :
    Calls Tryd.prog 66 #[.pointer (some ⟨gp, 0, none⟩), .string name, .bool follow] w fun e w' => RetPk B h w gp bm (stepW xs st name follow) e w' := by
  obtain ⟨v, hv⟩ : ∃ v, findI xs st.at_ = v := ⟨_, rfl⟩
  have HV := hid hv
  have KH := hid (path_here xs gp bm C D cD B st v hv h w hs I FM HB)
  have hhw := I.hw
  have II := hid I
  have FM := hid FM
  have HB := hid HB
  clear hv I
  go_enter Tryd.func66, Tryd.ntmps66
  go_upto_region 2 with (go_at_call 69; refine KH.out.mono ?_; rintro e w2 ⟨cs2, h2, rfl, r2, F2⟩; obtain ⟨A5, c5, A6, c6, rfl⟩ := r2.open; have E2 := hid F2; have r2 := hid r2; clear F2)
  obtain ⟨h3, E3, hb3, le3, hh3⟩ := E2.out.boxF #[.int .i64 (v.getD zeroI).no, .int .i64 (v.getD zeroI).kind, .int .i64 (v.getD zeroI).links, .int .i64 (v.getD zeroI).size, .string (v.getD zeroI).target, .slice A5 (v.getD zeroI).entries.length c5, .slice A6 (v.getD zeroI).runs.length c6] 51
  generalize w2.heap.size = g at *
  with_reducible generalize w2.alloc (.cells #[.int .i64 (v.getD zeroI).no, .int .i64 (v.getD zeroI).kind, .int .i64 (v.getD zeroI).links, .int .i64 (v.getD zeroI).size, .string (v.getD zeroI).target, .slice A5 (v.getD zeroI).entries.length c5, .slice A6 (v.getD zeroI).runs.length c6] 51) = w3 at E3 ⊢
  have R3 := hid (r2.out.mono le3)
  have I3 := hid (II.out.more E3)
  have X3 := hid (BExt.of E3 hhw)
  have FM3 := hid (FM.out.mono E3.le)
  have HB3 := hid (HB.out.mono E3.le)
  have E3 := hid E3
  clear hh3 E2
  cases v with
  | none =>
    have HS := hid (show stepW xs st name follow = (st, [], 11) from stepW_none HV.out)
    have hc : hereC none = 11 := rfl
    rw [hc]
    clear hc
    go_wp2_with fail
    go_ret2
    exact (by rw [HS.out]; exact ⟨none, 0, D, cD, h3, rfl, ⟨Nat.zero_le _, fun _ => rfl, by decide⟩, RowAt.nil _ _, I3.out, X3.out⟩)
  | some x =>
    dsimp only [Option.getD_some] at *
    by_cases hk : x.kind = 2
    · have hc : hereC (some x) = 0 := by unfold hereC; simp [hk]
      rw [hc]
      have HK := hid hk
      clear hk hc
      obtain ⟨q, hq⟩ : ∃ q, (name.toList == [46, 46]) = q := ⟨_, rfl⟩
      have HQ := hid hq
      cases q
      · obtain ⟨v1, hv1⟩ : ∃ v1, findE x.entries name = v1 := ⟨_, rfl⟩
        obtain ⟨v2, hv2⟩ : ∃ v2, findI xs (v1.getD 0) = v2 := ⟨_, rfl⟩
        obtain ⟨sz5, k5, row5, k6, row6⟩ := R3.out.ent
        have K2 := hid (fun (w' : World) (hs' : Sits h3 w') => entries_Find x.entries A5 c5 name hsz v1 hv1 h3 w' hs' row5)
        have HV1 := hid hv1
        have HV2 := hid hv2
        obtain ⟨cs5, hc1, hc2, hc3⟩ := HB3.out.get (v1.getD 0)
        rw [hv2] at hc2 hc3
        obtain ⟨A7, c7, A8, c8, rfl⟩ := hc3.open
        have HC3 := hid hc3
        have HLK := hid (show ∀ wx : World, Sits h3 wx → (Instr.lookup 95 (.map (some bm)) (.agg #[.int .i64 (v1.getD 0)]) true).run Tryd.prog wx = .ok (.tuple #[.agg #[.int .i64 (v2.getD zeroI).no, .int .i64 (v2.getD zeroI).kind, .int .i64 (v2.getD zeroI).links, .int .i64 (v2.getD zeroI).size, .string (v2.getD zeroI).target, .slice A7 (v2.getD zeroI).entries.length c7, .slice A8 (v2.getD zeroI).runs.length c8], .bool v2.isSome]) wx from fun wx hs' => by
          have q := (FM3.out wx hs').lookOk kt_path_key Tryd.underlying95 zero_inode (v1.getD 0)
          rw [hc1, hc2] at q
          exact q)
        have J0 := hid (fun (w' : World) (E : Ext h3 w3 h3 w') => box_cell (j := 0) (v := .map (some bm)) (I3.out.more E).box rfl)
        have m5 : w3.cell? ⟨g, 5, none⟩ = some (.slice A5 x.entries.length c5) := Sits_at E3.out.sits hb3 rfl
        clear hv1 hv2 row6 k6 k5 sz5 hc1 hc2 hc3
        go_upto_region 9 with (go_at_call 38; refine (K2.out _ E3.out.sits).mono ?_; rintro e w4 ⟨rfl, F4⟩; have n0 := J0.out _ F4; have hl4 := HLK.out w4 F4.sits; have F4 := hid F4; clear m5)
        obtain ⟨h6, F6, hb6, le6, hh6⟩ := (Ext.refl F4.out.sits).boxF #[.int .i64 (v2.getD zeroI).no, .int .i64 (v2.getD zeroI).kind, .int .i64 (v2.getD zeroI).links, .int .i64 (v2.getD zeroI).size, .string (v2.getD zeroI).target, .slice A7 (v2.getD zeroI).entries.length c7, .slice A8 (v2.getD zeroI).runs.length c8] 51
        have I6 := hid (I3.out.more (F4.out.trans F6))
        have X6 := hid (X3.out.trans (BExt.of (F4.out.trans F6) I3.out.hw))
        have R6 := hid (HC3.out.mono le6)
        generalize w4.heap.size = g6 at *
        with_reducible generalize w4.alloc (.cells #[.int .i64 (v2.getD zeroI).no, .int .i64 (v2.getD zeroI).kind, .int .i64 (v2.getD zeroI).links, .int .i64 (v2.getD zeroI).size, .string (v2.getD zeroI).target, .slice A7 (v2.getD zeroI).entries.length c7, .slice A8 (v2.getD zeroI).runs.length c8] 51) = w6 at F6 I6 X6 ⊢
        clear hh6 n0 hl4 le6
        cases v1 with
        | none =>
          have HS := hid (show stepW xs st name follow = (st, [], 11) from stepW_noE HV.out HK.out HQ.out HV1.out)
          dsimp only [Option.isSome_none, Option.getD_none] at *
          go_wp2_with fail
          go_ret2
          exact (by rw [HS.out]; exact ⟨none, 0, D, cD, h6, rfl, ⟨Nat.zero_le _, fun _ => rfl, by decide⟩, RowAt.nil _ _, I6.out, X6.out⟩)
        | some no =>
          dsimp only [Option.isSome_some, Option.getD_some] at *
          cases v2 with
          | none =>
            have HS := hid (show stepW xs st name follow = (st, [], 11) from stepW_noI HV.out HK.out HQ.out HV1.out HV2.out)
            dsimp only [Option.isSome_none, Option.getD_none] at *
            go_wp2_with fail
            go_ret2
            exact (by rw [HS.out]; exact ⟨none, 0, D, cD, h6, rfl, ⟨Nat.zero_le _, fun _ => rfl, by decide⟩, RowAt.nil _ _, I6.out, X6.out⟩)
          | some y =>
            dsimp only [Option.isSome_some, Option.getD_some] at *
            have HU2 := hid (stepW_some (follow := follow) HV.out HK.out HQ.out HV1.out HV2.out)
            have o1 : w6.cell? ⟨g6, 1, none⟩ = some (.int .i64 y.kind) := Sits_at F6.sits hb6 rfl
            have o4 : w6.cell? ⟨g6, 4, none⟩ = some (.string y.target) := Sits_at F6.sits hb6 rfl
            by_cases hlk : y.kind = 3 ∧ follow = true
            · obtain ⟨hk3, rfl⟩ := hlk
              have b3 : (y.kind == 3) = true := by simpa using hk3
              have KL := hid (path_link gp bm D cD B st y hk3 no R6.out.ent.1 hl0 hl1 h6 w6 F6.sits I6.out)
              clear hk3
              go_wp2_with (go_at_call 78; refine KL.out.mono ?_; rintro e w9 ⟨A9, c9, D9, cD9, h9, rfl, k9, r9, I9, X9⟩; have k9 := hid k9; have r9 := hid r9; have I9 := hid I9; have X9 := hid (X6.out.trans X9))
              go_ret2
              exact (by rw [HU2.out]; exact ⟨A9, c9, D9, cD9, h9, rfl, k9.out, r9.out, I9.out, X9.out⟩)
            · have HLKK := hid hlk
              obtain ⟨t3, ht3⟩ : ∃ t3, (y.kind == 3) = t3 := ⟨_, rfl⟩
              have hnb : (t3 && follow) = false := by
                rw [← ht3]
                cases follow
                · simp
                · simp at hlk; simp [hlk]
              have p3 := box_cell (j := 1) (v := .slice D st.kept.length cD) I6.out.box rfl
              have p4 := box_cell (j := 2) (v := .int .i64 st.at_) I6.out.box rfl
              have f3 := box_free (j := 1) I6.out.box
              have f4 := box_free (j := 2) I6.out.box
              have HB2 := hid (show (st.kept.length + 1) * 8 ≤ 140737488355328 by omega)
              clear hlk
              by_cases hk2 : y.kind = 2
              · have b2' : (y.kind == 2) = true := by simpa using hk2
                have b3 : (y.kind == 3) = false := by rw [hk2]; rfl
                have HS := hid (show stepW xs st name follow = (⟨st.kept ++ [no], no, st.loops⟩, [], 0) from HU2.out.trans (follW_dir hk2))
                have F6 := hid F6
                clear hk2 ht3 hnb
                go_wp2_with (at_builtin; refine wpList_append1At rfl _ _ 23 rfl B 3 8 ty_Int _ _ rfl (I6.out.own.alloc _) (F6.out.sits.alloc _) _ rfl _ no rfl (cells_of_box (heap_new _ _)) HB2.out (by decide) (Nat.le_trans I6.out.hw (by simp)) ?_; intro v8 w8 O8 hg8; have I7 := I6.out.more ((Ext.refl F6.out.sits).alloc (.cells #[.int .i64 no] 3)); have bx8 := hid (I7.grown hg8); have X8 := hid ((X6.out.trans (BExt.of ((Ext.refl F6.out.sits).alloc (.cells #[.int .i64 no] 3)) I6.out.hw)).row hg8 I7.hw (fun k hk => ⟨(I7.own.lt k hk).1, I7.own.free k hk⟩)); obtain ⟨A9, c9, hv9, _⟩ := O8.slice; subst hv9; have z3 := box_cell (j := 1) (v := .slice D st.kept.length cD) bx8.out rfl; have z4 := box_cell (j := 2) (v := .int .i64 st.at_) bx8.out rfl; have e3 := box_free (j := 1) bx8.out; have e4 := box_free (j := 2) bx8.out; have I8 := hid (PkAt.of bx8.out I7.free I7.hB (Nat.le_trans I7.hw hg8.size) O8); have N8 := hid I7.free; have G8 := hid I7.hB; clear hg8 I7 O8)
                have hlen : (st.kept ++ [no]).length = st.kept.length + 1 := by simp
                have I10 := I8.out.at_ no
                have X10 := (X8.out.set G8.out N8.out (i := 1) (.slice A9 (st.kept ++ [no]).length c9)).set G8.out N8.out (i := 2) (.int .i64 no)
                rw [hlen] at I10 X10
                have I10 := hid I10
                have X10 := hid X10
                go_ret2
                exact (by rw [HS.out]; exact ⟨none, 0, A9, c9, h6, rfl, ⟨Nat.zero_le _, fun _ => rfl, by decide⟩, RowAt.nil _ _, I10.out, X10.out⟩)
              · have b2' : (y.kind == 2) = false := by simpa using hk2
                have HS := hid (show stepW xs st name follow = (⟨st.kept, no, st.loops⟩, [], 0) from HU2.out.trans (follW_plain HLKK.out hk2))
                have I10 := hid (I6.out.at_ no)
                have X10 := hid (X6.out.set I6.out.hB I6.out.free (i := 2) (.int .i64 no))
                clear hk2
                cases t3
                · clear hnb
                  go_wp2_with fail
                  go_ret2
                  exact (by rw [HS.out]; exact ⟨none, 0, D, cD, h6, rfl, ⟨Nat.zero_le _, fun _ => rfl, by decide⟩, RowAt.nil _ _, I10.out, X10.out⟩)
                · have hnb : follow = false := hnb
                  subst hnb
                  go_wp2_with fail
                  go_ret2
                  exact (by rw [HS.out]; exact ⟨none, 0, D, cD, h6, rfl, ⟨Nat.zero_le _, fun _ => rfl, by decide⟩, RowAt.nil _ _, I10.out, X10.out⟩)
      · have HS := hid (show stepW xs st name follow = (⟨backK st.kept, (backK st.kept).getLast?.getD 0, st.loops⟩, [], 0) from stepW_up HV.out HK.out HQ.out)
        have KB := hid (path_back gp bm D cD B st hk1 hk2 h3 w3 E3.out.sits I3.out)
        go_wp2_with (go_at_call 77; refine KB.out.mono ?_; rintro e w5 ⟨D5, c5', rfl, I5, X5⟩; have I5 := hid I5; have X5 := hid (X3.out.trans X5))
        go_ret2
        exact (by rw [HS.out]; exact ⟨none, 0, D5, c5', h3, rfl, ⟨Nat.zero_le _, fun _ => rfl, by decide⟩, RowAt.nil _ _, I5.out, X5.out⟩)
    · have hc : hereC (some x) = 13 := by unfold hereC; simp [hk]
      rw [hc]
      have HS := hid (show stepW xs st name follow = (st, [], 13) from stepW_file HV.out hk)
      clear hk hc
      go_wp2_with fail
      go_ret2
      exact (by rw [HS.out]; exact ⟨none, 0, D, cD, h3, rfl, ⟨Nat.zero_le _, fun _ => rfl, by decide⟩, RowAt.nil _ _, I3.out, X3.out⟩)

end Go.Proofs.YtdiaibkpcnknbaaDoor

namespace Go.Proofs.YtdiaibkpcnknbaaDoor
open Go.RowKit Go.Sort
set_option linter.unusedVariables false
/-! ### slices.Concat of two rows of strings -/
theorem OwnL.fresh0 {α : Type} [Enc α] {h : FH} {w : World} (hs : Sits h w) {T : TypeId} {cs : Array Value} {cap : Nat} (hc : cs.size = cap * Enc.sz α) (hm : cap ≤ maxLen) : OwnL h (w.alloc (.cells cs T)) w.heap.size T (.slice (some ⟨w.heap.size, 0, none⟩) 0 cap) ([] : List α) := by
  refine ⟨⟨[], ⟨by simp, .inr ⟨w.heap.size, cap, cs, rfl, Nat.le_refl _, heap_new _ _, Nat.zero_le _, hm, hc, by simp⟩⟩, rfl⟩, fun g hg => ?_⟩
  have : g = w.heap.size := by simpa [Value.ownBlock] using hg.symm
  rw [this]; exact hs.none (Nat.le_refl _)
set_option maxHeartbeats 4000000 in
set_option maxRecDepth 100000 in
theorem slices_Grow (n : Nat) (hn : n ≤ 1000000) (h : FH) (w : World) (hs : Sits h w) :
    Calls Tryd.prog 79 #[.slice none 0 0, .int .i64 n] w fun e w' => RetOwn h w 9 ([] : List ByteArray) e w' := by
  have E0 := Ext.refl hs
  by_cases h0 : n = 0
  · subst h0
    go_enter Tryd.func79, Tryd.ntmps79
    go_wp2_with fail
    go_ret
    exact ⟨_, rfl, OwnL.nil _ _ _ _, E0⟩
  · have hn0 : (0 : Int) < (n : Int) := by omega
    obtain ⟨i, z, hi, hz0, hz1, hz2, hz3⟩ := ty_Str.info
    have hr := Go.Lib.run_append_nil_zeros (P := Tryd.prog) w 79 3 79 9 i z .i64 .i64 ty_Str.und Tryd.underlying3 hi hz0 n (by omega) (by rw [hz1]; exact Enc.pos (α := ByteArray)) (by omega) (by rw [hz2]; omega)
    have hcap := grownCap_ge w n 0 9
    have O := OwnL.fresh0 (α := ByteArray) (h := h) (w := w.drew) hs (T := 9) (cs := Builtin.zeroCells z.cells n ++ Builtin.zeroCells z.cells (grownCap w n 0 9 - n)) (cap := grownCap w n 0 9) (by
      simp only [Array.size_append, size_zeroCells, hz3, ← Nat.add_mul]
      congr 1
      omega) (grownCap_le_maxLen w n 0 9 (by unfold maxLen; omega))
    have E1 := (Ext.refl hs).drew.alloc (.cells (Builtin.zeroCells z.cells n ++ Builtin.zeroCells z.cells (grownCap w n 0 9 - n)) 9)
    have hc0 : ¬ grownCap w n 0 9 = 0 := by omega
    obtain ⟨cc, hcc⟩ : ∃ cc, grownCap w n 0 9 = cc := ⟨_, rfl⟩
    rw [hcc] at hr hcap O E1 hc0
    obtain ⟨W2, hW2⟩ : ∃ W2, w.drew.alloc (.cells (Builtin.zeroCells z.cells n ++ Builtin.zeroCells z.cells (cc - n)) 9) = W2 := ⟨_, rfl⟩
    rw [hW2] at hr O E1
    have O := hid (show OwnL h W2 w.heap.size 9 (.slice (some ⟨w.heap.size, 0, none⟩) 0 cc) ([] : List ByteArray) from O)
    have E1 := hid E1
    have hr := hid hr
    clear hW2 hcc hi hz0 hz1 hz2 hz3 E0
    go_enter Tryd.func79, Tryd.ntmps79
    go_wp2_with (at_builtin; refine Go.Lib.wpList_append_run w rfl _ _ 79 3 rfl (.slice none 0 0) (.int .i64 n) rfl rfl _ W2 hr.out ?_)
    go_ret
    exact ⟨_, rfl, O.out, E1.out⟩
def catK (a b : List ByteArray) : Nat → List ByteArray
  | 0 => []
  | 1 => a
  | _ => a ++ b
def sumK (a b : List ByteArray) (k : Nat) : Int := (catK a b k).length
set_option maxHeartbeats 8000000 in
set_option maxRecDepth 100000 in
theorem slices_Concat (a b : List ByteArray) (A : Option Addr) (ca : Nat) (A' : Option Addr) (cb : Nat) (g : Nat) (h : FH) (hg : h g = some (.cells #[.slice A a.length ca, .slice A' b.length cb] 79 (0, 0))) (hla : a.length ≤ 100000) (hlb : b.length ≤ 100000) (w : World) (hs : Sits h w) (ra : RowAt h A a) (rb : RowAt h A' b) :
    Calls Tryd.prog 67 #[.slice (some ⟨g, 0, none⟩) 2 2] w fun e w' => RetOwn h w 9 (a ++ b) e w' := by
  have c0 : w.cell? ⟨g, 0, none⟩ = some (.slice A a.length ca) := Sits_at hs hg rfl
  have c1 : w.cell? ⟨g, 1, none⟩ = some (.slice A' b.length cb) := Sits_at hs hg rfl
  have hi0 : (0 : Int) ≤ (a.length : Int) := by omega
  have hi1 : (0 : Int) ≤ (b.length : Int) := by omega
  have hi2 : (a.length : Int) ≤ 100000 := by omega
  have hi3 : (b.length : Int) ≤ 100000 := by omega
  go_enter Tryd.func67, Tryd.ntmps67
  go_wp2_with fail
  go_loopw [3, 11] (fun s3 i wr => ∃ k : Nat, k ≤ 2 ∧ i = .int .i64 k ∧ s3 = .int .i64 (sumK a b k) ∧ wr = w) (fun _ i _ => 2 - (intOf i).toNat)
  case atStart => exact ⟨0, Nat.zero_le _, rfl, rfl, rfl⟩
  case round =>
    obtain ⟨k, hk, rfl, rfl, rfl⟩ := hrel
    obtain rfl | rfl | rfl : k = 0 ∨ k = 1 ∨ k = 2 := by omega
    · rw [show sumK a b 0 = 0 from rfl]
      go_wp2_with fail
      go_roundw
      case rel => exact ⟨1, by omega, rfl, rfl, trivial⟩
      case measure => simp [intOf]
    · rw [show sumK a b 1 = a.length from rfl]
      go_wp2_with fail
      go_roundw
      case rel => exact ⟨2, by omega, rfl, by unfold sumK catK; simp, trivial⟩
      case measure => simp [intOf]
    · rw [show sumK a b 2 = ((a.length + b.length : Nat) : Int) from by unfold sumK catK; simp]
      have KG := hid (slices_Grow (a.length + b.length) (by omega) h wr hs)
      go_wp2_with (go_at_call 79; refine KG.out.mono ?_; rintro e w2 ⟨v2, rfl, O2, E2⟩; have O2 := hid O2; have E2 := hid E2)
      have HB1 := hid (show (([] : List ByteArray).length + a.length) * 16 ≤ 140737488355328 by simp; omega)
      have HB2 := hid (show (a.length + b.length) * 16 ≤ 140737488355328 by omega)
      clear c0 c1
      obtain ⟨W0, hW0⟩ : ∃ W0, W0 = wr := ⟨_, rfl⟩
      have HW0 := hid hW0
      rw [← hW0] at O2 E2
      clear hW0
      go_loopw [6, 27] (fun s6 i wx => ∃ k : Nat, k ≤ 2 ∧ i = .int .i64 k ∧ Hid (OwnL h wx W0.heap.size 9 s6 (catK a b k)) ∧ Hid (Ext h W0 h wx)) (fun _ i _ => 2 - (intOf i).toNat)
      case atStart => exact ⟨0, Nat.zero_le _, rfl, O2, E2⟩
      case round =>
        obtain ⟨k, hk, rfl, O, E⟩ := hrel
        have c0 : wr.cell? ⟨g, 0, none⟩ = some (.slice A a.length ca) := Sits_at E.out.sits hg rfl
        have c1 : wr.cell? ⟨g, 1, none⟩ = some (.slice A' b.length cb) := Sits_at E.out.sits hg rfl
        obtain rfl | rfl | rfl : k = 0 ∨ k = 1 ∨ k = 2 := by omega
        · go_wp2_with (at_builtin; refine wpList_appendR rfl _ _ 79 rfl W0.heap.size 9 16 ty_Str _ ([] : List ByteArray) a rfl O.out E.out.sits _ _ _ rfl rfl ra HB1.out (by decide) E.out.size ?_; intro v5 w5 O5 hg5 _; have E5 := hid (E.out.grown hg5 (fun k hk => ⟨(O.out.lt k hk).1, O.out.free k hk⟩)); have O5 := hid O5; clear hg5)
          go_roundw
          case rel => exact ⟨1, by omega, rfl, O5, E5⟩
          case measure => simp [intOf]
        · go_wp2_with (at_builtin; refine wpList_appendR rfl _ _ 79 rfl W0.heap.size 9 16 ty_Str _ a b rfl O.out E.out.sits _ _ _ rfl rfl rb HB2.out (by decide) E.out.size ?_; intro v5 w5 O5 hg5 _; have E5 := hid (E.out.grown hg5 (fun k hk => ⟨(O.out.lt k hk).1, O.out.free k hk⟩)); have O5 := hid O5; clear hg5)
          go_roundw
          case rel => exact ⟨2, by omega, rfl, O5, E5⟩
          case measure => simp [intOf]
        · go_wp2_with fail
          go_ret
          exact ⟨_, rfl, by rw [← HW0.out]; exact O.out, by rw [← HW0.out]; exact E.out⟩
end Go.Proofs.YtdiaibkpcnknbaaDoor
