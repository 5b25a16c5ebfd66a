import Derived.Test.YtkglaofiencfdaaWkAll
import Derived.Test.YtkglaofiencfdaaCore
import Derived.Test.YtkglaofiencfdaaEntOps
import Derived.Lib.AppendZeros
namespace Go.Proofs.Ytkglaofiencfdaa
open Go.RowKit Go.Sort
set_option linter.unusedVariables false
/-! ### package path: the walk, and the inodes by their numbers -/
theorem zero_inode (w : World) : (zeroValue 37).run Try.prog w = .ok (.agg #[.int .i64 0, .int .i64 0, .int .i64 0, .int .i64 0, .string ⟨#[]⟩, .slice none 0 0, .slice none 0 0]) w := by kernel_rfl
/-- What a call may have done to what the caller made from B on. -/
structure BExt (B : Nat) (h : FH) (w : World) (h' : FH) (w' : World) : Prop where
  le : FLe h h'
  sits : Sits h' w'
  below : Below B w w'
  size : w.heap.size ≤ w'.heap.size
  fresh : ∀ b, h' b ≠ none → h b ≠ none ∨ w.heap.size ≤ b
theorem BExt.of {B : Nat} {h h' : FH} {w w' : World} (E : Ext h w h' w') (hB : B ≤ w.heap.size) : BExt B h w h' w' := ⟨E.le, E.sits, E.below.mono hB, E.size, E.fresh⟩
theorem BExt.refl {B : Nat} {h : FH} {w : World} (hs : Sits h w) : BExt B h w h w := ⟨FLe.refl _, hs, Below.refl _ _, Nat.le_refl _, fun _ x => .inl x⟩
theorem BExt.trans {B : Nat} {h h1 h2 : FH} {w w1 w2 : World} (a : BExt B h w h1 w1) (b : BExt B h1 w1 h2 w2) : BExt B h w h2 w2 :=
  ⟨a.le.trans b.le, b.sits, a.below.trans b.below, Nat.le_trans a.size b.size, fun k hk => by
    rcases b.fresh k hk with h3 | h3
    · exact a.fresh k h3
    · exact .inr (Nat.le_trans a.size h3)⟩
theorem BExt.lift {B : Nat} {h0 h h1 : FH} {w0 w w1 : World} (E : Ext h0 w0 h w) (a : BExt B h w h1 w1) (hB : w0.heap.size ≤ B) : Ext h0 w0 h1 w1 :=
  ⟨E.le.trans a.le, a.sits, E.below.trans (a.below.mono hB), fun b hb => by
    rcases a.fresh b hb with h2 | h2
    · exact E.fresh b h2
    · exact .inr (Nat.le_trans E.size h2)⟩
theorem BExt.drew {B : Nat} {h h1 : FH} {w w1 : World} (a : BExt B h w h1 w1) : BExt B h w h1 w1.drew := ⟨a.le, a.sits, a.below.drew, a.size, a.fresh⟩
theorem BExt.set {B : Nat} {h h1 : FH} {w w1 : World} (a : BExt B h w h1 w1) {g i : Nat} (hg : B ≤ g) (hn : h1 g = none) (v : Value) : BExt B h w h1 (w1.setCell ⟨g, i, none⟩ v) :=
  ⟨a.le, fun b o hb => by
    by_cases e : b = g
    · subst e; rw [hn] at hb; cases hb
    · rw [Below.heap_setCell _ _ _ _ e]; exact a.sits b o hb, a.below.setCell hg v, by simpa [World.setCell] using a.size, a.fresh⟩
theorem BExt.row {B : Nat} {h h1 : FH} {w w1 w2 : World} (a : BExt B h w h1 w1) {row : Option Nat} (G : w1.grownBy w2 row) (hB : B ≤ w1.heap.size) (hr : ∀ k, row = some k → B ≤ k ∧ h1 k = none) : BExt B h w h1 w2 :=
  ⟨a.le, fun b o hb => by
    rw [G.block b (a.sits.lt (by rw [hb]; simp)) (fun e => by have := (hr b e.symm).2; rw [hb] at this; cases this)]; exact a.sits b o hb,
   a.below.grown G hB (fun k hk => (hr k hk).1), Nat.le_trans a.size G.size, a.fresh⟩
theorem BExt.none {B : Nat} {h h' : FH} {w w' : World} (E : BExt B h w h' w') {g : Nat} (hn : h g = Option.none) (hg : g < w.heap.size) : h' g = Option.none := by
  cases e : h' g with
  | none => rfl
  | some o =>
    rcases E.fresh g (by rw [e]; simp) with h2 | h2
    · exact absurd hn h2
    · omega
theorem InBox.drewB {h h0 : FH} {w wx : World} {x : Inode} {p : Value} (I : InBox h w h0 x p wx) : InBox h w h0 x p wx.drew := by
  obtain ⟨g, h3, A5, c5, A6, c6, e, E, l, hb, r, hg⟩ := I
  exact ⟨g, h3, A5, c5, A6, c6, e, E.drew, l, hb, r, hg⟩
/-- What the map of the inodes holds. -/
def ByIs (h : FH) (xs : List Inode) (C : Int → Option Value) : Prop := ∀ no, (findI xs no = none → C no = none) ∧ ∀ x, findI xs no = some x → ∃ cs : List Value, C no = some (.agg cs.toArray) ∧ repInode h cs x
theorem ByIs.mono {h h' : FH} {xs : List Inode} {C : Int → Option Value} (b : ByIs h xs C) (l : FLe h h') : ByIs h' xs C := fun no => ⟨(b no).1, fun x hx => by
  obtain ⟨cs, h1, h2⟩ := (b no).2 x hx
  exact ⟨cs, h1, h2.mono l⟩⟩
theorem ByIs.nil (h : FH) : ByIs h [] (fun _ => none) := fun no => ⟨fun _ => rfl, fun x hx => by cases hx⟩
theorem ByIs.cons {h : FH} {xs : List Inode} {C : Int → Option Value} (b : ByIs h xs C) {x : Inode} {cs : List Value} (r : repInode h cs x) : ByIs h (x :: xs) (fun a => if a = x.no then some (.agg cs.toArray) else C a) := fun no => by
  unfold findI
  by_cases e : no = x.no
  · have hi : isI no x = true := by unfold isI; simp [e]
    rw [List.find?_cons_of_pos hi]
    refine ⟨fun h => by (cases h), fun y hy => ?_⟩
    cases hy
    exact ⟨cs, by simp only [if_pos e], r⟩
  · have hi : ¬ isI no x = true := by unfold isI; simp; exact fun h => e h.symm
    rw [List.find?_cons_of_neg hi]
    simp only [if_neg e]
    exact b no
theorem OwnL.mk1 {α : Type} [Enc α] {h : FH} {w : World} (hs : Sits h w) {cs : List Value} {x : α} (T : TypeId) (r : Enc.rep h cs x) : OwnL h (w.alloc (.cells cs.toArray T)) w.heap.size T (.slice (some ⟨w.heap.size, 0, none⟩) 1 1) [x] := by
  have hl := Enc.len r
  refine ⟨⟨cs, ⟨by simp [hl], .inr ⟨w.heap.size, 1, cs.toArray, rfl, Nat.le_refl _, heap_new _ _, Nat.le_refl _, by unfold maxLen; omega, by simp [hl], by simp; exact List.take_of_length_le (by omega)⟩⟩, Reps.single r⟩, fun g hg => ?_⟩
  have : g = w.heap.size := by simpa [Value.ownBlock] using hg.symm
  rw [this]; exact hs.none (Nat.le_refl _)
theorem OwnL.neBox {α : Type} [Enc α] {h : FH} {w : World} {base : Nat} {T T' : TypeId} {v : Value} {xs : List α} (O : OwnL h w base T v xs) {g : Nat} {cs : Array Value} (hb : w.heap[g]? = some (.cells cs T' (0, 0))) (hT : T ≠ T') : v.ownBlock ≠ some g := by
  obtain ⟨c1, w1, _⟩ := O.own
  rcases w1.2 with ⟨rfl, _⟩ | ⟨g2, cap, cur, rfl, _, hg, _⟩
  · simp [Value.ownBlock]
  · intro e
    have e : g2 = g := by simpa [Value.ownBlock] using e
    subst e
    rw [hg] at hb
    simp only [Option.some.injEq, Obj.cells.injEq] at hb
    exact hT hb.2.1
/-- Fewer of them. -/
theorem OwnL.takeO {α : Type} [Enc α] {h : FH} {w : World} {base : Nat} {T : TypeId} {A : Option Addr} {n c : Nat} {xs : List α} (O : OwnL h w base T (.slice A n c) xs) (k : Nat) (hk : k ≤ xs.length) (hA : A ≠ none) : OwnL h w base T (.slice A k c) (xs.take k) := by
  obtain ⟨cells, hw, r⟩ := O.own
  have hl : (xs.take k).length = k := by rw [List.length_take]; omega
  refine ⟨⟨cells.take (k * Enc.sz α), ⟨?_, ?_⟩, r.take k⟩, fun g hg => O.free g (by cases A <;> exact hg)⟩
  · rw [List.length_take, r.length, hl, Nat.min_eq_left (Nat.mul_le_mul_right _ hk)]
  · rcases hw.2 with ⟨he, hn⟩ | ⟨g, cap, cur, he, hb, hg, hc, hm, hcs, htake⟩
    · simp only [Value.slice.injEq] at he; exact absurd he.1 hA
    · simp only [Value.slice.injEq] at he
      obtain ⟨rfl, rfl, rfl⟩ := he
      refine .inr ⟨g, c, cur, by rw [hl], hb, hg, by rw [hl]; omega, hm, hcs, ?_⟩
      rw [hl, ← htake, List.take_take, Nat.min_eq_left (Nat.mul_le_mul_right _ hk)]
end Go.Proofs.Ytkglaofiencfdaa

namespace Go.Proofs.Ytkglaofiencfdaa
open Go.RowKit Go.Sort
set_option linter.unusedVariables false
/-- The number's inode, and why it may not be gone on from. -/
def hereC (v : Option Inode) : Int := match v with
  | none => 11
  | some x => if x.kind = 2 then 0 else 13
def RetHere (h : FH) (w : World) (v : Option Inode) (e : Ending) (w' : World) : Prop := ∃ cs h1, e = .returned (.tuple #[.agg cs.toArray, .int .i64 (hereC v)]) ∧ repInode h1 cs (v.getD zeroI) ∧ Ext h w h1 w'
theorem ByIs.get {h : FH} {xs : List Inode} {C : Int → Option Value} (b : ByIs h xs C) (no : Int) : ∃ cs : List Value, (C no).getD (.agg #[.int .i64 0, .int .i64 0, .int .i64 0, .int .i64 0, .string ⟨#[]⟩, .slice none 0 0, .slice none 0 0]) = .agg cs.toArray ∧ (C no).isSome = (findI xs no).isSome ∧ repInode h cs ((findI xs no).getD zeroI) := by
  cases e : findI xs no with
  | none => exact ⟨_, by rw [(b no).1 e]; rfl, by rw [(b no).1 e]; rfl, zeroI_rep h⟩
  | some x =>
    obtain ⟨cs, h1, h2⟩ := (b no).2 x e
    exact ⟨cs, by rw [h1]; rfl, by rw [h1]; rfl, h2⟩
end Go.Proofs.Ytkglaofiencfdaa

namespace Go.Proofs.Ytkglaofiencfdaa
open Go.RowKit Go.Sort
set_option linter.unusedVariables false
theorem partsXs_bad {s : ByteArray} (h : partsCode s ≠ 0) : partsXs s = [] := by
  unfold partsCode at h
  unfold partsXs
  cases e : partsP s with
  | none => rfl
  | some ks => rw [e] at h; simp at h
end Go.Proofs.Ytkglaofiencfdaa

namespace Go.Proofs.Ytkglaofiencfdaa
open Go.RowKit Go.Sort
set_option linter.unusedVariables false
/-! ### slices.Concat of two rows of strings -/
theorem OwnL.fresh0 {α : Type} [Enc α] {h : FH} {w : World} (hs : Sits h w) {T : TypeId} {cs : Array Value} {cap : Nat} (hc : cs.size = cap * Enc.sz α) (hm : cap ≤ maxLen) : OwnL h (w.alloc (.cells cs T)) w.heap.size T (.slice (some ⟨w.heap.size, 0, none⟩) 0 cap) ([] : List α) := by
  refine ⟨⟨[], ⟨by simp, .inr ⟨w.heap.size, cap, cs, rfl, Nat.le_refl _, heap_new _ _, Nat.zero_le _, hm, hc, by simp⟩⟩, rfl⟩, fun g hg => ?_⟩
  have : g = w.heap.size := by simpa [Value.ownBlock] using hg.symm
  rw [this]; exact hs.none (Nat.le_refl _)
def catK (a b : List ByteArray) : Nat → List ByteArray
  | 0 => []
  | 1 => a
  | _ => a ++ b
def sumK (a b : List ByteArray) (k : Nat) : Int := (catK a b k).length
end Go.Proofs.Ytkglaofiencfdaa
