import Derived.Test.YtcnbnehammbncaaDoorRApp
import Derived.Test.YtcnbnehammbncaaDoorRefParts
namespace Go.Proofs.YtcnbnehammbncaaDoor
open Go.RowKit Go.Sort
set_option linter.unusedVariables false
/-! ### where a way leads -/
structure Wk where
  kept : List Int
  at_ : Int
  loops : Int
def backK (k : List Int) : List Int := if 1 < k.length then k.dropLast else k
/-- An inode that a name leads to. -/
def follW (st : Wk) (y : Inode) (no : Int) (follow : Bool) : Wk × List ByteArray × Int :=
  if y.kind = 3 ∧ follow = true then
    if 8 ≤ st.loops then (st, [], 16)
    else if partsCode y.target ≠ 0 then (⟨st.kept, st.at_, st.loops + 1⟩, [], partsCode y.target)
    else (if partsTop y.target = true then ⟨[1], 1, st.loops + 1⟩ else ⟨st.kept, st.at_, st.loops + 1⟩, partsXs y.target, 0)
  else (⟨if y.kind = 2 then st.kept ++ [no] else st.kept, no, st.loops⟩, [], 0)
/-- A name: where one stands then, what comes ahead, and why not. -/
def stepW (xs : List Inode) (st : Wk) (name : ByteArray) (follow : Bool) : Wk × List ByteArray × Int :=
  match findI xs st.at_ with
  | none => (st, [], 11)
  | some x =>
    if x.kind = 2 then
      if (name.toList == [46, 46]) = true then (⟨backK st.kept, (backK st.kept).getLast?.getD 0, st.loops⟩, [], 0)
      else match findE x.entries name with
        | none => (st, [], 11)
        | some no => match findI xs no with
          | none => (st, [], 11)
          | some y => follW st y no follow
    else (st, [], 13)
theorem stepW_none {xs : List Inode} {st : Wk} {name : ByteArray} {follow : Bool} (h : findI xs st.at_ = none) : stepW xs st name follow = (st, [], 11) := by unfold stepW; rw [h]
theorem stepW_file {xs : List Inode} {st : Wk} {name : ByteArray} {follow : Bool} {x : Inode} (h : findI xs st.at_ = some x) (hk : ¬ x.kind = 2) : stepW xs st name follow = (st, [], 13) := by unfold stepW; rw [h]; simp [hk]
theorem stepW_up {xs : List Inode} {st : Wk} {name : ByteArray} {follow : Bool} {x : Inode} (h : findI xs st.at_ = some x) (hk : x.kind = 2) (hq : (name.toList == [46, 46]) = true) : stepW xs st name follow = (⟨backK st.kept, (backK st.kept).getLast?.getD 0, st.loops⟩, [], 0) := by unfold stepW; rw [h]; simp only [hk, hq, if_true]
theorem stepW_noE {xs : List Inode} {st : Wk} {name : ByteArray} {follow : Bool} {x : Inode} (h : findI xs st.at_ = some x) (hk : x.kind = 2) (hq : (name.toList == [46, 46]) = false) (he : findE x.entries name = none) : stepW xs st name follow = (st, [], 11) := by unfold stepW; rw [h]; simp [hk, hq, he]
theorem stepW_noI {xs : List Inode} {st : Wk} {name : ByteArray} {follow : Bool} {x : Inode} (h : findI xs st.at_ = some x) (hk : x.kind = 2) (hq : (name.toList == [46, 46]) = false) {no : Int} (he : findE x.entries name = some no) (hi : findI xs no = none) : stepW xs st name follow = (st, [], 11) := by unfold stepW; rw [h]; simp [hk, hq, he, hi]
theorem stepW_some {xs : List Inode} {st : Wk} {name : ByteArray} {follow : Bool} {x y : Inode} (h : findI xs st.at_ = some x) (hk : x.kind = 2) (hq : (name.toList == [46, 46]) = false) {no : Int} (he : findE x.entries name = some no) (hi : findI xs no = some y) : stepW xs st name follow = follW st y no follow := by unfold stepW; rw [h]; simp [hk, hq, he, hi]
theorem follW_loop {st : Wk} {y : Inode} {no : Int} (hk : y.kind = 3) (h8 : 8 ≤ st.loops) : follW st y no true = (st, [], 16) := by unfold follW; rw [if_pos ⟨hk, rfl⟩, if_pos h8]
theorem follW_bad {st : Wk} {y : Inode} {no : Int} (hk : y.kind = 3) (h8 : ¬ 8 ≤ st.loops) (hc : partsCode y.target ≠ 0) : follW st y no true = (⟨st.kept, st.at_, st.loops + 1⟩, [], partsCode y.target) := by unfold follW; rw [if_pos ⟨hk, rfl⟩, if_neg h8, if_pos hc]
theorem follW_top {st : Wk} {y : Inode} {no : Int} (hk : y.kind = 3) (h8 : ¬ 8 ≤ st.loops) (hc : partsCode y.target = 0) (ht : partsTop y.target = true) : follW st y no true = (⟨[1], 1, st.loops + 1⟩, partsXs y.target, 0) := by unfold follW; rw [if_pos ⟨hk, rfl⟩, if_neg h8, if_neg (by simp [hc]), if_pos ht]
theorem follW_from {st : Wk} {y : Inode} {no : Int} (hk : y.kind = 3) (h8 : ¬ 8 ≤ st.loops) (hc : partsCode y.target = 0) (ht : partsTop y.target = false) : follW st y no true = (⟨st.kept, st.at_, st.loops + 1⟩, partsXs y.target, 0) := by unfold follW; rw [if_pos ⟨hk, rfl⟩, if_neg h8, if_neg (by simp [hc]), if_neg (by simp [ht])]
theorem follW_dir {st : Wk} {y : Inode} {no : Int} {follow : Bool} (hk : y.kind = 2) : follW st y no follow = (⟨st.kept ++ [no], no, st.loops⟩, [], 0) := by unfold follW; rw [if_neg (by rw [hk]; simp), if_pos hk]
theorem follW_plain {st : Wk} {y : Inode} {no : Int} {follow : Bool} (hn : ¬ (y.kind = 3 ∧ follow = true)) (hk : ¬ y.kind = 2) : follW st y no follow = (⟨st.kept, no, st.loops⟩, [], 0) := by unfold follW; rw [if_neg hn, if_neg hk]
theorem backK_len (k : List Int) (h : 1 ≤ k.length) : 1 ≤ (backK k).length ∧ (backK k).length ≤ k.length := by
  unfold backK; split
  · rw [List.length_dropLast]; omega
  · omega
/-! ### an inode in a box that stays -/
def InBox (h : FH) (w : World) (h0 : FH) (x : Inode) (p : Value) (wx : World) : Prop := ∃ (g : Nat) (h3 : FH) (A5 : Option Addr) (c5 : Nat) (A6 : Option Addr) (c6 : Nat), p = .pointer (some ⟨g, 0, none⟩) ∧ Ext h w h3 wx ∧ FLe h0 h3 ∧ h3 g = some (.cells #[.int .i64 x.no, .int .i64 x.kind, .int .i64 x.links, .int .i64 x.size, .string x.target, .slice A5 x.entries.length c5, .slice A6 x.runs.length c6] 50 (0, 0)) ∧ repInode h3 [.int .i64 x.no, .int .i64 x.kind, .int .i64 x.links, .int .i64 x.size, .string x.target, .slice A5 x.entries.length c5, .slice A6 x.runs.length c6] x ∧ w.heap.size ≤ g
theorem InBox.last {h h0 h2 : FH} {w w2 : World} {x : Inode} {A5 A6 : Option Addr} {c5 c6 : Nat} (E : Ext h w h2 w2) (l : FLe h0 h2) (r : repInode h2 [.int .i64 x.no, .int .i64 x.kind, .int .i64 x.links, .int .i64 x.size, .string x.target, .slice A5 x.entries.length c5, .slice A6 x.runs.length c6] x) : InBox h w h0 x (.pointer (some ⟨w2.heap.size, 0, none⟩)) (w2.alloc (.cells #[.int .i64 x.no, .int .i64 x.kind, .int .i64 x.links, .int .i64 x.size, .string x.target, .slice A5 x.entries.length c5, .slice A6 x.runs.length c6] 50)) := by
  obtain ⟨h3, E3, hb, le, _⟩ := E.boxF #[.int .i64 x.no, .int .i64 x.kind, .int .i64 x.links, .int .i64 x.size, .string x.target, .slice A5 x.entries.length c5, .slice A6 x.runs.length c6] 50
  exact ⟨_, h3, A5, c5, A6, c6, rfl, E3, l.trans le, hb, r.mono le, E.size⟩
theorem InBox.set {h h0 h2 : FH} {w w2 : World} {x : Inode} {A5 A6 : Option Addr} {c5 c6 : Nat} {g : Nat} {cs : Array Value} (E : Ext h w h2 w2) (l : FLe h0 h2) (r : repInode h2 [.int .i64 x.no, .int .i64 x.kind, .int .i64 x.links, .int .i64 x.size, .string x.target, .slice A5 x.entries.length c5, .slice A6 x.runs.length c6] x) (hb : w2.heap[g]? = some (.cells cs 50 (0, 0))) (hc : cs.size = 7) (hn : h2 g = none) (hg : w.heap.size ≤ g) : InBox h w h0 x (.pointer (some ⟨g, 0, none⟩)) (((((((w2.setCell ⟨g, 0, none⟩ (.int .i64 x.no)).setCell ⟨g, 1, none⟩ (.int .i64 x.kind)).setCell ⟨g, 2, none⟩ (.int .i64 x.links)).setCell ⟨g, 3, none⟩ (.int .i64 x.size)).setCell ⟨g, 4, none⟩ (.string x.target)).setCell ⟨g, 5, none⟩ (.slice A5 x.entries.length c5)).setCell ⟨g, 6, none⟩ (.slice A6 x.runs.length c6)) := by
  have E7 := Ext.setCells (g := g) hg hn [.int .i64 x.no, .int .i64 x.kind, .int .i64 x.links, .int .i64 x.size, .string x.target, .slice A5 x.entries.length c5, .slice A6 x.runs.length c6] 0 _ E
  have R7 := setCells_row [.int .i64 x.no, .int .i64 x.kind, .int .i64 x.links, .int .i64 x.size, .string x.target, .slice A5 x.entries.length c5, .slice A6 x.runs.length c6] hb (by simp [hc])
  exact ⟨g, _, A5, c5, A6, c6, rfl, E7.add R7 hn hg, l.trans (FLe.add hn _), FH.add_same _ _ _, r.mono (FLe.add hn _), hg⟩
/-- What a struct lies in. -/
theorem repInode.open {h : FH} {cs : List Value} {x : Inode} (r : repInode h cs x) : ∃ A5 c5 A6 c6, cs = [.int .i64 x.no, .int .i64 x.kind, .int .i64 x.links, .int .i64 x.size, .string x.target, .slice A5 x.entries.length c5, .slice A6 x.runs.length c6] := by
  obtain ⟨A5, c5, A6, c6, e, _⟩ := r; exact ⟨A5, c5, A6, c6, e⟩
theorem repInode.ent {h : FH} {x : Inode} {a b c d e : Value} {A5 A6 : Option Addr} {n5 c5 n6 c6 : Nat} (r : repInode h [a, b, c, d, e, .slice A5 n5 c5, .slice A6 n6 c6] x) : x.target.size ≤ 9223372036854775807 ∧ CapLe A5 x.entries.length c5 ∧ RowAt h A5 x.entries ∧ CapLe A6 x.runs.length c6 ∧ RowAt h A6 x.runs := by
  obtain ⟨B5, d5, B6, d6, hq, s0, s1, s2, s3, s4⟩ := r
  simp only [List.cons.injEq, Value.slice.injEq, and_true] at hq
  obtain ⟨_, _, _, _, _, ⟨rfl, _, rfl⟩, rfl, _, rfl⟩ := hq
  exact ⟨s0, s1, s2, s3, s4⟩
/-! ### the reference's walker -/
structure WkAt (h : FH) (wr : World) (gw : Nat) (s : State) (A1 : Option Addr) (c1 : Nat) (A2 : Option Addr) (c2 : Nat) (K : Option Addr) (cK : Nat) (st : Wk) : Prop where
  box : wr.heap[gw]? = some (.cells #[.int .i64 s.next, .slice A1 s.inodes.length c1, .slice A2 s.bads.length c2, .slice K st.kept.length cK, .int .i64 st.at_, .int .i64 st.loops] 105 (0, 0))
  free : h gw = none
  kc : CapLe K st.kept.length cK
  kr : RowAt h K st.kept
theorem WkAt.more {h h' : FH} {w w' : World} {gw : Nat} {s : State} {A1 A2 K : Option Addr} {c1 c2 cK : Nat} {st : Wk} (I : WkAt h w gw s A1 c1 A2 c2 K cK st) (E : Ext h w h' w') : WkAt h' w' gw s A1 c1 A2 c2 K cK st :=
  ⟨E.row I.box, E.none I.free (Array.getElem?_eq_some_iff.1 I.box).1, I.kc, I.kr.mono E.le⟩
theorem WkAt.at_ {h : FH} {w : World} {gw : Nat} {s : State} {A1 A2 K : Option Addr} {c1 c2 cK : Nat} {st : Wk} (I : WkAt h w gw s A1 c1 A2 c2 K cK st) (n : Int) : WkAt h (w.setCell ⟨gw, 4, none⟩ (.int .i64 n)) gw s A1 c1 A2 c2 K cK { st with at_ := n } :=
  ⟨box_set (i := 4) I.box _, I.free, I.kc, I.kr⟩
theorem WkAt.loop {h : FH} {w : World} {gw : Nat} {s : State} {A1 A2 K : Option Addr} {c1 c2 cK : Nat} {st : Wk} (I : WkAt h w gw s A1 c1 A2 c2 K cK st) (n : Int) : WkAt h (w.setCell ⟨gw, 5, none⟩ (.int .i64 n)) gw s A1 c1 A2 c2 K cK { st with loops := n } :=
  ⟨box_set (i := 5) I.box _, I.free, I.kc, I.kr⟩
theorem WkAt.keep {h : FH} {w : World} {gw : Nat} {s : State} {A1 A2 K : Option Addr} {c1 c2 cK : Nat} {st : Wk} (I : WkAt h w gw s A1 c1 A2 c2 K cK st) {B : Option Addr} {cB : Nat} {ks : List Int} (kc : CapLe B ks.length cB) (kr : RowAt h B ks) : WkAt h (w.setCell ⟨gw, 3, none⟩ (.slice B ks.length cB)) gw s A1 c1 A2 c2 B cB { st with kept := ks } :=
  ⟨box_set (i := 3) I.box _, I.free, kc, kr⟩
theorem OExt.set1 {h h1 : FH} {w w1 : World} {g : Nat} (X : OExt h w h1 w1 (some g)) (hn : h1 g = Option.none) (i : Nat) (v : Value) : OExt h w h1 (w1.setCell ⟨g, i, Option.none⟩ v) (some g) :=
  X.row (grown_set1 w1 g i v) (fun k hk => by cases hk; exact hn)
theorem OExt.ext {h h1 h2 : FH} {w w1 w2 : World} {row : Option Nat} (X : OExt h w h1 w1 row) (E : Ext h1 w1 h2 w2) : OExt h w h2 w2 row := X.trans (OExt.of E row)
theorem WkAt.drewS {h : FH} {w : World} {gw : Nat} {s : State} {A1 A2 K : Option Addr} {c1 c2 cK : Nat} {st : Wk} (I : WkAt h w gw s A1 c1 A2 c2 K cK st) : WkAt h w.drew gw s A1 c1 A2 c2 K cK st := ⟨I.box, I.free, I.kc, I.kr⟩
theorem OExt.drewS {h h1 : FH} {w w1 : World} {row : Option Nat} (X : OExt h w h1 w1 row) : OExt h w h1 w1.drew row := ⟨X.le, X.sits, ⟨X.grown.os, X.grown.tape, X.grown.output, X.grown.size, X.grown.block⟩, X.fresh⟩
/-- A step is done. -/
def RetStep (h : FH) (w : World) (gw : Nat) (s : State) (A1 : Option Addr) (c1 : Nat) (A2 : Option Addr) (c2 : Nat) (r : Wk × List ByteArray × Int) (e : Ending) (w' : World) : Prop :=
  ∃ A c K cK h1, e = .returned (.tuple #[.slice A r.2.1.length c, .int .i64 r.2.2]) ∧ CapLe A r.2.1.length c ∧ RowAt h1 A r.2.1 ∧ WkAt h1 w' gw s A1 c1 A2 c2 K cK r.1 ∧ OExt h w h1 w' (some gw)
theorem ways_lenW (s : ByteArray) : (waysXs s).length ≤ 401 ∧ (partsXs s).length ≤ 401 := by
  have key : ∀ ks, partsP s = some ks → ks.length ≤ 401 := fun ks h => by
    unfold partsP at h
    split at h
    · cases h
    · have h1 := keepB_len h
      have h2 := splitB_len s
      have h3 := List.count_le_length (a := (47 : UInt8)) (l := s.data.toList)
      rw [Array.length_toList] at h3
      have h4 : s.data.size = s.size := rfl
      omega
  unfold waysXs waysP partsXs
  cases hp : partsP s with
  | none =>
    refine ⟨?_, by simp⟩
    split <;> simp
  | some ks =>
    have := key ks hp
    refine ⟨?_, by simpa using this⟩
    split
    · simpa using this
    · simp
theorem RetTri.stayX {α : Type} [Enc α] {h : FH} {w : World} {T : TypeId} {xs : List α} {top : Bool} {code : Int} {e : Ending} {w' : World} (R : RetTri h w T xs top code e w') (hlen : xs.length ≤ 9223372036854775807) :
    ∃ A c h1, e = .returned (.tuple #[.slice A xs.length c, .bool top, .int .i64 code]) ∧ CapLe A xs.length c ∧ RowAt h1 A xs ∧ Ext h w h1 w' := by
  obtain ⟨v, rfl, O, E⟩ := R
  obtain ⟨h1, A, c, rfl, r, l, E1, u0, u1, u2, f⟩ := O.stayX E (Nat.le_refl _) hlen
  exact ⟨A, c, h1, rfl, ⟨u0, u2, u1⟩, r, E1⟩
end Go.Proofs.YtcnbnehammbncaaDoor
