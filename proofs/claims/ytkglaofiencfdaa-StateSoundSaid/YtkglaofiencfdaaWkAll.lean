import Derived.Test.YtkglaofiencfdaaRefSt
import Derived.Test.YtkglaofiencfdaaRefParts
namespace Go.Proofs.Ytkglaofiencfdaa
open Go.RowKit Go.Sort
set_option linter.unusedVariables false
/-! ### where a way leads -/
structure Wk where
  kept : List Int
  at_ : Int
  loops : Int
def backK (k : List Int) : List Int := if 1 < k.length then k.dropLast else k
/-- An inode that a name leads to. -/
def follW (st : Wk) (y : Inode) (no : Int) (follow : Bool) : Wk × List ByteArray × Int :=
  if y.kind = 3 ∧ follow = true then
    if 8 ≤ st.loops then (st, [], 16)
    else if partsCode y.target ≠ 0 then (⟨st.kept, st.at_, st.loops + 1⟩, [], partsCode y.target)
    else (if partsTop y.target = true then ⟨[1], 1, st.loops + 1⟩ else ⟨st.kept, st.at_, st.loops + 1⟩, partsXs y.target, 0)
  else (⟨if y.kind = 2 then st.kept ++ [no] else st.kept, no, st.loops⟩, [], 0)
/-- A name: where one stands then, what comes ahead, and why not. -/
def stepW (xs : List Inode) (st : Wk) (name : ByteArray) (follow : Bool) : Wk × List ByteArray × Int :=
  match findI xs st.at_ with
  | none => (st, [], 11)
  | some x =>
    if x.kind = 2 then
      if (name.toList == [46, 46]) = true then (⟨backK st.kept, (backK st.kept).getLast?.getD 0, st.loops⟩, [], 0)
      else match findE x.entries name with
        | none => (st, [], 11)
        | some no => match findI xs no with
          | none => (st, [], 11)
          | some y => follW st y no follow
    else (st, [], 13)
theorem stepW_none {xs : List Inode} {st : Wk} {name : ByteArray} {follow : Bool} (h : findI xs st.at_ = none) : stepW xs st name follow = (st, [], 11) := by unfold stepW; rw [h]
theorem stepW_file {xs : List Inode} {st : Wk} {name : ByteArray} {follow : Bool} {x : Inode} (h : findI xs st.at_ = some x) (hk : ¬ x.kind = 2) : stepW xs st name follow = (st, [], 13) := by unfold stepW; rw [h]; simp [hk]
theorem stepW_up {xs : List Inode} {st : Wk} {name : ByteArray} {follow : Bool} {x : Inode} (h : findI xs st.at_ = some x) (hk : x.kind = 2) (hq : (name.toList == [46, 46]) = true) : stepW xs st name follow = (⟨backK st.kept, (backK st.kept).getLast?.getD 0, st.loops⟩, [], 0) := by unfold stepW; rw [h]; simp only [hk, hq, if_true]
theorem stepW_noE {xs : List Inode} {st : Wk} {name : ByteArray} {follow : Bool} {x : Inode} (h : findI xs st.at_ = some x) (hk : x.kind = 2) (hq : (name.toList == [46, 46]) = false) (he : findE x.entries name = none) : stepW xs st name follow = (st, [], 11) := by unfold stepW; rw [h]; simp [hk, hq, he]
theorem stepW_noI {xs : List Inode} {st : Wk} {name : ByteArray} {follow : Bool} {x : Inode} (h : findI xs st.at_ = some x) (hk : x.kind = 2) (hq : (name.toList == [46, 46]) = false) {no : Int} (he : findE x.entries name = some no) (hi : findI xs no = none) : stepW xs st name follow = (st, [], 11) := by unfold stepW; rw [h]; simp [hk, hq, he, hi]
theorem stepW_some {xs : List Inode} {st : Wk} {name : ByteArray} {follow : Bool} {x y : Inode} (h : findI xs st.at_ = some x) (hk : x.kind = 2) (hq : (name.toList == [46, 46]) = false) {no : Int} (he : findE x.entries name = some no) (hi : findI xs no = some y) : stepW xs st name follow = follW st y no follow := by unfold stepW; rw [h]; simp [hk, hq, he, hi]
theorem follW_loop {st : Wk} {y : Inode} {no : Int} (hk : y.kind = 3) (h8 : 8 ≤ st.loops) : follW st y no true = (st, [], 16) := by unfold follW; rw [if_pos ⟨hk, rfl⟩, if_pos h8]
theorem follW_bad {st : Wk} {y : Inode} {no : Int} (hk : y.kind = 3) (h8 : ¬ 8 ≤ st.loops) (hc : partsCode y.target ≠ 0) : follW st y no true = (⟨st.kept, st.at_, st.loops + 1⟩, [], partsCode y.target) := by unfold follW; rw [if_pos ⟨hk, rfl⟩, if_neg h8, if_pos hc]
theorem follW_top {st : Wk} {y : Inode} {no : Int} (hk : y.kind = 3) (h8 : ¬ 8 ≤ st.loops) (hc : partsCode y.target = 0) (ht : partsTop y.target = true) : follW st y no true = (⟨[1], 1, st.loops + 1⟩, partsXs y.target, 0) := by unfold follW; rw [if_pos ⟨hk, rfl⟩, if_neg h8, if_neg (by simp [hc]), if_pos ht]
theorem follW_from {st : Wk} {y : Inode} {no : Int} (hk : y.kind = 3) (h8 : ¬ 8 ≤ st.loops) (hc : partsCode y.target = 0) (ht : partsTop y.target = false) : follW st y no true = (⟨st.kept, st.at_, st.loops + 1⟩, partsXs y.target, 0) := by unfold follW; rw [if_pos ⟨hk, rfl⟩, if_neg h8, if_neg (by simp [hc]), if_neg (by simp [ht])]
theorem follW_dir {st : Wk} {y : Inode} {no : Int} {follow : Bool} (hk : y.kind = 2) : follW st y no follow = (⟨st.kept ++ [no], no, st.loops⟩, [], 0) := by unfold follW; rw [if_neg (by rw [hk]; simp), if_pos hk]
theorem follW_plain {st : Wk} {y : Inode} {no : Int} {follow : Bool} (hn : ¬ (y.kind = 3 ∧ follow = true)) (hk : ¬ y.kind = 2) : follW st y no follow = (⟨st.kept, no, st.loops⟩, [], 0) := by unfold follW; rw [if_neg hn, if_neg hk]
theorem backK_len (k : List Int) (h : 1 ≤ k.length) : 1 ≤ (backK k).length ∧ (backK k).length ≤ k.length := by
  unfold backK; split
  · rw [List.length_dropLast]; omega
  · omega
/-! ### an inode in a box that stays -/
def InBox (h : FH) (w : World) (h0 : FH) (x : Inode) (p : Value) (wx : World) : Prop := ∃ (g : Nat) (h3 : FH) (A5 : Option Addr) (c5 : Nat) (A6 : Option Addr) (c6 : Nat), p = .pointer (some ⟨g, 0, none⟩) ∧ Ext h w h3 wx ∧ FLe h0 h3 ∧ h3 g = some (.cells #[.int .i64 x.no, .int .i64 x.kind, .int .i64 x.links, .int .i64 x.size, .string x.target, .slice A5 x.entries.length c5, .slice A6 x.runs.length c6] 37 (0, 0)) ∧ repInode h3 [.int .i64 x.no, .int .i64 x.kind, .int .i64 x.links, .int .i64 x.size, .string x.target, .slice A5 x.entries.length c5, .slice A6 x.runs.length c6] x ∧ w.heap.size ≤ g
theorem InBox.last {h h0 h2 : FH} {w w2 : World} {x : Inode} {A5 A6 : Option Addr} {c5 c6 : Nat} (E : Ext h w h2 w2) (l : FLe h0 h2) (r : repInode h2 [.int .i64 x.no, .int .i64 x.kind, .int .i64 x.links, .int .i64 x.size, .string x.target, .slice A5 x.entries.length c5, .slice A6 x.runs.length c6] x) : InBox h w h0 x (.pointer (some ⟨w2.heap.size, 0, none⟩)) (w2.alloc (.cells #[.int .i64 x.no, .int .i64 x.kind, .int .i64 x.links, .int .i64 x.size, .string x.target, .slice A5 x.entries.length c5, .slice A6 x.runs.length c6] 37)) := by
  obtain ⟨h3, E3, hb, le, _⟩ := E.boxF #[.int .i64 x.no, .int .i64 x.kind, .int .i64 x.links, .int .i64 x.size, .string x.target, .slice A5 x.entries.length c5, .slice A6 x.runs.length c6] 37
  exact ⟨_, h3, A5, c5, A6, c6, rfl, E3, l.trans le, hb, r.mono le, E.size⟩
theorem InBox.set {h h0 h2 : FH} {w w2 : World} {x : Inode} {A5 A6 : Option Addr} {c5 c6 : Nat} {g : Nat} {cs : Array Value} (E : Ext h w h2 w2) (l : FLe h0 h2) (r : repInode h2 [.int .i64 x.no, .int .i64 x.kind, .int .i64 x.links, .int .i64 x.size, .string x.target, .slice A5 x.entries.length c5, .slice A6 x.runs.length c6] x) (hb : w2.heap[g]? = some (.cells cs 37 (0, 0))) (hc : cs.size = 7) (hn : h2 g = none) (hg : w.heap.size ≤ g) : InBox h w h0 x (.pointer (some ⟨g, 0, none⟩)) (((((((w2.setCell ⟨g, 0, none⟩ (.int .i64 x.no)).setCell ⟨g, 1, none⟩ (.int .i64 x.kind)).setCell ⟨g, 2, none⟩ (.int .i64 x.links)).setCell ⟨g, 3, none⟩ (.int .i64 x.size)).setCell ⟨g, 4, none⟩ (.string x.target)).setCell ⟨g, 5, none⟩ (.slice A5 x.entries.length c5)).setCell ⟨g, 6, none⟩ (.slice A6 x.runs.length c6)) := by
  have E7 := Ext.setCells (g := g) hg hn [.int .i64 x.no, .int .i64 x.kind, .int .i64 x.links, .int .i64 x.size, .string x.target, .slice A5 x.entries.length c5, .slice A6 x.runs.length c6] 0 _ E
  have R7 := setCells_row [.int .i64 x.no, .int .i64 x.kind, .int .i64 x.links, .int .i64 x.size, .string x.target, .slice A5 x.entries.length c5, .slice A6 x.runs.length c6] hb (by simp [hc])
  exact ⟨g, _, A5, c5, A6, c6, rfl, E7.add R7 hn hg, l.trans (FLe.add hn _), FH.add_same _ _ _, r.mono (FLe.add hn _), hg⟩
/-- What a struct lies in. -/
theorem repInode.open {h : FH} {cs : List Value} {x : Inode} (r : repInode h cs x) : ∃ A5 c5 A6 c6, cs = [.int .i64 x.no, .int .i64 x.kind, .int .i64 x.links, .int .i64 x.size, .string x.target, .slice A5 x.entries.length c5, .slice A6 x.runs.length c6] := by
  obtain ⟨A5, c5, A6, c6, e, _⟩ := r; exact ⟨A5, c5, A6, c6, e⟩
theorem repInode.ent {h : FH} {x : Inode} {a b c d e : Value} {A5 A6 : Option Addr} {n5 c5 n6 c6 : Nat} (r : repInode h [a, b, c, d, e, .slice A5 n5 c5, .slice A6 n6 c6] x) : x.target.size ≤ 9223372036854775807 ∧ CapLe A5 x.entries.length c5 ∧ RowAt h A5 x.entries ∧ CapLe A6 x.runs.length c6 ∧ RowAt h A6 x.runs := by
  obtain ⟨B5, d5, B6, d6, hq, s0, s1, s2, s3, s4⟩ := r
  simp only [List.cons.injEq, Value.slice.injEq, and_true] at hq
  obtain ⟨_, _, _, _, _, ⟨rfl, _, rfl⟩, rfl, _, rfl⟩ := hq
  exact ⟨s0, s1, s2, s3, s4⟩
/-! ### the reference's walker -/
structure WkAt (h : FH) (wr : World) (gw : Nat) (s : State) (A1 : Option Addr) (c1 : Nat) (A2 : Option Addr) (c2 : Nat) (K : Option Addr) (cK : Nat) (st : Wk) : Prop where
  box : wr.heap[gw]? = some (.cells #[.int .i64 s.next, .slice A1 s.inodes.length c1, .slice A2 s.bads.length c2, .slice K st.kept.length cK, .int .i64 st.at_, .int .i64 st.loops] 139 (0, 0))
  free : h gw = none
  kc : CapLe K st.kept.length cK
  kr : RowAt h K st.kept
theorem WkAt.more {h h' : FH} {w w' : World} {gw : Nat} {s : State} {A1 A2 K : Option Addr} {c1 c2 cK : Nat} {st : Wk} (I : WkAt h w gw s A1 c1 A2 c2 K cK st) (E : Ext h w h' w') : WkAt h' w' gw s A1 c1 A2 c2 K cK st :=
  ⟨E.row I.box, E.none I.free (Array.getElem?_eq_some_iff.1 I.box).1, I.kc, I.kr.mono E.le⟩
theorem WkAt.at_ {h : FH} {w : World} {gw : Nat} {s : State} {A1 A2 K : Option Addr} {c1 c2 cK : Nat} {st : Wk} (I : WkAt h w gw s A1 c1 A2 c2 K cK st) (n : Int) : WkAt h (w.setCell ⟨gw, 4, none⟩ (.int .i64 n)) gw s A1 c1 A2 c2 K cK { st with at_ := n } :=
  ⟨box_set (i := 4) I.box _, I.free, I.kc, I.kr⟩
theorem WkAt.loop {h : FH} {w : World} {gw : Nat} {s : State} {A1 A2 K : Option Addr} {c1 c2 cK : Nat} {st : Wk} (I : WkAt h w gw s A1 c1 A2 c2 K cK st) (n : Int) : WkAt h (w.setCell ⟨gw, 5, none⟩ (.int .i64 n)) gw s A1 c1 A2 c2 K cK { st with loops := n } :=
  ⟨box_set (i := 5) I.box _, I.free, I.kc, I.kr⟩
theorem WkAt.keep {h : FH} {w : World} {gw : Nat} {s : State} {A1 A2 K : Option Addr} {c1 c2 cK : Nat} {st : Wk} (I : WkAt h w gw s A1 c1 A2 c2 K cK st) {B : Option Addr} {cB : Nat} {ks : List Int} (kc : CapLe B ks.length cB) (kr : RowAt h B ks) : WkAt h (w.setCell ⟨gw, 3, none⟩ (.slice B ks.length cB)) gw s A1 c1 A2 c2 B cB { st with kept := ks } :=
  ⟨box_set (i := 3) I.box _, I.free, kc, kr⟩
theorem OExt.set1 {h h1 : FH} {w w1 : World} {g : Nat} (X : OExt h w h1 w1 (some g)) (hn : h1 g = Option.none) (i : Nat) (v : Value) : OExt h w h1 (w1.setCell ⟨g, i, Option.none⟩ v) (some g) :=
  X.row (grown_set1 w1 g i v) (fun k hk => by cases hk; exact hn)
theorem OExt.ext {h h1 h2 : FH} {w w1 w2 : World} {row : Option Nat} (X : OExt h w h1 w1 row) (E : Ext h1 w1 h2 w2) : OExt h w h2 w2 row := X.trans (OExt.of E row)
theorem WkAt.drewS {h : FH} {w : World} {gw : Nat} {s : State} {A1 A2 K : Option Addr} {c1 c2 cK : Nat} {st : Wk} (I : WkAt h w gw s A1 c1 A2 c2 K cK st) : WkAt h w.drew gw s A1 c1 A2 c2 K cK st := ⟨I.box, I.free, I.kc, I.kr⟩
theorem OExt.drewS {h h1 : FH} {w w1 : World} {row : Option Nat} (X : OExt h w h1 w1 row) : OExt h w h1 w1.drew row := ⟨X.le, X.sits, ⟨X.grown.os, X.grown.tape, X.grown.output, X.grown.size, X.grown.block⟩, X.fresh⟩
/-- A step is done. -/
def RetStep (h : FH) (w : World) (gw : Nat) (s : State) (A1 : Option Addr) (c1 : Nat) (A2 : Option Addr) (c2 : Nat) (r : Wk × List ByteArray × Int) (e : Ending) (w' : World) : Prop :=
  ∃ A c K cK h1, e = .returned (.tuple #[.slice A r.2.1.length c, .int .i64 r.2.2]) ∧ CapLe A r.2.1.length c ∧ RowAt h1 A r.2.1 ∧ WkAt h1 w' gw s A1 c1 A2 c2 K cK r.1 ∧ OExt h w h1 w' (some gw)
theorem ways_lenW (s : ByteArray) : (waysXs s).length ≤ 401 ∧ (partsXs s).length ≤ 401 := by
  have key : ∀ ks, partsP s = some ks → ks.length ≤ 401 := fun ks h => by
    unfold partsP at h
    split at h
    · cases h
    · have h1 := keepB_len h
      have h2 := splitB_len s
      have h3 := List.count_le_length (a := (47 : UInt8)) (l := s.data.toList)
      rw [Array.length_toList] at h3
      have h4 : s.data.size = s.size := rfl
      omega
  unfold waysXs waysP partsXs
  cases hp : partsP s with
  | none =>
    refine ⟨?_, by simp⟩
    split <;> simp
  | some ks =>
    have := key ks hp
    refine ⟨?_, by simpa using this⟩
    split
    · simpa using this
    · simp
theorem RetTri.stayX {α : Type} [Enc α] {h : FH} {w : World} {T : TypeId} {xs : List α} {top : Bool} {code : Int} {e : Ending} {w' : World} (R : RetTri h w T xs top code e w') (hlen : xs.length ≤ 9223372036854775807) :
    ∃ A c h1, e = .returned (.tuple #[.slice A xs.length c, .bool top, .int .i64 code]) ∧ CapLe A xs.length c ∧ RowAt h1 A xs ∧ Ext h w h1 w' := by
  obtain ⟨v, rfl, O, E⟩ := R
  obtain ⟨h1, A, c, rfl, r, l, E1, u0, u1, u2, f⟩ := O.stayX E (Nat.le_refl _) hlen
  exact ⟨A, c, h1, rfl, ⟨u0, u2, u1⟩, r, E1⟩
end Go.Proofs.Ytkglaofiencfdaa

namespace Go.Proofs.Ytkglaofiencfdaa
open Go.RowKit Go.Sort
set_option linter.unusedVariables false
set_option maxHeartbeats 8000000 in
set_option maxRecDepth 100000 in
theorem ref_step (s : State) (A1 : Option Addr) (c1 : Nat) (A2 : Option Addr) (c2 : Nat) (K : Option Addr) (cK : Nat) (st : Wk) (name : ByteArray) (hsz : name.size ≤ 9223372036854775807) (follow : Bool) (gw : Nat) (hk1 : 1 ≤ st.kept.length) (hk2 : st.kept.length ≤ 1000000) (hl0 : 0 ≤ st.loops) (hl1 : st.loops ≤ 100) (h : FH) (w : World) (hs : Sits h w) (rS : repState h [.int .i64 s.next, .slice A1 s.inodes.length c1, .slice A2 s.bads.length c2] s) (I : WkAt h w gw s A1 c1 A2 c2 K cK st) :
    Calls Try.prog 97 #[.pointer (some ⟨gw, 0, none⟩), .string name, .bool follow] w fun e w' => RetStep h w gw s A1 c1 A2 c2 (stepW s.inodes st name follow) e w' := by
  obtain ⟨v, hv⟩ : ∃ v, findI s.inodes st.at_ = v := ⟨_, rfl⟩
  have HV := hid hv
  have K1 := hid (fun (h' : FH) w' hs' (l : FLe h h') => ref_FindInode s _ st.at_ v hv h' w' hs' (rS.mono l))
  have KN := hid (fun (no : Int) (v : Option Inode) (hv : findI s.inodes no = v) (h' : FH) w' hs' (l : FLe h h') => ref_FindInode s _ no v hv h' w' hs' (rS.mono l))
  have b0 : ∀ w' : World, Ext h w h w' → w'.cell? ⟨gw, 0, none⟩ = some (.int .i64 s.next) := fun w' E => box_cell (j := 0) (I.more E).box rfl
  have b1 : ∀ w' : World, Ext h w h w' → w'.cell? ⟨gw, 1, none⟩ = some (.slice A1 s.inodes.length c1) := fun w' E => box_cell (j := 1) (I.more E).box rfl
  have b2 : ∀ w' : World, Ext h w h w' → w'.cell? ⟨gw, 2, none⟩ = some (.slice A2 s.bads.length c2) := fun w' E => box_cell (j := 2) (I.more E).box rfl
  have b4 : ∀ w' : World, Ext h w h w' → w'.cell? ⟨gw, 4, none⟩ = some (.int .i64 st.at_) := fun w' E => box_cell (j := 4) (I.more E).box rfl
  have Er := Ext.refl hs
  have hb3 := hid (heap_new w (.cells #[.int .i64 0, .int .i64 0, .int .i64 0, .int .i64 0, .string ⟨#[]⟩, .slice none 0 0, .slice none 0 0] 37))
  have hn3 := hid (hs.none (Nat.le_refl w.heap.size))
  have hl3 := hid (show w.heap.size < (w.alloc (.cells #[.int .i64 0, .int .i64 0, .int .i64 0, .int .i64 0, .string ⟨#[]⟩, .slice none 0 0, .slice none 0 0] 37)).heap.size by simp)
  have II := hid I
  have hwl := (Array.getElem?_eq_some_iff.1 I.box).1
  clear hv I
  go_enter Try.func97, Try.ntmps97
  go_upto_region 1 with (fail)
  go_cut [8, 9] (fun s8 s9 wx => s9 = .bool v.isSome ∧ InBox h w h (v.getD zeroI) s8 wx)
  case first =>
    go_region_held3 (fun w' => Ext h w h w') (first | with_reducible assumption | with_reducible exact Eg | with_reducible exact Ext.alloc Eg _ | with_reducible exact (Ext.alloc Er _).drew | with_reducible exact Er.drew | exact Ext.setCells (Nat.le_refl _) hn3.out [.int .i64 (v.getD zeroI).no, .int .i64 (v.getD zeroI).kind, .int .i64 (v.getD zeroI).links, .int .i64 (v.getD zeroI).size, .string (v.getD zeroI).target, .slice A5 (v.getD zeroI).entries.length c5, .slice A6 (v.getD zeroI).runs.length c6] 0 _ Eg) (first | (go_at_call 14; refine (K1.out h _ (Ext.sits (h := h) (w := w) (h' := h) (by with_reducible assumption)) (FLe.refl h)).mono ?_; rintro e w2 ⟨cs2, h2, rfl, r2, F2⟩; obtain ⟨A5, c5, A6, c6, rfl⟩ := r2.open; have R2 := hid r2; have E4 := hid (Ext.trans (h := h) (w := w) (h1 := h) (by with_reducible assumption) F2); have Eg := E4.out.back; have l4 := hid F2.le; (first | (have hb4 := F2.row (heap_new w (.cells #[.int .i64 0, .int .i64 0, .int .i64 0, .int .i64 0, .string ⟨#[]⟩, .slice none 0 0, .slice none 0 0] 37)); have hn4 := hid (F2.none hn3.out hl3.out); have z0 := box_cell (j := 0) (v := .int .i64 0) hb4 rfl; have f0 := box_free (j := 0) hb4; have z1 := box_cell (j := 1) (v := .int .i64 0) hb4 rfl; have f1 := box_free (j := 1) hb4; have z2 := box_cell (j := 2) (v := .int .i64 0) hb4 rfl; have f2 := box_free (j := 2) hb4; have z3 := box_cell (j := 3) (v := .int .i64 0) hb4 rfl; have f3 := box_free (j := 3) hb4; have z4 := box_cell (j := 4) (v := .string ⟨#[]⟩) hb4 rfl; have f4 := box_free (j := 4) hb4; have z5 := box_cell (j := 5) (v := .slice none 0 0) hb4 rfl; have f5 := box_free (j := 5) hb4; have z6 := box_cell (j := 6) (v := .slice none 0 0) hb4 rfl; have f6 := box_free (j := 6) hb4; have hb4 := hid hb4) | skip)))
    all_goals
      go_wp2_with fail
      go_meet
      refine ⟨rfl, ?_⟩
    · exact InBox.last E4.out l4.out R2.out
    · exact InBox.set E4.out l4.out R2.out hb4.out rfl hn4.out (Nat.le_refl _)
  case rest =>
    obtain ⟨rfl, g, h3, A5, c5, A6, c6, rfl, E3, l3, hb3, R3, hg3⟩ := hcut
    have I3 := hid (II.out.more E3)
    have E3 := hid E3
    have R3 := hid R3
    clear Er hn3 hl3 b0 b1 b2 b4
    cases v with
    | none =>
      have HS := hid (show stepW s.inodes st name follow = (st, [], 11) from stepW_none HV.out)
      go_wp2_with fail
      go_ret2
      exact (by rw [HS.out]; exact ⟨none, 0, K, cK, h3, rfl, ⟨Nat.zero_le _, fun _ => rfl, by decide⟩, RowAt.nil _ _, I3.out, OExt.of E3.out (some gw)⟩)
    | some x =>
      dsimp only [Option.getD_some, Option.isSome_some] at *
      have m1 : wc.cell? ⟨g, 1, none⟩ = some (.int .i64 x.kind) := Sits_at E3.out.sits hb3 rfl
      have m5 : wc.cell? ⟨g, 5, none⟩ = some (.slice A5 x.entries.length c5) := Sits_at E3.out.sits hb3 rfl
      by_cases hk : x.kind = 2
      · have b2 : (x.kind == 2) = true := by simpa using hk
        have b2n : (x.kind != 2) = false := by simpa using hk
        have HK := hid hk
        clear hk
        obtain ⟨q, hq⟩ : ∃ q, (name.toList == [46, 46]) = q := ⟨_, rfl⟩
        have HQ := hid hq
        cases q
        · obtain ⟨v1, hv1⟩ : ∃ v1, findE x.entries name = v1 := ⟨_, rfl⟩
          obtain ⟨v2, hv2⟩ : ∃ v2, findI s.inodes (v1.getD 0) = v2 := ⟨_, rfl⟩
          obtain ⟨sz5, k5, row5, k6, row6⟩ := R3.out.ent
          have K2 := hid (fun (w' : World) (hs' : Sits h3 w') => ref_Find x.entries A5 c5 name hsz v1 hv1 h3 w' hs' row5)
          have K3 := hid (fun (w' : World) (hs' : Sits h3 w') => KN.out _ v2 hv2 h3 w' hs' l3)
          have HV1 := hid hv1
          have HV2 := hid hv2
          have J0 := fun (w' : World) (E : Ext h3 wc h3 w') => box_cell (j := 0) (v := .int .i64 s.next) (I3.out.more E).box rfl
          have J1 := fun (w' : World) (E : Ext h3 wc h3 w') => box_cell (j := 1) (v := .slice A1 s.inodes.length c1) (I3.out.more E).box rfl
          have J2 := fun (w' : World) (E : Ext h3 wc h3 w') => box_cell (j := 2) (v := .slice A2 s.bads.length c2) (I3.out.more E).box rfl
          have J0 := hid J0
          have J1 := hid J1
          have J2 := hid J2
          clear hv1 hv2 row6 k6 k5 sz5
          go_upto_region 13 with (first
            | (go_at_call 89; refine (K2.out _ E3.out.sits).mono ?_; rintro e w4 ⟨rfl, F4⟩; have n0 := J0.out _ F4; have n1 := J1.out _ F4; have n2 := J2.out _ F4; have F4 := hid F4)
            | (go_at_call 14; refine (K3.out _ F4.out.sits).mono ?_; rintro e w5 ⟨cs5, h5, rfl, r5, F5⟩; obtain ⟨A7, c7, A8, c8, rfl⟩ := r5.open; have R5 := hid r5; have E5 := hid ((E3.out.trans F4.out).trans F5); have I5 := hid (I3.out.more (F4.out.trans F5)); have F5 := hid F5; clear n0 n1 n2))
          have l5 := l3.trans F5.out.le
          obtain ⟨h6, E6, hb6, le6, hh6⟩ := E5.out.boxF #[.int .i64 (v2.getD zeroI).no, .int .i64 (v2.getD zeroI).kind, .int .i64 (v2.getD zeroI).links, .int .i64 (v2.getD zeroI).size, .string (v2.getD zeroI).target, .slice A7 (v2.getD zeroI).entries.length c7, .slice A8 (v2.getD zeroI).runs.length c8] 37
          have F6 : Ext h5 w5 h6 (w5.alloc (.cells #[.int .i64 (v2.getD zeroI).no, .int .i64 (v2.getD zeroI).kind, .int .i64 (v2.getD zeroI).links, .int .i64 (v2.getD zeroI).size, .string (v2.getD zeroI).target, .slice A7 (v2.getD zeroI).entries.length c7, .slice A8 (v2.getD zeroI).runs.length c8] 37)) := by rw [hh6]; exact ((Ext.refl F5.out.sits).alloc _).add (heap_new _ _) (F5.out.sits.none (Nat.le_refl _)) (Nat.le_refl _)
          have I6 := hid (I5.out.more F6)
          have R6 := hid (R5.out.mono le6)
          have l6 := hid (l5.trans le6)
          generalize hg6 : w5.heap.size = g6 at *
          with_reducible generalize w5.alloc (.cells #[.int .i64 (v2.getD zeroI).no, .int .i64 (v2.getD zeroI).kind, .int .i64 (v2.getD zeroI).links, .int .i64 (v2.getD zeroI).size, .string (v2.getD zeroI).target, .slice A7 (v2.getD zeroI).entries.length c7, .slice A8 (v2.getD zeroI).runs.length c8] 37) = w6 at E6 I6 ⊢
          have E6 := hid E6
          clear hh6 F6 l5 le6 hg6 E5 R5 I5 F5 F4 K2 K3 K1 m1 m5
          cases v1 with
          | none =>
            have HS := hid (show stepW s.inodes st name follow = (st, [], 11) from stepW_noE HV.out HK.out HQ.out HV1.out)
            dsimp only [Option.isSome_none, Option.getD_none] at *
            go_wp2_with fail
            go_ret2
            exact (by rw [HS.out]; exact ⟨none, 0, K, cK, h6, rfl, ⟨Nat.zero_le _, fun _ => rfl, by decide⟩, RowAt.nil _ _, I6.out, OExt.of E6.out (some gw)⟩)
          | some no =>
            dsimp only [Option.isSome_some, Option.getD_some] at *
            cases v2 with
            | none =>
              have HS := hid (show stepW s.inodes st name follow = (st, [], 11) from stepW_noI HV.out HK.out HQ.out HV1.out HV2.out)
              dsimp only [Option.isSome_none, Option.getD_none] at *
              go_wp2_with fail
              go_ret2
              exact (by rw [HS.out]; exact ⟨none, 0, K, cK, h6, rfl, ⟨Nat.zero_le _, fun _ => rfl, by decide⟩, RowAt.nil _ _, I6.out, OExt.of E6.out (some gw)⟩)
            | some y =>
              dsimp only [Option.isSome_some, Option.getD_some] at *
              have HU2 := hid (stepW_some (follow := follow) HV.out HK.out HQ.out HV1.out HV2.out)
              have o1 : w6.cell? ⟨g6, 1, none⟩ = some (.int .i64 y.kind) := Sits_at E6.out.sits hb6 rfl
              have o4 : w6.cell? ⟨g6, 4, none⟩ = some (.string y.target) := Sits_at E6.out.sits hb6 rfl
              have p5 : w6.cell? ⟨gw, 5, none⟩ = some (.int .i64 st.loops) := box_cell (j := 5) I6.out.box rfl
              have f5 := box_free (j := 5) I6.out.box
              by_cases hlk : y.kind = 3 ∧ follow = true
              · obtain ⟨hk3, rfl⟩ := hlk
                have b3 : (y.kind == 3) = true := by simpa using hk3
                have HK3 := hid hk3
                clear hk3
                by_cases h8 : 8 ≤ st.loops
                · have HS := hid (show stepW s.inodes st name true = (st, [], 16) from HU2.out.trans (follW_loop HK3.out h8))
                  go_wp2_with fail
                  go_ret2
                  exact (by rw [HS.out]; exact ⟨none, 0, K, cK, h6, rfl, ⟨Nat.zero_le _, fun _ => rfl, by decide⟩, RowAt.nil _ _, I6.out, OExt.of E6.out (some gw)⟩)
                · have H8 := hid h8
                  have hl7 : st.loops < 8 := by omega
                  clear h8
                  obtain ⟨sz6, _⟩ := R6.out.ent
                  go_upto_region 19 with (fail)
                  have I7 := hid (I6.out.loop (st.loops + 1))
                  have X7 := hid ((OExt.of E6.out (some gw)).set1 I6.out.free 5 (.int .i64 (st.loops + 1)))
                  have q4 : (w6.setCell ⟨gw, 5, none⟩ (.int .i64 (st.loops + 1))).cell? ⟨g6, 4, none⟩ = some (.string y.target) := Sits_at X7.out.sits hb6 rfl
                  with_reducible generalize w6.setCell ⟨gw, 5, none⟩ (.int .i64 (st.loops + 1)) = w7 at I7 X7 q4 ⊢
                  clear o1 o4 p5 f5
                  have KP := hid (ref_Parts y.target sz6 h6 w7 X7.out.sits)
                  go_upto_region 20 with (go_at_call 87; refine KP.out.mono ?_; rintro e w8 R; obtain ⟨A9, c9, h8, rfl, k9, r9, F8⟩ := R.stayX (by have := (ways_lenW y.target).2; omega); have I8 := hid (I7.out.more F8); have X8 := hid (X7.out.ext F8); have k9 := hid k9; have r9 := hid r9; clear F8 R)
                  clear q4
                  by_cases hc : partsCode y.target = 0
                  · have bc : (partsCode y.target != 0) = false := by simp [hc]
                    have bd : (partsCode y.target == 0) = true := by simp [hc]
                    have HC := hid hc
                    obtain ⟨t, ht⟩ : ∃ t, partsTop y.target = t := ⟨_, rfl⟩
                    have HT := hid ht
                    clear hc
                    rw [ht]
                    clear ht
                    cases t
                    · have HS := hid (show stepW s.inodes st name true = (⟨st.kept, st.at_, st.loops + 1⟩, partsXs y.target, 0) from HU2.out.trans (follW_from HK3.out (by have q := H8.out; omega) HC.out HT.out))
                      go_wp2_with fail
                      go_ret2
                      rw [HC.out]
                      exact (by rw [HS.out]; exact ⟨A9, c9, K, cK, h8, rfl, k9.out, r9.out, I8.out, X8.out⟩)
                    · have HS := hid (show stepW s.inodes st name true = (⟨[1], 1, st.loops + 1⟩, partsXs y.target, 0) from HU2.out.trans (follW_top HK3.out (by have q := H8.out; omega) HC.out HT.out))
                      have E9 := (Ext.refl X8.out.sits).alloc (.cells #[.int .i64 1] 3)
                      obtain ⟨h9, F9, hb9, le9, hh9⟩ := (Ext.refl X8.out.sits).boxF #[.int .i64 1] 3
                      have I9 := hid (I8.out.more F9)
                      have X9 := hid (X8.out.ext F9)
                      have z3 := box_cell (j := 3) (v := .slice K st.kept.length cK) I9.out.box rfl
                      have z4 := box_cell (j := 4) (v := .int .i64 st.at_) I9.out.box rfl
                      have e3 := box_free (j := 3) I9.out.box
                      have e4 := box_free (j := 4) I9.out.box
                      have r10 := hid (show RowAt h9 (some ⟨w8.heap.size, 0, none⟩) [(1 : Int)] from RowAt.of_block hb9 (Reps.single rfl) (by decide))
                      clear hh9 E9
                      go_wp2_with fail
                      have I10 := hid ((I9.out.keep (ks := [1]) (B := some ⟨w8.heap.size, 0, none⟩) (cB := 1) ⟨Nat.le_refl _, (fun e => by cases e), by decide⟩ r10.out).at_ 1)
                      have X10 := hid ((X9.out.set1 I9.out.free 3 (.slice (some ⟨w8.heap.size, 0, none⟩) 1 1)).set1 I9.out.free 4 (.int .i64 1))
                      go_ret2
                      rw [HC.out]
                      exact (by rw [HS.out]; exact ⟨A9, c9, some ⟨w8.heap.size, 0, none⟩, 1, h9, rfl, k9.out, r9.out.mono le9, I10.out, X10.out⟩)
                  · have bc : (partsCode y.target != 0) = true := by simp [hc]
                    have bd : (partsCode y.target == 0) = false := by simp [hc]
                    have HS := hid (show stepW s.inodes st name true = (⟨st.kept, st.at_, st.loops + 1⟩, [], partsCode y.target) from HU2.out.trans (follW_bad HK3.out (by have q := H8.out; omega) hc))
                    clear hc
                    go_wp2_with fail
                    go_ret2
                    exact (by rw [HS.out]; exact ⟨none, 0, K, cK, h8, rfl, ⟨Nat.zero_le _, fun _ => rfl, by decide⟩, RowAt.nil _ _, I8.out, X8.out⟩)
              · have HLK := hid hlk
                obtain ⟨t3, ht3⟩ : ∃ t3, (y.kind == 3) = t3 := ⟨_, rfl⟩
                have hnb : (t3 && follow) = false := by
                  rw [← ht3]
                  cases follow
                  · simp
                  · simp at hlk; simp [hlk]
                have p3 := box_cell (j := 3) (v := .slice K st.kept.length cK) I6.out.box rfl
                have p4 := box_cell (j := 4) (v := .int .i64 st.at_) I6.out.box rfl
                have f3 := box_free (j := 3) I6.out.box
                have f4 := box_free (j := 4) I6.out.box
                have HB1 := hid (show (([] : List Int).length + st.kept.length) * 8 ≤ 140737488355328 by simp; omega)
                have HB2 := hid (show (([] ++ st.kept : List Int).length + 1) * 8 ≤ 140737488355328 by simp; omega)
                clear hlk
                by_cases hk2 : y.kind = 2
                · have b2' : (y.kind == 2) = true := by simpa using hk2
                  have b3 : (y.kind == 3) = false := by rw [hk2]; rfl
                  have HS := hid (show stepW s.inodes st name follow = (⟨st.kept ++ [no], no, st.loops⟩, [], 0) from HU2.out.trans (follW_dir hk2))
                  clear hk2 ht3 hnb
                  go_wp2_with (first
                    | (at_builtin; refine wpList_appendR rfl _ _ 29 rfl w6.heap.size 3 8 ty_Int (.slice none 0 0) [] st.kept rfl (OwnL.nil _ _ _ _) E6.out.sits _ _ _ rfl rfl I6.out.kr HB1.out (by decide) (Nat.le_refl _) ?_; intro v7 w7 O7 hg7 _; have G7 := hid ((Ext.refl E6.out.sits).grown hg7 (fun k hk => by cases hk)); have O7 := hid O7; clear hg7)
                    | (at_builtin; refine wpList_append1At rfl _ _ 29 rfl w6.heap.size 3 8 ty_Int _ _ rfl (O7.out.alloc _) (G7.out.sits.alloc _) _ rfl _ no rfl (cells_of_box (heap_new _ _)) HB2.out (by decide) (G7.out.alloc _).size ?_; intro v8 w8 O8 hg8; have E8 := (G7.out.alloc _).grown hg8 (fun k hk => ⟨(O7.out.lt k hk).1, O7.out.free k hk⟩); obtain ⟨h9, A9, c9, hv9, r9, l9, E9, u0, u1, u2, f9⟩ := O8.stayX E8 (Nat.le_refl _) (by simp; omega); subst hv9; have I9 := hid (I6.out.more E9); have X9 := hid ((OExt.of E6.out (some gw)).ext E9); have z3 := box_cell (j := 3) (v := .slice K st.kept.length cK) I9.out.box rfl; have z4 := box_cell (j := 4) (v := .int .i64 st.at_) I9.out.box rfl; have e3 := box_free (j := 3) I9.out.box; have e4 := box_free (j := 4) I9.out.box; have q9 := hid (show CapLe A9 ([] ++ st.kept ++ [no]).length c9 from ⟨u0, u2, u1⟩); have r9 := hid r9; clear u0 u1 u2 f9 E9 l9 hg8 E8 O8))
                  have hlen : ([] ++ st.kept ++ [no] : List Int).length = st.kept.length + 1 := by simp
                  have I10 := (I9.out.keep q9.out r9.out).at_ no
                  have X10 := (X9.out.set1 I9.out.free 3 (.slice A9 ([] ++ st.kept ++ [no]).length c9)).set1 I9.out.free 4 (.int .i64 no)
                  rw [hlen] at I10 X10
                  have I10 := hid I10
                  have X10 := hid X10
                  go_ret2
                  exact (by rw [HS.out]; exact ⟨none, 0, A9, c9, h9, rfl, ⟨Nat.zero_le _, fun _ => rfl, by decide⟩, RowAt.nil _ _, I10.out, X10.out⟩)
                · have b2' : (y.kind == 2) = false := by simpa using hk2
                  have HS := hid (show stepW s.inodes st name follow = (⟨st.kept, no, st.loops⟩, [], 0) from HU2.out.trans (follW_plain HLK.out hk2))
                  have I10 := hid (I6.out.at_ no)
                  have X10 := hid ((OExt.of E6.out (some gw)).set1 I6.out.free 4 (.int .i64 no))
                  clear hk2
                  cases t3
                  · clear hnb
                    go_wp2_with fail
                    go_ret2
                    exact (by rw [HS.out]; exact ⟨none, 0, K, cK, h6, rfl, ⟨Nat.zero_le _, fun _ => rfl, by decide⟩, RowAt.nil _ _, I10.out, X10.out⟩)
                  · have hnb : follow = false := hnb
                    subst hnb
                    go_wp2_with fail
                    go_ret2
                    exact (by rw [HS.out]; exact ⟨none, 0, K, cK, h6, rfl, ⟨Nat.zero_le _, fun _ => rfl, by decide⟩, RowAt.nil _ _, I10.out, X10.out⟩)
        · obtain ⟨ks, hks⟩ : ∃ ks, backK st.kept = ks := ⟨_, rfl⟩
          have HKS := hid hks
          have HS := hid (show stepW s.inodes st name follow = (⟨ks, ks.getLast?.getD 0, st.loops⟩, [], 0) by rw [stepW_up HV.out HK.out HQ.out, HKS.out])
          have hkl := backK_len st.kept hk1
          rw [hks] at hkl
          clear hks
          have n3 := box_cell (j := 3) (v := .slice K st.kept.length cK) I3.out.box rfl
          go_upto_if 44 with (fail)
          go_cut [0] (fun s0 wx => s0 = .pointer (some ⟨gw, 0, none⟩) ∧ ∃ h5 B cB, Hid (OExt h w h5 wx (some gw)) ∧ Hid (WkAt h5 wx gw s A1 c1 A2 c2 B cB { st with kept := ks }))
          case first =>
            by_cases h1k : 1 < st.kept.length
            · obtain ⟨n, hn⟩ : ∃ n, st.kept.length = n + 1 := ⟨st.kept.length - 1, by omega⟩
              have HKD := hid (show ks = st.kept.take n by rw [← HKS.out]; unfold backK; rw [if_pos h1k, List.dropLast_eq_take, hn]; rfl)
              have hcl : (n : Int) ≤ (cK : Int) := by have := I3.out.kc.le; omega
              have hwr : IntKind.i64.wrap ((st.kept.length : Int) - 1) = (n : Int) := by rw [IntKind.wrap_i64]; omega
              have hn0 : (0 : Int) ≤ (n : Int) := by omega
              have hkn : ks.length = n := by rw [HKD.out, List.length_take]; omega
              have hrow := I3.out.kr.takeN n
              rw [← HKD.out] at hrow
              have HKN := hid hkn.symm
              have HROW := hid hrow
              have HBK := hid (show (([] : List Int).length + ks.length) * 8 ≤ 140737488355328 by simp; omega)
              have HLN := hid (show ([] ++ ks : List Int).length ≤ 9223372036854775807 by simp; omega)
              have HSD := hid (show Sits h3 wc.drew from E3.out.sits)
              clear m1 m5 hrow hn hkn
              go_upto_region 8 with (fail)
              go_region_law (first | (refine step_appendR _ _ 29 rfl wc.heap.size 3 8 ty_Int (.slice none 0 0) [] ks rfl (OwnL.nil _ _ _ _) HSD.out K n cK rfl HKN.out HROW.out HBK.out (by decide) (Nat.le_refl _) ?_; intro v5 w5 O5 G5; have F5 := (Ext.refl E3.out.sits).drew.grown G5 (fun k hk => by cases hk); obtain ⟨h6, A6', c6', hv6, r6, l6, F6, u0, u1, u2, f6⟩ := O5.stayX F5 (Nat.le_refl _) HLN.out; subst hv6; have I6 := hid (I3.out.more F6); have X6 := hid ((OExt.of E3.out (some gw)).ext F6); have z3 := box_cell (j := 3) (v := .slice K st.kept.length cK) I6.out.box rfl; have e3 := box_free (j := 3) I6.out.box; have q6 := hid (show CapLe A6' ks.length c6' from ⟨u0, u2, u1⟩); have r6 := hid (show RowAt h6 A6' ks from r6); clear l6 f6 u0 u1 u2 F5 F6 G5 O5))
              all_goals
                go_wp2_with fail
                go_meet
                exact ⟨rfl, h6, A6', c6', hid (X6.out.set1 I6.out.free 3 _), hid (I6.out.keep q6.out r6.out)⟩
            · have HKD := hid (show ks = st.kept by rw [← HKS.out]; unfold backK; rw [if_neg h1k])
              clear m1 m5
              go_wp2_with fail
              go_meet
              exact ⟨rfl, h3, K, cK, hid (OExt.of E3.out (some gw)), hid (by rw [HKD.out]; exact I3.out)⟩
          case rest =>
            obtain ⟨rfl, h5, B, cB, X5, I5⟩ := hcut
            obtain ⟨n, hn⟩ : ∃ n, ks.length = n + 1 := ⟨ks.length - 1, by omega⟩
            have hwr : IntKind.i64.wrap ((ks.length : Int) - 1) = (n : Int) := by rw [IntKind.wrap_i64]; omega
            obtain ⟨y, hy⟩ : ∃ y, ks[n]? = some y := ⟨ks[n], List.getElem?_eq_getElem (by omega)⟩
            have HLY := hid (show ks.getLast?.getD 0 = y by rw [List.getLast?_eq_getElem?, hn]; simp [hy])
            obtain ⟨b, off, hx, d0⟩ := I5.out.kr.ixInt hy X5.out.sits cB
            have z3 := box_cell (j := 3) (v := .slice B ks.length cB) I5.out.box rfl
            have z4 := box_cell (j := 4) (v := .int .i64 st.at_) I5.out.box rfl
            have e4 := box_free (j := 4) I5.out.box
            have hn0 : (0 : Int) ≤ (n : Int) := by omega
            clear hy hn n3 m1 m5
            go_upto_region 9 with (fail)
            go_region
            all_goals
              go_wp2_with fail
              go_ret2
              exact (by rw [HS.out, HLY.out]; exact ⟨none, 0, B, cB, h5, rfl, ⟨Nat.zero_le _, fun _ => rfl, by decide⟩, RowAt.nil _ _, WkAt.drewS (I5.out.at_ y), OExt.drewS (X5.out.set1 I5.out.free 4 _)⟩)
      · have HS := hid (show stepW s.inodes st name follow = (st, [], 13) from stepW_file HV.out hk)
        have b2 : (x.kind == 2) = false := by simpa using hk
        clear hk
        go_wp2_with fail
        go_ret2
        exact (by rw [HS.out]; exact ⟨none, 0, K, cK, h3, rfl, ⟨Nat.zero_le _, fun _ => rfl, by decide⟩, RowAt.nil _ _, I3.out, OExt.of E3.out (some gw)⟩)
end Go.Proofs.Ytkglaofiencfdaa

namespace Go.Proofs.Ytkglaofiencfdaa
open Go.RowKit Go.Sort
set_option linter.unusedVariables false
/-- Names, one by one: where that ends, and why not. -/
def walkF : Nat → List Inode → Wk → List ByteArray → Bool → Int × Int
  | 0, _, _, _, _ => (0, 99)
  | n + 1, xs, st, [], f => (st.at_, 0)
  | n + 1, xs, st, a :: names, f =>
    let r := stepW xs st a (f || decide (0 < names.length))
    if r.2.2 = 0 then walkF n xs r.1 (r.2.1 ++ names) f else (0, r.2.2)
def mW (st : Wk) (n : Nat) : Nat := (8 - st.loops).toNat * 402 + n
def st0 : Wk := ⟨[1], 1, 0⟩
def walkP (xs : List Inode) (names : List ByteArray) (f : Bool) : Int × Int := walkF (8 * 402 + names.length + 1) xs st0 names f
/-- What a step keeps. -/
theorem follW_meas {st st' : Wk} {y : Inode} {no : Int} {f : Bool} {l : List ByteArray} (h : follW st y no f = (st', l, 0)) (h1 : 1 ≤ st.kept.length) (h0 : 0 ≤ st.loops) (h8 : st.loops ≤ 8) (n : Nat) :
    0 ≤ st'.loops ∧ st'.loops ≤ 8 ∧ 1 ≤ st'.kept.length ∧ st'.kept.length ≤ st.kept.length + 1 ∧ mW st' (l.length + n) < mW st (n + 1) := by
  unfold follW at h
  split at h
  · split at h
    · simp at h
    · split at h
      · rename_i hc; simp only [Prod.mk.injEq] at h; exact absurd h.2.2 hc
      · rename_i h7 _
        have hp := (ways_lenW y.target).2
        simp only [Prod.mk.injEq] at h
        obtain ⟨e1, e2, _⟩ := h
        subst e2
        have hm : (8 - (st.loops + 1)).toNat * 402 + ((partsXs y.target).length + n) < (8 - st.loops).toNat * 402 + (n + 1) := by omega
        split at e1
        · subst e1; exact ⟨by simp only; omega, by simp only; omega, by simp, by simp, hm⟩
        · subst e1; exact ⟨by simp only; omega, by simp only; omega, h1, by simp, hm⟩
  · simp only [Prod.mk.injEq] at h
    obtain ⟨rfl, rfl, _⟩ := h
    refine ⟨h0, h8, ?_, ?_, by unfold mW; simp⟩
    · simp only; split
      · simp
      · exact h1
    · simp only; split
      · simp
      · omega
theorem stepW_meas {xs : List Inode} {st st' : Wk} {a : ByteArray} {f : Bool} {l : List ByteArray} (h : stepW xs st a f = (st', l, 0)) (h1 : 1 ≤ st.kept.length) (h0 : 0 ≤ st.loops) (h8 : st.loops ≤ 8) (n : Nat) :
    0 ≤ st'.loops ∧ st'.loops ≤ 8 ∧ 1 ≤ st'.kept.length ∧ st'.kept.length ≤ st.kept.length + 1 ∧ mW st' (l.length + n) < mW st (n + 1) := by
  unfold stepW at h
  split at h
  · simp at h
  · split at h
    · split at h
      · simp only [Prod.mk.injEq] at h
        obtain ⟨rfl, rfl, _⟩ := h
        have hb := backK_len st.kept h1
        exact ⟨h0, h8, hb.1, by simp only; omega, by unfold mW; simp⟩
      · split at h
        · simp at h
        · split at h
          · simp at h
          · exact follW_meas h h1 h0 h8 n
    · simp at h
theorem walkF_cons {n : Nat} {xs : List Inode} {st st' : Wk} {a : ByteArray} {names l : List ByteArray} {f : Bool} {code : Int} (h : stepW xs st a (f || decide (0 < names.length)) = (st', l, code)) : walkF (n + 1) xs st (a :: names) f = if code = 0 then walkF n xs st' (l ++ names) f else (0, code) := by
  simp only [walkF, h]
/-- More rounds than are needed change nothing. -/
theorem walkF_more {xs : List Inode} {f : Bool} (n : Nat) : ∀ (m : Nat) (st : Wk) (names : List ByteArray), 1 ≤ st.kept.length → 0 ≤ st.loops → st.loops ≤ 8 → mW st names.length < n → mW st names.length < m → walkF n xs st names f = walkF m xs st names f := by
  induction n with
  | zero => intro m st names _ _ _ h _; exact absurd h (Nat.not_lt_zero _)
  | succ n ih =>
    intro m st names h1 h0 h8 hn hm
    cases m with
    | zero => exact absurd hm (Nat.not_lt_zero _)
    | succ m =>
      cases names with
      | nil => simp only [walkF]
      | cons a names =>
        obtain ⟨⟨st', l, code⟩, hr⟩ : ∃ r, stepW xs st a (f || decide (0 < names.length)) = r := ⟨_, rfl⟩
        rw [walkF_cons hr, walkF_cons hr]
        by_cases hc : code = 0
        · subst hc
          obtain ⟨g0, g8, g1, _, gm⟩ := stepW_meas hr h1 h0 h8 names.length
          rw [if_pos rfl, if_pos rfl]
          rw [List.length_cons] at hn hm
          exact ih m st' (l ++ names) g1 g0 g8 (by rw [List.length_append]; omega) (by rw [List.length_append]; omega)
        · rw [if_neg hc, if_neg hc]
theorem RowAt.drop1S {α : Type} [Enc α] {h : FH} {A : Option Addr} {x : α} {xs : List α} (r : RowAt h A (x :: xs)) (c : Nat) (hlc : (x :: xs).length ≤ c) : RowAt h (if c = 1 then A else A.map (fun x : Addr => (⟨x.block, x.off + Enc.sz α, none⟩ : Addr))) xs := by
  have q := r.dropS 1 c (by simp) hlc
  rw [Nat.one_mul] at q
  obtain ⟨b, off, rfl, _⟩ := r.2 (by simp)
  have hp : ¬ Enc.sz α = 0 := by have := Enc.pos (α := α); omega
  simpa [Addr.add, hp] using q
set_option maxRecDepth 100000 in
theorem RowAt.ixStr {h : FH} {A : Option Addr} {xs : List ByteArray} (r : RowAt h A xs) {k : Nat} {x : ByteArray} (hx : xs[k]? = some x) {w : World} (hs : Sits h w) (c : Nat) (i : Int) (hi : i = (k : Int)) :
    ∃ b off, (∀ w', (Instr.indexAt 95 (.slice A xs.length c) (.int .i64 i)).run Try.prog w' = .ok (.pointer (some ⟨b, off + k, none⟩)) w') ∧ h.cell ⟨b, off + k, none⟩ = some (.string x) ∧ x.size ≤ 9223372036854775807 := by
  subst hi
  have hlt := (List.getElem?_eq_some_iff.1 hx).1
  obtain ⟨b, off, rfl, f⟩ := r.2 (by omega)
  obtain ⟨cs, hr, hc⟩ := f k x hx
  obtain ⟨rfl, hsz⟩ : cs = [.string x] ∧ x.size ≤ 9223372036854775807 := hr
  refine ⟨b, off, fun w' => ?_, ?_, hsz⟩
  · rw [run_indexAt_slice (h := Try.underlying95), if_pos (by omega)]
    rw [show (sizeOf (Try.prog.elem 95)).run Try.prog w' = .ok 1 w' from by kernel_rfl]
    simp [Result.andThen, Addr.add]
  · have := hc 0 _ rfl
    rwa [show off + k * Enc.sz ByteArray + 0 = off + k from by show off + k * 1 + 0 = off + k; omega] at this
end Go.Proofs.Ytkglaofiencfdaa

namespace Go.Proofs.Ytkglaofiencfdaa
open Go.RowKit Go.Sort
set_option linter.unusedVariables false
set_option maxHeartbeats 8000000 in
set_option maxRecDepth 100000 in
theorem ref_walk (s : State) (cs : List Value) (names : List ByteArray) (A : Option Addr) (c : Nat) (hcN : CapLe A names.length c) (follow : Bool) (res : Int × Int) (hres : walkP s.inodes names follow = res) (hlen : names.length ≤ 900) (h : FH) (w : World) (hs : Sits h w) (rS : repState h cs s) (rN : RowAt h A names) :
    Calls Try.prog 58 #[.agg cs.toArray, .slice A names.length c, .bool follow] w fun e w' => e = .returned (.tuple #[.int .i64 res.1, .int .i64 res.2]) ∧ Ext h w h w' := by
  have rS' := rS
  obtain ⟨A1, c1, A2, c2, rfl, l1, r1, l2, r2⟩ := rS'
  have HRES := hid hres
  obtain ⟨h1, E1, hb1, le1, hh1⟩ := (Ext.refl hs).boxF #[.int .i64 s.next, .slice A1 s.inodes.length c1, .slice A2 s.bads.length c2] 31
  clear hres hh1 l1 r1 l2 r2
  go_enter Try.func58, Try.ntmps58
  go_upto_region 1 with (fail)
  generalize hgS : w.heap.size = gS at *
  with_reducible generalize w.alloc (.cells #[.int .i64 s.next, .slice A1 s.inodes.length c1, .slice A2 s.bads.length c2] 31) = w1 at E1 ⊢
  have s0 : w1.cell? ⟨gS, 0, none⟩ = some (.int .i64 s.next) := Sits_at E1.sits hb1 rfl
  have s1 : w1.cell? ⟨gS, 1, none⟩ = some (.slice A1 s.inodes.length c1) := Sits_at E1.sits hb1 rfl
  have s2 : w1.cell? ⟨gS, 2, none⟩ = some (.slice A2 s.bads.length c2) := Sits_at E1.sits hb1 rfl
  obtain ⟨h2, E2, hb2, le2, hh2⟩ := E1.boxF #[.int .i64 1] 3
  go_upto_region 2 with (fail)
  have hgw : (w1.alloc (.cells #[.int .i64 1] 3)).heap.size = w1.heap.size + 1 := by simp
  have hn1 := E2.sits.none (Nat.le_refl _)
  rw [hgw] at hn1
  have hw1 := E1.size
  have rN2 := rN.mono (le1.trans le2)
  have rS2 := hid (repState.mono (le1.trans le2) rS)
  obtain ⟨g1, hg1⟩ : ∃ g1, g1 = w1.heap.size := ⟨_, rfl⟩
  obtain ⟨gw, hg2⟩ : ∃ gw, gw = w1.heap.size + 1 := ⟨_, rfl⟩
  rw [← hg1] at hb2
  rw [← hg2] at hgw hn1
  simp only [← hg2]
  simp only [← hg1]
  have hbw := heap_new (w1.alloc (.cells #[.int .i64 1] 3)) (.cells #[.int .i64 s.next, .slice A1 s.inodes.length c1, .slice A2 s.bads.length c2, .slice (some ⟨g1, 0, none⟩) 1 1, .int .i64 1, .int .i64 0] 139)
  rw [hgw] at hbw
  have E3 := hid (E2.alloc (.cells #[.int .i64 s.next, .slice A1 s.inodes.length c1, .slice A2 s.bads.length c2, .slice (some ⟨g1, 0, none⟩) 1 1, .int .i64 1, .int .i64 0] 139))
  have I3 : Hid (WkAt h2 ((w1.alloc (.cells #[.int .i64 1] 3)).alloc (.cells #[.int .i64 s.next, .slice A1 s.inodes.length c1, .slice A2 s.bads.length c2, .slice (some ⟨g1, 0, none⟩) 1 1, .int .i64 1, .int .i64 0] 139)) gw s A1 c1 A2 c2 (some ⟨g1, 0, none⟩) 1 st0) := hid ⟨hbw, hn1, ⟨Nat.le_refl _, (fun e => by cases e), by decide⟩, RowAt.of_block hb2 (Reps.single rfl) (by decide)⟩
  have hwgw := hid (show w.heap.size ≤ gw by omega)
  clear hbw hn1 hgw hb2 hh2 E2 le2 s0 s1 s2 E1 le1 hb1 rN hw1 hg1 hg2 hgS
  with_reducible generalize (w1.alloc (.cells #[.int .i64 1] 3)).alloc (.cells #[.int .i64 s.next, .slice A1 s.inodes.length c1, .slice A2 s.bads.length c2, .slice (some ⟨g1, 0, none⟩) 1 1, .int .i64 1, .int .i64 0] 139) = w3 at E3 I3 ⊢
  go_loopg [1] (8 * 402 + names.length + 1) (fun k s1 wr => ∃ (st : Wk) (ns : List ByteArray) (A : Option Addr) (c : Nat) (h' : FH) (K : Option Addr) (cK : Nat), s1 = .slice A ns.length c ∧ Hid (walkF k s.inodes st ns follow = res) ∧ Hid (mW st ns.length < k ∧ st.kept.length + mW st ns.length ≤ 10000 ∧ 1 ≤ st.kept.length ∧ 0 ≤ st.loops ∧ st.loops ≤ 8) ∧ Hid (CapLe A ns.length c) ∧ Hid (RowAt h' A ns) ∧ Hid (WkAt h' wr gw s A1 c1 A2 c2 K cK st) ∧ Hid (Ext h w h' wr))
  case atStart => exact ⟨st0, names, A, c, h2, _, _, rfl, HRES, hid ⟨by show (8 - (0 : Int)).toNat * 402 + names.length < _; omega, by show 1 + ((8 - (0 : Int)).toNat * 402 + names.length) ≤ 10000; omega, by decide, by decide, by decide⟩, hid hcN, hid rN2, I3, E3⟩
  case round =>
    obtain ⟨st, ns, A, c, h', K, cK, rfl, HR, HM, HC, HN, I, E⟩ := hrel
    have hm := HM.out
    have hcc := HC.out
    have c0 := hcc.le
    have c2' := hcc.mx
    have hlN : ns.length ≤ 10000 := by have := hm.2.1; unfold mW at this; omega
    cases ns with
    | nil =>
      have HQ := hid (show res = (st.at_, 0) by
        rw [← HR.out]
        obtain ⟨k, rfl⟩ : ∃ k, gk = k + 1 := ⟨gk - 1, by have := hm.1; omega⟩
        rfl)
      have z4 := box_cell (j := 4) (v := .int .i64 st.at_) I.out.box rfl
      have E := hid E.out.back
      clear HR hm hcc c0 c2' hlN
      go_wp2_with fail
      go_ret2
      exact ⟨by rw [HQ.out]; rfl, E.out⟩
    | cons a rest =>
      obtain ⟨b, off, hx, d0, hsz⟩ := HN.out.ixStr (k := 0) (i := 0) rfl E.out.sits c rfl
      have d0 := E.out.sits.cell d0
      simp only [Nat.add_zero] at hx d0
      obtain ⟨n, hn⟩ : ∃ n, (a :: rest).length = n + 1 := ⟨rest.length, rfl⟩
      have HRD := HN.out.drop1S c c0
      rw [show Enc.sz ByteArray = 1 from rfl] at HRD
      have HNR := hid (show rest.length = n by simpa using hn)
      obtain ⟨⟨st', l, code⟩, hr⟩ : ∃ r, stepW s.inodes st a (follow || decide (0 < rest.length)) = r := ⟨_, rfl⟩
      have HST := hid hr
      have hc1 : (1 : Int) ≤ (c : Int) := by rw [hn] at c0; omega
      have hcn : (n + 1 : Int) ≤ (c : Int) := by rw [hn] at c0; omega
      have hcm : (c : Int) ≤ 9223372036854775807 := by omega
      rw [hn] at hx
      rw [hn]
      clear hr hm hcc c0 c2' hlN hn hcN rN2
      have HN := hid HRD
      clear HRD
      go_upto_region 5 with (fail)
      generalize (if c = 1 then A else Option.map (fun x : Addr => (⟨x.block, x.off + 1, none⟩ : Addr)) A) = A' at HN ⊢
      have hm := HM.out
      obtain ⟨k, rfl⟩ : ∃ k, gk = k + 1 := ⟨gk - 1, by have := hm.1; omega⟩
      obtain ⟨f', hf'⟩ : ∃ f', (follow || decide (0 < rest.length)) = f' := ⟨_, rfl⟩
      have HF := hid hf'
      have HR1 := hid ((walkF_cons HST.out).symm.trans HR.out)
      rw [hf'] at HST
      have KS := hid (ref_step s A1 c1 A2 c2 K cK st a hsz f' gw hm.2.2.1 (by omega) hm.2.2.2.1 (by omega) h' wr E.out.sits (repState.mono E.out.le rS) I.out)
      by_cases hcode : code = 0
      · subst hcode
        have hmm := stepW_meas HST.out hm.2.2.1 hm.2.2.2.1 hm.2.2.2.2 rest.length
        have HR2 := hid (show walkF k s.inodes st' (l ++ rest) follow = res by rw [← HR1.out, if_pos rfl])
        have HM2 := hid (show mW st' (l ++ rest).length < k ∧ st'.kept.length + mW st' (l ++ rest).length ≤ 10000 ∧ 1 ≤ st'.kept.length ∧ 0 ≤ st'.loops ∧ st'.loops ≤ 8 by
          rw [List.length_append]
          simp only [List.length_cons] at hm
          exact ⟨by omega, by omega, hmm.2.2.1, hmm.1, hmm.2.1⟩)
        have hle : l.length + rest.length ≤ 10000 := by have := HM2.out.2.1; rw [List.length_append] at this; unfold mW at this; omega
        have HB1 := hid (show (([] : List ByteArray).length + l.length) * 16 ≤ 140737488355328 by simp; omega)
        have HB2 := hid (show (([] ++ l : List ByteArray).length + rest.length) * 16 ≤ 140737488355328 by simp; omega)
        have HL2 := hid (show ([] ++ l ++ rest : List ByteArray).length ≤ 9223372036854775807 by simp; omega)
        clear hmm hle hf' hm
        cases follow
        · have hd : decide (0 < n) = f' := by rw [← HF.out, HNR.out]; simp
          go_wp2_with (first
            | (go_at_call 97; refine KS.out.mono ?_; rintro e w4 ⟨A9, c9, K', cK', h5, rfl, k9, r9, I9, X9⟩; rw [HST.out] at k9 r9 I9; dsimp only at k9 r9 I9; rw [HST.out]; dsimp only; have k9 := hid k9; have r9 := hid r9; have I9 := hid I9; have E9 := hid (X9.lift E.out (fun k hk => by cases hk; exact hwgw.out)); have l9 := hid X9.le; clear X9)
              | (at_builtin; refine wpList_appendR rfl _ _ 95 rfl w4.heap.size 9 16 ty_Str (.slice none 0 0) [] l rfl (OwnL.nil _ _ _ _) E9.out.sits _ _ _ rfl rfl r9.out HB1.out (by decide) (Nat.le_refl _) ?_; intro v5 w5 O5 hg5 _; have F5 := hid ((Ext.refl E9.out.sits).grown hg5 (fun k hk => by cases hk)); have O5 := hid O5; clear hg5)
            | (at_builtin; refine wpList_appendR rfl _ _ 95 rfl w4.heap.size 9 16 ty_Str _ _ rest rfl O5.out F5.out.sits _ _ _ rfl HNR.out.symm (HN.out.mono l9.out) HB2.out (by decide) F5.out.size ?_; intro v6 w6 O6 hg6 _; have F6 := F5.out.grown hg6 (fun k hk => ⟨(O5.out.lt k hk).1, O5.out.free k hk⟩); obtain ⟨h6, A6', c6', hv6, r6, l6, F12, u0, u1, u2, f6⟩ := O6.stayX F6 (Nat.le_refl _) HL2.out; subst hv6; have I11 := hid (I9.out.more F12); have k6 := hid (show CapLe A6' ([] ++ l ++ rest).length c6' from ⟨u0, u2, u1⟩); have r6 := hid r6; have E12 := hid (E9.out.trans F12); clear u0 u1 u2 f6 l6 hg6 F12 F6 O6))
          go_roundg k
          case rel => exact ⟨st', l ++ rest, A6', c6', h6, K', cK', by rw [List.length_append], HR2, HM2, k6, r6, I11, E12⟩
          case measure => exact Nat.lt_succ_self _
        · have hd : f' = true := HF.out.symm
          subst hd
          go_wp2_with (first
            | (go_at_call 97; refine KS.out.mono ?_; rintro e w4 ⟨A9, c9, K', cK', h5, rfl, k9, r9, I9, X9⟩; rw [HST.out] at k9 r9 I9; dsimp only at k9 r9 I9; rw [HST.out]; dsimp only; have k9 := hid k9; have r9 := hid r9; have I9 := hid I9; have E9 := hid (X9.lift E.out (fun k hk => by cases hk; exact hwgw.out)); have l9 := hid X9.le; clear X9)
            | (at_builtin; refine wpList_appendR rfl _ _ 95 rfl w4.heap.size 9 16 ty_Str (.slice none 0 0) [] l rfl (OwnL.nil _ _ _ _) E9.out.sits _ _ _ rfl rfl r9.out HB1.out (by decide) (Nat.le_refl _) ?_; intro v5 w5 O5 hg5 _; have F5 := hid ((Ext.refl E9.out.sits).grown hg5 (fun k hk => by cases hk)); have O5 := hid O5; clear hg5)
            | (at_builtin; refine wpList_appendR rfl _ _ 95 rfl w4.heap.size 9 16 ty_Str _ _ rest rfl O5.out F5.out.sits _ _ _ rfl HNR.out.symm (HN.out.mono l9.out) HB2.out (by decide) F5.out.size ?_; intro v6 w6 O6 hg6 _; have F6 := F5.out.grown hg6 (fun k hk => ⟨(O5.out.lt k hk).1, O5.out.free k hk⟩); obtain ⟨h6, A6', c6', hv6, r6, l6, F12, u0, u1, u2, f6⟩ := O6.stayX F6 (Nat.le_refl _) HL2.out; subst hv6; have I11 := hid (I9.out.more F12); have k6 := hid (show CapLe A6' ([] ++ l ++ rest).length c6' from ⟨u0, u2, u1⟩); have r6 := hid r6; have E12 := hid (E9.out.trans F12); clear u0 u1 u2 f6 l6 hg6 F12 F6 O6))
          go_roundg k
          case rel => exact ⟨st', l ++ rest, A6', c6', h6, K', cK', by rw [List.length_append], HR2, HM2, k6, r6, I11, E12⟩
          case measure => exact Nat.lt_succ_self _
      · have HQ := hid (show res = (0, code) by rw [← HR1.out, if_neg hcode])
        have hb : (code == 0) = false := by simpa using hcode
        have hb2 : (code != 0) = true := by simpa using hcode
        clear hcode hf' hm
        cases follow
        · have hd : decide (0 < n) = f' := by rw [← HF.out, HNR.out]; simp
          go_wp2_with (go_at_call 97; refine KS.out.mono ?_; rintro e w4 ⟨A9, c9, K', cK', h5, rfl, k9, r9, I9, X9⟩; rw [HST.out] at k9 r9 I9; dsimp only at k9 r9 I9; rw [HST.out]; dsimp only; have k9 := hid k9; have r9 := hid r9; have I9 := hid I9; have E9 := hid (X9.lift E.out (fun k hk => by cases hk; exact hwgw.out)); clear X9)
          go_ret2
          exact ⟨by rw [HQ.out]; rfl, E9.out.back⟩
        · have hd : f' = true := HF.out.symm
          subst hd
          go_wp2_with (go_at_call 97; refine KS.out.mono ?_; rintro e w4 ⟨A9, c9, K', cK', h5, rfl, k9, r9, I9, X9⟩; rw [HST.out] at k9 r9 I9; dsimp only at k9 r9 I9; rw [HST.out]; dsimp only; have k9 := hid k9; have r9 := hid r9; have I9 := hid I9; have E9 := hid (X9.lift E.out (fun k hk => by cases hk; exact hwgw.out)); clear X9)
          go_ret2
          exact ⟨by rw [HQ.out]; rfl, E9.out.back⟩
end Go.Proofs.Ytkglaofiencfdaa
