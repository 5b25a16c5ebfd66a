import Derived.Test.YtkglaofiencfdaaBxA
import Derived.Test.YtkglaofiencfdaaEntOps
import Derived.Test.YtkglaofiencfdaaPkN
namespace Go.Proofs.Ytkglaofiencfdaa
open Go.RowKit Go.Sort
set_option linter.unusedVariables false
/-! ### package tree: right, put, without, letGo -/
theorem right_facts {t : ByteArray} (hc : partsCode t = 0) : noZero t = true ∧ 1 ≤ t.size := by
  have hs : (partsP t).isSome = true := by
    unfold partsCode at hc
    by_cases h : (partsP t).isSome = true
    · exact h
    · rw [if_neg h] at hc; exact absurd hc (by decide)
  unfold partsP at hs
  by_cases h1 : t.size < 1 ∨ 400 < t.size
  · rw [if_pos h1] at hs; cases hs
  · rw [if_neg h1] at hs
    refine ⟨?_, by omega⟩
    cases hz : noZero t with
    | true => rfl
    | false =>
      exfalso
      unfold noZero at hz
      rw [List.all_eq_false] at hz
      obtain ⟨c, hc1, hc2⟩ := hz
      have hc0 : c = 0 := by simpa using hc2
      subst hc0
      rw [parts_zero hc1] at hs
      cases hs
theorem right_iff (t : ByteArray) : (targetB t = true ∧ partsCode t = 0) ↔ (partsCode t = 0 ∧ t.size ≤ 200) := by
  constructor
  · rintro ⟨h1, h2⟩
    unfold targetB at h1
    simp only [Bool.and_eq_true, decide_eq_true_eq] at h1
    exact ⟨h2, by omega⟩
  · rintro ⟨h1, h2⟩
    obtain ⟨h3, h4⟩ := right_facts h1
    refine ⟨?_, h1⟩
    unfold targetB
    rw [h3]
    simp only [Bool.true_and, Bool.and_eq_true, decide_eq_true_eq]
    omega
/-- A directory without a name. -/
def withoutP (d : Inode) (name : ByteArray) : Inode := if remC d.entries name = 0 then { d with entries := remE d.entries name } else d
def RetInode (h : FH) (w : World) (d : Inode) (e : Ending) (w' : World) : Prop := ∃ A5 c5 A6 c6 h1, e = .returned (.agg #[.int .i64 d.no, .int .i64 d.kind, .int .i64 d.links, .int .i64 d.size, .string d.target, .slice A5 d.entries.length c5, .slice A6 d.runs.length c6]) ∧ repInode h1 [.int .i64 d.no, .int .i64 d.kind, .int .i64 d.links, .int .i64 d.size, .string d.target, .slice A5 d.entries.length c5, .slice A6 d.runs.length c6] d ∧ Ext h w h1 w'
theorem remE_lenT (xs : List Entry) (s : ByteArray) : (remE xs s).length ≤ xs.length := by
  unfold remE
  split
  · simp; omega
  · simp
def letGoP (x : Inode) (open_ : List Int) : Deed := if x.links ≤ 1 ∧ open_.any (eqZ x.no) = false then ⟨3, x.no, zeroI⟩ else ⟨2, 0, { x with links := max (x.links - 1) 0 }⟩
/-- A deed. -/
def RetDeed (h : FH) (w : World) (d : Deed) (e : Ending) (w' : World) : Prop := ∃ A5 c5 A6 c6, e = .returned (.agg #[.int .i64 d.kind, .int .i64 d.no, .int .i64 d.inode.no, .int .i64 d.inode.kind, .int .i64 d.inode.links, .int .i64 d.inode.size, .string d.inode.target, .slice A5 d.inode.entries.length c5, .slice A6 d.inode.runs.length c6]) ∧ repInode h [.int .i64 d.inode.no, .int .i64 d.inode.kind, .int .i64 d.inode.links, .int .i64 d.inode.size, .string d.inode.target, .slice A5 d.inode.entries.length c5, .slice A6 d.inode.runs.length c6] d.inode ∧ Ext h w h w'
end Go.Proofs.Ytkglaofiencfdaa

namespace Go.Proofs.Ytkglaofiencfdaa
open Go.RowKit Go.Sort
set_option linter.unusedVariables false
/-! ### package tree: find, there, fresh -/
structure Spot where
  dir : Inode
  name : ByteArray
  x : Inode
  is : Bool
def zeroSpot : Spot := ⟨zeroI, ⟨#[]⟩, zeroI, false⟩
/-- A spot, in the memory. -/
def repSpot (h : FH) (cs : List Value) (p : Spot) : Prop := ∃ dl xl, cs = spotL dl p.name xl p.is ∧ repInode h dl p.dir ∧ repInode h xl p.x ∧ p.name.size ≤ 9223372036854775807
theorem repSpot.mono {h h' : FH} {cs : List Value} {p : Spot} (l : FLe h h') (r : repSpot h cs p) : repSpot h' cs p := by
  obtain ⟨dl, xl, e, r1, r2, r3⟩ := r
  exact ⟨dl, xl, e, r1.mono l, r2.mono l, r3⟩
theorem repSpot.len {h : FH} {cs : List Value} {p : Spot} (r : repSpot h cs p) : cs.length = 16 := by
  obtain ⟨dl, xl, rfl, r1, r2, r3⟩ := r
  exact spotL_len r1.len r2.len _ _
theorem repSpot.one {h : FH} {cs : List Value} {p : Spot} (r : repSpot h cs p) : ∀ u ∈ cs, u.oneCell' = true := by
  obtain ⟨dl, xl, rfl, r1, r2, r3⟩ := r
  exact spotL_one r1.one r2.one _ _
/-- Where a way's last name stands. -/
def RetSpot (h : FH) (w : World) (p : Spot) (code : Int) (e : Ending) (w' : World) : Prop := ∃ cs h1, e = .returned (.tuple #[.agg cs.toArray, .int .i64 code]) ∧ repSpot h1 cs p ∧ Ext h w h1 w'
def atS (xs : List Inode) (no : Int) (name : ByteArray) : Spot :=
  match findE ((findI xs no).getD zeroI).entries name with
  | none => ⟨(findI xs no).getD zeroI, name, zeroI, false⟩
  | some to_ => ⟨(findI xs no).getD zeroI, name, (findI xs to_).getD zeroI, (findI xs to_).isSome⟩
def findS (xs : List Inode) (path : ByteArray) : Spot × Int :=
  if (parentP xs path).2.2 ≠ 0 then (zeroSpot, (parentP xs path).2.2) else (atS xs (parentP xs path).1 (parentP xs path).2.1, 0)
theorem zeroSpot_rep (h : FH) : repSpot h (spotL zeroL ⟨#[]⟩ zeroL false) zeroSpot := ⟨zeroL, zeroL, rfl, zeroL_rep h, zeroL_rep h, Nat.zero_le _⟩

end Go.Proofs.Ytkglaofiencfdaa

namespace Go.Proofs.Ytkglaofiencfdaa
open Go.RowKit Go.Sort
set_option linter.unusedVariables false
theorem repSpot.dir {h : FH} {cs : List Value} {p : Spot} (r : repSpot h cs p) : ∃ dl : List Value, repInode h dl p.dir ∧ ∀ (j : Nat) (v : Value), dl[j]? = some v → cs.toArray[j]? = some v := by
  obtain ⟨dl, xl, rfl, r1, r2, r3⟩ := r
  exact ⟨dl, r1, spotL_dir⟩
theorem repSpot.xx {h : FH} {cs : List Value} {p : Spot} (r : repSpot h cs p) : ∃ xl : List Value, repInode h xl p.x ∧ ∀ (j : Nat) (v : Value), xl[j]? = some v → cs.toArray[8 + j]? = some v := by
  obtain ⟨dl, xl, rfl, r1, r2, r3⟩ := r
  exact ⟨xl, r2, spotL_x r1.len⟩
theorem repSpot.nm {h : FH} {cs : List Value} {p : Spot} (r : repSpot h cs p) : cs.toArray[7]? = some (.string p.name) ∧ p.name.size ≤ 9223372036854775807 := by
  obtain ⟨dl, xl, rfl, r1, r2, r3⟩ := r
  exact ⟨spotL_name r1.len, r3⟩
theorem repSpot.iss {h : FH} {cs : List Value} {p : Spot} (r : repSpot h cs p) : cs.toArray[15]? = some (.bool p.is) := by
  obtain ⟨dl, xl, rfl, r1, r2, r3⟩ := r
  exact spotL_is r1.len r2.len
theorem zs_size {h : FH} {cs : List Value} {p : Spot} (r : repSpot h cs p) : (#[.int .i64 0, .int .i64 0, .int .i64 0, .int .i64 0, .string ⟨#[]⟩, .slice none 0 0, .slice none 0 0, .string ⟨#[]⟩, .int .i64 0, .int .i64 0, .int .i64 0, .int .i64 0, .string ⟨#[]⟩, .slice none 0 0, .slice none 0 0, .bool false] : Array Value).size = cs.toArray.size := by refine Eq.trans (b := 16) rfl ?_; rw [List.size_toArray, r.len]
/-- put, without, letGo: their cells behind letters. -/
theorem putL_rep {h : FH} {cs : List Value} {x : Inode} (r : repInode h cs x) : repDeed h (.int .i64 2 :: .int .i64 0 :: cs) ⟨2, 0, x⟩ := by
  obtain ⟨A5, c5, A6, c6, rfl, s⟩ := r
  exact ⟨A5, c5, A6, c6, rfl, s⟩
def thereS (xs : List Inode) (path : ByteArray) : Spot × Int := if (findS xs path).2 = 0 ∧ (findS xs path).1.is = false then ((findS xs path).1, 11) else findS xs path
def freshS (xs : List Inode) (path : ByteArray) : Spot × Int := if (findS xs path).2 ≠ 0 then findS xs path else if (findE (findS xs path).1.dir.entries (findS xs path).1.name).isSome = true then ((findS xs path).1, 12) else ((findS xs path).1, 0)

end Go.Proofs.Ytkglaofiencfdaa

namespace Go.Proofs.Ytkglaofiencfdaa
open Go.RowKit Go.Sort
set_option linter.unusedVariables false
theorem BoxU.set1 {w0 : World} {h : FH} {w : World} {g : Nat} {cs : List Value} {T : TypeId} (b : BoxU w0 h w g cs.toArray T) (i : Nat) (v : Value) : BoxU w0 h (w.setCell ⟨g, i, none⟩ v) g (cs.set i v).toArray T :=
  ⟨by have q := box_set (i := i) b.row v; rwa [List.setIfInBounds_toArray] at q, b.free, b.base⟩
theorem BoxU.wr1 {w0 : World} {h h1 : FH} {w : World} {g : Nat} {cs : Array Value} {T : TypeId} (b : BoxU w0 h1 w g cs T) (E : Ext h w0 h1 w) (i : Nat) (v : Value) : Ext h w0 h1 (w.setCell ⟨g, i, none⟩ v) := E.setCell (p := ⟨g, i, none⟩) b.base b.free v
theorem BoxU.other1 {w0 : World} {h : FH} {w : World} {g k : Nat} {cs : Array Value} {T : TypeId} (b : BoxU w0 h w g cs T) (hne : g ≠ k) (i : Nat) (v : Value) : BoxU w0 h (w.setCell ⟨k, i, none⟩ v) g cs T := ⟨box_other b.row hne v, b.free, b.base⟩
theorem list_set_same {α : Type} {l : List α} {i : Nat} {v : α} (h : l[i]? = some v) : l.set i v = l := by
  apply List.ext_getElem?
  intro j
  rw [List.getElem?_set]
  by_cases e : i = j
  · subst e; rw [if_pos rfl, h, if_pos (List.getElem?_eq_some_iff.1 h).1]
  · rw [if_neg e]
theorem repSpot.setEnt {h : FH} {cs : List Value} {p : Spot} (r : repSpot h cs p) {A : Option Addr} {c : Nat} {l : List Entry} (k : CapLe A l.length c) (ra : RowAt h A l) : repSpot h (cs.set 5 (.slice A l.length c)) ⟨{ p.dir with entries := l }, p.name, p.x, p.is⟩ := by
  obtain ⟨dl, xl, rfl, r1, r2, r3⟩ := r
  refine ⟨dl.set 5 (.slice A l.length c), xl, ?_, r1.setEnt k ra, r2, r3⟩
  unfold spotL
  rw [List.set_append, if_pos (by rw [r1.len]; decide)]
theorem repSpot.setLinks {h : FH} {cs : List Value} {p : Spot} (r : repSpot h cs p) (n : Int) : repSpot h (cs.set 2 (.int .i64 n)) ⟨{ p.dir with links := n }, p.name, p.x, p.is⟩ := by
  obtain ⟨dl, xl, rfl, r1, r2, r3⟩ := r
  refine ⟨dl.set 2 (.int .i64 n), xl, ?_, r1.setLinks n, r2, r3⟩
  unfold spotL
  rw [List.set_append, if_pos (by rw [r1.len]; decide)]
theorem atS_dir (xs : List Inode) (no : Int) (name : ByteArray) : (atS xs no name).dir = (findI xs no).getD zeroI ∧ (atS xs no name).name = name := by
  unfold atS; split <;> exact ⟨rfl, rfl⟩
theorem freshS_of {xs : List Inode} {path : ByteArray} {no : Int} {name : ByteArray} {c : Int} (hp : parentP xs path = (no, name, c)) : freshS xs path = if c ≠ 0 then (zeroSpot, c) else if (findE ((findI xs no).getD zeroI).entries name).isSome = true then (atS xs no name, 12) else (atS xs no name, 0) := by
  unfold freshS findS
  rw [hp]
  by_cases hc : c = 0
  · subst hc
    simp only [ne_eq, not_true_eq_false, if_false]
    rw [(atS_dir xs no name).1, (atS_dir xs no name).2]
  · simp only [ne_eq, hc, not_false_eq_true, if_true]

end Go.Proofs.Ytkglaofiencfdaa

namespace Go.Proofs.Ytkglaofiencfdaa
open Go.RowKit Go.Sort
set_option linter.unusedVariables false
/-- Deeds, and why not. -/
def RetDC (h : FH) (w : World) (r : List Deed × Int) (e : Ending) (w' : World) : Prop := ∃ A c h1, e = .returned (.tuple #[.slice A r.1.length c, .int .i64 r.2]) ∧ CapLe A r.1.length c ∧ RowAt h1 A r.1 ∧ Ext h w h1 w'
theorem zi_size {h : FH} {cs : List Value} {x : Inode} (r : repInode h cs x) : (#[.int .i64 0, .int .i64 0, .int .i64 0, .int .i64 0, .string ⟨#[]⟩, .slice none 0 0, .slice none 0 0] : Array Value).size = cs.toArray.size := by refine Eq.trans (b := 7) rfl ?_; rw [List.size_toArray, r.len]
theorem findI_all {Q : Inode → Prop} {xs : List Inode} (h0 : Q zeroI) (hq : ∀ x ∈ xs, Q x) (no : Int) : Q ((findI xs no).getD zeroI) := by
  cases h : findI xs no with
  | none => exact h0
  | some x => exact hq x (mem_of_findI h)
theorem findS_all {Q : Inode → Prop} {xs : List Inode} (h0 : Q zeroI) (hq : ∀ x ∈ xs, Q x) (path : ByteArray) : Q (findS xs path).1.dir ∧ Q (findS xs path).1.x := by
  unfold findS
  split
  · exact ⟨h0, h0⟩
  · unfold atS
    split
    · exact ⟨findI_all h0 hq _, h0⟩
    · exact ⟨findI_all h0 hq _, findI_all h0 hq _⟩
theorem thereS_all {Q : Inode → Prop} {xs : List Inode} (h0 : Q zeroI) (hq : ∀ x ∈ xs, Q x) (path : ByteArray) : Q (thereS xs path).1.dir ∧ Q (thereS xs path).1.x := by
  unfold thereS; split <;> exact findS_all h0 hq path
theorem freshS_all {Q : Inode → Prop} {xs : List Inode} (h0 : Q zeroI) (hq : ∀ x ∈ xs, Q x) (path : ByteArray) : Q (freshS xs path).1.dir ∧ Q (freshS xs path).1.x := by
  unfold freshS; split
  · exact findS_all h0 hq path
  · split <;> exact findS_all h0 hq path
def linkT (s : State) (x : Inode) (no : Int) (f : Spot × Int) : List Deed × Int :=
  if f.2 ≠ 0 then ([], f.2)
  else if 100 ≤ x.links then ([], 18)
  else if addC f.1.dir.entries ⟨f.1.name, no⟩ ≠ 0 then ([], addC f.1.dir.entries ⟨f.1.name, no⟩)
  else ([putD { f.1.dir with entries := addL f.1.dir.entries ⟨f.1.name, no⟩ }, putD { x with links := x.links + 1 }], 0)
def linkF (s : State) (v : Option Inode) (no : Int) (way : ByteArray) : List Deed × Int := match v with
    | none => ([], 11)
    | some x => if x.kind = 2 then ([], 14) else linkT s x no (freshS s.inodes way)
def linkP (s : State) (old way : ByteArray) : List Deed × Int :=
  if (resolveP s.inodes old false).2 ≠ 0 then ([], (resolveP s.inodes old false).2)
  else linkF s (findI s.inodes (resolveP s.inodes old false).1) (resolveP s.inodes old false).1 way
end Go.Proofs.Ytkglaofiencfdaa

namespace Go.Proofs.Ytkglaofiencfdaa
open Go.RowKit Go.Sort
set_option linter.unusedVariables false
theorem withoutP_mid {d : Inode} {name : ByteArray} (h : midI d) : midI (withoutP d name) := by
  unfold withoutP
  split
  · exact ⟨Nat.le_trans (remE_lenT _ _) h.1, h.2⟩
  · exact h
theorem deed_repT {h : FH} {d : Deed} {A5 A6 : Option Addr} {c5 c6 : Nat} (r : repInode h [.int .i64 d.inode.no, .int .i64 d.inode.kind, .int .i64 d.inode.links, .int .i64 d.inode.size, .string d.inode.target, .slice A5 d.inode.entries.length c5, .slice A6 d.inode.runs.length c6] d.inode) : repDeed h (.int .i64 d.kind :: .int .i64 d.no :: [.int .i64 d.inode.no, .int .i64 d.inode.kind, .int .i64 d.inode.links, .int .i64 d.inode.size, .string d.inode.target, .slice A5 d.inode.entries.length c5, .slice A6 d.inode.runs.length c6]) d := by
  obtain ⟨B5, b5, B6, b6, hq, s1⟩ := r
  injection hq with a1 hq; injection hq with a2 hq; injection hq with a3 hq; injection hq with a4 hq; injection hq with a5 hq; injection hq with a6 hq; injection hq with a7 hq
  injection a6 with b1 b2 b3; injection a7 with b4 b5 b6
  subst b1; subst b3; subst b4; subst b6
  exact ⟨_, _, _, _, rfl, s1⟩
def unlinkP (s : State) (path : ByteArray) (os : List Int) : List Deed × Int :=
  if (thereS s.inodes path).2 ≠ 0 then ([], (thereS s.inodes path).2)
  else if (thereS s.inodes path).1.x.kind = 2 then ([], 14)
  else ([putD (withoutP (thereS s.inodes path).1.dir (thereS s.inodes path).1.name), letGoP (thereS s.inodes path).1.x os], 0)
def rmdirP (s : State) (path : ByteArray) : List Deed × Int :=
  if (thereS s.inodes path).2 ≠ 0 then ([], (thereS s.inodes path).2)
  else if (thereS s.inodes path).1.x.kind ≠ 2 then ([], 13)
  else if 0 < (thereS s.inodes path).1.x.entries.length then ([], 15)
  else ([putD { withoutP (thereS s.inodes path).1.dir (thereS s.inodes path).1.name with links := (withoutP (thereS s.inodes path).1.dir (thereS s.inodes path).1.name).links - 1 }, ⟨3, (thereS s.inodes path).1.x.no, zeroI⟩], 0)

end Go.Proofs.Ytkglaofiencfdaa

namespace Go.Proofs.Ytkglaofiencfdaa
open Go.RowKit Go.Sort
set_option linter.unusedVariables false
end Go.Proofs.Ytkglaofiencfdaa
