import Derived.Test.YtdiaibkpcnknbaaDoorRefSt
import Derived.Test.YtdiaibkpcnknbaaDoorRefParts
namespace Go.Proofs.YtdiaibkpcnknbaaDoor
open Go.RowKit Go.Sort
set_option linter.unusedVariables false
/-! ### where a way leads -/
structure Wk where
  kept : List Int
  at_ : Int
  loops : Int
def backK (k : List Int) : List Int := if 1 < k.length then k.dropLast else k
/-- An inode that a name leads to. -/
def follW (st : Wk) (y : Inode) (no : Int) (follow : Bool) : Wk × List ByteArray × Int :=
  if y.kind = 3 ∧ follow = true then
    if 8 ≤ st.loops then (st, [], 16)
    else if partsCode y.target ≠ 0 then (⟨st.kept, st.at_, st.loops + 1⟩, [], partsCode y.target)
    else (if partsTop y.target = true then ⟨[1], 1, st.loops + 1⟩ else ⟨st.kept, st.at_, st.loops + 1⟩, partsXs y.target, 0)
  else (⟨if y.kind = 2 then st.kept ++ [no] else st.kept, no, st.loops⟩, [], 0)
/-- A name: where one stands then, what comes ahead, and why not. -/
def stepW (xs : List Inode) (st : Wk) (name : ByteArray) (follow : Bool) : Wk × List ByteArray × Int :=
  match findI xs st.at_ with
  | none => (st, [], 11)
  | some x =>
    if x.kind = 2 then
      if (name.toList == [46, 46]) = true then (⟨backK st.kept, (backK st.kept).getLast?.getD 0, st.loops⟩, [], 0)
      else match findE x.entries name with
        | none => (st, [], 11)
        | some no => match findI xs no with
          | none => (st, [], 11)
          | some y => follW st y no follow
    else (st, [], 13)
theorem stepW_none {xs : List Inode} {st : Wk} {name : ByteArray} {follow : Bool} (h : findI xs st.at_ = none) : stepW xs st name follow = (st, [], 11) := by unfold stepW; rw [h]
theorem stepW_file {xs : List Inode} {st : Wk} {name : ByteArray} {follow : Bool} {x : Inode} (h : findI xs st.at_ = some x) (hk : ¬ x.kind = 2) : stepW xs st name follow = (st, [], 13) := by unfold stepW; rw [h]; simp [hk]
theorem stepW_up {xs : List Inode} {st : Wk} {name : ByteArray} {follow : Bool} {x : Inode} (h : findI xs st.at_ = some x) (hk : x.kind = 2) (hq : (name.toList == [46, 46]) = true) : stepW xs st name follow = (⟨backK st.kept, (backK st.kept).getLast?.getD 0, st.loops⟩, [], 0) := by unfold stepW; rw [h]; simp only [hk, hq, if_true]
theorem stepW_noE {xs : List Inode} {st : Wk} {name : ByteArray} {follow : Bool} {x : Inode} (h : findI xs st.at_ = some x) (hk : x.kind = 2) (hq : (name.toList == [46, 46]) = false) (he : findE x.entries name = none) : stepW xs st name follow = (st, [], 11) := by unfold stepW; rw [h]; simp [hk, hq, he]
theorem stepW_noI {xs : List Inode} {st : Wk} {name : ByteArray} {follow : Bool} {x : Inode} (h : findI xs st.at_ = some x) (hk : x.kind = 2) (hq : (name.toList == [46, 46]) = false) {no : Int} (he : findE x.entries name = some no) (hi : findI xs no = none) : stepW xs st name follow = (st, [], 11) := by unfold stepW; rw [h]; simp [hk, hq, he, hi]
theorem stepW_some {xs : List Inode} {st : Wk} {name : ByteArray} {follow : Bool} {x y : Inode} (h : findI xs st.at_ = some x) (hk : x.kind = 2) (hq : (name.toList == [46, 46]) = false) {no : Int} (he : findE x.entries name = some no) (hi : findI xs no = some y) : stepW xs st name follow = follW st y no follow := by unfold stepW; rw [h]; simp [hk, hq, he, hi]
theorem follW_loop {st : Wk} {y : Inode} {no : Int} (hk : y.kind = 3) (h8 : 8 ≤ st.loops) : follW st y no true = (st, [], 16) := by unfold follW; rw [if_pos ⟨hk, rfl⟩, if_pos h8]
theorem follW_bad {st : Wk} {y : Inode} {no : Int} (hk : y.kind = 3) (h8 : ¬ 8 ≤ st.loops) (hc : partsCode y.target ≠ 0) : follW st y no true = (⟨st.kept, st.at_, st.loops + 1⟩, [], partsCode y.target) := by unfold follW; rw [if_pos ⟨hk, rfl⟩, if_neg h8, if_pos hc]
theorem follW_top {st : Wk} {y : Inode} {no : Int} (hk : y.kind = 3) (h8 : ¬ 8 ≤ st.loops) (hc : partsCode y.target = 0) (ht : partsTop y.target = true) : follW st y no true = (⟨[1], 1, st.loops + 1⟩, partsXs y.target, 0) := by unfold follW; rw [if_pos ⟨hk, rfl⟩, if_neg h8, if_neg (by simp [hc]), if_pos ht]
theorem follW_from {st : Wk} {y : Inode} {no : Int} (hk : y.kind = 3) (h8 : ¬ 8 ≤ st.loops) (hc : partsCode y.target = 0) (ht : partsTop y.target = false) : follW st y no true = (⟨st.kept, st.at_, st.loops + 1⟩, partsXs y.target, 0) := by unfold follW; rw [if_pos ⟨hk, rfl⟩, if_neg h8, if_neg (by simp [hc]), if_neg (by simp [ht])]
theorem follW_dir {st : Wk} {y : Inode} {no : Int} {follow : Bool} (hk : y.kind = 2) : follW st y no follow = (⟨st.kept ++ [no], no, st.loops⟩, [], 0) := by unfold follW; rw [if_neg (by rw [hk]; simp), if_pos hk]
theorem follW_plain {st : Wk} {y : Inode} {no : Int} {follow : Bool} (hn : ¬ (y.kind = 3 ∧ follow = true)) (hk : ¬ y.kind = 2) : follW st y no follow = (⟨st.kept, no, st.loops⟩, [], 0) := by unfold follW; rw [if_neg hn, if_neg hk]
theorem backK_len (k : List Int) (h : 1 ≤ k.length) : 1 ≤ (backK k).length ∧ (backK k).length ≤ k.length := by
  unfold backK; split
  · rw [List.length_dropLast]; omega
  · omega
/-! ### an inode in a box that stays -/
def InBox (h : FH) (w : World) (h0 : FH) (x : Inode) (p : Value) (wx : World) : Prop := ∃ (g : Nat) (h3 : FH) (A5 : Option Addr) (c5 : Nat) (A6 : Option Addr) (c6 : Nat), p = .pointer (some ⟨g, 0, none⟩) ∧ Ext h w h3 wx ∧ FLe h0 h3 ∧ h3 g = some (.cells #[.int .i64 x.no, .int .i64 x.kind, .int .i64 x.links, .int .i64 x.size, .string x.target, .slice A5 x.entries.length c5, .slice A6 x.runs.length c6] 51 (0, 0)) ∧ repInode h3 [.int .i64 x.no, .int .i64 x.kind, .int .i64 x.links, .int .i64 x.size, .string x.target, .slice A5 x.entries.length c5, .slice A6 x.runs.length c6] x ∧ w.heap.size ≤ g
theorem InBox.last {h h0 h2 : FH} {w w2 : World} {x : Inode} {A5 A6 : Option Addr} {c5 c6 : Nat} (E : Ext h w h2 w2) (l : FLe h0 h2) (r : repInode h2 [.int .i64 x.no, .int .i64 x.kind, .int .i64 x.links, .int .i64 x.size, .string x.target, .slice A5 x.entries.length c5, .slice A6 x.runs.length c6] x) : InBox h w h0 x (.pointer (some ⟨w2.heap.size, 0, none⟩)) (w2.alloc (.cells #[.int .i64 x.no, .int .i64 x.kind, .int .i64 x.links, .int .i64 x.size, .string x.target, .slice A5 x.entries.length c5, .slice A6 x.runs.length c6] 51)) := by
  obtain ⟨h3, E3, hb, le, _⟩ := E.boxF #[.int .i64 x.no, .int .i64 x.kind, .int .i64 x.links, .int .i64 x.size, .string x.target, .slice A5 x.entries.length c5, .slice A6 x.runs.length c6] 51
  exact ⟨_, h3, A5, c5, A6, c6, rfl, E3, l.trans le, hb, r.mono le, E.size⟩
theorem InBox.set {h h0 h2 : FH} {w w2 : World} {x : Inode} {A5 A6 : Option Addr} {c5 c6 : Nat} {g : Nat} {cs : Array Value} (E : Ext h w h2 w2) (l : FLe h0 h2) (r : repInode h2 [.int .i64 x.no, .int .i64 x.kind, .int .i64 x.links, .int .i64 x.size, .string x.target, .slice A5 x.entries.length c5, .slice A6 x.runs.length c6] x) (hb : w2.heap[g]? = some (.cells cs 51 (0, 0))) (hc : cs.size = 7) (hn : h2 g = none) (hg : w.heap.size ≤ g) : InBox h w h0 x (.pointer (some ⟨g, 0, none⟩)) (((((((w2.setCell ⟨g, 0, none⟩ (.int .i64 x.no)).setCell ⟨g, 1, none⟩ (.int .i64 x.kind)).setCell ⟨g, 2, none⟩ (.int .i64 x.links)).setCell ⟨g, 3, none⟩ (.int .i64 x.size)).setCell ⟨g, 4, none⟩ (.string x.target)).setCell ⟨g, 5, none⟩ (.slice A5 x.entries.length c5)).setCell ⟨g, 6, none⟩ (.slice A6 x.runs.length c6)) := by
  have E7 := Ext.setCells (g := g) hg hn [.int .i64 x.no, .int .i64 x.kind, .int .i64 x.links, .int .i64 x.size, .string x.target, .slice A5 x.entries.length c5, .slice A6 x.runs.length c6] 0 _ E
  have R7 := setCells_row [.int .i64 x.no, .int .i64 x.kind, .int .i64 x.links, .int .i64 x.size, .string x.target, .slice A5 x.entries.length c5, .slice A6 x.runs.length c6] hb (by simp [hc])
  exact ⟨g, _, A5, c5, A6, c6, rfl, E7.add R7 hn hg, l.trans (FLe.add hn _), FH.add_same _ _ _, r.mono (FLe.add hn _), hg⟩
/-- What a struct lies in. -/
theorem repInode.open {h : FH} {cs : List Value} {x : Inode} (r : repInode h cs x) : ∃ A5 c5 A6 c6, cs = [.int .i64 x.no, .int .i64 x.kind, .int .i64 x.links, .int .i64 x.size, .string x.target, .slice A5 x.entries.length c5, .slice A6 x.runs.length c6] := by
  obtain ⟨A5, c5, A6, c6, e, _⟩ := r; exact ⟨A5, c5, A6, c6, e⟩
theorem repInode.ent {h : FH} {x : Inode} {a b c d e : Value} {A5 A6 : Option Addr} {n5 c5 n6 c6 : Nat} (r : repInode h [a, b, c, d, e, .slice A5 n5 c5, .slice A6 n6 c6] x) : x.target.size ≤ 9223372036854775807 ∧ CapLe A5 x.entries.length c5 ∧ RowAt h A5 x.entries ∧ CapLe A6 x.runs.length c6 ∧ RowAt h A6 x.runs := by
  obtain ⟨B5, d5, B6, d6, hq, s0, s1, s2, s3, s4⟩ := r
  simp only [List.cons.injEq, Value.slice.injEq, and_true] at hq
  obtain ⟨_, _, _, _, _, ⟨rfl, _, rfl⟩, rfl, _, rfl⟩ := hq
  exact ⟨s0, s1, s2, s3, s4⟩
/-! ### the reference's walker -/
theorem OExt.set1 {h h1 : FH} {w w1 : World} {g : Nat} (X : OExt h w h1 w1 (some g)) (hn : h1 g = Option.none) (i : Nat) (v : Value) : OExt h w h1 (w1.setCell ⟨g, i, Option.none⟩ v) (some g) :=
  X.row (grown_set1 w1 g i v) (fun k hk => by cases hk; exact hn)
theorem OExt.ext {h h1 h2 : FH} {w w1 w2 : World} {row : Option Nat} (X : OExt h w h1 w1 row) (E : Ext h1 w1 h2 w2) : OExt h w h2 w2 row := X.trans (OExt.of E row)
theorem OExt.drewS {h h1 : FH} {w w1 : World} {row : Option Nat} (X : OExt h w h1 w1 row) : OExt h w h1 w1.drew row := ⟨X.le, X.sits, ⟨X.grown.os, X.grown.tape, X.grown.output, X.grown.size, X.grown.block⟩, X.fresh⟩
theorem ways_lenW (s : ByteArray) : (waysXs s).length ≤ 401 ∧ (partsXs s).length ≤ 401 := by
  have key : ∀ ks, partsP s = some ks → ks.length ≤ 401 := fun ks h => by
    unfold partsP at h
    split at h
    · cases h
    · have h1 := keepB_len h
      have h2 := splitB_len s
      have h3 := List.count_le_length (a := (47 : UInt8)) (l := s.data.toList)
      rw [Array.length_toList] at h3
      have h4 : s.data.size = s.size := rfl
      omega
  unfold waysXs waysP partsXs
  cases hp : partsP s with
  | none =>
    refine ⟨?_, by simp⟩
    split <;> simp
  | some ks =>
    have := key ks hp
    refine ⟨?_, by simpa using this⟩
    split
    · simpa using this
    · simp
theorem RetTri.stayX {α : Type} [Enc α] {h : FH} {w : World} {T : TypeId} {xs : List α} {top : Bool} {code : Int} {e : Ending} {w' : World} (R : RetTri h w T xs top code e w') (hlen : xs.length ≤ 9223372036854775807) :
    ∃ A c h1, e = .returned (.tuple #[.slice A xs.length c, .bool top, .int .i64 code]) ∧ CapLe A xs.length c ∧ RowAt h1 A xs ∧ Ext h w h1 w' := by
  obtain ⟨v, rfl, O, E⟩ := R
  obtain ⟨h1, A, c, rfl, r, l, E1, u0, u1, u2, f⟩ := O.stayX E (Nat.le_refl _) hlen
  exact ⟨A, c, h1, rfl, ⟨u0, u2, u1⟩, r, E1⟩
end Go.Proofs.YtdiaibkpcnknbaaDoor

namespace Go.Proofs.YtdiaibkpcnknbaaDoor
open Go.RowKit Go.Sort
set_option linter.unusedVariables false
end Go.Proofs.YtdiaibkpcnknbaaDoor

namespace Go.Proofs.YtdiaibkpcnknbaaDoor
open Go.RowKit Go.Sort
set_option linter.unusedVariables false
/-- Names, one by one: where that ends, and why not. -/
def walkF : Nat → List Inode → Wk → List ByteArray → Bool → Int × Int
  | 0, _, _, _, _ => (0, 99)
  | n + 1, xs, st, [], f => (st.at_, 0)
  | n + 1, xs, st, a :: names, f =>
    let r := stepW xs st a (f || decide (0 < names.length))
    if r.2.2 = 0 then walkF n xs r.1 (r.2.1 ++ names) f else (0, r.2.2)
def mW (st : Wk) (n : Nat) : Nat := (8 - st.loops).toNat * 402 + n
def st0 : Wk := ⟨[1], 1, 0⟩
def walkP (xs : List Inode) (names : List ByteArray) (f : Bool) : Int × Int := walkF (8 * 402 + names.length + 1) xs st0 names f
/-- What a step keeps. -/
theorem follW_meas {st st' : Wk} {y : Inode} {no : Int} {f : Bool} {l : List ByteArray} (h : follW st y no f = (st', l, 0)) (h1 : 1 ≤ st.kept.length) (h0 : 0 ≤ st.loops) (h8 : st.loops ≤ 8) (n : Nat) :
    0 ≤ st'.loops ∧ st'.loops ≤ 8 ∧ 1 ≤ st'.kept.length ∧ st'.kept.length ≤ st.kept.length + 1 ∧ mW st' (l.length + n) < mW st (n + 1) := by
  unfold follW at h
  split at h
  · split at h
    · simp at h
    · split at h
      · rename_i hc; simp only [Prod.mk.injEq] at h; exact absurd h.2.2 hc
      · rename_i h7 _
        have hp := (ways_lenW y.target).2
        simp only [Prod.mk.injEq] at h
        obtain ⟨e1, e2, _⟩ := h
        subst e2
        have hm : (8 - (st.loops + 1)).toNat * 402 + ((partsXs y.target).length + n) < (8 - st.loops).toNat * 402 + (n + 1) := by omega
        split at e1
        · subst e1; exact ⟨by simp only; omega, by simp only; omega, by simp, by simp, hm⟩
        · subst e1; exact ⟨by simp only; omega, by simp only; omega, h1, by simp, hm⟩
  · simp only [Prod.mk.injEq] at h
    obtain ⟨rfl, rfl, _⟩ := h
    refine ⟨h0, h8, ?_, ?_, by unfold mW; simp⟩
    · simp only; split
      · simp
      · exact h1
    · simp only; split
      · simp
      · omega
theorem stepW_meas {xs : List Inode} {st st' : Wk} {a : ByteArray} {f : Bool} {l : List ByteArray} (h : stepW xs st a f = (st', l, 0)) (h1 : 1 ≤ st.kept.length) (h0 : 0 ≤ st.loops) (h8 : st.loops ≤ 8) (n : Nat) :
    0 ≤ st'.loops ∧ st'.loops ≤ 8 ∧ 1 ≤ st'.kept.length ∧ st'.kept.length ≤ st.kept.length + 1 ∧ mW st' (l.length + n) < mW st (n + 1) := by
  unfold stepW at h
  split at h
  · simp at h
  · split at h
    · split at h
      · simp only [Prod.mk.injEq] at h
        obtain ⟨rfl, rfl, _⟩ := h
        have hb := backK_len st.kept h1
        exact ⟨h0, h8, hb.1, by simp only; omega, by unfold mW; simp⟩
      · split at h
        · simp at h
        · split at h
          · simp at h
          · exact follW_meas h h1 h0 h8 n
    · simp at h
theorem walkF_cons {n : Nat} {xs : List Inode} {st st' : Wk} {a : ByteArray} {names l : List ByteArray} {f : Bool} {code : Int} (h : stepW xs st a (f || decide (0 < names.length)) = (st', l, code)) : walkF (n + 1) xs st (a :: names) f = if code = 0 then walkF n xs st' (l ++ names) f else (0, code) := by
  simp only [walkF, h]
/-- More rounds than are needed change nothing. -/
theorem walkF_more {xs : List Inode} {f : Bool} (n : Nat) : ∀ (m : Nat) (st : Wk) (names : List ByteArray), 1 ≤ st.kept.length → 0 ≤ st.loops → st.loops ≤ 8 → mW st names.length < n → mW st names.length < m → walkF n xs st names f = walkF m xs st names f := by
  induction n with
  | zero => intro m st names _ _ _ h _; exact absurd h (Nat.not_lt_zero _)
  | succ n ih =>
    intro m st names h1 h0 h8 hn hm
    cases m with
    | zero => exact absurd hm (Nat.not_lt_zero _)
    | succ m =>
      cases names with
      | nil => simp only [walkF]
      | cons a names =>
        obtain ⟨⟨st', l, code⟩, hr⟩ : ∃ r, stepW xs st a (f || decide (0 < names.length)) = r := ⟨_, rfl⟩
        rw [walkF_cons hr, walkF_cons hr]
        by_cases hc : code = 0
        · subst hc
          obtain ⟨g0, g8, g1, _, gm⟩ := stepW_meas hr h1 h0 h8 names.length
          rw [if_pos rfl, if_pos rfl]
          rw [List.length_cons] at hn hm
          exact ih m st' (l ++ names) g1 g0 g8 (by rw [List.length_append]; omega) (by rw [List.length_append]; omega)
        · rw [if_neg hc, if_neg hc]
theorem RowAt.drop1S {α : Type} [Enc α] {h : FH} {A : Option Addr} {x : α} {xs : List α} (r : RowAt h A (x :: xs)) (c : Nat) (hlc : (x :: xs).length ≤ c) : RowAt h (if c = 1 then A else A.map (fun x : Addr => (⟨x.block, x.off + Enc.sz α, none⟩ : Addr))) xs := by
  have q := r.dropS 1 c (by simp) hlc
  rw [Nat.one_mul] at q
  obtain ⟨b, off, rfl, _⟩ := r.2 (by simp)
  have hp : ¬ Enc.sz α = 0 := by have := Enc.pos (α := α); omega
  simpa [Addr.add, hp] using q
set_option maxRecDepth 100000 in
theorem RowAt.ixStr {h : FH} {A : Option Addr} {xs : List ByteArray} (r : RowAt h A xs) {k : Nat} {x : ByteArray} (hx : xs[k]? = some x) {w : World} (hs : Sits h w) (c : Nat) (i : Int) (hi : i = (k : Int)) :
    ∃ b off, (∀ w', (Instr.indexAt 79 (.slice A xs.length c) (.int .i64 i)).run Tryd.prog w' = .ok (.pointer (some ⟨b, off + k, none⟩)) w') ∧ h.cell ⟨b, off + k, none⟩ = some (.string x) ∧ x.size ≤ 9223372036854775807 := by
  subst hi
  have hlt := (List.getElem?_eq_some_iff.1 hx).1
  obtain ⟨b, off, rfl, f⟩ := r.2 (by omega)
  obtain ⟨cs, hr, hc⟩ := f k x hx
  obtain ⟨rfl, hsz⟩ : cs = [.string x] ∧ x.size ≤ 9223372036854775807 := hr
  refine ⟨b, off, fun w' => ?_, ?_, hsz⟩
  · rw [run_indexAt_slice (h := Tryd.underlying79), if_pos (by omega)]
    rw [show (sizeOf (Tryd.prog.elem 79)).run Tryd.prog w' = .ok 1 w' from by kernel_rfl]
    simp [Result.andThen, Addr.add]
  · have := hc 0 _ rfl
    rwa [show off + k * Enc.sz ByteArray + 0 = off + k from by show off + k * 1 + 0 = off + k; omega] at this
end Go.Proofs.YtdiaibkpcnknbaaDoor

namespace Go.Proofs.YtdiaibkpcnknbaaDoor
open Go.RowKit Go.Sort
set_option linter.unusedVariables false
end Go.Proofs.YtdiaibkpcnknbaaDoor
