import Derived.Test.YtdiaibkpcnknbaaDoorStAll
import Derived.Test.YtdiaibkpcnknbaaDoorInoAll
namespace Go.Proofs.YtdiaibkpcnknbaaDoor
open Go.RowKit Go.Sort
set_option linter.unusedVariables false
/-- What a call may have done that may write one own row. -/
structure OExt (h : FH) (w : World) (h' : FH) (w' : World) (row : Option Nat) : Prop where
  le : FLe h h'
  sits : Sits h' w'
  grown : w.grownBy w' row
  fresh : ∀ b, h' b ≠ none → h b ≠ none ∨ w.heap.size ≤ b
theorem OExt.of {h h' : FH} {w w' : World} (E : Ext h w h' w') (row : Option Nat) : OExt h w h' w' row := ⟨E.le, E.sits, grownBy_of_ext E row, E.fresh⟩
theorem OExt.trans {h h1 h2 : FH} {w w1 w2 : World} {row : Option Nat} (a : OExt h w h1 w1 row) (b : OExt h1 w1 h2 w2 row) : OExt h w h2 w2 row :=
  ⟨a.le.trans b.le, b.sits, a.grown.trans b.grown, fun k hk => by
    rcases b.fresh k hk with h3 | h3
    · exact a.fresh k h3
    · exact .inr (Nat.le_trans a.grown.size h3)⟩
theorem OExt.row {h h1 : FH} {w w1 w2 : World} {row : Option Nat} (a : OExt h w h1 w1 row) (G : w1.grownBy w2 row) (hr : ∀ k, row = some k → h1 k = none) : OExt h w h1 w2 row :=
  ⟨a.le, fun b x hb => by
    rw [G.block b (a.sits.lt (by rw [hb]; simp)) (fun e => by have := hr b e.symm; rw [hb] at this; cases this)]; exact a.sits b x hb, a.grown.trans G, a.fresh⟩
theorem OExt.lift {h0 h h1 : FH} {w0 w w1 : World} {row : Option Nat} (E : Ext h0 w0 h w) (a : OExt h w h1 w1 row) (hr : ∀ k, row = some k → w0.heap.size ≤ k) : Ext h0 w0 h1 w1 :=
  ⟨E.le.trans a.le, a.sits, E.below.grown a.grown E.size hr, fun b hb => by
    rcases a.fresh b hb with h2 | h2
    · exact E.fresh b h2
    · exact .inr (Nat.le_trans E.size h2)⟩
theorem OExt.none {h h' : FH} {w w' : World} {row : Option Nat} (E : OExt h w h' w' row) {g : Nat} (hn : h g = Option.none) (hg : g < w.heap.size) : h' g = Option.none := by
  cases e : h' g with
  | none => rfl
  | some o =>
    rcases E.fresh g (by rw [e]; simp) with h2 | h2
    · exact absurd hn h2
    · omega
def posI (xs : List Inode) (no : Int) : Nat := (xs.findIdx? (gtI no)).getD xs.length
def putI (xs : List Inode) (x : Inode) : List Inode := match xs.findIdx? (isI x.no) with
  | some i => xs.set i x
  | none => xs.take (posI xs x.no) ++ [x] ++ xs.drop (posI xs x.no)
theorem putI_len (xs : List Inode) (x : Inode) : (putI xs x).length ≤ xs.length + 1 := by
  unfold putI; split
  · simp
  · simp; omega
/-- An own row that the caller handed in, and what was done. -/
def RetPut {α : Type} [Enc α] (h : FH) (w : World) (base : Nat) (T : TypeId) (row : Option Nat) (ys : List α) (e : Ending) (w' : World) : Prop := ∃ v' h1, e = .returned v' ∧ OwnL h1 w' base T v' ys ∧ OExt h w h1 w' row
theorem own_get {h : FH} {w : World} {base : Nat} {T : TypeId} {g cap n : Nat} {xs : List Inode} (O : OwnL h w base T (.slice (some ⟨g, 0, none⟩) n cap) xs) {i : Nat} {z : Inode} (hz : xs[i]? = some z) :
    ∃ A5 c5 A6 c6, (w.cell? ⟨g, i * 7, none⟩ = some (.int .i64 z.no) ∧ w.cell? ⟨g, i * 7 + 1, none⟩ = some (.int .i64 z.kind) ∧ w.cell? ⟨g, i * 7 + 2, none⟩ = some (.int .i64 z.links) ∧ w.cell? ⟨g, i * 7 + 3, none⟩ = some (.int .i64 z.size) ∧ w.cell? ⟨g, i * 7 + 4, none⟩ = some (.string z.target) ∧ w.cell? ⟨g, i * 7 + 5, none⟩ = some (.slice A5 z.entries.length c5) ∧ w.cell? ⟨g, i * 7 + 6, none⟩ = some (.slice A6 z.runs.length c6)) ∧ repInode h [.int .i64 z.no, .int .i64 z.kind, .int .i64 z.links, .int .i64 z.size, .string z.target, .slice A5 z.entries.length c5, .slice A6 z.runs.length c6] z ∧ ∀ k, w.frozen? ⟨g, k, none⟩ = false := by
  obtain ⟨g2, cap2, cs2, hv2, _, _, _, rz, hcc2, hfr2⟩ := O.get hz
  obtain ⟨rfl, hq9, rfl⟩ : g = g2 ∧ n = xs.length ∧ cap = cap2 := by simpa using hv2
  have rz' := rz
  obtain ⟨A7, c7, A8, c8, rfl, _⟩ := rz
  exact ⟨A7, c7, A8, c8, ⟨hcc2 0 _ rfl, hcc2 1 _ rfl, hcc2 2 _ rfl, hcc2 3 _ rfl, hcc2 4 _ rfl, hcc2 5 _ rfl, hcc2 6 _ rfl⟩, rz', hfr2⟩
theorem posI_ix (xs : List Inode) (no : Int) : posI xs no ≤ xs.length ∧ (ixB (gtI no) xs = (posI xs no : Int) ∧ posI xs no < xs.length ∨ ixB (gtI no) xs = -1 ∧ posI xs no = xs.length) := by
  unfold posI ixB
  cases e : xs.findIdx? (gtI no) with
  | none => exact ⟨Nat.le_refl _, .inr ⟨rfl, rfl⟩⟩
  | some i =>
    have := (List.findIdx?_eq_some_iff_getElem.1 e).1
    exact ⟨by simp; omega, .inl ⟨rfl, by simpa using this⟩⟩
def posZ (xs : List Int) (no : Int) : Nat := (xs.findIdx? (gtZ no)).getD xs.length
def badZ (xs : List Int) (no : Int) : List Int := if xs.any (eqZ no) then xs else xs.take (posZ xs no) ++ [no] ++ xs.drop (posZ xs no)
theorem badZ_len (xs : List Int) (no : Int) : (badZ xs no).length ≤ xs.length + 1 := by
  unfold badZ; split
  · simp
  · simp; omega
theorem posZ_ix (xs : List Int) (no : Int) : posZ xs no ≤ xs.length ∧ (ixB (gtZ no) xs = (posZ xs no : Int) ∧ posZ xs no < xs.length ∨ ixB (gtZ no) xs = -1 ∧ posZ xs no = xs.length) := by
  unfold posZ ixB
  cases e : xs.findIdx? (gtZ no) with
  | none => exact ⟨Nat.le_refl _, .inr ⟨rfl, rfl⟩⟩
  | some i =>
    have := (List.findIdx?_eq_some_iff_getElem.1 e).1
    exact ⟨by simp; omega, .inl ⟨rfl, by simpa using this⟩⟩
end Go.Proofs.YtdiaibkpcnknbaaDoor

namespace Go.Proofs.YtdiaibkpcnknbaaDoor
open Go.RowKit Go.Sort
set_option linter.unusedVariables false
def applyD (s : State) (d : Deed) : State :=
  if d.kind = 1 then { s with next := d.no } else if d.kind = 2 then { s with inodes := putI s.inodes d.inode } else if d.kind = 3 then { s with inodes := s.inodes.filter (neI d.no) } else if d.kind = 4 then { s with bads := badZ s.bads d.no } else s
def applyS (s : State) (ds : List Deed) : State := ds.foldl applyD s
theorem applyS_snoc (s : State) {ds : List Deed} {k : Nat} {d : Deed} (hd : ds[k]? = some d) : applyS s (ds.take (k + 1)) = applyD (applyS s (ds.take k)) d := by
  unfold applyS; rw [take_snoc hd, List.foldl_append]; rfl
theorem applyD_len (s : State) (d : Deed) : (applyD s d).inodes.length ≤ s.inodes.length + 1 ∧ (applyD s d).bads.length ≤ s.bads.length + 1 := by
  unfold applyD
  repeat' split
  · exact ⟨Nat.le_succ _, Nat.le_succ _⟩
  · exact ⟨putI_len _ _, Nat.le_succ _⟩
  · exact ⟨Nat.le_trans (List.length_filter_le _ _) (Nat.le_succ _), Nat.le_succ _⟩
  · exact ⟨Nat.le_succ _, badZ_len _ _⟩
  · exact ⟨Nat.le_succ _, Nat.le_succ _⟩
theorem applyS_len : ∀ (ds : List Deed) (s : State), (applyS s ds).inodes.length ≤ s.inodes.length + ds.length ∧ (applyS s ds).bads.length ≤ s.bads.length + ds.length
  | [], s => ⟨Nat.le_refl _, Nat.le_refl _⟩
  | d :: ds, s => by
    obtain ⟨a, b⟩ := applyS_len ds (applyD s d)
    obtain ⟨c, e⟩ := applyD_len s d
    show (applyS (applyD s d) ds).inodes.length ≤ _ ∧ (applyS (applyD s d) ds).bads.length ≤ _
    simp only [List.length_cons]; omega
theorem applyS_take_len (s : State) (ds : List Deed) (k : Nat) (hk : k ≤ ds.length) : (applyS s (ds.take k)).inodes.length ≤ s.inodes.length + ds.length ∧ (applyS s (ds.take k)).bads.length ≤ s.bads.length + ds.length := by
  obtain ⟨a, b⟩ := applyS_len (ds.take k) s
  rw [List.length_take] at a b
  omega
theorem own_apart {α β : Type} [Enc α] [Enc β] {h h' : FH} {w : World} {b1 b2 : Nat} {T1 T2 : TypeId} {v1 v2 : Value} {xs : List α} {ys : List β} (O1 : OwnL h w b1 T1 v1 xs) (O2 : OwnL h' w b2 T2 v2 ys) (hT : T1 ≠ T2) : v1.ownBlock = none ∨ v1.ownBlock ≠ v2.ownBlock := by
  obtain ⟨c1, w1, _⟩ := O1.own
  obtain ⟨c2, w2, _⟩ := O2.own
  rcases w1.2 with ⟨rfl, _⟩ | ⟨g, cap, cur, rfl, _, hg, _⟩
  · exact .inl rfl
  · right
    rcases w2.2 with ⟨rfl, _⟩ | ⟨g2, cap2, cur2, rfl, _, hg2, _⟩
    · simp [Value.ownBlock]
    · intro e
      have e : g = g2 := by simpa [Value.ownBlock] using e
      subst e
      rw [hg] at hg2
      simp at hg2
      exact hT hg2.2
/-- What the caller made, and a state in it. -/
theorem own_put {α : Type} [Enc α] {h h1 : FH} {w w1 : World} {base : Nat} {T : TypeId} {v : Value} {xs : List α} (O : OwnL h w base T v xs) {row : Option Nat} (X : OExt h w h1 w1 row) (hne : v.ownBlock = none ∨ v.ownBlock ≠ row) : OwnL h1 w1 base T v xs :=
  O.kept X.grown hne X.le (fun g hg => X.none (O.free g hg) (O.lt g hg).2)
theorem OExt.block {h h1 : FH} {w w1 : World} {row : Option Nat} (X : OExt h w h1 w1 row) {g : Nat} {ob : Obj} (hg : w.heap[g]? = some ob) (hne : row ≠ some g) : w1.heap[g]? = some ob := by
  rw [X.grown.block g (Array.getElem?_eq_some_iff.1 hg).1 (fun e => hne e.symm)]; exact hg
theorem grown_set1 (w : World) (g i : Nat) (v : Value) : w.grownBy (w.setCell ⟨g, i, none⟩ v) (some g) := grown_setCells g [v] i w ⟨rfl, rfl, rfl, Nat.le_refl _, fun _ _ _ => rfl⟩
/-- The loop's world. -/
structure InApply (h : FH) (w : World) (gS gR B : Nat) (t : State) (h' : FH) (wr : World) (vI vB : Value) : Prop where
  ext : Ext h w h' wr
  box : wr.heap[gS]? = some (.cells #[.int .i64 t.next, vI, vB] 31 (0, 0))
  out : wr.heap[gR]? = some (.cells #[.int .i64 0, .slice none 0 0, .slice none 0 0] 31 (0, 0))
  ino : OwnL h' wr B 51 vI t.inodes
  bad : OwnL h' wr B 3 vB t.bads
  nS : h' gS = none
  nR : h' gR = none
  big : B ≤ wr.heap.size
theorem InApply.more {h : FH} {w : World} {gS gR B : Nat} {t : State} {h' h2 : FH} {wr w2 : World} {vI vB : Value} (I : InApply h w gS gR B t h' wr vI vB) (E : Ext h' wr h2 w2) : InApply h w gS gR B t h2 w2 vI vB :=
  ⟨I.ext.trans E, E.row I.box, E.row I.out, I.ino.ext E, I.bad.ext E, E.none I.nS (Array.getElem?_eq_some_iff.1 I.box).1, E.none I.nR (Array.getElem?_eq_some_iff.1 I.out).1, Nat.le_trans I.big E.size⟩
theorem own_ne {α : Type} [Enc α] {h : FH} {w : World} {base : Nat} {T : TypeId} {v : Value} {xs : List α} (O : OwnL h w base T v xs) {g : Nat} (hg : g < base) : v.ownBlock ≠ some g := fun e => by have := (O.lt g e).1; omega
theorem InApply.setNext {h : FH} {w : World} {gS gR B : Nat} {t : State} {h' : FH} {wr : World} {vI vB : Value} (I : InApply h w gS gR B t h' wr vI vB) (hw : w.heap.size ≤ gS) (hSR : gS ≠ gR) (hB : gS < B) (n : Int) :
    InApply h w gS gR B { t with next := n } h' (wr.setCell ⟨gS, 0, none⟩ (.int .i64 n)) vI vB :=
  ⟨I.ext.setCell hw I.nS _, box_set (i := 0) I.box _, box_other (i := 0) I.out (fun e => hSR e.symm) _, I.ino.kept (row := some gS) (grown_set1 wr gS 0 _) (.inr (own_ne I.ino hB)) (FLe.refl _) I.ino.free, I.bad.kept (row := some gS) (grown_set1 wr gS 0 _) (.inr (own_ne I.bad hB)) (FLe.refl _) I.bad.free, I.nS, I.nR, by simpa [World.setCell] using I.big⟩
theorem InApply.setI {h : FH} {w : World} {gS gR B : Nat} {t : State} {h' h2 : FH} {wr w2 : World} {vI vB : Value} (I : InApply h w gS gR B t h' wr vI vB) (hw : w.heap.size ≤ gS) (hwB : w.heap.size ≤ B) (hSR : gS ≠ gR) (hB : gS < B) (hB2 : gR < B) {v' : Value} {xs : List Inode} (O : OwnL h2 w2 B 51 v' xs) (X : OExt h' wr h2 w2 vI.ownBlock) :
    InApply h w gS gR B { t with inodes := xs } h2 (w2.setCell ⟨gS, 1, none⟩ v') v' vB :=
  ⟨(X.lift I.ext (fun k hk => Nat.le_trans hwB (I.ino.lt k hk).1)).setCell hw (X.none I.nS (Array.getElem?_eq_some_iff.1 I.box).1) _, box_set (i := 1) (X.block I.box (own_ne I.ino hB)) _, box_other (i := 1) (X.block I.out (own_ne I.ino hB2)) (fun e => hSR e.symm) _,
   O.kept (row := some gS) (grown_set1 w2 gS 1 _) (.inr (own_ne O hB)) (FLe.refl _) O.free,
   (own_put I.bad X (own_apart I.bad I.ino (by decide))).kept (row := some gS) (grown_set1 w2 gS 1 _) (.inr (own_ne I.bad hB)) (FLe.refl _) (own_put I.bad X (own_apart I.bad I.ino (by decide))).free,
   X.none I.nS (Array.getElem?_eq_some_iff.1 I.box).1, X.none I.nR (Array.getElem?_eq_some_iff.1 I.out).1, by have := Nat.le_trans I.big X.grown.size; simpa [World.setCell] using this⟩
theorem InApply.setB {h : FH} {w : World} {gS gR B : Nat} {t : State} {h' h2 : FH} {wr w2 : World} {vI vB : Value} (I : InApply h w gS gR B t h' wr vI vB) (hw : w.heap.size ≤ gS) (hwB : w.heap.size ≤ B) (hSR : gS ≠ gR) (hB : gS < B) (hB2 : gR < B) {v' : Value} {xs : List Int} (O : OwnL h2 w2 B 3 v' xs) (X : OExt h' wr h2 w2 vB.ownBlock) :
    InApply h w gS gR B { t with bads := xs } h2 (w2.setCell ⟨gS, 2, none⟩ v') vI v' :=
  ⟨(X.lift I.ext (fun k hk => Nat.le_trans hwB (I.bad.lt k hk).1)).setCell hw (X.none I.nS (Array.getElem?_eq_some_iff.1 I.box).1) _, box_set (i := 2) (X.block I.box (own_ne I.bad hB)) _, box_other (i := 2) (X.block I.out (own_ne I.bad hB2)) (fun e => hSR e.symm) _,
   (own_put I.ino X (own_apart I.ino I.bad (by decide))).kept (row := some gS) (grown_set1 w2 gS 2 _) (.inr (own_ne I.ino hB)) (FLe.refl _) (own_put I.ino X (own_apart I.ino I.bad (by decide))).free,
   O.kept (row := some gS) (grown_set1 w2 gS 2 _) (.inr (own_ne O hB)) (FLe.refl _) O.free,
   X.none I.nS (Array.getElem?_eq_some_iff.1 I.box).1, X.none I.nR (Array.getElem?_eq_some_iff.1 I.out).1, by have := Nat.le_trans I.big X.grown.size; simpa [World.setCell] using this⟩
theorem OwnL.stay2 {α : Type} [Enc α] {h : FH} {w : World} {base : Nat} {T : TypeId} {v : Value} {xs : List α} (o : OwnL h w base T v xs) (hs : Sits h w) (hlen : xs.length ≤ 9223372036854775807) :
    ∃ h' A c, v = .slice A xs.length c ∧ RowAt h' A xs ∧ FLe h h' ∧ Sits h' w ∧ CapLe A xs.length c ∧ ∀ b, h' b ≠ none → h b ≠ none ∨ v.ownBlock = some b := by
  obtain ⟨cells, hw, r⟩ := o.own
  rcases hw.2 with ⟨rfl, hn⟩ | ⟨g, cap, cur, rfl, hb, hg, hc, hm, hcs, htake⟩
  · have hx : xs = [] := List.eq_nil_of_length_eq_zero hn
    subst hx
    exact ⟨h, none, 0, rfl, RowAt.nil _ _, FLe.refl h, hs, ⟨Nat.le_refl _, fun _ => rfl, by decide⟩, fun b hb => .inl hb⟩
  · have hle := FLe.add (o.free g rfl) (.cells cur T (0, 0))
    refine ⟨h.add g (.cells cur T (0, 0)), _, cap, rfl, ⟨hlen, fun _ => ⟨g, 0, rfl, fun i x hx => ?_⟩⟩, hle, hs.add hg, ⟨hc, (fun e => by cases e), by unfold maxLen at hm; omega⟩, fun b hb' => ?_⟩
    · obtain ⟨cs, hr, hcc⟩ := r.get hx
      refine ⟨cs, Enc.mono hle hr, fun j u hu => ?_⟩
      have h1 := hcc j u hu
      rw [← htake, List.getElem?_take] at h1
      rw [Nat.zero_add]
      refine FH.add_cell _ _ _ _ _ ?_
      split at h1
      · simpa using h1
      · cases h1
    · by_cases e : b = g
      · subst e; exact .inr rfl
      · rw [FH.add_other _ _ e] at hb'; exact .inl hb'
/-- A state is handed back. -/
def RetState (h : FH) (w : World) (t : State) (e : Ending) (w' : World) : Prop := ∃ cs h1, e = .returned (.agg cs.toArray) ∧ repState h1 cs t ∧ Ext h w h1 w'
theorem deed_rep {h : FH} {b off : Nat} {ds : List Deed} (r : RowAt h (some ⟨b, off, none⟩) ds) : True := trivial
end Go.Proofs.YtdiaibkpcnknbaaDoor

namespace Go.Proofs.YtdiaibkpcnknbaaDoor
open Go.RowKit Go.Sort
set_option linter.unusedVariables false
def newS : State := ⟨2, [newI 1 2 ⟨#[]⟩], []⟩
def wideG : Geo := ⟨8, 2048, 12, 8, 32⟩
end Go.Proofs.YtdiaibkpcnknbaaDoor
