import Derived.Test.YtcnbnehammbncaaDoorStPut
namespace Go.Proofs.YtcnbnehammbncaaDoor
open Go.RowKit Go.Sort
set_option linter.unusedVariables false
def applyD (s : State) (d : Deed) : State :=
  if d.kind = 1 then { s with next := d.no } else if d.kind = 2 then { s with inodes := putI s.inodes d.inode } else if d.kind = 3 then { s with inodes := s.inodes.filter (neI d.no) } else if d.kind = 4 then { s with bads := badZ s.bads d.no } else s
def applyS (s : State) (ds : List Deed) : State := ds.foldl applyD s
theorem applyS_snoc (s : State) {ds : List Deed} {k : Nat} {d : Deed} (hd : ds[k]? = some d) : applyS s (ds.take (k + 1)) = applyD (applyS s (ds.take k)) d := by
  unfold applyS; rw [take_snoc hd, List.foldl_append]; rfl
theorem applyD_len (s : State) (d : Deed) : (applyD s d).inodes.length ≤ s.inodes.length + 1 ∧ (applyD s d).bads.length ≤ s.bads.length + 1 := by
  unfold applyD
  repeat' split
  · exact ⟨Nat.le_succ _, Nat.le_succ _⟩
  · exact ⟨putI_len _ _, Nat.le_succ _⟩
  · exact ⟨Nat.le_trans (List.length_filter_le _ _) (Nat.le_succ _), Nat.le_succ _⟩
  · exact ⟨Nat.le_succ _, badZ_len _ _⟩
  · exact ⟨Nat.le_succ _, Nat.le_succ _⟩
theorem applyS_len : ∀ (ds : List Deed) (s : State), (applyS s ds).inodes.length ≤ s.inodes.length + ds.length ∧ (applyS s ds).bads.length ≤ s.bads.length + ds.length
  | [], s => ⟨Nat.le_refl _, Nat.le_refl _⟩
  | d :: ds, s => by
    obtain ⟨a, b⟩ := applyS_len ds (applyD s d)
    obtain ⟨c, e⟩ := applyD_len s d
    show (applyS (applyD s d) ds).inodes.length ≤ _ ∧ (applyS (applyD s d) ds).bads.length ≤ _
    simp only [List.length_cons]; omega
theorem applyS_take_len (s : State) (ds : List Deed) (k : Nat) (hk : k ≤ ds.length) : (applyS s (ds.take k)).inodes.length ≤ s.inodes.length + ds.length ∧ (applyS s (ds.take k)).bads.length ≤ s.bads.length + ds.length := by
  obtain ⟨a, b⟩ := applyS_len (ds.take k) s
  rw [List.length_take] at a b
  omega
theorem own_apart {α β : Type} [Enc α] [Enc β] {h h' : FH} {w : World} {b1 b2 : Nat} {T1 T2 : TypeId} {v1 v2 : Value} {xs : List α} {ys : List β} (O1 : OwnL h w b1 T1 v1 xs) (O2 : OwnL h' w b2 T2 v2 ys) (hT : T1 ≠ T2) : v1.ownBlock = none ∨ v1.ownBlock ≠ v2.ownBlock := by
  obtain ⟨c1, w1, _⟩ := O1.own
  obtain ⟨c2, w2, _⟩ := O2.own
  rcases w1.2 with ⟨rfl, _⟩ | ⟨g, cap, cur, rfl, _, hg, _⟩
  · exact .inl rfl
  · right
    rcases w2.2 with ⟨rfl, _⟩ | ⟨g2, cap2, cur2, rfl, _, hg2, _⟩
    · simp [Value.ownBlock]
    · intro e
      have e : g = g2 := by simpa [Value.ownBlock] using e
      subst e
      rw [hg] at hg2
      simp at hg2
      exact hT hg2.2
/-- What the caller made, and a state in it. -/
theorem own_put {α : Type} [Enc α] {h h1 : FH} {w w1 : World} {base : Nat} {T : TypeId} {v : Value} {xs : List α} (O : OwnL h w base T v xs) {row : Option Nat} (X : OExt h w h1 w1 row) (hne : v.ownBlock = none ∨ v.ownBlock ≠ row) : OwnL h1 w1 base T v xs :=
  O.kept X.grown hne X.le (fun g hg => X.none (O.free g hg) (O.lt g hg).2)
theorem OExt.block {h h1 : FH} {w w1 : World} {row : Option Nat} (X : OExt h w h1 w1 row) {g : Nat} {ob : Obj} (hg : w.heap[g]? = some ob) (hne : row ≠ some g) : w1.heap[g]? = some ob := by
  rw [X.grown.block g (Array.getElem?_eq_some_iff.1 hg).1 (fun e => hne e.symm)]; exact hg
theorem grown_set1 (w : World) (g i : Nat) (v : Value) : w.grownBy (w.setCell ⟨g, i, none⟩ v) (some g) := grown_setCells g [v] i w ⟨rfl, rfl, rfl, Nat.le_refl _, fun _ _ _ => rfl⟩
/-- The loop's world. -/
structure InApply (h : FH) (w : World) (gS gR B : Nat) (t : State) (h' : FH) (wr : World) (vI vB : Value) : Prop where
  ext : Ext h w h' wr
  box : wr.heap[gS]? = some (.cells #[.int .i64 t.next, vI, vB] 28 (0, 0))
  out : wr.heap[gR]? = some (.cells #[.int .i64 0, .slice none 0 0, .slice none 0 0] 28 (0, 0))
  ino : OwnL h' wr B 50 vI t.inodes
  bad : OwnL h' wr B 3 vB t.bads
  nS : h' gS = none
  nR : h' gR = none
  big : B ≤ wr.heap.size
theorem InApply.more {h : FH} {w : World} {gS gR B : Nat} {t : State} {h' h2 : FH} {wr w2 : World} {vI vB : Value} (I : InApply h w gS gR B t h' wr vI vB) (E : Ext h' wr h2 w2) : InApply h w gS gR B t h2 w2 vI vB :=
  ⟨I.ext.trans E, E.row I.box, E.row I.out, I.ino.ext E, I.bad.ext E, E.none I.nS (Array.getElem?_eq_some_iff.1 I.box).1, E.none I.nR (Array.getElem?_eq_some_iff.1 I.out).1, Nat.le_trans I.big E.size⟩
theorem own_ne {α : Type} [Enc α] {h : FH} {w : World} {base : Nat} {T : TypeId} {v : Value} {xs : List α} (O : OwnL h w base T v xs) {g : Nat} (hg : g < base) : v.ownBlock ≠ some g := fun e => by have := (O.lt g e).1; omega
theorem InApply.setNext {h : FH} {w : World} {gS gR B : Nat} {t : State} {h' : FH} {wr : World} {vI vB : Value} (I : InApply h w gS gR B t h' wr vI vB) (hw : w.heap.size ≤ gS) (hSR : gS ≠ gR) (hB : gS < B) (n : Int) :
    InApply h w gS gR B { t with next := n } h' (wr.setCell ⟨gS, 0, none⟩ (.int .i64 n)) vI vB :=
  ⟨I.ext.setCell hw I.nS _, box_set (i := 0) I.box _, box_other (i := 0) I.out (fun e => hSR e.symm) _, I.ino.kept (row := some gS) (grown_set1 wr gS 0 _) (.inr (own_ne I.ino hB)) (FLe.refl _) I.ino.free, I.bad.kept (row := some gS) (grown_set1 wr gS 0 _) (.inr (own_ne I.bad hB)) (FLe.refl _) I.bad.free, I.nS, I.nR, by simpa [World.setCell] using I.big⟩
theorem InApply.setI {h : FH} {w : World} {gS gR B : Nat} {t : State} {h' h2 : FH} {wr w2 : World} {vI vB : Value} (I : InApply h w gS gR B t h' wr vI vB) (hw : w.heap.size ≤ gS) (hwB : w.heap.size ≤ B) (hSR : gS ≠ gR) (hB : gS < B) (hB2 : gR < B) {v' : Value} {xs : List Inode} (O : OwnL h2 w2 B 50 v' xs) (X : OExt h' wr h2 w2 vI.ownBlock) :
    InApply h w gS gR B { t with inodes := xs } h2 (w2.setCell ⟨gS, 1, none⟩ v') v' vB :=
  ⟨(X.lift I.ext (fun k hk => Nat.le_trans hwB (I.ino.lt k hk).1)).setCell hw (X.none I.nS (Array.getElem?_eq_some_iff.1 I.box).1) _, box_set (i := 1) (X.block I.box (own_ne I.ino hB)) _, box_other (i := 1) (X.block I.out (own_ne I.ino hB2)) (fun e => hSR e.symm) _,
   O.kept (row := some gS) (grown_set1 w2 gS 1 _) (.inr (own_ne O hB)) (FLe.refl _) O.free,
   (own_put I.bad X (own_apart I.bad I.ino (by decide))).kept (row := some gS) (grown_set1 w2 gS 1 _) (.inr (own_ne I.bad hB)) (FLe.refl _) (own_put I.bad X (own_apart I.bad I.ino (by decide))).free,
   X.none I.nS (Array.getElem?_eq_some_iff.1 I.box).1, X.none I.nR (Array.getElem?_eq_some_iff.1 I.out).1, by have := Nat.le_trans I.big X.grown.size; simpa [World.setCell] using this⟩
theorem InApply.setB {h : FH} {w : World} {gS gR B : Nat} {t : State} {h' h2 : FH} {wr w2 : World} {vI vB : Value} (I : InApply h w gS gR B t h' wr vI vB) (hw : w.heap.size ≤ gS) (hwB : w.heap.size ≤ B) (hSR : gS ≠ gR) (hB : gS < B) (hB2 : gR < B) {v' : Value} {xs : List Int} (O : OwnL h2 w2 B 3 v' xs) (X : OExt h' wr h2 w2 vB.ownBlock) :
    InApply h w gS gR B { t with bads := xs } h2 (w2.setCell ⟨gS, 2, none⟩ v') vI v' :=
  ⟨(X.lift I.ext (fun k hk => Nat.le_trans hwB (I.bad.lt k hk).1)).setCell hw (X.none I.nS (Array.getElem?_eq_some_iff.1 I.box).1) _, box_set (i := 2) (X.block I.box (own_ne I.bad hB)) _, box_other (i := 2) (X.block I.out (own_ne I.bad hB2)) (fun e => hSR e.symm) _,
   (own_put I.ino X (own_apart I.ino I.bad (by decide))).kept (row := some gS) (grown_set1 w2 gS 2 _) (.inr (own_ne I.ino hB)) (FLe.refl _) (own_put I.ino X (own_apart I.ino I.bad (by decide))).free,
   O.kept (row := some gS) (grown_set1 w2 gS 2 _) (.inr (own_ne O hB)) (FLe.refl _) O.free,
   X.none I.nS (Array.getElem?_eq_some_iff.1 I.box).1, X.none I.nR (Array.getElem?_eq_some_iff.1 I.out).1, by have := Nat.le_trans I.big X.grown.size; simpa [World.setCell] using this⟩
theorem OwnL.stay2 {α : Type} [Enc α] {h : FH} {w : World} {base : Nat} {T : TypeId} {v : Value} {xs : List α} (o : OwnL h w base T v xs) (hs : Sits h w) (hlen : xs.length ≤ 9223372036854775807) :
    ∃ h' A c, v = .slice A xs.length c ∧ RowAt h' A xs ∧ FLe h h' ∧ Sits h' w ∧ CapLe A xs.length c ∧ ∀ b, h' b ≠ none → h b ≠ none ∨ v.ownBlock = some b := by
  obtain ⟨cells, hw, r⟩ := o.own
  rcases hw.2 with ⟨rfl, hn⟩ | ⟨g, cap, cur, rfl, hb, hg, hc, hm, hcs, htake⟩
  · have hx : xs = [] := List.eq_nil_of_length_eq_zero hn
    subst hx
    exact ⟨h, none, 0, rfl, RowAt.nil _ _, FLe.refl h, hs, ⟨Nat.le_refl _, fun _ => rfl, by decide⟩, fun b hb => .inl hb⟩
  · have hle := FLe.add (o.free g rfl) (.cells cur T (0, 0))
    refine ⟨h.add g (.cells cur T (0, 0)), _, cap, rfl, ⟨hlen, fun _ => ⟨g, 0, rfl, fun i x hx => ?_⟩⟩, hle, hs.add hg, ⟨hc, (fun e => by cases e), by unfold maxLen at hm; omega⟩, fun b hb' => ?_⟩
    · obtain ⟨cs, hr, hcc⟩ := r.get hx
      refine ⟨cs, Enc.mono hle hr, fun j u hu => ?_⟩
      have h1 := hcc j u hu
      rw [← htake, List.getElem?_take] at h1
      rw [Nat.zero_add]
      refine FH.add_cell _ _ _ _ _ ?_
      split at h1
      · simpa using h1
      · cases h1
    · by_cases e : b = g
      · subst e; exact .inr rfl
      · rw [FH.add_other _ _ e] at hb'; exact .inl hb'
/-- A state is handed back. -/
def RetState (h : FH) (w : World) (t : State) (e : Ending) (w' : World) : Prop := ∃ cs h1, e = .returned (.agg cs.toArray) ∧ repState h1 cs t ∧ Ext h w h1 w'
theorem deed_rep {h : FH} {b off : Nat} {ds : List Deed} (r : RowAt h (some ⟨b, off, none⟩) ds) : True := trivial
end Go.Proofs.YtcnbnehammbncaaDoor
