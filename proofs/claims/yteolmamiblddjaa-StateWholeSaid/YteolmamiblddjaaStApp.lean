import Derived.Test.YteolmamiblddjaaStPut
namespace Go.Proofs.Yteolmamiblddjaa
open Go.RowKit Go.Sort
set_option linter.unusedVariables false
def applyD (s : State) (d : Deed) : State :=
  if d.kind = 1 then { s with next := d.no } else if d.kind = 2 then { s with inodes := putI s.inodes d.inode } else if d.kind = 3 then { s with inodes := s.inodes.filter (neI d.no) } else if d.kind = 4 then { s with bads := badZ s.bads d.no } else s
def applyS (s : State) (ds : List Deed) : State := ds.foldl applyD s
theorem applyS_snoc (s : State) {ds : List Deed} {k : Nat} {d : Deed} (hd : ds[k]? = some d) : applyS s (ds.take (k + 1)) = applyD (applyS s (ds.take k)) d := by
  unfold applyS; rw [take_snoc hd, List.foldl_append]; rfl
theorem applyD_len (s : State) (d : Deed) : (applyD s d).inodes.length ≤ s.inodes.length + 1 ∧ (applyD s d).bads.length ≤ s.bads.length + 1 := by
  unfold applyD
  repeat' split
  · exact ⟨Nat.le_succ _, Nat.le_succ _⟩
  · exact ⟨putI_len _ _, Nat.le_succ _⟩
  · exact ⟨Nat.le_trans (List.length_filter_le _ _) (Nat.le_succ _), Nat.le_succ _⟩
  · exact ⟨Nat.le_succ _, badZ_len _ _⟩
  · exact ⟨Nat.le_succ _, Nat.le_succ _⟩
theorem applyS_len : ∀ (ds : List Deed) (s : State), (applyS s ds).inodes.length ≤ s.inodes.length + ds.length ∧ (applyS s ds).bads.length ≤ s.bads.length + ds.length
  | [], s => ⟨Nat.le_refl _, Nat.le_refl _⟩
  | d :: ds, s => by
    obtain ⟨a, b⟩ := applyS_len ds (applyD s d)
    obtain ⟨c, e⟩ := applyD_len s d
    show (applyS (applyD s d) ds).inodes.length ≤ _ ∧ (applyS (applyD s d) ds).bads.length ≤ _
    simp only [List.length_cons]; omega
theorem applyS_take_len (s : State) (ds : List Deed) (k : Nat) (hk : k ≤ ds.length) : (applyS s (ds.take k)).inodes.length ≤ s.inodes.length + ds.length ∧ (applyS s (ds.take k)).bads.length ≤ s.bads.length + ds.length := by
  obtain ⟨a, b⟩ := applyS_len (ds.take k) s
  rw [List.length_take] at a b
  omega
theorem own_apart {α β : Type} [Enc α] [Enc β] {h h' : FH} {w : World} {b1 b2 : Nat} {T1 T2 : TypeId} {v1 v2 : Value} {xs : List α} {ys : List β} (O1 : OwnL h w b1 T1 v1 xs) (O2 : OwnL h' w b2 T2 v2 ys) (hT : T1 ≠ T2) : v1.ownBlock = none ∨ v1.ownBlock ≠ v2.ownBlock := by
  obtain ⟨c1, w1, _⟩ := O1.own
  obtain ⟨c2, w2, _⟩ := O2.own
  rcases w1.2 with ⟨rfl, _⟩ | ⟨g, cap, cur, rfl, _, hg, _⟩
  · exact .inl rfl
  · right
    rcases w2.2 with ⟨rfl, _⟩ | ⟨g2, cap2, cur2, rfl, _, hg2, _⟩
    · simp [Value.ownBlock]
    · intro e
      have e : g = g2 := by simpa [Value.ownBlock] using e
      subst e
      rw [hg] at hg2
      simp at hg2
      exact hT hg2.2
/-- What the caller made, and a state in it. -/
theorem own_put {α : Type} [Enc α] {h h1 : FH} {w w1 : World} {base : Nat} {T : TypeId} {v : Value} {xs : List α} (O : OwnL h w base T v xs) {row : Option Nat} (X : OExt h w h1 w1 row) (hne : v.ownBlock = none ∨ v.ownBlock ≠ row) : OwnL h1 w1 base T v xs :=
  O.kept X.grown hne X.le (fun g hg => X.none (O.free g hg) (O.lt g hg).2)
theorem OExt.block {h h1 : FH} {w w1 : World} {row : Option Nat} (X : OExt h w h1 w1 row) {g : Nat} {ob : Obj} (hg : w.heap[g]? = some ob) (hne : row ≠ some g) : w1.heap[g]? = some ob := by
  rw [X.grown.block g (Array.getElem?_eq_some_iff.1 hg).1 (fun e => hne e.symm)]; exact hg
theorem grown_set1 (w : World) (g i : Nat) (v : Value) : w.grownBy (w.setCell ⟨g, i, none⟩ v) (some g) := grown_setCells g [v] i w ⟨rfl, rfl, rfl, Nat.le_refl _, fun _ _ _ => rfl⟩
/-- The loop's world. -/
structure InApply (h : FH) (w : World) (gS gR B : Nat) (t : State) (h' : FH) (wr : World) (vI vB : Value) : Prop where
  ext : Ext h w h' wr
  box : wr.heap[gS]? = some (.cells #[.int .i64 t.next, vI, vB] 31 (0, 0))
  out : wr.heap[gR]? = some (.cells #[.int .i64 0, .slice none 0 0, .slice none 0 0] 31 (0, 0))
  ino : OwnL h' wr B 37 vI t.inodes
  bad : OwnL h' wr B 3 vB t.bads
  nS : h' gS = none
  nR : h' gR = none
  big : B ≤ wr.heap.size
theorem InApply.more {h : FH} {w : World} {gS gR B : Nat} {t : State} {h' h2 : FH} {wr w2 : World} {vI vB : Value} (I : InApply h w gS gR B t h' wr vI vB) (E : Ext h' wr h2 w2) : InApply h w gS gR B t h2 w2 vI vB :=
  ⟨I.ext.trans E, E.row I.box, E.row I.out, I.ino.ext E, I.bad.ext E, E.none I.nS (Array.getElem?_eq_some_iff.1 I.box).1, E.none I.nR (Array.getElem?_eq_some_iff.1 I.out).1, Nat.le_trans I.big E.size⟩
theorem own_ne {α : Type} [Enc α] {h : FH} {w : World} {base : Nat} {T : TypeId} {v : Value} {xs : List α} (O : OwnL h w base T v xs) {g : Nat} (hg : g < base) : v.ownBlock ≠ some g := fun e => by have := (O.lt g e).1; omega
theorem InApply.setNext {h : FH} {w : World} {gS gR B : Nat} {t : State} {h' : FH} {wr : World} {vI vB : Value} (I : InApply h w gS gR B t h' wr vI vB) (hw : w.heap.size ≤ gS) (hSR : gS ≠ gR) (hB : gS < B) (n : Int) :
    InApply h w gS gR B { t with next := n } h' (wr.setCell ⟨gS, 0, none⟩ (.int .i64 n)) vI vB :=
  ⟨I.ext.setCell hw I.nS _, box_set (i := 0) I.box _, box_other (i := 0) I.out (fun e => hSR e.symm) _, I.ino.kept (row := some gS) (grown_set1 wr gS 0 _) (.inr (own_ne I.ino hB)) (FLe.refl _) I.ino.free, I.bad.kept (row := some gS) (grown_set1 wr gS 0 _) (.inr (own_ne I.bad hB)) (FLe.refl _) I.bad.free, I.nS, I.nR, by simpa [World.setCell] using I.big⟩
theorem InApply.setI {h : FH} {w : World} {gS gR B : Nat} {t : State} {h' h2 : FH} {wr w2 : World} {vI vB : Value} (I : InApply h w gS gR B t h' wr vI vB) (hw : w.heap.size ≤ gS) (hwB : w.heap.size ≤ B) (hSR : gS ≠ gR) (hB : gS < B) (hB2 : gR < B) {v' : Value} {xs : List Inode} (O : OwnL h2 w2 B 37 v' xs) (X : OExt h' wr h2 w2 vI.ownBlock) :
    InApply h w gS gR B { t with inodes := xs } h2 (w2.setCell ⟨gS, 1, none⟩ v') v' vB :=
  ⟨(X.lift I.ext (fun k hk => Nat.le_trans hwB (I.ino.lt k hk).1)).setCell hw (X.none I.nS (Array.getElem?_eq_some_iff.1 I.box).1) _, box_set (i := 1) (X.block I.box (own_ne I.ino hB)) _, box_other (i := 1) (X.block I.out (own_ne I.ino hB2)) (fun e => hSR e.symm) _,
   O.kept (row := some gS) (grown_set1 w2 gS 1 _) (.inr (own_ne O hB)) (FLe.refl _) O.free,
   (own_put I.bad X (own_apart I.bad I.ino (by decide))).kept (row := some gS) (grown_set1 w2 gS 1 _) (.inr (own_ne I.bad hB)) (FLe.refl _) (own_put I.bad X (own_apart I.bad I.ino (by decide))).free,
   X.none I.nS (Array.getElem?_eq_some_iff.1 I.box).1, X.none I.nR (Array.getElem?_eq_some_iff.1 I.out).1, by have := Nat.le_trans I.big X.grown.size; simpa [World.setCell] using this⟩
theorem InApply.setB {h : FH} {w : World} {gS gR B : Nat} {t : State} {h' h2 : FH} {wr w2 : World} {vI vB : Value} (I : InApply h w gS gR B t h' wr vI vB) (hw : w.heap.size ≤ gS) (hwB : w.heap.size ≤ B) (hSR : gS ≠ gR) (hB : gS < B) (hB2 : gR < B) {v' : Value} {xs : List Int} (O : OwnL h2 w2 B 3 v' xs) (X : OExt h' wr h2 w2 vB.ownBlock) :
    InApply h w gS gR B { t with bads := xs } h2 (w2.setCell ⟨gS, 2, none⟩ v') vI v' :=
  ⟨(X.lift I.ext (fun k hk => Nat.le_trans hwB (I.bad.lt k hk).1)).setCell hw (X.none I.nS (Array.getElem?_eq_some_iff.1 I.box).1) _, box_set (i := 2) (X.block I.box (own_ne I.bad hB)) _, box_other (i := 2) (X.block I.out (own_ne I.bad hB2)) (fun e => hSR e.symm) _,
   (own_put I.ino X (own_apart I.ino I.bad (by decide))).kept (row := some gS) (grown_set1 w2 gS 2 _) (.inr (own_ne I.ino hB)) (FLe.refl _) (own_put I.ino X (own_apart I.ino I.bad (by decide))).free,
   O.kept (row := some gS) (grown_set1 w2 gS 2 _) (.inr (own_ne O hB)) (FLe.refl _) O.free,
   X.none I.nS (Array.getElem?_eq_some_iff.1 I.box).1, X.none I.nR (Array.getElem?_eq_some_iff.1 I.out).1, by have := Nat.le_trans I.big X.grown.size; simpa [World.setCell] using this⟩
theorem OwnL.stay2 {α : Type} [Enc α] {h : FH} {w : World} {base : Nat} {T : TypeId} {v : Value} {xs : List α} (o : OwnL h w base T v xs) (hs : Sits h w) (hlen : xs.length ≤ 9223372036854775807) :
    ∃ h' A c, v = .slice A xs.length c ∧ RowAt h' A xs ∧ FLe h h' ∧ Sits h' w ∧ CapLe A xs.length c ∧ ∀ b, h' b ≠ none → h b ≠ none ∨ v.ownBlock = some b := by
  obtain ⟨cells, hw, r⟩ := o.own
  rcases hw.2 with ⟨rfl, hn⟩ | ⟨g, cap, cur, rfl, hb, hg, hc, hm, hcs, htake⟩
  · have hx : xs = [] := List.eq_nil_of_length_eq_zero hn
    subst hx
    exact ⟨h, none, 0, rfl, RowAt.nil _ _, FLe.refl h, hs, ⟨Nat.le_refl _, fun _ => rfl, by decide⟩, fun b hb => .inl hb⟩
  · have hle := FLe.add (o.free g rfl) (.cells cur T (0, 0))
    refine ⟨h.add g (.cells cur T (0, 0)), _, cap, rfl, ⟨hlen, fun _ => ⟨g, 0, rfl, fun i x hx => ?_⟩⟩, hle, hs.add hg, ⟨hc, (fun e => by cases e), by unfold maxLen at hm; omega⟩, fun b hb' => ?_⟩
    · obtain ⟨cs, hr, hcc⟩ := r.get hx
      refine ⟨cs, Enc.mono hle hr, fun j u hu => ?_⟩
      have h1 := hcc j u hu
      rw [← htake, List.getElem?_take] at h1
      rw [Nat.zero_add]
      refine FH.add_cell _ _ _ _ _ ?_
      split at h1
      · simpa using h1
      · cases h1
    · by_cases e : b = g
      · subst e; exact .inr rfl
      · rw [FH.add_other _ _ e] at hb'; exact .inl hb'
/-- A state is handed back. -/
def RetState (h : FH) (w : World) (t : State) (e : Ending) (w' : World) : Prop := ∃ cs h1, e = .returned (.agg cs.toArray) ∧ repState h1 cs t ∧ Ext h w h1 w'
theorem deed_rep {h : FH} {b off : Nat} {ds : List Deed} (r : RowAt h (some ⟨b, off, none⟩) ds) : True := trivial
set_option maxHeartbeats 8000000 in
set_option maxRecDepth 100000 in
theorem state_Apply (s : State) (cs : List Value) (ds : List Deed) (AD : Option Addr) (cD : Nat) (hfit : ∀ x ∈ s.inodes, fitI x) (hfitD : ∀ d ∈ ds, fitI d.inode) (hb1 : s.inodes.length + ds.length ≤ 900) (hb2 : s.bads.length + ds.length ≤ 900) (h : FH) (w : World) (hs : Sits h w) (r : repState h cs s) (rd : RowAt h AD ds) :
    Calls Try.prog 15 #[.agg cs.toArray, .slice AD ds.length cD] w fun e w' => RetState h w (applyS s ds) e w' := by
  obtain ⟨A1, c1, A2, c2, rfl, l1, r1, l2, r2⟩ := r
  have hld := rd.1
  have hmf : ∀ fn first cap w, (Instr.makeFunc fn first cap).run Try.prog w = .ok (.func fn first cap) w := fun _ _ _ _ => rfl
  have HFD := hid hfitD
  have K1 := hid (fun (h' : FH) w' hs' (l : FLe h h') => state_copied s.inodes A1 c1 (by omega) hfit h' w' hs' (r1.mono l))
  have K2 := hid (fun (h' : FH) w' hs' (l : FLe h h') => clone_Int s.bads A2 c2 (by omega) h' w' hs' (r2.mono l))
  have E1 := (Ext.refl hs).alloc (.cells #[.int .i64 s.next, .slice A1 s.inodes.length c1, .slice A2 s.bads.length c2] 31)
  have E2 := E1.alloc (.cells #[.int .i64 0, .slice none 0 0, .slice none 0 0] 31)
  have hS := box_alloc (heap_new w (.cells #[.int .i64 s.next, .slice A1 s.inodes.length c1, .slice A2 s.bads.length c2] 31)) (.cells #[.int .i64 0, .slice none 0 0, .slice none 0 0] 31)
  have hR := heap_new (w.alloc (.cells #[.int .i64 s.next, .slice A1 s.inodes.length c1, .slice A2 s.bads.length c2] 31)) (.cells #[.int .i64 0, .slice none 0 0, .slice none 0 0] 31)
  have nS := hid (hs.none (Nat.le_refl w.heap.size))
  have nR := hid (E1.sits.none (Nat.le_refl _))
  clear E1 hfit hfitD
  go_enter Try.func15, Try.ntmps15
  go_upto_region 1 with (fail)
  rw [show (w.alloc (.cells #[.int .i64 s.next, .slice A1 s.inodes.length c1, .slice A2 s.bads.length c2] 31)).heap.size = w.heap.size + 1 by simp] at hR nR
  have hW2 : ((w.alloc (.cells #[.int .i64 s.next, .slice A1 s.inodes.length c1, .slice A2 s.bads.length c2] 31)).alloc (.cells #[.int .i64 0, .slice none 0 0, .slice none 0 0] 31)).heap.size = w.heap.size + 2 := by simp
  obtain ⟨gS, hgS⟩ : ∃ gS, gS = w.heap.size := ⟨_, rfl⟩
  obtain ⟨gR, hgR⟩ : ∃ gR, gR = w.heap.size + 1 := ⟨_, rfl⟩
  obtain ⟨B, hB⟩ : ∃ B, B = w.heap.size + 2 := ⟨_, rfl⟩
  rw [← hgS] at hS nS
  rw [← hgR] at hR nR
  rw [← hB] at hW2
  rw [← hgR, ← hgS]
  with_reducible generalize (w.alloc (.cells #[.int .i64 s.next, .slice A1 s.inodes.length c1, .slice A2 s.bads.length c2] 31)).alloc (.cells #[.int .i64 0, .slice none 0 0, .slice none 0 0] 31) = W2 at E2 hS hR hW2 ⊢
  have hwS : w.heap.size ≤ gS := by omega
  have hwB : w.heap.size ≤ B := by omega
  have hwR : w.heap.size ≤ gR := by omega
  have hSR : gS ≠ gR := by omega
  have hSB : gS < B := by omega
  have hRB : gR < B := by omega
  clear hgS hgR hB
  have Ed := E2.drew
  have hdz : W2.drew.heap.size = B := hW2
  have y1 : W2.cell? ⟨gS, 1, none⟩ = some (.slice A1 s.inodes.length c1) := box_cell (j := 1) hS rfl
  have y2 : W2.cell? ⟨gS, 2, none⟩ = some (.slice A2 s.bads.length c2) := box_cell (j := 2) hS rfl
  go_cut [9] (fun s9 wx => ∃ h' vI vB, Hid (InApply h w gS gR B s h' wx vI vB))
  case first =>
    go_region_with (first
      | (go_at_call 40; refine (K1.out _ _ Ed.sits (FLe.refl h)).mono ?_; rintro e' w2 ⟨v1, h2, rfl, O1, F2⟩; obtain ⟨A3, c3, hv1, _⟩ := O1.slice; subst hv1; have hf2 := F2.row (show W2.drew.heap[gS]? = _ from hS); have hz2 := F2.row (show W2.drew.heap[gR]? = _ from hR); have x2 : w2.cell? ⟨gS, 2, none⟩ = some (.slice A2 s.bads.length c2) := box_cell (j := 2) hf2 rfl; have Ed2 := Ed.trans F2; have l2 := F2.le; have O1 := hid O1)
      | (go_at_call 41; refine (K2.out _ _ Ed2.sits l2).mono ?_; rintro e' w3 ⟨v2, rfl, O2, F3⟩; obtain ⟨A4, c4, hv2, _⟩ := O2.slice; subst hv2; have hf3 := F3.row hf2; have hz3 := F3.row hz2; have z1 := box_free (j := 1) hf3; have z2 := box_free (j := 2) hf3; have q2 := box_free (j := 2) (box_set (i := 1) hf3 (.slice A3 s.inodes.length c3)); have q1 := box_free (j := 1) (box_set (i := 2) hf3 (.slice A4 s.bads.length c4)); have p2 := box_cell (j := 2) (v := .slice A2 s.bads.length c2) (box_set (i := 1) hf3 (.slice A3 s.inodes.length c3)) rfl; have p1 := box_cell (j := 1) (v := .slice A1 s.inodes.length c1) hf3 rfl; have p3 := box_cell (j := 2) (v := .slice A2 s.bads.length c2) hf3 rfl; have O2 := hid O2))
    all_goals
      have lt0 : gS < W2.drew.heap.size := (Array.getElem?_eq_some_iff.1 hS).1
      have lt1 : gR < W2.drew.heap.size := (Array.getElem?_eq_some_iff.1 hR).1
      have lt2 : gS < w2.heap.size := (Array.getElem?_eq_some_iff.1 hf2).1
      have lt3 : gR < w2.heap.size := (Array.getElem?_eq_some_iff.1 hz2).1
      have g0 := F3.none (F2.none nS.out lt0) lt2
      have g1 := F3.none (F2.none nR.out lt1) lt3
      have B5 := box_set (i := 2) (box_set (i := 1) hf3 (.slice A3 s.inodes.length c3)) (.slice A4 s.bads.length c4)
      have Z5 := box_other (i := 2) (box_other (i := 1) hz3 (fun e => hSR e.symm) (.slice A3 s.inodes.length c3)) (fun e => hSR e.symm) (.slice A4 s.bads.length c4)
      have E5 := Ext.setCell (p := ⟨gS, 2, none⟩) (Ext.setCell (p := ⟨gS, 1, none⟩) (Ed2.trans F3) hwS g0 (.slice A3 s.inodes.length c3)) hwS g0 (.slice A4 s.bads.length c4)
      have OA := (O1.out.ext F3).rebase (base' := B) (by omega)
      have OB := O2.out.rebase (base' := B) (by have := F2.size; omega)
      have GA : w3.grownBy ((w3.setCell ⟨gS, 1, none⟩ (.slice A3 s.inodes.length c3)).setCell ⟨gS, 2, none⟩ (.slice A4 s.bads.length c4)) (some gS) := (grown_set1 w3 gS 1 (.slice A3 s.inodes.length c3)).trans (grown_set1 _ gS 2 (.slice A4 s.bads.length c4))
      have OA2 := OA.kept GA (.inr (own_ne OA hSB)) (FLe.refl _) OA.free
      have OB2 := OB.kept GA (.inr (own_ne OB hSB)) (FLe.refl _) OB.free
      go_wp2_with fail
      go_meet
      exact ⟨_, _, _, hid ⟨E5, B5, Z5, OA2, OB2, g0, g1, by have := F2.size; have := F3.size; have : B ≤ w3.heap.size := (by omega); simpa [World.setCell] using this⟩⟩
  case rest =>
    obtain ⟨h0, vI, vB, I0⟩ := hcut
    clear E2 Ed hS hR hW2 hdz y1 y2 K1 K2 nS nR
    go_wp2_with fail
    go_loopw [17] (fun i wr => ∃ (k : Nat) (h' : FH) (vI vB : Value), k ≤ ds.length ∧ i = .int .i64 k ∧ Hid (InApply h w gS gR B (applyS s (ds.take k)) h' wr vI vB)) (fun i _ => ds.length - (intOf i).toNat)
    case atStart => exact ⟨0, h0, vI, vB, Nat.zero_le _, rfl, I0⟩
    case round =>
      obtain ⟨k, h', vI', vB', hk, rfl, I⟩ := hrel
      by_cases hlt : k < ds.length
      · obtain ⟨d, hd⟩ : ∃ d, ds[k]? = some d := ⟨ds[k], by simp [hlt]⟩
        obtain ⟨b, off, A7, c7, A8, c8, rfl, d0, d1, d2, d3, d4, d5, d6, d7, d8, t0, t1, t2, t3, t4⟩ := (rd.mono I.out.ext.le).deed hd I.out.ext.sits
        have HFd := hid (HFD.out d (List.mem_of_getElem? hd))
        have HS := hid (applyS_snoc s hd)
        have hln := applyS_take_len s ds k hk
        have RD := hid (show repInode h' [.int .i64 d.inode.no, .int .i64 d.inode.kind, .int .i64 d.inode.links, .int .i64 d.inode.size, .string d.inode.target, .slice A7 d.inode.entries.length c7, .slice A8 d.inode.runs.length c8] d.inode from ⟨A7, c7, A8, c8, rfl, t0, t1, t2, t3, t4⟩)
        clear hd
        generalize applyS s (ds.take k) = t at I HS hln
        go_upto_region 5 with (fail)
        obtain ⟨h2, E3, hb3, le3, hh3⟩ := (Ext.refl I.out.ext.sits).boxF #[.int .i64 d.kind, .int .i64 d.no, .int .i64 d.inode.no, .int .i64 d.inode.kind, .int .i64 d.inode.links, .int .i64 d.inode.size, .string d.inode.target, .slice A7 d.inode.entries.length c7, .slice A8 d.inode.runs.length c8] 39
        have I1 := hid (I.out.more E3)
        have RD := hid (RD.out.mono le3)
        clear hh3 E3 le3
        generalize hgb : wr.heap.size = gb at *
        with_reducible generalize wr.alloc (.cells #[.int .i64 d.kind, .int .i64 d.no, .int .i64 d.inode.no, .int .i64 d.inode.kind, .int .i64 d.inode.links, .int .i64 d.inode.size, .string d.inode.target, .slice A7 d.inode.entries.length c7, .slice A8 d.inode.runs.length c8] 39) = W1 at I1 ⊢
        have m0 : W1.cell? ⟨gb, 0, none⟩ = some (.int .i64 d.kind) := Sits_at I1.out.ext.sits hb3 rfl
        have m1 : W1.cell? ⟨gb, 1, none⟩ = some (.int .i64 d.no) := Sits_at I1.out.ext.sits hb3 rfl
        have m2 : W1.cell? ⟨gb, 2, none⟩ = some (.int .i64 d.inode.no) := Sits_at I1.out.ext.sits hb3 rfl
        have m3 : W1.cell? ⟨gb, 3, none⟩ = some (.int .i64 d.inode.kind) := Sits_at I1.out.ext.sits hb3 rfl
        have m4 : W1.cell? ⟨gb, 4, none⟩ = some (.int .i64 d.inode.links) := Sits_at I1.out.ext.sits hb3 rfl
        have m5 : W1.cell? ⟨gb, 5, none⟩ = some (.int .i64 d.inode.size) := Sits_at I1.out.ext.sits hb3 rfl
        have m6 : W1.cell? ⟨gb, 6, none⟩ = some (.string d.inode.target) := Sits_at I1.out.ext.sits hb3 rfl
        have m7 : W1.cell? ⟨gb, 7, none⟩ = some (.slice A7 d.inode.entries.length c7) := Sits_at I1.out.ext.sits hb3 rfl
        have m8 : W1.cell? ⟨gb, 8, none⟩ = some (.slice A8 d.inode.runs.length c8) := Sits_at I1.out.ext.sits hb3 rfl
        have x0 : W1.cell? ⟨gS, 0, none⟩ = some (.int .i64 t.next) := box_cell (j := 0) I1.out.box rfl
        have x1 : W1.cell? ⟨gS, 1, none⟩ = some vI' := box_cell (j := 1) I1.out.box rfl
        have x2 : W1.cell? ⟨gS, 2, none⟩ = some vB' := box_cell (j := 2) I1.out.box rfl
        have f0 := box_free (j := 0) I1.out.box
        have f1 := box_free (j := 1) I1.out.box
        have f2 := box_free (j := 2) I1.out.box
        have KP := hid (state_put t.inodes d.inode _ HFd.out (by omega) h2 W1 I1.out.ext.sits B I1.out.big vI' I1.out.ino RD.out)
        have KD := hid (deleteFunc_Inode t.inodes d.no (by omega) h2 W1 I1.out.ext.sits B vI' I1.out.ino gb (FH.at hb3 rfl))
        have KB := hid (state_bad t.bads d.no (by omega) h2 W1 I1.out.ext.sits B I1.out.big vB' I1.out.bad)
        clear d0 d1 d2 d3 d4 d5 d6 d7 d8 I
        by_cases k1 : d.kind = 1
        · have b1 : (d.kind == 1) = true := by simpa using k1
          have HA := hid (show applyD t d = { t with next := d.no } by unfold applyD; rw [if_pos k1])
          clear k1
          go_wp2_with fail
          go_roundw
          case rel => exact ⟨k + 1, h2, vI', vB', by omega, by go_num, hid (by rw [HS.out, HA.out]; exact I1.out.setNext hwS hSR hSB _)⟩
          case measure => simp [intOf]; omega
        · have b1 : (d.kind == 1) = false := by simpa using k1
          by_cases k2 : d.kind = 2
          · have b2 : (d.kind == 2) = true := by simpa using k2
            have HA := hid (show applyD t d = { t with inodes := putI t.inodes d.inode } by unfold applyD; rw [if_neg k1, if_pos k2])
            clear k1 k2
            go_wp2_with (go_at_call 42; refine KP.out.mono ?_; rintro e w2 ⟨v', h3, rfl, O, X⟩; obtain ⟨A9, c9, hv9, _⟩ := O.slice; have bx := X.block I1.out.box (own_ne I1.out.ino hSB); subst hv9; have y1 : w2.cell? ⟨gS, 1, none⟩ = some vI' := box_cell (j := 1) bx rfl; have g1 := box_free (j := 1) bx; have O := hid O; have X := hid X; clear bx)
            go_roundw
            case rel => exact ⟨k + 1, h3, _, vB', by omega, by go_num, hid (by rw [HS.out, HA.out]; exact I1.out.setI hwS hwB hSR hSB hRB O.out X.out)⟩
            case measure => simp [intOf]; omega
          · have b2 : (d.kind == 2) = false := by simpa using k2
            by_cases k3 : d.kind = 3
            · have b3 : (d.kind == 3) = true := by simpa using k3
              have HA := hid (show applyD t d = { t with inodes := t.inodes.filter (neI d.no) } by unfold applyD; rw [if_neg k1, if_neg k2, if_pos k3])
              clear k1 k2 k3
              go_wp2_with (go_at_call 43; refine KD.out.mono ?_; rintro e w2 ⟨v', rfl, O, G⟩; have X := (OExt.of (Ext.refl I1.out.ext.sits) vI'.ownBlock).row G I1.out.ino.free; obtain ⟨A9, c9, hv9, _⟩ := O.slice; have bx := X.block I1.out.box (own_ne I1.out.ino hSB); subst hv9; have y1 : w2.cell? ⟨gS, 1, none⟩ = some vI' := box_cell (j := 1) bx rfl; have g1 := box_free (j := 1) bx; have O := hid O; have X := hid X; clear bx)
              go_roundw
              case rel => exact ⟨k + 1, h2, _, vB', by omega, by go_num, hid (by rw [HS.out, HA.out]; exact I1.out.setI hwS hwB hSR hSB hRB O.out X.out)⟩
              case measure => simp [intOf]; omega
            · have b3 : (d.kind == 3) = false := by simpa using k3
              by_cases k4 : d.kind = 4
              · have b4 : (d.kind == 4) = true := by simpa using k4
                have HA := hid (show applyD t d = { t with bads := badZ t.bads d.no } by unfold applyD; rw [if_neg k1, if_neg k2, if_neg k3, if_pos k4])
                clear k1 k2 k3 k4
                go_wp2_with (go_at_call 45; refine KB.out.mono ?_; rintro e w2 ⟨v', h3, rfl, O, X⟩; obtain ⟨A9, c9, hv9, _⟩ := O.slice; have bx := X.block I1.out.box (own_ne I1.out.bad hSB); subst hv9; have y1 : w2.cell? ⟨gS, 2, none⟩ = some vB' := box_cell (j := 2) bx rfl; have g1 := box_free (j := 2) bx; have O := hid O; have X := hid X; clear bx)
                go_roundw
                case rel => exact ⟨k + 1, h3, vI', _, by omega, by go_num, hid (by rw [HS.out, HA.out]; exact I1.out.setB hwS hwB hSR hSB hRB O.out X.out)⟩
                case measure => simp [intOf]; omega
              · have b4 : (d.kind == 4) = false := by simpa using k4
                have HA := hid (show applyD t d = t by unfold applyD; rw [if_neg k1, if_neg k2, if_neg k3, if_neg k4])
                clear k1 k2 k3 k4
                go_wp2_with fail
                go_roundw
                case rel => exact ⟨k + 1, h2, vI', vB', by omega, by go_num, hid (by rw [HS.out, HA.out]; exact I1.out)⟩
                case measure => simp [intOf]; omega
      · have HT := hid (show ds.take k = ds from List.take_of_length_le (by omega))
        have hln := applyS_take_len s ds k hk
        rw [HT.out] at I hln
        obtain ⟨t, ht⟩ : ∃ t, applyS s ds = t := ⟨_, rfl⟩
        rw [ht] at I hln
        have HT2 := hid ht
        clear ht
        obtain ⟨A9, c9, hv9, _⟩ := I.out.ino.slice
        obtain ⟨Ab, cb, hvb, _⟩ := I.out.bad.slice
        subst hv9 hvb
        obtain ⟨h2, B1, e1, q1, p1, le1, s1, m1, fr1⟩ := I.out.ino.stay2 I.out.ext.sits (by omega)
        obtain ⟨rfl, rfl⟩ : A9 = B1 ∧ c9 = e1 := by simpa using q1
        have OB : OwnL h2 wr B 3 (.slice Ab t.bads.length cb) t.bads := by
          obtain ⟨cc, a, b⟩ := I.out.bad.own
          refine ⟨⟨cc, a, b.mono le1⟩, fun g hg => ?_⟩
          cases e : h2 g with
          | none => rfl
          | some o =>
            rcases fr1 g (by rw [e]; simp) with h5 | h5
            · exact absurd (I.out.bad.free g hg) h5
            · exact absurd (hg.trans h5.symm) (by
                rcases own_apart I.out.bad I.out.ino (by decide) with h6 | h6
                · rw [h6] at hg; cases hg
                · exact h6)
        obtain ⟨h3, B2, e2, q2, p2, le2, s2, m2, fr2⟩ := OB.stay2 s1 (by omega)
        obtain ⟨rfl, rfl⟩ : Ab = B2 ∧ cb = e2 := by simpa using q2
        have EF : Ext h w h3 wr := ⟨I.out.ext.le.trans (le1.trans le2), s2, I.out.ext.below, fun b hb => by
          rcases fr2 b hb with h5 | h5
          · rcases fr1 b h5 with h6 | h6
            · exact I.out.ext.fresh b h6
            · exact .inr (Nat.le_trans hwB (I.out.ino.lt b h6).1)
          · exact .inr (Nat.le_trans hwB (I.out.bad.lt b h5).1)⟩
        have n3 : h3 gR = none := by
          cases e : h3 gR with
          | none => rfl
          | some o =>
            rcases fr2 gR (by rw [e]; simp) with h5 | h5
            · rcases fr1 gR h5 with h6 | h6
              · exact absurd I.out.nR h6
              · exact absurd h6 (own_ne I.out.ino hRB)
            · exact absurd h5 (own_ne I.out.bad hRB)
        have RF := hid (show repState h3 [.int .i64 t.next, .slice A9 t.inodes.length c9, .slice Ab t.bads.length cb] t from ⟨A9, c9, Ab, cb, rfl, m1, p1.mono le2, m2, p2⟩)
        have EF := hid EF
        have x0 : wr.cell? ⟨gS, 0, none⟩ = some (.int .i64 t.next) := box_cell (j := 0) I.out.box rfl
        have x1 : wr.cell? ⟨gS, 1, none⟩ = some (.slice A9 t.inodes.length c9) := box_cell (j := 1) I.out.box rfl
        have x2 : wr.cell? ⟨gS, 2, none⟩ = some (.slice Ab t.bads.length cb) := box_cell (j := 2) I.out.box rfl
        have z0 : wr.cell? ⟨gR, 0, none⟩ = some (.int .i64 0) := box_cell (j := 0) I.out.out rfl
        have z1 : wr.cell? ⟨gR, 1, none⟩ = some (.slice none 0 0) := box_cell (j := 1) I.out.out rfl
        have z2 : wr.cell? ⟨gR, 2, none⟩ = some (.slice none 0 0) := box_cell (j := 2) I.out.out rfl
        have f0 := box_free (j := 0) I.out.out
        have f1 := box_free (j := 1) I.out.out
        have f2 := box_free (j := 2) I.out.out
        clear q1 q2 le1 le2 s1 s2 fr1 fr2 p1 p2 m1 m2 OB
        go_wp2_with fail
        have R7 : ((((wr.setCell ⟨gR, 0, none⟩ (.int .i64 t.next)).setCell ⟨gR, 1, none⟩ (.slice A9 t.inodes.length c9)).setCell ⟨gR, 2, none⟩ (.slice Ab t.bads.length cb))).heap[gR]? = some (.cells #[.int .i64 t.next, .slice A9 t.inodes.length c9, .slice Ab t.bads.length cb] 31 (0, 0)) := setCells_row [.int .i64 t.next, .slice A9 t.inodes.length c9, .slice Ab t.bads.length cb] I.out.out rfl
        have E7 : Ext h w h3 (((wr.setCell ⟨gR, 0, none⟩ (.int .i64 t.next)).setCell ⟨gR, 1, none⟩ (.slice A9 t.inodes.length c9)).setCell ⟨gR, 2, none⟩ (.slice Ab t.bads.length cb)) := Ext.setCells (g := gR) hwR n3 [.int .i64 t.next, .slice A9 t.inodes.length c9, .slice Ab t.bads.length cb] 0 _ EF.out
        refine bodyPost_ret (v := .agg #[.int .i64 t.next, .slice A9 t.inodes.length c9, .slice Ab t.bads.length cb]) ?_ rfl ⟨_, h3, rfl, by rw [HT2.out]; exact RF.out, E7⟩
        exact results_cell_row (p := 4) (ty := 31) (by kernel_rfl) _ _ gR 31 #[.int .i64 t.next, .slice A9 t.inodes.length c9, .slice Ab t.bads.length cb] (0, 0) _ (by simp) R7 Try.underlying31 rfl (by kernel_rfl)
end Go.Proofs.Yteolmamiblddjaa
