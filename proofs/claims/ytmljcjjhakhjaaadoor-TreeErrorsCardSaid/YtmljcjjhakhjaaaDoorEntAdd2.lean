import Derived.Test.YtmljcjjhakhjaaaDoorIns2
namespace Go.Proofs.YtmljcjjhakhjaaaDoor
open Go.RowKit Go.Sort
set_option linter.unusedVariables false
/-! ### entries.Add -/
theorem insert_at {h h1 : FH} {w W : World} (E : Ext h w h1 W) (xs : List Entry) (i : Nat) (hi : i ≤ xs.length) (e : Entry) (hsz : e.name.size ≤ 9223372036854775807) (hbig : xs.length ≤ 1000) (base : Nat) (hb1 : w.heap.size ≤ base) (hb2 : base ≤ W.heap.size) (v : Value) (O : OwnL h1 W base 67 v xs) (gv : Nat)
    (hrow : W.heap[gv]? = some (.cells #[.string e.name, .int .i64 e.no] 67 (0, 0))) (hgv : w.heap.size ≤ gv) (hnone : h1 gv = none) (hne : v.ownBlock ≠ some gv) :
    Calls Tryd.prog 52 #[v, .int .i64 i, .slice (some ⟨gv, 0, none⟩) 1 1] W fun e' w' => ∃ v', e' = .returned v' ∧ OwnL h1 w' w.heap.size 67 v' (xs.take i ++ [e] ++ xs.drop i) ∧ Ext h w h1 w' := by
  have E2 := E.add hrow hnone hgv
  have O2 : OwnL (h1.add gv (.cells #[.string e.name, .int .i64 e.no] 67 (0, 0))) W base 67 v xs := by
    obtain ⟨c, a, b⟩ := O.own
    exact ⟨⟨c, a, b.ent_any⟩, fun g hg => by rw [FH.add_other _ _ (fun e => hne (by rw [hg, e]))]; exact O.free g hg⟩
  refine (insert_Entry xs i hi e hsz hbig _ W E2.sits base hb2 v O2 gv (FH.add_same _ _ _)).mono ?_
  rintro e' w' ⟨v', rfl, O3, G⟩
  exact ⟨v', rfl, (O3.back_ent (FLe.add hnone _)).rebase hb1, E.grown G (fun k hk => ⟨Nat.le_trans hb1 (O.lt k hk).1, O.free k hk⟩)⟩
theorem insert_a {h h1 : FH} {w W0 wf : World} (E0 : Ext h w h1 W0) (xs : List Entry) (i : Nat) (hi : i ≤ xs.length) (e : Entry) (hsz : e.name.size ≤ 9223372036854775807) (hbig : xs.length ≤ 1000) (v : Value) (Ef : Ext h1 W0 h1 wf) (O : OwnL h1 wf W0.heap.size 67 v xs) :
    Calls Tryd.prog 52 #[v, .int .i64 i, .slice (some ⟨wf.heap.size, 0, none⟩) 1 1] (wf.alloc (.cells #[.string e.name, .int .i64 e.no] 67)) fun e' w' => ∃ v', e' = .returned v' ∧ OwnL h1 w' w.heap.size 67 v' (xs.take i ++ [e] ++ xs.drop i) ∧ Ext h w h1 w' := by
  have E := E0.trans Ef
  refine insert_at (E.alloc _) xs i hi e hsz hbig W0.heap.size E0.size ?_ v (O.alloc _) wf.heap.size (heap_new _ _) E.size (E.sits.none (Nat.le_refl _)) (fun hk => absurd (O.lt _ hk).2 (Nat.lt_irrefl _))
  have := Ef.size
  simp; omega
theorem insert_b {h h1 : FH} {w W0 wf : World} (E0 : Ext h w h1 W0) (xs : List Entry) (i : Nat) (hi : i ≤ xs.length) (e : Entry) (hsz : e.name.size ≤ 9223372036854775807) (hbig : xs.length ≤ 1000) (v : Value) (Ef : Ext h1 (W0.alloc (.cells #[.string e.name, .int .i64 e.no] 67)) h1 wf) (O : OwnL h1 wf (W0.alloc (.cells #[.string e.name, .int .i64 e.no] 67)).heap.size 67 v xs) :
    Calls Tryd.prog 52 #[v, .int .i64 i, .slice (some ⟨W0.heap.size, 0, none⟩) 1 1] wf fun e' w' => ∃ v', e' = .returned v' ∧ OwnL h1 w' w.heap.size 67 v' (xs.take i ++ [e] ++ xs.drop i) ∧ Ext h w h1 w' := by
  have E := (E0.alloc (.cells #[.string e.name, .int .i64 e.no] 67)).trans Ef
  refine insert_at E xs i hi e hsz hbig _ (E0.alloc _).size Ef.size v O W0.heap.size (Ext.row Ef (heap_new _ _)) E0.size (E0.sits.none (Nat.le_refl _)) (fun hk => ?_)
  have h2 := (O.lt _ hk).1
  have h3 : (W0.alloc (.cells #[.string e.name, .int .i64 e.no] 67)).heap.size = W0.heap.size + 1 := by simp
  omega
theorem posE_le : ∀ (xs : List Entry) (s : ByteArray), posE xs s ≤ xs.length := fun xs s => by
  unfold posE
  induction xs with
  | nil => simp
  | cons x xs ih => rw [List.takeWhile_cons]; split <;> simp <;> omega
set_option maxHeartbeats 8000000 in
set_option maxRecDepth 100000 in
theorem entries_Add (xs : List Entry) (A : Option Addr) (c : Nat) (hbig : xs.length ≤ 1000) (e : Entry) (hsz : e.name.size ≤ 9223372036854775807) (h : FH) (w : World) (hs : Sits h w) (r : RowAt h A xs) :
    Calls Tryd.prog 23 #[.slice A xs.length c, .agg #[.string e.name, .int .i64 e.no]] w fun e' w' => RetTup h w 67 (addL xs e) (addC xs e) e' w' := by
  have hl := r.1
  have hmf : ∀ fn first cap w, (Instr.makeFunc fn first cap).run Tryd.prog w = .ok (.func fn first cap) w := fun _ _ _ _ => rfl
  obtain ⟨q, hq⟩ : ∃ q, nameB e.name = q := ⟨_, rfl⟩
  obtain ⟨v, hv⟩ : ∃ v, findE xs e.name = v := ⟨_, rfl⟩
  obtain ⟨h1, hh⟩ : ∃ h1, h1 = h.add w.heap.size (.cells #[.string e.name, .int .i64 e.no] 67) := ⟨_, rfl⟩
  have E1 : Ext h w h1 (w.alloc (.cells #[.string e.name, .int .i64 e.no] 67)) := by
    rw [hh]; exact ((Ext.refl hs).alloc _).add (heap_new _ _) (hs.none (Nat.le_refl _)) (Nat.le_refl _)
  have b0 : h1.cell ⟨w.heap.size, 0, none⟩ = some (.string e.name) := by rw [hh]; exact FH.add_cell _ _ _ _ _ rfl
  have b1 : h1.cell ⟨w.heap.size, 1, none⟩ = some (.int .i64 e.no) := by rw [hh]; exact FH.add_cell _ _ _ _ _ rfl
  have B0 := hid b0
  have B1 := hid b1
  have hle : FLe h h1 := E1.le
  have r1 := r.mono hle
  have KF := hid (fun w hs => entries_Find xs A c e.name hsz v hv h w hs r)
  have KN := hid (fun w hs => name_Right e.name hsz q hq h w hs)
  have HQ := hid hq
  have HV := hid hv
  have y0 := E1.sits.cell b0
  have y1 := E1.sits.cell b1
  clear hh hq hv b0 b1
  go_enter Tryd.func23, Tryd.ntmps23
  go_upto_region 1 with (fail)
  generalize (w.alloc (.cells #[.string e.name, .int .i64 e.no] 67)) = w1 at *
  generalize hg : w.heap.size = g at *
  go_wp2_with fail
  refine (KF.out _ E1.back.sits).mono ?_
  rintro e' w2 ⟨rfl, F1⟩
  have E2 := E1.more F1
  have x0 := E2.sits.cell B0.out
  have x1 := E2.sits.cell B1.out
  clear F1 E1 y0 y1
  go_wp2_with fail
  refine (KN.out _ E2.back.sits).mono ?_
  rintro e' w3 ⟨rfl, F2⟩
  have E3 := E2.more F2
  have z0 := E3.sits.cell B0.out
  have z1 := E3.sits.cell B1.out
  clear F2 E2 x0 x1 KF KN
  cases q
  · have HC := hid (show addC xs e = 17 by unfold addC; rw [HQ.out]; rfl)
    have HL := hid (show addL xs e = [] by unfold addL; rw [HC.out]; rfl)
    go_wp2_with fail
    go_ret2
    exact ⟨.slice none 0 0, by rw [HC.out]; rfl, by rw [HL.out]; exact OwnL.nil _ _ _ _, E3.back⟩
  · by_cases hno : e.no ≤ 0
    · have HC := hid (show addC xs e = 1 by unfold addC; rw [HQ.out, if_neg (by decide), if_pos hno])
      have HL := hid (show addL xs e = [] by unfold addL; rw [HC.out]; rfl)
      go_wp2_with fail
      go_ret2
      exact ⟨.slice none 0 0, by rw [HC.out]; rfl, by rw [HL.out]; exact OwnL.nil _ _ _ _, E3.back⟩
    · cases v with
      | some a =>
        have HC := hid (show addC xs e = 12 by unfold addC; rw [HQ.out, HV.out, if_neg (by decide), if_neg hno]; rfl)
        have HL := hid (show addL xs e = [] by unfold addL; rw [HC.out]; rfl)
        simp only [Option.isSome_some, Option.getD_some]
        go_wp2_with fail
        go_ret2
        exact ⟨.slice none 0 0, by rw [HC.out]; rfl, by rw [HL.out]; exact OwnL.nil _ _ _ _, E3.back⟩
      | none =>
        dsimp only [Option.isSome_none, Option.getD_none]
        by_cases h100 : 100 ≤ xs.length
        · have HC := hid (show addC xs e = 21 by unfold addC; rw [HQ.out, HV.out, if_neg (by decide), if_neg hno, if_pos h100]; rfl)
          have HL := hid (show addL xs e = [] by unfold addL; rw [HC.out]; rfl)
          go_wp2_with fail
          go_ret2
          exact ⟨.slice none 0 0, by rw [HC.out]; rfl, by rw [HL.out]; exact OwnL.nil _ _ _ _, E3.back⟩
        · have HC := hid (show addC xs e = 0 by unfold addC; rw [HQ.out, HV.out, if_neg (by decide), if_neg hno, if_neg h100]; rfl)
          have HL := hid (show addL xs e = insE xs e by unfold addL; rw [HC.out]; rfl)
          have HP := posE_le xs e.name
          obtain ⟨i, hi, HI, HX⟩ : ∃ i : Nat, i ≤ xs.length ∧ Hid (addL xs e = xs.take i ++ [e] ++ xs.drop i) ∧ Hid (ixGt xs e.name = (i : Int) ∧ 0 ≤ ixGt xs e.name ∨ ixGt xs e.name = -1 ∧ i = xs.length) := by
            by_cases hlt : posE xs e.name < xs.length
            · exact ⟨posE xs e.name, HP, hid (by rw [HL.out]; rfl), hid (.inl (by unfold ixGt; rw [if_pos hlt]; exact ⟨rfl, by omega⟩))⟩
            · exact ⟨xs.length, Nat.le_refl _, hid (by rw [HL.out]; unfold insE; rw [show posE xs e.name = xs.length by omega]), hid (.inr (by unfold ixGt; rw [if_neg hlt]; exact ⟨rfl, rfl⟩))⟩
          have KI := hid (fun w hs => index_gt xs A c e.name h1 g B0.out w hs r1)
          have KC := hid (fun w hs => clone_Entry xs A c (by omega) h1 w hs r1)
          clear HP
          go_wp2_with fail
          refine (KI.out _ E3.sits).mono ?_
          rintro e' w4 ⟨rfl, F3⟩
          have E4 := E3.trans F3
          have hc0 : ∀ w' : World, Ext h w h1 w' → w'.cell? ⟨g, 0, none⟩ = some (.string e.name) := fun w' E => E.sits.cell B0.out
          have hc1 : ∀ w' : World, Ext h w h1 w' → w'.cell? ⟨g, 1, none⟩ = some (.int .i64 e.no) := fun w' E => E.sits.cell B1.out
          have E5 := E4.drew
          clear F3 z0 z1 KI E3
          have fin : ∀ (u : Value) (w6 : World), OwnL h1 w6 w.heap.size 67 u (xs.take i ++ [e] ++ xs.drop i) → OwnL h w6 w.heap.size 67 u (addL xs e) := fun u w6 O => by
            rw [HI.out]
            exact O.back_ent hle
          have FIN := hid fin
          clear fin
          rcases HX.out with ⟨hx, hx0⟩ | ⟨hx, hx0⟩
          · rw [hx] at hx0 ⊢
            clear hx HX
            have hn : ¬ ((i : Int) < 0) := by omega
            go_upto_region 13 with (fail)
            go_region_held3 (fun w' => Ext h w h1 w') (first | with_reducible assumption | with_reducible exact E9 | with_reducible exact Ext.alloc Eg _ | with_reducible exact Ext.alloc E5 _ | with_reducible exact (Ext.alloc E4 _).drew) (first | (go_at_call 53; refine (KC.out _ (Ext.sits (h := h) (h' := h1) (w := w) (by first | with_reducible assumption | assumption))).mono ?_; rintro e' wf ⟨v1, rfl, O1, Ef⟩; have Eg := Ext.trans (h := h) (w := w) (h1 := h1) (by first | with_reducible assumption | assumption) Ef) | (go_at_call 52; (first | refine (insert_a (h := h) (w := w) E5 xs _ hi e hsz hbig v1 Ef O1).mono ?_ | refine (insert_b (h := h) (w := w) E5 xs _ hi e hsz hbig v1 Ef O1).mono ?_); rintro e' w9 ⟨v9, rfl, O9, E9⟩))
            all_goals
              have O9 := hid (FIN.out _ _ O9)
              go_wp2
              go_ret2
              exact ⟨_, by rw [HC.out]; rfl, O9.out, E9.back⟩
          · rw [hx]
            subst hx0
            clear hx HX
            go_upto_region 13 with (fail)
            go_region_held3 (fun w' => Ext h w h1 w') (first | with_reducible assumption | with_reducible exact E9 | with_reducible exact Ext.alloc Eg _ | with_reducible exact Ext.alloc E5 _ | with_reducible exact (Ext.alloc E4 _).drew) (first | (go_at_call 53; refine (KC.out _ (Ext.sits (h := h) (h' := h1) (w := w) (by first | with_reducible assumption | assumption))).mono ?_; rintro e' wf ⟨v1, rfl, O1, Ef⟩; have Eg := Ext.trans (h := h) (w := w) (h1 := h1) (by first | with_reducible assumption | assumption) Ef) | (go_at_call 52; (first | refine (insert_a (h := h) (w := w) E5 xs _ hi e hsz hbig v1 Ef O1).mono ?_ | refine (insert_b (h := h) (w := w) E5 xs _ hi e hsz hbig v1 Ef O1).mono ?_); rintro e' w9 ⟨v9, rfl, O9, E9⟩))
            all_goals
              have O9 := hid (FIN.out _ _ O9)
              go_wp2
              go_ret2
              exact ⟨_, by rw [HC.out]; rfl, O9.out, E9.back⟩
end Go.Proofs.YtmljcjjhakhjaaaDoor
