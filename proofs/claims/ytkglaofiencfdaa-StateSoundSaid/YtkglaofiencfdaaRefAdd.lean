import Derived.Test.YtkglaofiencfdaaRefEnt
import Derived.Test.YtkglaofiencfdaaRunsAll
import Derived.Test.YtkglaofiencfdaaInoAll
namespace Go.Proofs.Ytkglaofiencfdaa
open Go.RowKit Go.Sort
set_option linter.unusedVariables false
/-! ### adding an entry -/
def posE (xs : List Entry) (s : ByteArray) : Nat := (xs.takeWhile (fun x => leB x.name s)).length
def insE (xs : List Entry) (e : Entry) : List Entry := xs.take (posE xs e.name) ++ [e] ++ xs.drop (posE xs e.name)
def addC (xs : List Entry) (e : Entry) : Int := if nameB e.name = false then 17 else if e.no ≤ 0 then 1 else if (findE xs e.name).isSome = true then 12 else if 100 ≤ xs.length then 21 else 0
def addL (xs : List Entry) (e : Entry) : List Entry := if addC xs e = 0 then insE xs e else []
theorem posE_at {s : ByteArray} : ∀ {xs : List Entry} {k : Nat}, k ≤ xs.length → (∀ i y, i < k → xs[i]? = some y → leB y.name s = true) → (∀ y, xs[k]? = some y → leB y.name s = false) → posE xs s = k
  | [], k, hk, _, _ => by
    have : k = 0 := by simpa using hk
    subst this; rfl
  | x :: xs, 0, _, _, h => by
    have := h x rfl
    simp [posE, this]
  | x :: xs, k + 1, hk, h1, h2 => by
    have h0 := h1 0 x (by omega) rfl
    have ih := posE_at (s := s) (xs := xs) (k := k) (by simpa using hk) (fun i y hi hy => h1 (i + 1) y (by omega) (by simpa using hy)) (fun y hy => h2 y (by simpa using hy))
    unfold posE at ih ⊢
    rw [List.takeWhile_cons, h0]
    simp only [if_true, List.length_cons, ih]
def stayE (xs : List Entry) (k : Nat) (s : ByteArray) : Bool := match xs[k]? with
  | some y => leB y.name s
  | none => false
theorem newcells (w : World) (cs : List Value) (t : TypeId) : ∀ j u, cs[j]? = some u → (w.alloc (.cells cs.toArray t)).cell? ⟨w.heap.size, j, none⟩ = some u := fun j u hu => by
  rw [cell_of_row _ _ j cs.toArray t (0, 0) (heap_alloc_new w _)]; simpa using hu
theorem row_drop' {h : FH} {b off c : Nat} {xs : List Entry} (r : RowAt h (some ⟨b, off, none⟩) xs) (k : Nat) (hk : k ≤ xs.length) (hlc : xs.length ≤ c) : RowAt h (if c = k then some ⟨b, off, none⟩ else some ⟨b, off + k * 2, none⟩) (xs.drop k) := by
  by_cases e : c = k
  · rw [if_pos e, List.drop_of_length_le (by omega)]; exact RowAt.nil _ _
  · rw [if_neg e]; exact r.dropN k
theorem Reps.ent_any {h h' : FH} : ∀ {cells : List Value} {xs : List Entry}, Reps h cells xs → Reps h' cells xs
  | _, [], r => r
  | _, _ :: _, ⟨cs, rest, e, r, t⟩ => ⟨cs, rest, e, r, t.ent_any⟩
theorem OwnL.back_ent {h h2 : FH} {w : World} {base : Nat} {e : TypeId} {v : Value} {xs : List Entry} (o : OwnL h2 w base e v xs) (l : FLe h h2) : OwnL h w base e v xs := by
  obtain ⟨c, a, b⟩ := o.own
  refine ⟨⟨c, a, b.ent_any⟩, fun g hg => ?_⟩
  cases e : h g with
  | none => rfl
  | some x => have := l _ _ e; rw [o.free g hg] at this; cases this
set_option maxHeartbeats 8000000 in
set_option maxRecDepth 100000 in
theorem ref_AddEntry_some (xs : List Entry) (b off c : Nat) (hlc : xs.length ≤ c) (hcap : c ≤ 9223372036854775807) (hbig : xs.length ≤ 1000) (e : Entry) (hsz : e.name.size ≤ 9223372036854775807) (h : FH) (w : World) (hs : Sits h w) (r : RowAt h (some ⟨b, off, none⟩) xs) :
    Calls Try.prog 90 #[.slice (some ⟨b, off, none⟩) xs.length c, .agg #[.string e.name, .int .i64 e.no]] w fun e' w' => RetTup h w 44 (addL xs e) (addC xs e) e' w' := by
  have hl := r.1
  obtain ⟨q, hq⟩ : ∃ q, nameB e.name = q := ⟨_, rfl⟩
  obtain ⟨v, hv⟩ : ∃ v, findE xs e.name = v := ⟨_, rfl⟩
  obtain ⟨h1, hh⟩ : ∃ h1, h1 = h.add w.heap.size (.cells #[.string e.name, .int .i64 e.no] 44) := ⟨_, rfl⟩
  have E1 : Ext h w h1 (w.alloc (.cells #[.string e.name, .int .i64 e.no] 44)) := by
    rw [hh]; exact ((Ext.refl hs).alloc _).add (heap_new _ _) (hs.none (Nat.le_refl _)) (Nat.le_refl _)
  have b0 : h1.cell ⟨w.heap.size, 0, none⟩ = some (.string e.name) := by rw [hh]; exact FH.add_cell _ _ _ _ _ rfl
  have b1 : h1.cell ⟨w.heap.size, 1, none⟩ = some (.int .i64 e.no) := by rw [hh]; exact FH.add_cell _ _ _ _ _ rfl
  have B0 := hid b0
  have B1 := hid b1
  have hle : FLe h h1 := E1.le
  have r1 := r.mono hle
  have KF := hid (fun w hs => ref_Find xs _ c e.name hsz v hv h w hs r)
  have KN := hid (fun w hs => ref_RightName e.name hsz q hq h w hs)
  have HQ := hid hq
  have HV := hid hv
  have y0 := E1.sits.cell b0
  have y1 := E1.sits.cell b1
  clear hh hq hv b0 b1
  go_enter Try.func90, Try.ntmps90
  go_upto_region 1 with (fail)
  generalize (w.alloc (.cells #[.string e.name, .int .i64 e.no] 44)) = w1 at *
  generalize hg : w.heap.size = g at *
  go_wp2_with fail
  refine (KF.out _ E1.back.sits).mono ?_
  rintro e' w2 ⟨rfl, F1⟩
  have E2 := E1.more F1
  have x0 := E2.sits.cell B0.out
  have x1 := E2.sits.cell B1.out
  clear F1 E1 y0 y1
  go_wp2_with fail
  refine (KN.out _ E2.back.sits).mono ?_
  rintro e' w3 ⟨rfl, F2⟩
  have E3 := E2.more F2
  have z0 := E3.sits.cell B0.out
  have z1 := E3.sits.cell B1.out
  clear F2 E2 x0 x1 KF KN
  cases q
  · have HC := hid (show addC xs e = 17 by unfold addC; rw [HQ.out]; rfl)
    have HL := hid (show addL xs e = [] by unfold addL; rw [HC.out]; rfl)
    go_wp2_with fail
    go_ret2
    exact ⟨.slice none 0 0, by rw [HC.out]; rfl, by rw [HL.out]; exact OwnL.nil _ _ _ _, E3.back⟩
  · by_cases hno : e.no ≤ 0
    · have HC := hid (show addC xs e = 1 by unfold addC; rw [HQ.out, if_neg (by decide), if_pos hno])
      have HL := hid (show addL xs e = [] by unfold addL; rw [HC.out]; rfl)
      go_wp2_with fail
      go_ret2
      exact ⟨.slice none 0 0, by rw [HC.out]; rfl, by rw [HL.out]; exact OwnL.nil _ _ _ _, E3.back⟩
    · cases v with
      | some a =>
        have HC := hid (show addC xs e = 12 by unfold addC; rw [HQ.out, HV.out, if_neg (by decide), if_neg hno]; rfl)
        have HL := hid (show addL xs e = [] by unfold addL; rw [HC.out]; rfl)
        simp only [Option.isSome_some, Option.getD_some]
        go_wp2_with fail
        go_ret2
        exact ⟨.slice none 0 0, by rw [HC.out]; rfl, by rw [HL.out]; exact OwnL.nil _ _ _ _, E3.back⟩
      | none =>
        dsimp only [Option.isSome_none, Option.getD_none]
        by_cases h100 : 100 ≤ xs.length
        · have HC := hid (show addC xs e = 21 by unfold addC; rw [HQ.out, HV.out, if_neg (by decide), if_neg hno, if_pos h100]; rfl)
          have HL := hid (show addL xs e = [] by unfold addL; rw [HC.out]; rfl)
          go_wp2_with fail
          go_ret2
          exact ⟨.slice none 0 0, by rw [HC.out]; rfl, by rw [HL.out]; exact OwnL.nil _ _ _ _, E3.back⟩
        · have HC := hid (show addC xs e = 0 by unfold addC; rw [HQ.out, HV.out, if_neg (by decide), if_neg hno, if_neg h100]; rfl)
          have HL := hid (show addL xs e = insE xs e by unfold addL; rw [HC.out]; rfl)
          go_wp2_with fail
          go_loopw [8] (fun i wr => ∃ k : Nat, k ≤ xs.length ∧ i = .int .i64 k ∧ Hid (∀ i y, i < k → xs[i]? = some y → leB y.name e.name = true) ∧ Ext h w h1 wr) (fun i _ => xs.length - (intOf i).toNat)
          case atStart => exact ⟨0, Nat.zero_le _, rfl, hid (fun i y hi => by omega), E3⟩
          case round =>
            obtain ⟨k, hk, rfl, HN, E⟩ := hrel
            have s0 := E.sits.cell B0.out
            have u0 := fun d os => cell_regrown s0 d os
            have i1 : (0 : Int) ≤ (k : Int) := by omega
            go_upto_region 11 with (fail)
            go_cut [45] (fun s wx => s = .bool (stayE xs k e.name) ∧ Ext h w h1 wx)
            case first =>
              by_cases hlt : k < xs.length
              · obtain ⟨x, hx⟩ : ∃ x, xs[k]? = some x := ⟨xs[k], by simp [hlt]⟩
                obtain ⟨b', off', e0, c0, _, _⟩ := r1.entry hx E.sits
                obtain ⟨rfl, rfl⟩ : b = b' ∧ off = off' := by simpa using e0
                have G := hid (show stayE xs k e.name = leB x.name e.name by unfold stayE; rw [hx])
                have v0 := fun d os => cell_regrown c0 d os
                have i2 : (k : Int) < (xs.length : Int) := by omega
                have i3 : decide ((k : Int) < (xs.length : Int)) = true := decide_eq_true i2
                clear hx e0 c0 s0
                refine wp_region_quiet_below (by kernel_rfl) (by kernel_rfl) ?_
                repeat (go_big_quiet_step (fail))
                refine wpQuiet_nil ?_
                intro _ hw'
                obtain ⟨⟨dq, osq⟩, hw''⟩ := hw'
                subst hw''
                go_wp2
                go_meet
                exact ⟨ret_val6 (by rw [G.out]; rfl), E.trans (Ext.quiet E.sits _ _)⟩
              · have G := hid (show stayE xs k e.name = false by unfold stayE; rw [List.getElem?_eq_none (by omega)])
                have i3 : decide ((k : Int) < (xs.length : Int)) = false := decide_eq_false (by omega)
                clear s0
                refine wp_region_quiet_below (by kernel_rfl) (by kernel_rfl) ?_
                repeat (go_big_quiet_step (fail))
                refine wpQuiet_nil ?_
                intro _ hw'
                obtain ⟨⟨dq, osq⟩, hw''⟩ := hw'
                subst hw''
                go_wp2
                go_meet
                exact ⟨ret_val6 (by rw [G.out]), E.trans (Ext.quiet E.sits _ _)⟩
            case rest =>
              obtain ⟨rfl, E4⟩ := hcut
              clear E s0 u0
              obtain ⟨t, ht⟩ : ∃ t, stayE xs k e.name = t := ⟨_, rfl⟩
              have HT := hid ht
              rw [ht]
              clear ht
              cases t
              · have HP := hid (show posE xs e.name = k from posE_at hk HN.out (fun y hy => by
                  have h1 := HT.out
                  unfold stayE at h1
                  rw [hy] at h1
                  exact h1))
                have HI := hid (show addL xs e = xs.take k ++ [e] ++ xs.drop k by rw [HL.out]; unfold insE; rw [HP.out])
                have HLT := hid (show k = (xs.take k).length by simp; omega)
                have HLD := hid (show xs.length - k = (xs.drop k).length by simp)
                have HB1 := hid (show (([] : List Entry).length + (xs.take k).length) * 24 ≤ 140737488355328 by simp; omega)
                have HB2 := hid (show (([] ++ xs.take k : List Entry).length + 1) * 24 ≤ 140737488355328 by simp; omega)
                have HB3 := hid (show (([] ++ xs.take k ++ [e] : List Entry).length + (xs.drop k).length) * 24 ≤ 140737488355328 by simp; omega)
                have HRT := hid (r1.takeN k)
                have HRD := hid (row_drop' r1 k hk hlc)
                have HSZ := hid (fun (w' : World) (E : Ext h w h1 w') => show g ≤ w'.heap.size by rw [← hg]; exact E.size)
                have hc0 : ∀ w' : World, Ext h w h1 w' → w'.cell? ⟨g, 0, none⟩ = some (.string e.name) := fun w' E => E.sits.cell B0.out
                have hc1 : ∀ w' : World, Ext h w h1 w' → w'.cell? ⟨g, 1, none⟩ = some (.int .i64 e.no) := fun w' E => E.sits.cell B1.out
                have i2 : (k : Int) ≤ (c : Int) := by omega
                have i4 : (k : Int) ≤ (xs.length : Int) := by omega
                have i5 : (xs.length : Int) ≤ (c : Int) := by omega
                have E5 := E4.drew
                clear HT HN HQ HV z0 z1 E3
                go_upto_region 13 with (fail)
                go_cut [9] (fun s9 wx => OwnL h1 wx g 44 s9 ([] ++ xs.take k ++ [e]) ∧ Ext h w h1 wx)
                case first =>
                  go_region_held3 (fun w' => Ext h w h1 w') (first | with_reducible assumption | with_reducible exact E7 | with_reducible exact E6 | with_reducible exact Ext.alloc E6 _ | with_reducible exact Ext.alloc E5 _ | with_reducible exact (Ext.alloc E4 _).drew) (first | (rw [if_pos (by rfl)]; refine step_appendR _ _ 34 rfl g 44 24 ty_Entry (.slice none 0 0) [] (xs.take k) rfl (OwnL.nil _ _ _ _) (Ext.sits (h := h) (h' := h1) (w := w) (by first | with_reducible assumption | assumption)) _ k c rfl HLT.out HRT.out HB1.out (by decide) (HSZ.out _ (by first | with_reducible assumption | assumption)) ?_; intro v1 w4 O1 hg1; have E6 := Ext.grown (h := h) (h1 := h1) (w := w) (by first | with_reducible assumption | assumption) hg1 (fun k hk => by cases hk)) | (rw [if_pos (by rfl)]; refine step_append1At _ _ 34 rfl g 44 24 ty_Entry v1 ([] ++ xs.take k) rfl (by first | with_reducible exact O1 | with_reducible exact O1.alloc _) (Ext.sits (h := h) (h' := h1) (w := w) (by first | with_reducible assumption | assumption)) _ rfl [.string e.name, .int .i64 e.no] e ⟨rfl, hsz⟩ (by first | exact newcells _ [.string e.name, .int .i64 e.no] _ | exact fun j u hu => hg1.cell (newcells _ [.string e.name, .int .i64 e.no] _ j u hu) (by simp [Value.ownBlock])) HB2.out (by decide) (HSZ.out _ (by first | with_reducible assumption | assumption)) ?_; intro v2 w5 O2 hg2; have E7 := Ext.grown (h := h) (h1 := h1) (w := w) (by first | with_reducible assumption | assumption) hg2 (fun k hk => ⟨by rw [hg]; exact (O1.lt k hk).1, O1.free k hk⟩)))
                  all_goals
                    go_wp2_with fail
                    go_meet
                    exact ⟨O2, E7⟩
                case rest =>
                  obtain ⟨O2, E7⟩ := hcut
                  have HRD := HRD.out
                  have fin : ∀ (u : Value) (w6 : World) (ys : List Entry), OwnL h1 w6 g 44 u ys → ys = addL xs e → OwnL h w6 w.heap.size 44 u (addL xs e) := fun u w6 ys O hy => by
                    rw [← hy, hg]
                    exact O.back_ent hle
                  have FIN := hid fin
                  clear fin
                  by_cases hck : c = k
                  · subst hck
                    rw [if_pos rfl] at HRD
                    go_wp2_with (at_builtin; refine wpList_appendR rfl _ _ 34 rfl g 44 24 ty_Entry _ _ (xs.drop c) rfl O2 E7.sits _ _ _ rfl (by first | exact HLD.out | (simp; omega)) HRD HB3.out (by decide) (HSZ.out _ E7) ?_)
                    intro v3 w6 O3 hg3 _
                    have E8 := E7.grown hg3 (fun k hk => ⟨by rw [hg]; exact (O2.lt k hk).1, O2.free k hk⟩)
                    have O4 := hid (FIN.out _ _ _ O3 (by rw [HI.out]; simp))
                    clear O3 hg3
                    go_wp2_with fail
                    go_ret2
                    exact ⟨_, by rw [HC.out]; rfl, O4.out, E8.back⟩
                  · rw [if_neg hck] at HRD
                    go_wp2_with (at_builtin; refine wpList_appendR rfl _ _ 34 rfl g 44 24 ty_Entry _ _ (xs.drop k) rfl O2 E7.sits _ _ _ rfl (by first | exact HLD.out | (simp; omega)) HRD HB3.out (by decide) (HSZ.out _ E7) ?_)
                    intro v3 w6 O3 hg3 _
                    have E8 := E7.grown hg3 (fun k hk => ⟨by rw [hg]; exact (O2.lt k hk).1, O2.free k hk⟩)
                    have O4 := hid (FIN.out _ _ _ O3 (by rw [HI.out]; simp))
                    clear O3 hg3
                    go_wp2_with fail
                    go_ret2
                    exact ⟨_, by rw [HC.out]; rfl, O4.out, E8.back⟩
              · have hlt : k < xs.length := by
                  have h1 := HT.out
                  unfold stayE at h1
                  split at h1
                  · rename_i y hy; exact (List.getElem?_eq_some_iff.1 hy).1
                  · cases h1
                have HN2 := hid (show ∀ i y, i < k + 1 → xs[i]? = some y → leB y.name e.name = true from fun i y hi hy => by
                  by_cases hik : i = k
                  · subst hik
                    have h1 := HT.out
                    unfold stayE at h1
                    rw [hy] at h1
                    exact h1
                  · exact HN.out i y (by omega) hy)
                go_wp2_with fail
                go_roundw
                case rel => exact ⟨k + 1, by omega, by go_num, HN2, E4⟩
                case measure => simp [intOf]; omega
set_option maxHeartbeats 8000000 in
set_option maxRecDepth 100000 in
theorem ref_AddEntry_none (e : Entry) (hsz : e.name.size ≤ 9223372036854775807) (h : FH) (w : World) (hs : Sits h w) :
    Calls Try.prog 90 #[.slice none 0 0, .agg #[.string e.name, .int .i64 e.no]] w fun e' w' => RetTup h w 44 (addL [] e) (addC [] e) e' w' := by
  obtain ⟨q, hq⟩ : ∃ q, nameB e.name = q := ⟨_, rfl⟩
  have hv : findE [] e.name = none := rfl
  obtain ⟨h1, hh⟩ : ∃ h1, h1 = h.add w.heap.size (.cells #[.string e.name, .int .i64 e.no] 44) := ⟨_, rfl⟩
  have E1 : Ext h w h1 (w.alloc (.cells #[.string e.name, .int .i64 e.no] 44)) := by
    rw [hh]; exact ((Ext.refl hs).alloc _).add (heap_new _ _) (hs.none (Nat.le_refl _)) (Nat.le_refl _)
  have b0 : h1.cell ⟨w.heap.size, 0, none⟩ = some (.string e.name) := by rw [hh]; exact FH.add_cell _ _ _ _ _ rfl
  have b1 : h1.cell ⟨w.heap.size, 1, none⟩ = some (.int .i64 e.no) := by rw [hh]; exact FH.add_cell _ _ _ _ _ rfl
  have B0 := hid b0
  have B1 := hid b1
  have hle : FLe h h1 := E1.le
  have KF := hid (fun w hs => ref_Find [] none 0 e.name hsz none hv h w hs (RowAt.nil _ _))
  have KN := hid (fun w hs => ref_RightName e.name hsz q hq h w hs)
  have HQ := hid hq
  have HV := hid hv
  have y0 := E1.sits.cell b0
  have y1 := E1.sits.cell b1
  clear hh hq hv b0 b1
  go_enter Try.func90, Try.ntmps90
  go_upto_region 1 with (fail)
  generalize (w.alloc (.cells #[.string e.name, .int .i64 e.no] 44)) = w1 at *
  generalize hg : w.heap.size = g at *
  go_wp2_with fail
  refine (KF.out _ E1.back.sits).mono ?_
  rintro e' w2 ⟨rfl, F1⟩
  have E2 := E1.more F1
  have x0 := E2.sits.cell B0.out
  have x1 := E2.sits.cell B1.out
  clear F1 E1 y0 y1
  go_wp2_with fail
  refine (KN.out _ E2.back.sits).mono ?_
  rintro e' w3 ⟨rfl, F2⟩
  have E3 := E2.more F2
  have z0 := E3.sits.cell B0.out
  have z1 := E3.sits.cell B1.out
  clear F2 E2 x0 x1 KF KN
  cases q
  · have HC := hid (show addC [] e = 17 by unfold addC; rw [HQ.out]; rfl)
    have HL := hid (show addL [] e = [] by unfold addL; rw [HC.out]; rfl)
    go_wp2_with fail
    go_ret2
    exact ⟨.slice none 0 0, by rw [HC.out]; rfl, by rw [HL.out]; exact OwnL.nil _ _ _ _, E3.back⟩
  · by_cases hno : e.no ≤ 0
    · have HC := hid (show addC [] e = 1 by unfold addC; rw [HQ.out, if_neg (by decide), if_pos hno])
      have HL := hid (show addL [] e = [] by unfold addL; rw [HC.out]; rfl)
      go_wp2_with fail
      go_ret2
      exact ⟨.slice none 0 0, by rw [HC.out]; rfl, by rw [HL.out]; exact OwnL.nil _ _ _ _, E3.back⟩
    · skip
      dsimp only [Option.isSome_none, Option.getD_none]
      have HC := hid (show addC [] e = 0 by unfold addC; rw [HQ.out, HV.out, if_neg (by decide), if_neg hno]; rfl)
      have HL := hid (show addL [] e = [e] by unfold addL; rw [HC.out]; rfl)
      go_wp2_with fail
      go_loopw [8] (fun i wr => i = .int .i64 0 ∧ Ext h w h1 wr) (fun i _ => 0)
      case atStart => exact ⟨rfl, E3⟩
      case round =>
        obtain ⟨rfl, E⟩ := hrel
        go_upto_region 11 with (fail)
        go_cut [45] (fun s wx => s = .bool false ∧ Ext h w h1 wx)
        case first =>
          clear z0 z1
          refine wp_region_quiet_below (by kernel_rfl) (by kernel_rfl) ?_
          repeat (go_big_quiet_step (fail))
          refine wpQuiet_nil ?_
          intro _ hw'
          obtain ⟨⟨dq, osq⟩, hw''⟩ := hw'
          subst hw''
          go_wp2
          go_meet
          exact ⟨rfl, E.trans (Ext.quiet E.sits _ _)⟩
        case rest =>
          obtain ⟨rfl, E4⟩ := hcut
          have HSZ := hid (fun (w' : World) (E : Ext h w h1 w') => show g ≤ w'.heap.size by rw [← hg]; exact E.size)
          have hc0 : ∀ w' : World, Ext h w h1 w' → w'.cell? ⟨g, 0, none⟩ = some (.string e.name) := fun w' E => E.sits.cell B0.out
          have hc1 : ∀ w' : World, Ext h w h1 w' → w'.cell? ⟨g, 1, none⟩ = some (.int .i64 e.no) := fun w' E => E.sits.cell B1.out
          have E5 := E4.drew
          clear HQ HV z0 z1 E3 E
          go_upto_region 13 with (fail)
          go_cut [9] (fun s9 wx => OwnL h1 wx g 44 s9 ([e] : List Entry) ∧ Ext h w h1 wx)
          case first =>
            go_region_held3 (fun w' => Ext h w h1 w') (first | with_reducible assumption | with_reducible exact E7 | with_reducible exact E6 | with_reducible exact Ext.alloc E6 _ | with_reducible exact Ext.alloc E5 _ | with_reducible exact (Ext.alloc E4 _).drew) (first | (rw [if_pos (by rfl)]; refine step_appendR _ _ 34 rfl g 44 24 ty_Entry (.slice none 0 0) [] ([] : List Entry) rfl (OwnL.nil _ _ _ _) (Ext.sits (h := h) (h' := h1) (w := w) (by first | with_reducible assumption | assumption)) none 0 0 rfl rfl (RowAt.nil _ _) (by simp) (by decide) (HSZ.out _ (by first | with_reducible assumption | assumption)) ?_; intro v1 w4 O1 hg1; have E6 := Ext.grown (h := h) (h1 := h1) (w := w) (by first | with_reducible assumption | assumption) hg1 (fun k hk => by cases hk)) | (rw [if_pos (by rfl)]; refine step_append1At _ _ 34 rfl g 44 24 ty_Entry v1 ([] ++ ([] : List Entry)) rfl (by first | with_reducible exact O1 | with_reducible exact O1.alloc _) (Ext.sits (h := h) (h' := h1) (w := w) (by first | with_reducible assumption | assumption)) _ rfl [.string e.name, .int .i64 e.no] e ⟨rfl, hsz⟩ (by first | exact newcells _ [.string e.name, .int .i64 e.no] _ | exact fun j u hu => hg1.cell (newcells _ [.string e.name, .int .i64 e.no] _ j u hu) (by simp [Value.ownBlock])) (by simp) (by decide) (HSZ.out _ (by first | with_reducible assumption | assumption)) ?_; intro v2 w5 O2 hg2; have E7 := Ext.grown (h := h) (h1 := h1) (w := w) (by first | with_reducible assumption | assumption) hg2 (fun k hk => ⟨by rw [hg]; exact (O1.lt k hk).1, O1.free k hk⟩)))
            all_goals
              go_wp2_with fail
              go_meet
              exact ⟨O2, E7⟩
          case rest =>
            obtain ⟨O2, E7⟩ := hcut
            have FIN := hid (fun (u : Value) (w6 : World) (ys : List Entry) (O : OwnL h1 w6 g 44 u ys) (hy : ys = [e]) => show OwnL h w6 w.heap.size 44 u (addL [] e) by
              rw [HL.out, ← hy, hg]
              exact O.back_ent hle)
            go_wp2_with (at_builtin; refine wpList_appendR rfl _ _ 34 rfl g 44 24 ty_Entry _ _ ([] : List Entry) rfl O2 E7.sits none 0 0 rfl rfl (RowAt.nil _ _) (by simp) (by decide) (HSZ.out _ E7) ?_)
            intro v3 w6 O3 hg3 _
            have E8 := E7.grown hg3 (fun k hk => ⟨by rw [hg]; exact (O2.lt k hk).1, O2.free k hk⟩)
            have O4 := hid (FIN.out _ _ _ O3 (by simp))
            clear O3 hg3
            go_wp2_with fail
            go_ret2
            exact ⟨_, by rw [HC.out]; rfl, O4.out, E8.back⟩
set_option maxHeartbeats 8000000 in
set_option maxRecDepth 100000 in
theorem ref_AddEntry_nil (a : Addr) (c : Nat) (hcap : c ≤ 9223372036854775807) (e : Entry) (hsz : e.name.size ≤ 9223372036854775807) (h : FH) (w : World) (hs : Sits h w) :
    Calls Try.prog 90 #[.slice (some a) 0 c, .agg #[.string e.name, .int .i64 e.no]] w fun e' w' => RetTup h w 44 (addL [] e) (addC [] e) e' w' := by
  obtain ⟨q, hq⟩ : ∃ q, nameB e.name = q := ⟨_, rfl⟩
  have hv : findE [] e.name = none := rfl
  obtain ⟨h1, hh⟩ : ∃ h1, h1 = h.add w.heap.size (.cells #[.string e.name, .int .i64 e.no] 44) := ⟨_, rfl⟩
  have E1 : Ext h w h1 (w.alloc (.cells #[.string e.name, .int .i64 e.no] 44)) := by
    rw [hh]; exact ((Ext.refl hs).alloc _).add (heap_new _ _) (hs.none (Nat.le_refl _)) (Nat.le_refl _)
  have b0 : h1.cell ⟨w.heap.size, 0, none⟩ = some (.string e.name) := by rw [hh]; exact FH.add_cell _ _ _ _ _ rfl
  have b1 : h1.cell ⟨w.heap.size, 1, none⟩ = some (.int .i64 e.no) := by rw [hh]; exact FH.add_cell _ _ _ _ _ rfl
  have B0 := hid b0
  have B1 := hid b1
  have hle : FLe h h1 := E1.le
  have KF := hid (fun w hs => ref_Find [] (some a) c e.name hsz none hv h w hs (RowAt.nil _ _))
  have KN := hid (fun w hs => ref_RightName e.name hsz q hq h w hs)
  have HQ := hid hq
  have HV := hid hv
  have y0 := E1.sits.cell b0
  have y1 := E1.sits.cell b1
  clear hh hq hv b0 b1
  go_enter Try.func90, Try.ntmps90
  go_upto_region 1 with (fail)
  generalize (w.alloc (.cells #[.string e.name, .int .i64 e.no] 44)) = w1 at *
  generalize hg : w.heap.size = g at *
  go_wp2_with fail
  refine (KF.out _ E1.back.sits).mono ?_
  rintro e' w2 ⟨rfl, F1⟩
  have E2 := E1.more F1
  have x0 := E2.sits.cell B0.out
  have x1 := E2.sits.cell B1.out
  clear F1 E1 y0 y1
  go_wp2_with fail
  refine (KN.out _ E2.back.sits).mono ?_
  rintro e' w3 ⟨rfl, F2⟩
  have E3 := E2.more F2
  have z0 := E3.sits.cell B0.out
  have z1 := E3.sits.cell B1.out
  clear F2 E2 x0 x1 KF KN
  cases q
  · have HC := hid (show addC [] e = 17 by unfold addC; rw [HQ.out]; rfl)
    have HL := hid (show addL [] e = [] by unfold addL; rw [HC.out]; rfl)
    go_wp2_with fail
    go_ret2
    exact ⟨.slice none 0 0, by rw [HC.out]; rfl, by rw [HL.out]; exact OwnL.nil _ _ _ _, E3.back⟩
  · by_cases hno : e.no ≤ 0
    · have HC := hid (show addC [] e = 1 by unfold addC; rw [HQ.out, if_neg (by decide), if_pos hno])
      have HL := hid (show addL [] e = [] by unfold addL; rw [HC.out]; rfl)
      go_wp2_with fail
      go_ret2
      exact ⟨.slice none 0 0, by rw [HC.out]; rfl, by rw [HL.out]; exact OwnL.nil _ _ _ _, E3.back⟩
    · skip
      dsimp only [Option.isSome_none, Option.getD_none]
      have HC := hid (show addC [] e = 0 by unfold addC; rw [HQ.out, HV.out, if_neg (by decide), if_neg hno]; rfl)
      have HL := hid (show addL [] e = [e] by unfold addL; rw [HC.out]; rfl)
      go_wp2_with fail
      go_loopw [8] (fun i wr => i = .int .i64 0 ∧ Ext h w h1 wr) (fun i _ => 0)
      case atStart => exact ⟨rfl, E3⟩
      case round =>
        obtain ⟨rfl, E⟩ := hrel
        go_upto_region 11 with (fail)
        go_cut [45] (fun s wx => s = .bool false ∧ Ext h w h1 wx)
        case first =>
          clear z0 z1
          refine wp_region_quiet_below (by kernel_rfl) (by kernel_rfl) ?_
          repeat (go_big_quiet_step (fail))
          refine wpQuiet_nil ?_
          intro _ hw'
          obtain ⟨⟨dq, osq⟩, hw''⟩ := hw'
          subst hw''
          go_wp2
          go_meet
          exact ⟨rfl, E.trans (Ext.quiet E.sits _ _)⟩
        case rest =>
          obtain ⟨rfl, E4⟩ := hcut
          have HSZ := hid (fun (w' : World) (E : Ext h w h1 w') => show g ≤ w'.heap.size by rw [← hg]; exact E.size)
          have hc0 : ∀ w' : World, Ext h w h1 w' → w'.cell? ⟨g, 0, none⟩ = some (.string e.name) := fun w' E => E.sits.cell B0.out
          have hc1 : ∀ w' : World, Ext h w h1 w' → w'.cell? ⟨g, 1, none⟩ = some (.int .i64 e.no) := fun w' E => E.sits.cell B1.out
          have E5 := E4.drew
          clear HQ HV z0 z1 E3 E
          go_upto_region 13 with (fail)
          go_cut [9] (fun s9 wx => OwnL h1 wx g 44 s9 ([e] : List Entry) ∧ Ext h w h1 wx)
          case first =>
            go_region_held3 (fun w' => Ext h w h1 w') (first | with_reducible assumption | with_reducible exact E7 | with_reducible exact E6 | with_reducible exact Ext.alloc E6 _ | with_reducible exact Ext.alloc E5 _ | with_reducible exact (Ext.alloc E4 _).drew) (first | (rw [if_pos (by rfl)]; refine step_appendR _ _ 34 rfl g 44 24 ty_Entry (.slice none 0 0) [] ([] : List Entry) rfl (OwnL.nil _ _ _ _) (Ext.sits (h := h) (h' := h1) (w := w) (by first | with_reducible assumption | assumption)) (some a) 0 c rfl rfl (RowAt.nil _ _) (by simp) (by decide) (HSZ.out _ (by first | with_reducible assumption | assumption)) ?_; intro v1 w4 O1 hg1; have E6 := Ext.grown (h := h) (h1 := h1) (w := w) (by first | with_reducible assumption | assumption) hg1 (fun k hk => by cases hk)) | (rw [if_pos (by rfl)]; refine step_append1At _ _ 34 rfl g 44 24 ty_Entry v1 ([] ++ ([] : List Entry)) rfl (by first | with_reducible exact O1 | with_reducible exact O1.alloc _) (Ext.sits (h := h) (h' := h1) (w := w) (by first | with_reducible assumption | assumption)) _ rfl [.string e.name, .int .i64 e.no] e ⟨rfl, hsz⟩ (by first | exact newcells _ [.string e.name, .int .i64 e.no] _ | exact fun j u hu => hg1.cell (newcells _ [.string e.name, .int .i64 e.no] _ j u hu) (by simp [Value.ownBlock])) (by simp) (by decide) (HSZ.out _ (by first | with_reducible assumption | assumption)) ?_; intro v2 w5 O2 hg2; have E7 := Ext.grown (h := h) (h1 := h1) (w := w) (by first | with_reducible assumption | assumption) hg2 (fun k hk => ⟨by rw [hg]; exact (O1.lt k hk).1, O1.free k hk⟩)))
            all_goals
              go_wp2_with fail
              go_meet
              exact ⟨O2, E7⟩
          case rest =>
            obtain ⟨O2, E7⟩ := hcut
            have FIN := hid (fun (u : Value) (w6 : World) (ys : List Entry) (O : OwnL h1 w6 g 44 u ys) (hy : ys = [e]) => show OwnL h w6 w.heap.size 44 u (addL [] e) by
              rw [HL.out, ← hy, hg]
              exact O.back_ent hle)
            by_cases hc : c = 0
            · subst hc
              go_wp2_with (at_builtin; refine wpList_appendR rfl _ _ 34 rfl g 44 24 ty_Entry _ _ ([] : List Entry) rfl O2 E7.sits _ 0 _ rfl rfl (RowAt.nil _ _) (by simp) (by decide) (HSZ.out _ E7) ?_)
              intro v3 w6 O3 hg3 _
              have E8 := E7.grown hg3 (fun k hk => ⟨by rw [hg]; exact (O2.lt k hk).1, O2.free k hk⟩)
              have O4 := hid (FIN.out _ _ _ O3 (by simp))
              clear O3 hg3
              go_wp2_with fail
              go_ret2
              exact ⟨_, by rw [HC.out]; rfl, O4.out, E8.back⟩
            · skip
              go_wp2_with (at_builtin; refine wpList_appendR rfl _ _ 34 rfl g 44 24 ty_Entry _ _ ([] : List Entry) rfl O2 E7.sits _ 0 _ rfl rfl (RowAt.nil _ _) (by simp) (by decide) (HSZ.out _ E7) ?_)
              intro v3 w6 O3 hg3 _
              have E8 := E7.grown hg3 (fun k hk => ⟨by rw [hg]; exact (O2.lt k hk).1, O2.free k hk⟩)
              have O4 := hid (FIN.out _ _ _ O3 (by simp))
              clear O3 hg3
              go_wp2_with fail
              go_ret2
              exact ⟨_, by rw [HC.out]; rfl, O4.out, E8.back⟩
theorem ref_AddEntry (xs : List Entry) (A : Option Addr) (c : Nat) (hn : A = none → c = 0) (hlc : xs.length ≤ c) (hcap : c ≤ 9223372036854775807) (hbig : xs.length ≤ 1000) (e : Entry) (hsz : e.name.size ≤ 9223372036854775807) (h : FH) (w : World) (hs : Sits h w) (r : RowAt h A xs) :
    Calls Try.prog 90 #[.slice A xs.length c, .agg #[.string e.name, .int .i64 e.no]] w fun e' w' => RetTup h w 44 (addL xs e) (addC xs e) e' w' := by
  cases A with
  | none =>
    have hx : xs = [] := by
      cases xs with
      | nil => rfl
      | cons y ys => obtain ⟨b, off, e, _⟩ := r.2 (by simp); cases e
    subst hx
    obtain rfl := hn rfl
    exact ref_AddEntry_none e hsz h w hs
  | some a =>
    by_cases hp : 0 < xs.length
    · obtain ⟨b, off, e', _⟩ := r.2 hp
      cases e'
      exact ref_AddEntry_some xs b off c hlc hcap hbig e hsz h w hs r
    · have hx : xs = [] := List.eq_nil_of_length_eq_zero (by omega)
      subst hx
      exact ref_AddEntry_nil a c hcap e hsz h w hs
end Go.Proofs.Ytkglaofiencfdaa
