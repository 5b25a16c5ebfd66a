import Derived.Test.YtkglaofiencfdaaRefRuns
import Derived.Test.YtkglaofiencfdaaRunsAll
namespace Go.Proofs.Ytkglaofiencfdaa
open Go.RowKit Go.Sort
set_option linter.unusedVariables false
/-! ### the reference's runsOf, SetRun, CutRuns -/
def gP (ps : List Int) (q : Int) : Option Int := match ps[q.toNat]? with
  | some v => if v < 0 then none else some v
  | none => none
theorem gP_neg {ps : List Int} {k : Nat} {x : Int} (hx : ps[k]? = some x) (h : x < 0) : gP ps k = none := by unfold gP; rw [Int.toNat_natCast, hx]; simp only []; rw [if_pos h]
theorem gP_pos {ps : List Int} {k : Nat} {x : Int} (hx : ps[k]? = some x) (h : ¬ x < 0) : gP ps k = some x := by unfold gP; rw [Int.toNat_natCast, hx]; simp only []; rw [if_neg h]
set_option maxHeartbeats 8000000 in
set_option maxRecDepth 100000 in
theorem ref_runsOf (ps : List Int) (A : Option Addr) (c : Nat) (hn : ps.length ≤ 64) (h : FH) (w : World) (hs : Sits h w) (r : RowAt h A ps) :
    Calls Try.prog 61 #[.slice A ps.length c] w fun e w' => RetOwn h w 46 (drawnL (gP ps) ps.length) e w' := by
  go_enter Try.func61, Try.ntmps61
  go_wp2_with fail
  go_loopw [3, 4] (fun s3 i wr => ∃ k : Nat, k ≤ ps.length ∧ i = .int .i64 k ∧ OwnL h wr w.heap.size 46 s3 (drawnL (gP ps) k) ∧ Ext h w h wr) (fun _ i _ => ps.length - (intOf i).toNat)
  case atStart => exact ⟨0, Nat.zero_le _, rfl, OwnL.nil _ _ _ _, Ext.refl hs⟩
  case round =>
    obtain ⟨k, hk, rfl, O, E⟩ := hrel
    by_cases hlt : k < ps.length
    · obtain ⟨x, hx⟩ : ∃ x, ps[k]? = some x := ⟨ps[k], by simp [hlt]⟩
      obtain ⟨b, off, rfl, c0⟩ := r.int hx E.sits
      have HS := hid (show drawnL (gP ps) (k + 1) = drawStep (drawnL (gP ps) k) k (gP ps k) from rfl)
      have hle := drawnL_len (gP ps) k
      generalize drawnL (gP ps) k = ys at *
      by_cases hneg : x < 0
      · rw [gP_neg hx hneg] at HS
        have O3 := hid (show OwnL h wr w.heap.size 46 u3 (drawnL (gP ps) (k + 1)) by rw [HS.out]; exact O)
        clear hx
        go_wp2_with fail
        go_roundw
        case rel => exact ⟨k + 1, by omega, by go_num, O3.out, E⟩
        case measure => simp [intOf]; omega
      · rw [gP_pos hx hneg] at HS
        clear hx
        obtain ⟨A, cA, hv, hc⟩ := O.slice
        have i0 : (0 : Int) ≤ (k : Int) := by omega
        have i9 : (k : Int) < (ps.length : Int) := by omega
        cases hN : ys.length with
        | zero =>
          rw [hN] at hv
          have HC := hid (show drawStep ys (k : Int) (some x) = ys ++ [⟨k, x, 1⟩] by unfold drawStep; simp [hN])
          subst hv
          go_upto_region 7 with (fail)
          have y0 := fun d os => cell_regrown c0 d os
          clear c0
          go_cut [57] (fun s wx => s = .bool false ∧ ∃ d os, wx = grow (redrawn wr d) os)
          case first =>
            as_aux_lemma =>
              skip
              refine wp_region_quiet_below (by kernel_rfl) (by kernel_rfl) ?_
              repeat (go_big_quiet_step (fail))
              refine wpQuiet_nil ?_
              intro _ hw'
              obtain ⟨⟨dq, osq⟩, hw''⟩ := hw'
              subst hw''
              go_wp2
              go_meet
              exact ⟨rfl, dq, osq, rfl⟩
          case rest =>
            obtain ⟨rfl, dq, osq, rfl⟩ := hcut
            have EQ := Ext.quiet E.sits dq osq
            have E3 := E.trans EQ
            have O3 := O.ext EQ
            have z0 := y0 dq osq
            clear y0 EQ O E
            generalize grow (redrawn wr dq) osq = W3 at *
            go_wp2_with (at_builtin; refine wpList_append1 rfl _ _ 35 rfl w.heap.size 46 24 ty_Run _ _ rfl O3 E3.sits [.int .i64 k, .int .i64 x, .int .i64 1] ⟨k, x, 1⟩ _ rfl rfl (by omega) (by decide) E3.size ?_)
            intro v1 w2 O5 hg1 _
            have E4 := E3.grown hg1 (fun k hk => ⟨(O3.lt k hk).1, O3.free k hk⟩)
            have O6 := hid (show OwnL h w2 w.heap.size 46 v1 (drawnL (gP ps) (k + 1)) by rw [HS.out, HC.out]; exact O5)
            clear O5 hg1
            go_wp2_with fail
            go_roundw
            case rel => exact ⟨k + 1, by omega, by go_num, O6.out, E4⟩
            case measure => simp [intOf]; omega
        | succ m =>
          rw [hN] at hv
          obtain ⟨p, hp⟩ : ∃ p, ys[m]? = some p := ⟨ys[m]'(by omega), List.getElem?_eq_getElem _⟩
          obtain ⟨g0, cap, cs, hv2, hb, hgl, hgn, hr, hcc, hfz⟩ := O.get hp
          rw [hN, hv] at hv2
          obtain ⟨rfl, rfl⟩ : A = some ⟨g0, 0, none⟩ ∧ cA = cap := by simpa using hv2
          have hr : cs = [.int .i64 p.from_, .int .i64 p.at_, .int .i64 p.count] := hr
          subst hr
          have k0 : wr.cell? ⟨g0, m * 3, none⟩ = some (.int .i64 p.from_) := hcc 0 _ rfl
          have k1 : wr.cell? ⟨g0, m * 3 + 1, none⟩ = some (.int .i64 p.at_) := hcc 1 _ rfl
          have k2 : wr.cell? ⟨g0, m * 3 + 2, none⟩ = some (.int .i64 p.count) := hcc 2 _ rfl
          clear hcc hfz hv2
          have hpd : ys.getD (ys.length - 1) default = p := by rw [hN]; exact getD_run hp
          obtain ⟨t, ht⟩ : ∃ t, goesB p ⟨k, x, 1⟩ = t := ⟨_, rfl⟩
          have HC := hid (show drawStep ys (k : Int) (some x) = if t = true then ys.set m { p with count := wrap64 (p.count + 1) } else ys ++ [⟨k, x, 1⟩] by
            show (if 0 < ys.length ∧ goesB (ys.getD (ys.length - 1) default) ⟨k, x, 1⟩ = true then ys.set (ys.length - 1) { ys.getD (ys.length - 1) default with count := wrap64 ((ys.getD (ys.length - 1) default).count + 1) } else ys ++ [⟨k, x, 1⟩]) = _
            rw [hpd, ht, hN]
            simp)
          have HP := hid hp
          obtain ⟨wf, hwf⟩ : ∃ wf, wrap64 (p.from_ + p.count) = wf := ⟨_, rfl⟩
          obtain ⟨wa, hwa⟩ : ∃ wa, wrap64 (p.at_ + p.count) = wa := ⟨_, rfl⟩
          have ht2 : (((k : Int) == wf) && (x == wa)) = t := by rw [← ht, ← hwf, ← hwa]; rfl
          have i5 : IntKind.i64.wrap (p.from_ + p.count) = wf := (IntKind.wrap_i64 _).trans (by rw [← hwf]; unfold wrap64; rfl)
          have i6 : IntKind.i64.wrap (p.at_ + p.count) = wa := (IntKind.wrap_i64 _).trans (by rw [← hwa]; unfold wrap64; rfl)
          clear ht hpd hp
          subst hv
          have i1 : (0 : Int) ≤ (m : Int) := by omega
          have i2 : (m : Int) < (m : Int) + 1 := by omega
          go_upto_region 7 with (fail)
          have y0 := fun d os => cell_regrown c0 d os
          have q0 := fun d os => cell_regrown k0 d os
          have q1 := fun d os => cell_regrown k1 d os
          have q2 := fun d os => cell_regrown k2 d os
          clear c0 k0 k1 k2 hwf hwa
          go_cut [57] (fun s wx => s = .bool t ∧ ∃ d os, wx = grow (redrawn wr d) os)
          case first =>
            by_cases e1 : (k : Int) = wf
            · have f1 : (wf == (k : Int)) = true := by simp [e1]
              have ht3 : (wa == x) = t := by rw [← ht2, e1]; simp; exact Bool.eq_iff_iff.2 (by simp; exact eq_comm)
              have HT := hid ht2
              clear ht2 e1
              cases t
              all_goals
                as_aux_lemma =>
                  skip
                  refine wp_region_quiet_below (by kernel_rfl) (by kernel_rfl) ?_
                  repeat (go_big_quiet_step (fail))
                  refine wpQuiet_nil ?_
                  intro _ hw'
                  obtain ⟨⟨dq, osq⟩, hw''⟩ := hw'
                  subst hw''
                  go_wp2
                  go_meet
                  exact ⟨rfl, dq, osq, rfl⟩
            · have f1 : (wf == (k : Int)) = false := by simp; exact fun e => e1 e.symm
              obtain rfl : t = false := by rw [← ht2]; simp [e1]
              clear ht2 e1
              as_aux_lemma =>
                skip
                refine wp_region_quiet_below (by kernel_rfl) (by kernel_rfl) ?_
                repeat (go_big_quiet_step (fail))
                refine wpQuiet_nil ?_
                intro _ hw'
                obtain ⟨⟨dq, osq⟩, hw''⟩ := hw'
                subst hw''
                go_wp2
                go_meet
                exact ⟨rfl, dq, osq, rfl⟩
          case rest =>
          clear ht2
          cases t
          · have HC := hid (show drawStep ys (k : Int) (some x) = ys ++ [⟨k, x, 1⟩] by rw [HC.out]; rfl)
            clear q0 q1 q2 i1 i2
            obtain ⟨rfl, dq, osq, rfl⟩ := hcut
            have EQ := Ext.quiet E.sits dq osq
            have E3 := E.trans EQ
            have O3 := O.ext EQ
            have z0 := y0 dq osq
            clear y0 EQ O E
            generalize grow (redrawn wr dq) osq = W3 at *
            go_wp2_with (at_builtin; refine wpList_append1 rfl _ _ 35 rfl w.heap.size 46 24 ty_Run _ _ rfl O3 E3.sits [.int .i64 k, .int .i64 x, .int .i64 1] ⟨k, x, 1⟩ _ rfl rfl (by omega) (by decide) E3.size ?_)
            intro v1 w2 O5 hg1 _
            have E4 := E3.grown hg1 (fun k hk => ⟨(O3.lt k hk).1, O3.free k hk⟩)
            have O6 := hid (show OwnL h w2 w.heap.size 46 v1 (drawnL (gP ps) (k + 1)) by rw [HS.out, HC.out]; exact O5)
            clear O5 hg1
            go_wp2_with fail
            go_roundw
            case rel => exact ⟨k + 1, by omega, by go_num, O6.out, E4⟩
            case measure => simp [intOf]; omega
          · have HC := hid (show drawStep ys (k : Int) (some x) = ys.set m { p with count := wrap64 (p.count + 1) } by rw [HC.out]; rfl)
            obtain ⟨rfl, dq, osq, rfl⟩ := hcut
            have EQ := Ext.quiet E.sits dq osq
            have E3 := E.trans EQ
            have O3 := O.ext EQ
            have z2 := q2 dq osq
            have z1 := q1 dq osq
            have z0 := q0 dq osq
            clear y0 EQ O E q0 q1 q2
            generalize grow (redrawn wr dq) osq = W3 at *
            have O5 := O3.setCell (y := { p with count := wrap64 (p.count + 1) }) (j := 2) (u := .int .i64 (wrap64 (p.count + 1))) HP.out (by decide) (fun cs hcs => by
              have hcs : cs = [.int .i64 p.from_, .int .i64 p.at_, .int .i64 p.count] := hcs
              subst hcs; exact (rfl : _ = _))
            have E4 := E3.setCell (p := ⟨g0, m * 3 + 2, none⟩) hb hgn (.int .i64 (wrap64 (p.count + 1)))
            obtain ⟨g1, cap1, cs1, hv3, _, _, _, _, _, hf⟩ := O3.get HP.out
            rw [hN] at hv3
            obtain ⟨rfl, rfl⟩ : g0 = g1 ∧ cA = cap1 := by simpa using hv3
            have f2 := hf (m * 3 + 2)
            have O6 := hid (show OwnL h _ w.heap.size 46 _ (drawnL (gP ps) (k + 1)) by rw [HS.out, HC.out]; exact O5)
            clear hf hv3 O5 O3
            go_wp2_with fail
            go_roundw
            case rel => exact ⟨k + 1, by omega, by go_num, O6.out, E4⟩
            case measure => simp [intOf]; omega
    · obtain rfl : k = ps.length := by omega
      go_wp2_with fail
      go_ret
      exact ⟨_, rfl, O, E⟩
theorem Reps.run_any {h h' : FH} : ∀ {cells : List Value} {xs : List Run}, Reps h cells xs → Reps h' cells xs
  | _, [], r => r
  | _, _ :: _, ⟨cs, rest, e, r, t⟩ => ⟨cs, rest, e, r, t.run_any⟩
theorem OwnL.back_run {h h2 : FH} {w : World} {base : Nat} {e : TypeId} {v : Value} {xs : List Run} (o : OwnL h2 w base e v xs) (l : FLe h h2) : OwnL h w base e v xs := by
  obtain ⟨c, a, b⟩ := o.own
  refine ⟨⟨c, a, b.run_any⟩, fun g hg => ?_⟩
  cases e : h g with
  | none => rfl
  | some x => have := l _ _ e; rw [o.free g hg] at this; cases this
theorem gP_places {xs : List Run} (hR : rightB xs = true) {i a q : Int} (i0 : 0 ≤ i) (i1 : i < 64) (a0 : 0 ≤ a) (q0 : 0 ≤ q) (q1 : q < 64) : gP ((placesP xs 64).set i.toNat a) q = if q = i then some a else getB xs q := by
  unfold gP
  rw [List.getElem?_set, placesP_len]
  by_cases h : q = i
  · subst h
    rw [if_pos rfl, if_pos (by omega), if_pos rfl]
    simp only []
    rw [if_neg (by omega)]
  · rw [if_neg (by omega), if_neg h, placesP_get xs (by omega)]
    simp only []
    rw [Int.toNat_of_nonneg q0]
    cases hv : getB xs q with
    | none => rfl
    | some v =>
      have := (getB_bound xs q0 q1 hR hv).1
      simp only [Option.getD_some]
      rw [if_neg (by omega)]
theorem setP_eq {xs : List Run} (hR : rightB xs = true) {i a : Int} (i0 : 0 ≤ i) (i1 : i < 64) (a0 : 0 ≤ a) (a1 : a ≤ 2147483647) : drawnL (gP ((placesP xs 64).set i.toNat a)) 64 = setR xs i a := by
  obtain ⟨s1, s2⟩ := set_right xs hR i0 i1 a0 a1
  obtain ⟨d1, _, d2⟩ := drawn_right (gP ((placesP xs 64).set i.toNat a)) (fun q v q0 q1 hv => by
    rw [gP_places hR i0 i1 a0 q0 q1] at hv
    split at hv
    · cases hv; exact ⟨a0, a1⟩
    · exact getB_bound xs q0 q1 hR hv) 64 (Nat.le_refl _)
  refine right_same d1 s1 fun q q0 q1 => ?_
  rw [d2 q q0 q1, if_pos (by omega), gP_places hR i0 i1 a0 q0 q1, s2 q q0 q1]
set_option maxHeartbeats 4000000 in
theorem ref_SetRun (xs : List Run) (A : Option Addr) (c : Nat) (hR : rightB xs = true) (i a : Int) (i0 : 0 ≤ i) (i1 : i < 64) (a0 : 0 ≤ a) (a1 : a ≤ 2147483647) (h : FH) (w : World) (hs : Sits h w) (r : RowAt h A xs) :
    Calls Try.prog 27 #[.slice A xs.length c, .int .i64 i, .int .i64 a] w fun e w' => RetOwn h w 46 (setR xs i a) e w' := by
  obtain ⟨n, rfl⟩ := Int.eq_ofNat_of_zero_le i0
  have K := hid (ref_RightRuns xs A c true hR h w hs r)
  have HPO := hid (fun w hs => ref_placesOf xs A c hR h w hs r)
  have HF := hid (setP_eq hR i0 i1 a0 a1)
  have HL := hid (placesP_len xs 64)
  go_enter Try.func27, Try.ntmps27
  go_wp2_with fail
  refine K.out.mono ?_
  rintro e w1 ⟨rfl, E1⟩
  go_wp2_with fail
  refine (HPO.out _ E1.sits).mono ?_
  rintro e w2 ⟨v, rfl, O, E2⟩
  have E3 := E1.trans E2
  obtain ⟨x, hx⟩ : ∃ x, (placesP xs 64)[n]? = some x := ⟨_, List.getElem?_eq_getElem (by rw [HL.out]; omega)⟩
  obtain ⟨g, cap, cs, hv, hb, _, hn, hr, hc, hf⟩ := O.get hx
  rw [HL.out] at hv
  subst hv
  have C := cell_int O hx
  obtain ⟨c0, f0, _, _⟩ := C
  have O2 := put_int O hx a
  have E4 := E3.setCell (p := ⟨g, n, none⟩) (Nat.le_trans E1.size hb) hn (.int .i64 a)
  obtain ⟨h2, A2, c2, hv2, r2, l2, E5⟩ := O2.stay E4 E1.size (by rw [List.length_set, HL.out]; omega)
  rw [List.length_set, HL.out] at hv2
  simp only [Value.slice.injEq, true_and] at hv2
  obtain ⟨rfl, rfl⟩ := hv2
  have KR := hid (fun w hs r => ref_runsOf ((placesP xs 64).set n a) (some ⟨g, 0, none⟩) cap (by rw [List.length_set, HL.out]; omega) h2 w hs r)
  have KR := KR.out
  rw [List.length_set, HL.out, show (placesP xs 64).set n a = (placesP xs 64).set ((n : Int)).toNat a from rfl, HF.out] at KR
  have KR := hid KR
  clear O O2 hc hf hr hx E2 E3 E4 HPO K
  go_wp2_with fail
  refine (KR.out _ E5.sits r2).mono ?_
  rintro e w3 ⟨v3, rfl, O3, E6⟩
  have O4 := hid ((O3.back_run (E5.le)).rebase E5.size)
  have E7 := E5.trans E6
  go_wp2_with fail
  go_ret
  exact ⟨_, rfl, O4.out, E7.back⟩
end Go.Proofs.Ytkglaofiencfdaa
