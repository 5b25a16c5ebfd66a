import Derived.Test.YtbnpccilccibkaaRuns4
namespace Go.Proofs.Ytbnpccilccibkaa
open Go.RowKit Go.Sort
set_option linter.unusedVariables false
/-! ### drawn, Set -/
def drawStep (l : List Run) (i : Int) (v : Option Int) : List Run :=
  match v with
  | none => l
  | some x => if 0 < l.length ∧ goesB (l.getD (l.length - 1) default) ⟨i, x, 1⟩ = true then l.set (l.length - 1) { l.getD (l.length - 1) default with count := wrap64 ((l.getD (l.length - 1) default).count + 1) } else l ++ [⟨i, x, 1⟩]
def drawnL (g : Int → Option Int) : Nat → List Run
  | 0 => []
  | k + 1 => drawStep (drawnL g k) k (g k)
theorem drawnL_len (g : Int → Option Int) : ∀ k, (drawnL g k).length ≤ k
  | 0 => Nat.le_refl _
  | k + 1 => by
    have ih := drawnL_len g k
    unfold drawnL drawStep
    split
    · omega
    · split
      · rw [List.length_set]; omega
      · rw [List.length_append, List.length_singleton]; omega
set_option maxHeartbeats 8000000 in
set_option maxRecDepth 100000 in
theorem runs_drawn (b : Nat) (g : Int → Option Int) (f : Int → Option Value) (hf : ∀ a, f a = (g a).map (Value.int .i64)) (h : FH) (w : World) (hs : Sits h w) (M : MapIs encI w b f) :
    Calls Try.prog 26 #[.map (some b)] w fun e w' => RetOwn h w 38 (drawnL g 64) e w' := by
  have Hf := hid hf
  clear hf
  go_enter Try.func26, Try.ntmps26
  go_wp2_with fail
  go_loopw [3, 9] (fun s3 i wr => ∃ k : Nat, k ≤ 64 ∧ i = .int .i64 k ∧ OwnL h wr w.heap.size 38 s3 (drawnL g k) ∧ Ext h w h wr) (fun _ i _ => 64 - (intOf i).toNat)
  case atStart => exact ⟨0, Nat.zero_le _, rfl, OwnL.nil _ _ _ _, Ext.refl hs⟩
  case round =>
    obtain ⟨k, hk, rfl, O, E⟩ := hrel
    by_cases hlt : k < 64
    · have hlook := (M.ext E).lookOk kt_runs_page Try.underlying57 zero_int (k : Int)
      rw [Hf.out] at hlook
      have HS := hid (show drawnL g (k + 1) = drawStep (drawnL g k) k (g k) from rfl)
      have hle := drawnL_len g k
      generalize drawnL g k = ys at *
      cases hg : g (k : Int) with
      | none =>
        rw [hg] at hlook HS
        simp only [Option.map_none, Option.getD_none, Option.isSome_none, encI] at hlook
        have O3 := hid (show OwnL h wr w.heap.size 38 u3 (drawnL g (k + 1)) by rw [HS.out]; exact O)
        clear hg
        go_wp2_with fail
        go_roundw
        case rel => exact ⟨k + 1, by omega, by go_num, O3.out, E⟩
        case measure => simp [intOf]; omega
      | some x =>
        rw [hg] at hlook HS
        simp only [Option.map_some, Option.getD_some, Option.isSome_some, encI] at hlook
        clear hg
        obtain ⟨A, c, hv, hc⟩ := O.slice
        cases hN : ys.length with
        | zero =>
          rw [hN] at hv
          have HC := hid (show drawStep ys (k : Int) (some x) = ys ++ [⟨k, x, 1⟩] by unfold drawStep; simp [hN])
          subst hv
          have O2 := O.alloc (.cells #[.int .i64 k, .int .i64 x, .int .i64 1] 38)
          have E2 := E.alloc (.cells #[.int .i64 k, .int .i64 x, .int .i64 1] 38)
          have z0 : (wr.alloc (.cells #[.int .i64 k, .int .i64 x, .int .i64 1] 38)).cell? ⟨wr.heap.size, 0, none⟩ = some (.int .i64 k) := by go_simp
          have z1 : (wr.alloc (.cells #[.int .i64 k, .int .i64 x, .int .i64 1] 38)).cell? ⟨wr.heap.size, 1, none⟩ = some (.int .i64 x) := by go_simp
          have z2 : (wr.alloc (.cells #[.int .i64 k, .int .i64 x, .int .i64 1] 38)).cell? ⟨wr.heap.size, 2, none⟩ = some (.int .i64 1) := by go_simp
          have HSN := hid (E.sits.none (g := wr.heap.size) (Nat.le_refl _))
          have HSG := hid E.size
          go_upto_region 9 with (fail)
          generalize (wr.alloc (.cells #[.int .i64 k, .int .i64 x, .int .i64 1] 38)) = W2 at *
          generalize wr.heap.size = gg at *
          clear hlook O E M Hf
          have y0 := fun d os => cell_regrown z0 d os
          have y1 := fun d os => cell_regrown z1 d os
          have y2 := fun d os => cell_regrown z2 d os
          go_cut [36] (fun s wx => s = .bool false ∧ ∃ d os, wx = grow (redrawn W2 d) os)
          case first =>
            as_aux_lemma =>
              skip
              refine wp_region_quiet_below (by kernel_rfl) (by kernel_rfl) ?_
              repeat (go_big_quiet_step (fail))
              refine wpQuiet_nil ?_
              intro _ hw'
              obtain ⟨⟨dq, osq⟩, hw''⟩ := hw'
              subst hw''
              go_wp2
              go_meet
              exact ⟨rfl, dq, osq, rfl⟩
          case rest =>
            obtain ⟨rfl, dq, osq, rfl⟩ := hcut
            have EQ := Ext.quiet E2.sits dq osq
            have E3 := E2.trans EQ
            have O3 := O2.ext EQ
            have z0 := y0 dq osq
            have z1 := y1 dq osq
            have z2 := y2 dq osq
            clear y0 y1 y2 EQ O2 E2
            generalize grow (redrawn W2 dq) osq = W3 at *
            go_wp2_with (at_builtin; refine wpList_append1 rfl _ _ 34 rfl w.heap.size 38 24 ty_Run _ _ rfl O3 E3.sits [.int .i64 k, .int .i64 x, .int .i64 1] ⟨k, x, 1⟩ _ rfl rfl (by omega) (by decide) E3.size ?_)
            intro v1 w2 O5 hg1 _
            have E4 := E3.grown hg1 (fun k hk => ⟨(O3.lt k hk).1, O3.free k hk⟩)
            have O6 := hid (show OwnL h w2 w.heap.size 38 v1 (drawnL g (k + 1)) by rw [HS.out, HC.out]; exact O5)
            clear O5 hg1
            go_wp2_with fail
            go_roundw
            case rel => exact ⟨k + 1, by omega, by go_num, O6.out, E4⟩
            case measure => simp [intOf]; omega
        | succ m =>
          rw [hN] at hv
          obtain ⟨p, hp⟩ : ∃ p, ys[m]? = some p := ⟨ys[m]'(by omega), List.getElem?_eq_getElem _⟩
          obtain ⟨g0, cap, cs, hv2, hb, hgl, hgn, hr, hcc, hfz⟩ := O.get hp
          rw [hN, hv] at hv2
          obtain ⟨rfl, rfl⟩ : A = some ⟨g0, 0, none⟩ ∧ c = cap := by simpa using hv2
          have hr : cs = [.int .i64 p.from_, .int .i64 p.at_, .int .i64 p.count] := hr
          subst hr
          have c0 : wr.cell? ⟨g0, m * 3, none⟩ = some (.int .i64 p.from_) := hcc 0 _ rfl
          have c1 : wr.cell? ⟨g0, m * 3 + 1, none⟩ = some (.int .i64 p.at_) := hcc 1 _ rfl
          have c2 : wr.cell? ⟨g0, m * 3 + 2, none⟩ = some (.int .i64 p.count) := hcc 2 _ rfl
          clear hcc hfz hv2
          have hpd : ys.getD (ys.length - 1) default = p := by rw [hN]; exact getD_run hp
          obtain ⟨t, ht⟩ : ∃ t, goesB p ⟨k, x, 1⟩ = t := ⟨_, rfl⟩
          have HG := hid ht
          have HC := hid (show drawStep ys (k : Int) (some x) = if t = true then ys.set m { p with count := wrap64 (p.count + 1) } else ys ++ [⟨k, x, 1⟩] by
            show (if 0 < ys.length ∧ goesB (ys.getD (ys.length - 1) default) ⟨k, x, 1⟩ = true then ys.set (ys.length - 1) { ys.getD (ys.length - 1) default with count := wrap64 ((ys.getD (ys.length - 1) default).count + 1) } else ys ++ [⟨k, x, 1⟩]) = _
            rw [hpd, ht, hN]
            simp)
          have HP := hid hp
          clear ht hpd hp
          have k0 := keep1 c0 (.cells #[.int .i64 k, .int .i64 x, .int .i64 1] 38)
          have k1 := keep1 c1 (.cells #[.int .i64 k, .int .i64 x, .int .i64 1] 38)
          have k2 := keep1 c2 (.cells #[.int .i64 k, .int .i64 x, .int .i64 1] 38)
          clear c0 c1 c2
          subst hv
          have O2 := O.alloc (.cells #[.int .i64 k, .int .i64 x, .int .i64 1] 38)
          have E2 := E.alloc (.cells #[.int .i64 k, .int .i64 x, .int .i64 1] 38)
          have z0 : (wr.alloc (.cells #[.int .i64 k, .int .i64 x, .int .i64 1] 38)).cell? ⟨wr.heap.size, 0, none⟩ = some (.int .i64 k) := by go_simp
          have z1 : (wr.alloc (.cells #[.int .i64 k, .int .i64 x, .int .i64 1] 38)).cell? ⟨wr.heap.size, 1, none⟩ = some (.int .i64 x) := by go_simp
          have z2 : (wr.alloc (.cells #[.int .i64 k, .int .i64 x, .int .i64 1] 38)).cell? ⟨wr.heap.size, 2, none⟩ = some (.int .i64 1) := by go_simp
          have HSN := hid (E.sits.none (g := wr.heap.size) (Nat.le_refl _))
          have HSG := hid E.size
          go_upto_region 9 with (fail)
          generalize (wr.alloc (.cells #[.int .i64 k, .int .i64 x, .int .i64 1] 38)) = W2 at *
          have hne : g0 ≠ wr.heap.size := by omega
          generalize wr.heap.size = gg at *
          clear hlook O E M Hf
          have y0 := fun d os => cell_regrown z0 d os
          have y1 := fun d os => cell_regrown z1 d os
          have y2 := fun d os => cell_regrown z2 d os
          have q0 := fun d os => cell_regrown k0 d os
          have q1 := fun d os => cell_regrown k1 d os
          have q2 := fun d os => cell_regrown k2 d os
          clear z0 z1 z2 k0 k1 k2
          have i1 : (0 : Int) ≤ (m : Int) := by omega
          have i2 : (m : Int) < (m : Int) + 1 := by omega
          go_cut [36] (fun s wx => s = .bool t ∧ ∃ d os, wx = grow (redrawn W2 d) os)
          case first =>
            as_aux_lemma =>
              skip
              refine wp_region_quiet_below (by kernel_rfl) (by kernel_rfl) ?_
              repeat (go_big_quiet_step (exact quietCall (runs_goes p ⟨k, x, 1⟩ _ HG.out h _ (Ext.quiet E2.sits _ _).sits)))
              refine wpQuiet_nil ?_
              intro _ hw'
              obtain ⟨⟨dq, osq⟩, hw''⟩ := hw'
              subst hw''
              go_wp2
              go_meet
              exact ⟨rfl, dq, osq, rfl⟩
          case rest =>
          cases t
          · have HC := hid (show drawStep ys (k : Int) (some x) = ys ++ [⟨k, x, 1⟩] by rw [HC.out]; rfl)
            clear q0 q1 q2 i1 i2
            obtain ⟨rfl, dq, osq, rfl⟩ := hcut
            have EQ := Ext.quiet E2.sits dq osq
            have E3 := E2.trans EQ
            have O3 := O2.ext EQ
            have z0 := y0 dq osq
            have z1 := y1 dq osq
            have z2 := y2 dq osq
            clear y0 y1 y2 EQ O2 E2
            generalize grow (redrawn W2 dq) osq = W3 at *
            go_wp2_with (at_builtin; refine wpList_append1 rfl _ _ 34 rfl w.heap.size 38 24 ty_Run _ _ rfl O3 E3.sits [.int .i64 k, .int .i64 x, .int .i64 1] ⟨k, x, 1⟩ _ rfl rfl (by omega) (by decide) E3.size ?_)
            intro v1 w2 O5 hg1 _
            have E4 := E3.grown hg1 (fun k hk => ⟨(O3.lt k hk).1, O3.free k hk⟩)
            have O6 := hid (show OwnL h w2 w.heap.size 38 v1 (drawnL g (k + 1)) by rw [HS.out, HC.out]; exact O5)
            clear O5 hg1
            go_wp2_with fail
            go_roundw
            case rel => exact ⟨k + 1, by omega, by go_num, O6.out, E4⟩
            case measure => simp [intOf]; omega
          · have HC := hid (show drawStep ys (k : Int) (some x) = ys.set m { p with count := wrap64 (p.count + 1) } by rw [HC.out]; rfl)
            obtain ⟨rfl, dq, osq, rfl⟩ := hcut
            have EQ := Ext.quiet E2.sits dq osq
            have E3 := E2.trans EQ
            have O3 := O2.ext EQ
            have z2 := q2 dq osq
            have z1 := q1 dq osq
            have z0 := q0 dq osq
            clear y0 y1 y2 EQ O2 E2 q0 q1 q2
            generalize grow (redrawn W2 dq) osq = W3 at *
            have O5 := O3.setCell (y := { p with count := wrap64 (p.count + 1) }) (j := 2) (u := .int .i64 (wrap64 (p.count + 1))) HP.out (by decide) (fun cs hcs => by
              have hcs : cs = [.int .i64 p.from_, .int .i64 p.at_, .int .i64 p.count] := hcs
              subst hcs; exact (rfl : _ = _))
            have E4 := E3.setCell (p := ⟨g0, m * 3 + 2, none⟩) hb hgn (.int .i64 (wrap64 (p.count + 1)))
            obtain ⟨g1, cap1, cs1, hv3, _, _, _, _, _, hf⟩ := O3.get HP.out
            rw [hN] at hv3
            obtain ⟨rfl, rfl⟩ : g0 = g1 ∧ c = cap1 := by simpa using hv3
            have f2 := hf (m * 3 + 2)
            have O6 := hid (show OwnL h _ w.heap.size 38 _ (drawnL g (k + 1)) by rw [HS.out, HC.out]; exact O5)
            clear hf hv3 O5 O3
            go_wp2_with fail
            go_roundw
            case rel => exact ⟨k + 1, by omega, by go_num, O6.out, E4⟩
            case measure => simp [intOf]; omega
    · obtain rfl : k = 64 := by omega
      go_wp2_with fail
      go_ret
      exact ⟨_, rfl, O, E⟩
end Go.Proofs.Ytbnpccilccibkaa
