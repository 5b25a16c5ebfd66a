/- The walk of the law PickLeast: it returns true, and writes nothing that was there. -/
import Derived.Test.YtokffohhegabhaaAwakeP
import Derived.Test.YtokffohhegabhaaPickP
namespace Go.Proofs.Ytokffohhegabhaa
open Go.RowKit Go.Sort
set_option linter.unusedVariables false
theorem ret_val {a b : Bool} (h : a = b) : Value.bool a = .bool b := by rw [h]
theorem max_of {r : Int} {n : Nat} (h : r = n) : max r 0 = n := by omega
set_option maxHeartbeats 8000000 in
set_option maxRecDepth 100000 in
theorem PickLeast_walk (xs : List Block) (A : Option Addr) (c : Nat) (ps : List Int) (B : Option Addr) (d : Nat) (W : World) (r : RowAt (fhOf W) A xs) (rp : RowAt (fhOf W) B ps) :
    Calls Try.prog 3 #[.slice A xs.length c, .slice B ps.length d] W fun e w' => e = .returned (.bool true) ∧ Ext (fhOf W) W (fhOf W) w' := by
  have hs := Sits.all W
  have hl := r.1
  have hlp := rp.1
  by_cases hbig : 100 < xs.length
  · go_enter Try.func3, Try.ntmps3
    go_wp2_with (go_at_call 23; refine (law19_awake _ _ hs).mono ?_; rintro e w1 ⟨rfl, E1⟩)
    go_ret
    exact ⟨rfl, E1⟩
  by_cases hbig2 : 100 < ps.length
  · go_enter Try.func3, Try.ntmps3
    go_wp2_with (go_at_call 23; refine (law19_awake _ _ hs).mono ?_; rintro e w1 ⟨rfl, E1⟩)
    go_ret
    exact ⟨rfl, E1⟩
  have hle : xs.length ≤ 100 := by omega
  have hle2 : ps.length ≤ 100 := by omega
  clear hbig hbig2
  obtain ⟨a, t1, ha1, ha2, G1⟩ := best_ok (fun _ => freeB) younger weak_younger xs
  obtain ⟨v, t2, hv1, hv2, G2⟩ := best_ok (vicB ps) bestV weak_bestV xs
  have HA1 := hid ha1
  have HA2 := hid ha2
  have HV1 := hid hv1
  have HV2 := hid hv2
  clear ha1 ha2 hv1 hv2
  go_enter Try.func3, Try.ntmps3
  go_wp2_with fail
  refine (pick_Fresh xs A c _ _ hs r).mono ?_
  rintro e w1 ⟨rfl, E1⟩
  rw [HA1.out, HA2.out]
  go_wp2_with fail
  refine (pick_Victim xs A c ps B d _ _ E1.sits r rp).mono ?_
  rintro e w2 ⟨rfl, E2⟩
  rw [HV1.out, HV2.out]
  have E3 := E1.trans E2
  clear E1 E2 HA1 HA2 HV1 HV2
  go_upto_region 5 with (fail)
  go_cut [95] (fun s wx => s = .bool false ∧ Ext (fhOf W) W (fhOf W) wx)
  case first =>
    as_aux_lemma =>
      have av : t1 = true → ∃ (x : Block) (b off : Nat), A = some ⟨b, off, none⟩ ∧ a < xs.length ∧ x.bad = false ∧ x.prog = 0 ∧ (∀ q os, (grow (redrawn w2 q) os).cell? ⟨b, off + a * 4, none⟩ = some (.int .i64 x.prog)) ∧ (∀ q os, (grow (redrawn w2 q) os).cell? ⟨b, off + a * 4 + 3, none⟩ = some (.bool x.bad)) := by
        intro ht
        obtain ⟨x, hx, hf, _⟩ := G1.yes ht
        obtain ⟨b, off, hA, c0, _, _, c3⟩ := r.block hx E3.sits
        have : x.bad = false ∧ x.prog = 0 := by simpa [freeB] using hf
        exact ⟨x, b, off, hA, (List.getElem?_eq_some_iff.1 hx).1, this.1, this.2, fun q os => cell_regrown c0 q os, fun q os => cell_regrown c3 q os⟩
      have vv : t2 = true → ∃ (x : Block) (b off : Nat), A = some ⟨b, off, none⟩ ∧ v < xs.length ∧ x.bad = false ∧ x.live < x.prog ∧ ps.contains v = false ∧ (∀ q os, (grow (redrawn w2 q) os).cell? ⟨b, off + v * 4, none⟩ = some (.int .i64 x.prog)) ∧ (∀ q os, (grow (redrawn w2 q) os).cell? ⟨b, off + v * 4 + 1, none⟩ = some (.int .i64 x.live)) ∧ (∀ q os, (grow (redrawn w2 q) os).cell? ⟨b, off + v * 4 + 3, none⟩ = some (.bool x.bad)) := by
        intro ht
        obtain ⟨x, hx, hf, _⟩ := G2.yes ht
        obtain ⟨b, off, hA, c0, c1, _, c3⟩ := r.block hx E3.sits
        have : (x.bad = false ∧ x.live < x.prog) ∧ ps.contains (v : Int) = false := by simpa [vicB] using hf
        exact ⟨x, b, off, hA, (List.getElem?_eq_some_iff.1 hx).1, this.1.1, this.1.2, this.2, fun q os => cell_regrown c0 q os, fun q os => cell_regrown c1 q os, fun q os => cell_regrown c3 q os⟩
      have AV := hid av
      have VV := hid vv
      clear av vv
      cases t1
      · cases t2
        · clear AV VV
          refine wp_region_quiet_below (by kernel_rfl) (by kernel_rfl) ?_
          repeat (go_big_quiet_step (fail))
          refine wpQuiet_nil ?_
          intro _ hw'
          obtain ⟨⟨dq, osq⟩, hw''⟩ := hw'
          subst hw''
          go_wp2
          go_meet
          exact ⟨rfl, E3.trans (Ext.quiet E3.sits _ _)⟩
        · obtain ⟨x, b, off, rfl, hlt, hbad, hlp', hpin, c0, c1, c3⟩ := VV.out rfl
          have HP := hid hpin
          rw [hbad] at c3
          clear AV VV hpin hbad
          have g0 : decide (x.prog ≤ x.live) = false := by simp; omega
          have g1 : decide (xs.length ≤ v) = false := by simp; omega
          have g2 : ((v : Int) < (xs.length : Int)) := by omega
          have g3 : ((0 : Int) ≤ (v : Int)) := by omega
          have g7 : decide ((v : Int) < 0) = false := by simp
          refine wp_region_quiet_below (by kernel_rfl) (by kernel_rfl) ?_
          repeat (go_big_quiet_step (exact quietCall (help_In ps B d _ _ HP.out _ _ (Ext.quiet E3.sits _ _).sits rp)))
          refine wpQuiet_nil ?_
          intro _ hw'
          obtain ⟨⟨dq, osq⟩, hw''⟩ := hw'
          subst hw''
          go_wp2
          go_meet
          exact ⟨rfl, E3.trans (Ext.quiet E3.sits _ _)⟩
      · obtain ⟨y, b, off, rfl, hlta, hbady, hpy, a0, a3⟩ := AV.out rfl
        rw [hbady] at a3
        rw [hpy] at a0
        clear AV hbady hpy
        have g4 : decide (xs.length ≤ a) = false := by simp; omega
        have g5 : ((a : Int) < (xs.length : Int)) := by omega
        have g6 : ((0 : Int) ≤ (a : Int)) := by omega
        have g8 : decide ((a : Int) < 0) = false := by simp
        cases t2
        · clear VV
          refine wp_region_quiet_below (by kernel_rfl) (by kernel_rfl) ?_
          repeat (go_big_quiet_step (fail))
          refine wpQuiet_nil ?_
          intro _ hw'
          obtain ⟨⟨dq, osq⟩, hw''⟩ := hw'
          subst hw''
          go_wp2
          go_meet
          exact ⟨rfl, E3.trans (Ext.quiet E3.sits _ _)⟩
        · obtain ⟨x, b', off', hAA, hlt, hbad, hlp', hpin, c0, c1, c3⟩ := VV.out rfl
          obtain ⟨rfl, rfl⟩ : b = b' ∧ off = off' := by simpa using hAA
          have HP := hid hpin
          rw [hbad] at c3
          clear VV hpin hbad hAA
          have g0 : decide (x.prog ≤ x.live) = false := by simp; omega
          have g1 : decide (xs.length ≤ v) = false := by simp; omega
          have g2 : ((v : Int) < (xs.length : Int)) := by omega
          have g3 : ((0 : Int) ≤ (v : Int)) := by omega
          have g7 : decide ((v : Int) < 0) = false := by simp
          refine wp_region_quiet_below (by kernel_rfl) (by kernel_rfl) ?_
          repeat (go_big_quiet_step (exact quietCall (help_In ps B d _ _ HP.out _ _ (Ext.quiet E3.sits _ _).sits rp)))
          refine wpQuiet_nil ?_
          intro _ hw'
          obtain ⟨⟨dq, osq⟩, hw''⟩ := hw'
          subst hw''
          go_wp2
          go_meet
          exact ⟨rfl, E3.trans (Ext.quiet E3.sits _ _)⟩
  case rest =>
    obtain ⟨rfl, E4⟩ := hcut
    clear E3
    go_wp2_with fail
    go_loopw [9, 10, 11] (fun i s10 s11 wr => ∃ k : Nat, k ≤ xs.length ∧ i = .int .i64 k ∧ Ext (fhOf W) W (fhOf W) wr) (fun i _ _ _ => xs.length - (intOf i).toNat)
    case atStart => exact ⟨0, Nat.zero_le _, rfl, E4⟩
    case round =>
      obtain ⟨k, hk, rfl, E⟩ := hrel
      by_cases hlt : k < xs.length
      · obtain ⟨x, hx⟩ : ∃ x, xs[k]? = some x := ⟨xs[k], by simp [hlt]⟩
        obtain ⟨b, off, rfl, c0, c1, c2, c3⟩ := r.block hx E.sits
        have HX := hid hx
        clear hx
        go_upto_region 10 with (fail)
        go_cut [10] (fun s wx => s = .bool (freeB x) ∧ wx = wr)
        case first =>
          as_aux_lemma =>
            cases hb : x.bad
            · rw [hb] at c3
              by_cases hp : x.prog = 0
              · rw [hp] at c0
                go_wp2
                go_meet
                exact ⟨by simp [freeB, hb, hp], rfl⟩
              · have hp' : (x.prog == 0) = false := by simpa using hp
                have HP := hid hp
                clear hp
                go_wp2
                go_meet
                exact ⟨by simp [freeB, hb, HP.out], rfl⟩
            · rw [hb] at c3
              go_wp2
              go_meet
              exact ⟨by simp [freeB, hb], rfl⟩
        case rest =>
          obtain ⟨rfl, rfl⟩ := hcut
          obtain ⟨fb, hfb⟩ : ∃ t, freeB x = t := ⟨_, rfl⟩
          have HF := hid hfb
          rw [hfb]
          clear hfb
          have z0 := fun d os => cell_regrown c0 d os
          have z1 := fun d os => cell_regrown c1 d os
          have z2 := fun d os => cell_regrown c2 d os
          have z3 := fun d os => cell_regrown c3 d os
          go_upto_region 11 with (fail)
          go_cut [11] (fun s wx => s = .bool (vicB ps k x) ∧ Ext (fhOf W) W (fhOf W) wx)
          case first =>
            as_aux_lemma =>
              clear c0 c1 c2 c3
              cases hb : x.bad
              · rw [hb] at z3
                by_cases hp : x.live < x.prog
                · obtain ⟨t, ht⟩ : ∃ t, ps.contains (k : Int) = t := ⟨_, rfl⟩
                  have HT := hid ht
                  clear ht
                  cases t
                  all_goals
                    refine wp_region_quiet_below (by kernel_rfl) (by kernel_rfl) ?_
                    repeat (go_big_quiet_step (exact quietCall (help_In ps B d _ _ HT.out _ _ (Ext.quiet E.sits _ _).sits rp)))
                    refine wpQuiet_nil ?_
                    intro _ hw'
                    obtain ⟨⟨dq, osq⟩, hw''⟩ := hw'
                    subst hw''
                    go_wp2
                    go_meet
                    exact ⟨ret_val (by simp only [vicB, hb, HT.out, hp]; rfl), E.trans (Ext.quiet E.sits _ _)⟩
                · have hp' : decide (x.live < x.prog) = false := by simp; omega
                  refine wp_region_quiet_below (by kernel_rfl) (by kernel_rfl) ?_
                  repeat (go_big_quiet_step (fail))
                  refine wpQuiet_nil ?_
                  intro _ hw'
                  obtain ⟨⟨dq, osq⟩, hw''⟩ := hw'
                  subst hw''
                  go_wp2
                  go_meet
                  exact ⟨ret_val (by simp only [vicB, hb, hp']; rfl), E.trans (Ext.quiet E.sits _ _)⟩
              · rw [hb] at z3
                refine wp_region_quiet_below (by kernel_rfl) (by kernel_rfl) ?_
                repeat (go_big_quiet_step (fail))
                refine wpQuiet_nil ?_
                intro _ hw'
                obtain ⟨⟨dq, osq⟩, hw''⟩ := hw'
                subst hw''
                go_wp2
                go_meet
                exact ⟨ret_val (by simp only [vicB, hb]; rfl), E.trans (Ext.quiet E.sits _ _)⟩
          case rest =>
            obtain ⟨rfl, E5⟩ := hcut
            obtain ⟨b', off', e0, c0', c1', c2', c3'⟩ := r.block HX.out E5.sits
            obtain ⟨rfl, rfl⟩ : b = b' ∧ off = off' := by simpa using e0
            clear c0 c1 c2 c3 z0 z1 z2 z3 e0 E
            have z0 := fun d os => cell_regrown c0' d os
            have z1 := fun d os => cell_regrown c1' d os
            have z2 := fun d os => cell_regrown c2' d os
            have z3 := fun d os => cell_regrown c3' d os
            clear c0' c1' c2' c3'
            obtain ⟨mb, hmb⟩ : ∃ t, vicB ps k x = t := ⟨_, rfl⟩
            have HM := hid hmb
            rw [hmb]
            clear hmb
            go_upto_region 12 with (fail)
            go_cut [196] (fun s wx => s = .bool false ∧ Ext (fhOf W) W (fhOf W) wx)
            case first =>
              as_aux_lemma =>
                cases fb
                · cases mb
                  · clear G1 G2
                    refine wp_region_quiet_below (by kernel_rfl) (by kernel_rfl) ?_
                    repeat (go_big_quiet_step (fail))
                    refine wpQuiet_nil ?_
                    intro _ hw'
                    obtain ⟨⟨dq, osq⟩, hw''⟩ := hw'
                    subst hw''
                    go_wp2
                    go_meet
                    exact ⟨rfl, E5.trans (Ext.quiet E5.sits _ _)⟩
                  · have ht2 : t2 = true := by
                      cases t2
                      · have := (G2.no rfl).2 k x HX.out
                        rw [HM.out] at this; cases this
                      · rfl
                    subst ht2
                    obtain ⟨z, hz, hz1, hz2⟩ := G2.yes rfl
                    obtain ⟨hz3, _⟩ := hz2 k x HX.out HM.out
                    obtain ⟨b2, off2, e2, _, d1, _, _⟩ := r.block hz E5.sits
                    obtain ⟨rfl, rfl⟩ : b = b2 ∧ off = off2 := by simpa using e2
                    have v1 := fun d os => cell_regrown d1 d os
                    have gv := (List.getElem?_eq_some_iff.1 hz).1
                    have ge : ((v : Int) < (xs.length : Int)) := by omega
                    have gf : ((0 : Int) ≤ (v : Int)) := by omega
                    have gg : decide (x.live < z.live) = false := by
                      have hz3' : bestV x z = false := hz3
                      simp only [bestV, Bool.or_eq_false_iff] at hz3'
                      exact hz3'.1
                    clear hz hz1 hz2 hz3 e2
                    clear G1 G2
                    refine wp_region_quiet_below (by kernel_rfl) (by kernel_rfl) ?_
                    repeat (go_big_quiet_step (fail))
                    refine wpQuiet_nil ?_
                    intro _ hw'
                    obtain ⟨⟨dq, osq⟩, hw''⟩ := hw'
                    subst hw''
                    go_wp2
                    go_meet
                    exact ⟨rfl, E5.trans (Ext.quiet E5.sits _ _)⟩
                · cases mb
                  · have ht1 : t1 = true := by
                      cases t1
                      · have := (G1.no rfl).2 k x HX.out
                        rw [HF.out] at this; cases this
                      · rfl
                    subst ht1
                    obtain ⟨y, hy, hy1, hy2⟩ := G1.yes rfl
                    obtain ⟨hy3, hy4⟩ := hy2 k x HX.out HF.out
                    obtain ⟨b', off', e0, _, _, d2, _⟩ := r.block hy E5.sits
                    obtain ⟨rfl, rfl⟩ : b = b' ∧ off = off' := by simpa using e0
                    have u2 := fun d os => cell_regrown d2 d os
                    have ga := (List.getElem?_eq_some_iff.1 hy).1
                    have gb : ((a : Int) < (xs.length : Int)) := by omega
                    have gc : ((0 : Int) ≤ (a : Int)) := by omega
                    have gd : decide (x.era < y.era) = false := hy3
                    by_cases heq : x.era = y.era
                    · have gh : (x.era == y.era) = true := by simpa using heq
                      have gi : decide (k < a) = false := by
                        have : ¬ k < a := fun h => by have := hy4 h; simp [younger] at this; omega
                        simpa using this
                      have gj : decide ((k : Int) < (a : Int)) = false := by
                        have : ¬ k < a := by simpa using gi
                        simp; omega
                      have gk : ¬ ((k : Int) < (a : Int)) := by simpa using gj
                      clear heq hy hy1 hy2 hy3 hy4 e0
                      clear G1 G2
                      refine wp_region_quiet_below (by kernel_rfl) (by kernel_rfl) ?_
                      repeat (go_big_quiet_step (fail))
                      refine wpQuiet_nil ?_
                      intro _ hw'
                      obtain ⟨⟨dq, osq⟩, hw''⟩ := hw'
                      subst hw''
                      go_wp2
                      go_meet
                      exact ⟨rfl, E5.trans (Ext.quiet E5.sits _ _)⟩
                    · have gh : (x.era == y.era) = false := by simpa using heq
                      clear heq hy hy1 hy2 hy3 hy4 e0
                      clear G1 G2
                      refine wp_region_quiet_below (by kernel_rfl) (by kernel_rfl) ?_
                      repeat (go_big_quiet_step (fail))
                      refine wpQuiet_nil ?_
                      intro _ hw'
                      obtain ⟨⟨dq, osq⟩, hw''⟩ := hw'
                      subst hw''
                      go_wp2
                      go_meet
                      exact ⟨rfl, E5.trans (Ext.quiet E5.sits _ _)⟩
                  · have ht2 : t2 = true := by
                      cases t2
                      · have := (G2.no rfl).2 k x HX.out
                        rw [HM.out] at this; cases this
                      · rfl
                    subst ht2
                    obtain ⟨z, hz, hz1, hz2⟩ := G2.yes rfl
                    obtain ⟨hz3, _⟩ := hz2 k x HX.out HM.out
                    obtain ⟨b2, off2, e2, _, d1, _, _⟩ := r.block hz E5.sits
                    obtain ⟨rfl, rfl⟩ : b = b2 ∧ off = off2 := by simpa using e2
                    have v1 := fun d os => cell_regrown d1 d os
                    have gv := (List.getElem?_eq_some_iff.1 hz).1
                    have ge : ((v : Int) < (xs.length : Int)) := by omega
                    have gf : ((0 : Int) ≤ (v : Int)) := by omega
                    have gg : decide (x.live < z.live) = false := by
                      have hz3' : bestV x z = false := hz3
                      simp only [bestV, Bool.or_eq_false_iff] at hz3'
                      exact hz3'.1
                    clear hz hz1 hz2 hz3 e2
                    have ht1 : t1 = true := by
                      cases t1
                      · have := (G1.no rfl).2 k x HX.out
                        rw [HF.out] at this; cases this
                      · rfl
                    subst ht1
                    obtain ⟨y, hy, hy1, hy2⟩ := G1.yes rfl
                    obtain ⟨hy3, hy4⟩ := hy2 k x HX.out HF.out
                    obtain ⟨b', off', e0, _, _, d2, _⟩ := r.block hy E5.sits
                    obtain ⟨rfl, rfl⟩ : b = b' ∧ off = off' := by simpa using e0
                    have u2 := fun d os => cell_regrown d2 d os
                    have ga := (List.getElem?_eq_some_iff.1 hy).1
                    have gb : ((a : Int) < (xs.length : Int)) := by omega
                    have gc : ((0 : Int) ≤ (a : Int)) := by omega
                    have gd : decide (x.era < y.era) = false := hy3
                    by_cases heq : x.era = y.era
                    · have gh : (x.era == y.era) = true := by simpa using heq
                      have gi : decide (k < a) = false := by
                        have : ¬ k < a := fun h => by have := hy4 h; simp [younger] at this; omega
                        simpa using this
                      have gj : decide ((k : Int) < (a : Int)) = false := by
                        have : ¬ k < a := by simpa using gi
                        simp; omega
                      have gk : ¬ ((k : Int) < (a : Int)) := by simpa using gj
                      clear heq hy hy1 hy2 hy3 hy4 e0
                      clear G1 G2
                      refine wp_region_quiet_below (by kernel_rfl) (by kernel_rfl) ?_
                      repeat (go_big_quiet_step (fail))
                      refine wpQuiet_nil ?_
                      intro _ hw'
                      obtain ⟨⟨dq, osq⟩, hw''⟩ := hw'
                      subst hw''
                      go_wp2
                      go_meet
                      exact ⟨rfl, E5.trans (Ext.quiet E5.sits _ _)⟩
                    · have gh : (x.era == y.era) = false := by simpa using heq
                      clear heq hy hy1 hy2 hy3 hy4 e0
                      clear G1 G2
                      refine wp_region_quiet_below (by kernel_rfl) (by kernel_rfl) ?_
                      repeat (go_big_quiet_step (fail))
                      refine wpQuiet_nil ?_
                      intro _ hw'
                      obtain ⟨⟨dq, osq⟩, hw''⟩ := hw'
                      subst hw''
                      go_wp2
                      go_meet
                      exact ⟨rfl, E5.trans (Ext.quiet E5.sits _ _)⟩
            case rest =>
              obtain ⟨rfl, E6⟩ := hcut
              go_wp2
              go_roundw
              case rel => exact ⟨k + 1, by omega, by go_num, E6⟩
              case measure => simp [intOf]; omega
      · go_wp2_with (go_at_call 23; refine (law19_awake _ _ E.sits).mono ?_; rintro e w1 ⟨rfl, E1⟩)
        go_ret
        exact ⟨rfl, E.trans E1⟩
end Go.Proofs.Ytokffohhegabhaa
