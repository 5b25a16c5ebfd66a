import Derived.Test.YtokffohhegabhaaPickP
import Derived.Test.YtokffohhegabhaaHelpIn
namespace Go.Proofs.Ytokffohhegabhaa
open Go.RowKit Go.Sort
set_option linter.unusedVariables false
theorem ret_val5 {a b : Bool} (h : a = b) : Value.bool a = .bool b := by rw [h]
set_option maxHeartbeats 1000000 in
theorem ref_free (x : Block) (t : Bool) (ht : freeB x = t) (h : FH) (w : World) (hs : Sits h w) :
    Calls Try.prog 94 #[.agg #[.int .i64 x.prog, .int .i64 x.live, .int .i64 x.era, .bool x.bad]] w fun e w' => e = .returned (.bool t) ∧ Ext h w h w' := by
  have E := (Ext.refl hs).alloc (.cells #[.int .i64 x.prog, .int .i64 x.live, .int .i64 x.era, .bool x.bad] 29)
  obtain ⟨x0, x1, x2, x3⟩ := x
  subst ht
  cases x3
  all_goals
    by_cases h0 : x0 = 0
    all_goals
      go_enter Try.func94, Try.ntmps94
      go_wp2
      all_goals
        go_ret
        exact ⟨ret_bool (by simp_all [freeB]), (Ext.refl hs).alloc _⟩
set_option maxHeartbeats 1000000 in
theorem ref_Free (xs : List Block) (A : Option Addr) (c : Nat) (h : FH) (w : World) (hs : Sits h w) (r : RowAt h A xs) :
    Calls Try.prog 34 #[.slice A xs.length c] w fun e w' => e = .returned (.int .i64 (cntFree xs)) ∧ Ext h w h w' := by
  have hl := r.1
  go_enter Try.func34, Try.ntmps34
  go_wp2
  go_loopw [3, 4] (fun n i wr => ∃ k : Nat, k ≤ xs.length ∧ i = .int .i64 k ∧ n = .int .i64 (cntFree (xs.take k)) ∧ Ext h w h wr) (fun _ i _ => xs.length - (intOf i).toNat)
  case atStart => exact ⟨0, Nat.zero_le _, rfl, rfl, Ext.refl hs⟩
  case round =>
    obtain ⟨k, hk, rfl, rfl, E⟩ := hrel
    by_cases hlt : k < xs.length
    · obtain ⟨x, hx⟩ : ∃ x, xs[k]? = some x := ⟨xs[k], by simp [hlt]⟩
      obtain ⟨b, off, rfl, c0, c1, c2, c3⟩ := r.block hx E.sits
      have HS := hid (cntFree_snoc xs k x hx)
      have hb := cntFree_bd xs k hl hlt
      have HX := hid hx
      clear hx
      go_wp2_with (go_at_call 94; refine (ref_free x _ rfl h _ E.sits).mono ?_; rintro e w1 ⟨rfl, E1⟩)
      all_goals
        go_roundw
        case rel => exact ⟨k + 1, by omega, by go_num, by rw [HS.out]; first | (rw [if_pos ‹freeB x = true›]) | (rw [if_neg (by rw [‹freeB x = false›]; simp)]; go_num), E.trans E1⟩
        case measure => simp [intOf]; omega
    · go_wp2
      go_ret
      exact ⟨by rw [List.take_of_length_le (by omega)]; rfl, E⟩
theorem at_facts {xs : List Block} {h : FH} {w : World} {b off : Nat} (r : RowAt h (some ⟨b, off, none⟩) xs) (hs : Sits h w) {at_ : Int} (hlt : at_ < xs.length) (h0 : 0 ≤ at_) :
    w.cell? ⟨b, off + at_.toNat * 4, none⟩ = some (.int .i64 (xs.getD at_.toNat default).prog) ∧ w.cell? ⟨b, off + at_.toNat * 4 + 1, none⟩ = some (.int .i64 (xs.getD at_.toNat default).live) ∧ w.cell? ⟨b, off + at_.toNat * 4 + 2, none⟩ = some (.int .i64 (xs.getD at_.toNat default).era) ∧ w.cell? ⟨b, off + at_.toNat * 4 + 3, none⟩ = some (.bool (xs.getD at_.toNat default).bad) := by
  obtain ⟨y', hy'⟩ : ∃ y, xs[at_.toNat]? = some y := ⟨xs[at_.toNat]'(by omega), List.getElem?_eq_getElem _⟩
  have hy : xs.getD at_.toNat default = y' := by rw [List.getD_eq_getElem?_getD, hy']; rfl
  obtain ⟨b', off', e0, d0, d1, d2, d3⟩ := r.block hy' hs
  obtain ⟨rfl, rfl⟩ : b' = b ∧ off' = off := by simpa using e0.symm
  rw [hy]
  exact ⟨d0, d1, d2, d3⟩
set_option maxHeartbeats 4000000 in
set_option maxRecDepth 100000 in
theorem ref_Fresh (xs : List Block) (A : Option Addr) (c : Nat) (h : FH) (w : World) (hs : Sits h w) (r : RowAt h A xs) :
    Calls Try.prog 30 #[.slice A xs.length c] w fun e w' => e = .returned (.tuple #[.int .i64 (max (bestGo (fun _ => freeB) younger xs xs.length) 0), .bool (decide (0 ≤ bestGo (fun _ => freeB) younger xs xs.length))]) ∧ Ext h w h w' := by
  have hl := r.1
  obtain ⟨may, hm⟩ : ∃ f, f = (fun _ => freeB : Int → Block → Bool) := ⟨_, rfl⟩
  obtain ⟨bet, hb⟩ : ∃ f, f = (younger : Block → Block → Bool) := ⟨_, rfl⟩
  rw [← hm, ← hb]
  have HM := hid hm
  have HB := hid hb
  clear hm hb
  go_enter Try.func30, Try.ntmps30
  go_wp2
  go_loopw [4, 5] (fun n i wr => ∃ k : Nat, k ≤ xs.length ∧ i = .int .i64 k ∧ n = .int .i64 (bestGo may bet xs k) ∧ Ext h w h wr) (fun _ i _ => xs.length - (intOf i).toNat)
  case atStart => exact ⟨0, Nat.zero_le _, rfl, rfl, Ext.refl hs⟩
  case round =>
    obtain ⟨k, hk, rfl, rfl, E⟩ := hrel
    have hbd := bestGo_bd may bet xs k
    generalize hat : bestGo may bet xs k = at_ at *
    have HAT := hid hat
    clear hat
    by_cases hlt : k < xs.length
    · obtain ⟨x, hx⟩ : ∃ x, xs[k]? = some x := ⟨xs[k], by simp [hlt]⟩
      obtain ⟨b, off, rfl, c0, c1, c2, c3⟩ := r.block hx E.sits
      have HX := hid hx
      clear hx
      have hgd : xs.getD k default = x := by rw [List.getD_eq_getElem?_getD, HX.out]; rfl
      have hstep : bestGo may bet xs (k + 1) = if may k x && (decide (at_ < 0) || bet x (xs.getD at_.toNat default)) then (k : Int) else at_ := by
        simp only [bestGo, hgd, HAT.out]
      have HS := hid hstep
      clear hgd hstep
      go_upto_region 5 with (fail)
      go_cut [33] (fun s wx => s = .bool (may k x && (decide (at_ < 0) || bet x (xs.getD at_.toNat default))) ∧ Ext h w h wx)
      case first =>
        as_aux_lemma =>
          have i1 : (0 : Int) ≤ (k : Int) := by omega
          have i2 : (k : Int) < (xs.length : Int) := by omega
          have q0 := fun d os => cell_regrown c0 d os
          have q1 := fun d os => cell_regrown c1 d os
          have q2 := fun d os => cell_regrown c2 d os
          have q3 := fun d os => cell_regrown c3 d os
          clear c0 c1 c2 c3
          obtain ⟨t, ht⟩ : ∃ t, freeB x = t := ⟨_, rfl⟩
          have HT := hid ht
          clear ht
          have HT1 : Hid (may k x = t) := by rw [HM.out]; exact HT
          by_cases hneg : at_ < 0
          · have hn2 : decide (at_ < 0) = true := by simpa using hneg
            cases t
            all_goals
              refine wp_region_quiet_below (by kernel_rfl) (by kernel_rfl) ?_
              repeat (go_big_quiet_step (exact quietCall (ref_free x _ HT.out h _ (Ext.quiet E.sits _ _).sits)))
              refine wpQuiet_nil ?_
              intro _ hw'
              obtain ⟨⟨dq, osq⟩, hw''⟩ := hw'
              subst hw''
              go_wp2
              go_meet
              exact ⟨ret_val5 (by rw [HT1.out, hn2]; rfl), E.trans (Ext.quiet E.sits _ _)⟩
          · skip
            have hn2 : decide (at_ < 0) = false := by simpa using hneg
            have hpos : 0 ≤ at_ := by omega
            have hlt2 : at_ < (xs.length : Int) := by omega
            obtain ⟨y0, y1, y2, y3⟩ := at_facts r E.sits hlt2 hpos
            obtain ⟨y, hy⟩ : ∃ y : Block, xs.getD at_.toNat default = y := ⟨_, rfl⟩
            rw [hy] at y0 y1 y2 y3
            have HY := hid hy
            clear hy
            have u0 := fun d os => cell_regrown y0 d os
            have u1 := fun d os => cell_regrown y1 d os
            have u2 := fun d os => cell_regrown y2 d os
            have u3 := fun d os => cell_regrown y3 d os
            clear y0 y1 y2 y3
            obtain ⟨t2, ht2⟩ : ∃ t, decide (x.era < y.era) = t := ⟨_, rfl⟩
            have HT2 : Hid (bet x y = t2) := by rw [HB.out]; exact ht2
            cases t
            all_goals
              refine wp_region_quiet_below (by kernel_rfl) (by kernel_rfl) ?_
              repeat (go_big_quiet_step (exact quietCall (ref_free x _ HT.out h _ (Ext.quiet E.sits _ _).sits)))
              refine wpQuiet_nil ?_
              intro _ hw'
              obtain ⟨⟨dq, osq⟩, hw''⟩ := hw'
              subst hw''
              go_wp2
              go_meet
              exact ⟨ret_val5 (by rw [HT1.out, hn2, HY.out, HT2.out]; first | rfl | exact ht2 | simp [ht2]), E.trans (Ext.quiet E.sits _ _)⟩
      case rest =>
        obtain ⟨rfl, E3⟩ := hcut
        cases hc : (may k x && (decide (at_ < 0) || bet x (xs.getD at_.toNat default)))
        all_goals
          have HC := hid hc
          clear hc
          go_wp2
          go_roundw
          case rel => exact ⟨k + 1, by omega, by go_num, by rw [HS.out, HC.out]; rfl, E3⟩
          case measure => simp [intOf]; omega
    · obtain rfl : k = xs.length := by omega
      go_wp2
      all_goals
        go_ret2
        exact ⟨ret_ib (by (rw [HAT.out]) <;> omega) (by (rw [HAT.out]) <;> first | rfl | (simp; omega) | (simp; assumption)), E⟩
set_option maxHeartbeats 4000000 in
set_option maxRecDepth 100000 in
theorem ref_Victim (xs : List Block) (A : Option Addr) (c : Nat) (pinned : List Int) (B : Option Addr) (d : Nat) (h : FH) (w : World) (hs : Sits h w) (r : RowAt h A xs) (rp : RowAt h B pinned) :
    Calls Try.prog 33 #[.slice A xs.length c, .slice B pinned.length d] w fun e w' => e = .returned (.tuple #[.int .i64 (max (bestGo (vicB pinned) bestV xs xs.length) 0), .bool (decide (0 ≤ bestGo (vicB pinned) bestV xs xs.length))]) ∧ Ext h w h w' := by
  have hl := r.1
  obtain ⟨may, hm⟩ : ∃ f, f = (vicB pinned : Int → Block → Bool) := ⟨_, rfl⟩
  obtain ⟨bet, hb⟩ : ∃ f, f = (bestV : Block → Block → Bool) := ⟨_, rfl⟩
  rw [← hm, ← hb]
  have HM := hid hm
  have HB := hid hb
  clear hm hb
  go_enter Try.func33, Try.ntmps33
  go_wp2
  go_loopw [6, 7] (fun n i wr => ∃ k : Nat, k ≤ xs.length ∧ i = .int .i64 k ∧ n = .int .i64 (bestGo may bet xs k) ∧ Ext h w h wr) (fun _ i _ => xs.length - (intOf i).toNat)
  case atStart => exact ⟨0, Nat.zero_le _, rfl, rfl, Ext.refl hs⟩
  case round =>
    obtain ⟨k, hk, rfl, rfl, E⟩ := hrel
    have hbd := bestGo_bd may bet xs k
    generalize hat : bestGo may bet xs k = at_ at *
    have HAT := hid hat
    clear hat
    by_cases hlt : k < xs.length
    · obtain ⟨x, hx⟩ : ∃ x, xs[k]? = some x := ⟨xs[k], by simp [hlt]⟩
      obtain ⟨b, off, rfl, c0, c1, c2, c3⟩ := r.block hx E.sits
      have HX := hid hx
      clear hx
      have hgd : xs.getD k default = x := by rw [List.getD_eq_getElem?_getD, HX.out]; rfl
      have hstep : bestGo may bet xs (k + 1) = if may k x && (decide (at_ < 0) || bet x (xs.getD at_.toNat default)) then (k : Int) else at_ := by
        simp only [bestGo, hgd, HAT.out]
      have HS := hid hstep
      clear hgd hstep
      go_upto_region 5 with (fail)
      go_cut [36] (fun s wx => s = .bool (!(may k x)) ∧ Ext h w h wx)
      case first =>
        as_aux_lemma =>
          have i1 : (0 : Int) ≤ (k : Int) := by omega
          have i2 : (k : Int) < (xs.length : Int) := by omega
          have q0 := fun d os => cell_regrown c0 d os
          have q1 := fun d os => cell_regrown c1 d os
          have q2 := fun d os => cell_regrown c2 d os
          have q3 := fun d os => cell_regrown c3 d os
          clear c0 c1 c2 c3
          obtain ⟨t, ht⟩ : ∃ t, pinned.contains (k : Int) = t := ⟨_, rfl⟩
          have HT := hid ht
          have HT1 : Hid (may k x = (!x.bad && decide (x.live < x.prog) && !t)) := by rw [HM.out]; unfold vicB; rw [ht]; rfl
          clear ht
          cases hbad : x.bad
          · rw [hbad] at q3
            have HBAD := hid hbad
            clear hbad
            by_cases hp : x.prog ≤ x.live
            · have hp2 : decide (x.prog ≤ x.live) = true := by simpa using hp
              have HP : Hid (decide (x.live < x.prog) = false) := by simp [Hid]; omega
              refine wp_region_quiet_below (by kernel_rfl) (by kernel_rfl) ?_
              repeat (go_big_quiet_step (fail))
              refine wpQuiet_nil ?_
              intro _ hw'
              obtain ⟨⟨dq, osq⟩, hw''⟩ := hw'
              subst hw''
              go_wp2
              go_meet
              exact ⟨ret_val5 (by rw [HT1.out, HBAD.out, HP.out]; rfl), E.trans (Ext.quiet E.sits _ _)⟩
            · have hp2 : decide (x.prog ≤ x.live) = false := by simpa using hp
              have HP : Hid (decide (x.live < x.prog) = true) := by simp [Hid]; omega
              refine wp_region_quiet_below (by kernel_rfl) (by kernel_rfl) ?_
              repeat (go_big_quiet_step (exact quietCall (help_In pinned B d k _ HT.out h _ (Ext.quiet E.sits _ _).sits rp)))
              refine wpQuiet_nil ?_
              intro _ hw'
              obtain ⟨⟨dq, osq⟩, hw''⟩ := hw'
              subst hw''
              go_wp2
              go_meet
              exact ⟨ret_val5 (by rw [HT1.out, HBAD.out, HP.out]; cases t <;> rfl), E.trans (Ext.quiet E.sits _ _)⟩
          · rw [hbad] at q3
            have HBAD := hid hbad
            clear hbad
            refine wp_region_quiet_below (by kernel_rfl) (by kernel_rfl) ?_
            repeat (go_big_quiet_step (fail))
            refine wpQuiet_nil ?_
            intro _ hw'
            obtain ⟨⟨dq, osq⟩, hw''⟩ := hw'
            subst hw''
            go_wp2
            go_meet
            exact ⟨ret_val5 (by rw [HT1.out, HBAD.out]; rfl), E.trans (Ext.quiet E.sits _ _)⟩
      case rest =>
        obtain ⟨rfl, E3⟩ := hcut
        obtain ⟨t, ht⟩ : ∃ t, may k x = t := ⟨_, rfl⟩
        have HT := hid ht
        rw [ht]
        clear ht c0 c1 c2 c3
        obtain ⟨b', off', e0, c0, c1, c2, c3⟩ := r.block HX.out E3.sits
        obtain ⟨rfl, rfl⟩ : b = b' ∧ off = off' := by simpa using e0
        clear e0
        cases t
        · go_wp2_with fail
          go_roundw
          case rel => exact ⟨k + 1, by omega, by go_num, by rw [HS.out, HT.out]; rfl, E3⟩
          case measure => simp [intOf]; omega
        · go_upto_region 6 with (fail)
          go_cut [77] (fun s wx => s = .bool (decide (at_ < 0) || bet x (xs.getD at_.toNat default)) ∧ Ext h w h wx)
          case first =>
            as_aux_lemma =>
              skip
              have i1 : (0 : Int) ≤ (k : Int) := by omega
              have i2 : (k : Int) < (xs.length : Int) := by omega
              have q0 := fun d os => cell_regrown c0 d os
              have q1 := fun d os => cell_regrown c1 d os
              have q2 := fun d os => cell_regrown c2 d os
              have q3 := fun d os => cell_regrown c3 d os
              clear c0 c1 c2 c3
              by_cases hneg : at_ < 0
              · have hn2 : decide (at_ < 0) = true := by simpa using hneg
                refine wp_region_quiet_below (by kernel_rfl) (by kernel_rfl) ?_
                repeat (go_big_quiet_step (fail))
                refine wpQuiet_nil ?_
                intro _ hw'
                obtain ⟨⟨dq, osq⟩, hw''⟩ := hw'
                subst hw''
                go_wp2
                go_meet
                exact ⟨ret_val5 (by rw [hn2]; rfl), E3.trans (Ext.quiet E3.sits _ _)⟩
              · skip
                have hn2 : decide (at_ < 0) = false := by simpa using hneg
                have hpos : 0 ≤ at_ := by omega
                have hlt2 : at_ < (xs.length : Int) := by omega
                obtain ⟨y0, y1, y2, y3⟩ := at_facts r E3.sits hlt2 hpos
                obtain ⟨y, hy⟩ : ∃ y : Block, xs.getD at_.toNat default = y := ⟨_, rfl⟩
                rw [hy] at y0 y1 y2 y3
                have HY := hid hy
                clear hy
                have u0 := fun d os => cell_regrown y0 d os
                have u1 := fun d os => cell_regrown y1 d os
                have u2 := fun d os => cell_regrown y2 d os
                have u3 := fun d os => cell_regrown y3 d os
                clear y0 y1 y2 y3
                by_cases h1 : x.live < y.live
                · have h1' : decide (x.live < y.live) = true := by simpa using h1
                  have HT2 : Hid (bet x y = true) := by rw [HB.out]; unfold bestV; simp [Hid, h1]
                  refine wp_region_quiet_below (by kernel_rfl) (by kernel_rfl) ?_
                  repeat (go_big_quiet_step (fail))
                  refine wpQuiet_nil ?_
                  intro _ hw'
                  obtain ⟨⟨dq, osq⟩, hw''⟩ := hw'
                  subst hw''
                  go_wp2
                  go_meet
                  exact ⟨ret_val5 (by rw [hn2, HY.out, HT2.out]; rfl), E3.trans (Ext.quiet E3.sits _ _)⟩
                · have h1' : decide (x.live < y.live) = false := by simpa using h1
                  by_cases h2 : x.live = y.live
                  · have h2' : (x.live == y.live) = true := by simpa using h2
                    obtain ⟨t2, ht2⟩ : ∃ t, decide (x.era < y.era) = t := ⟨_, rfl⟩
                    have HT2 : Hid (bet x y = t2) := by rw [HB.out]; unfold bestV younger; rw [h1', h2', ht2]; rfl
                    clear h2
                    refine wp_region_quiet_below (by kernel_rfl) (by kernel_rfl) ?_
                    repeat (go_big_quiet_step (fail))
                    refine wpQuiet_nil ?_
                    intro _ hw'
                    obtain ⟨⟨dq, osq⟩, hw''⟩ := hw'
                    subst hw''
                    go_wp2
                    go_meet
                    exact ⟨ret_val5 (by rw [hn2, HY.out, HT2.out]; first | rfl | exact ht2 | simp [ht2]), E3.trans (Ext.quiet E3.sits _ _)⟩
                  · have h2' : (x.live == y.live) = false := by simpa using h2
                    have HT2 : Hid (bet x y = false) := by rw [HB.out]; unfold bestV younger; rw [h1', h2']; rfl
                    clear h2
                    refine wp_region_quiet_below (by kernel_rfl) (by kernel_rfl) ?_
                    repeat (go_big_quiet_step (fail))
                    refine wpQuiet_nil ?_
                    intro _ hw'
                    obtain ⟨⟨dq, osq⟩, hw''⟩ := hw'
                    subst hw''
                    go_wp2
                    go_meet
                    exact ⟨ret_val5 (by rw [hn2, HY.out, HT2.out]; rfl), E3.trans (Ext.quiet E3.sits _ _)⟩
          case rest =>
            obtain ⟨rfl, E4⟩ := hcut
            cases hc : (decide (at_ < 0) || bet x (xs.getD at_.toNat default))
            all_goals
              have HC := hid hc
              clear hc
              go_wp2_with fail
              go_roundw
              case rel => exact ⟨k + 1, by omega, by go_num, by rw [HS.out, HT.out, HC.out]; rfl, E4⟩
              case measure => simp [intOf]; omega
    · obtain rfl : k = xs.length := by omega
      go_wp2
      all_goals
        go_ret2
        exact ⟨ret_ib (by (rw [HAT.out]) <;> omega) (by (rw [HAT.out]) <;> first | rfl | (simp; omega) | (simp; assumption)), E⟩
set_option maxHeartbeats 4000000 in
set_option maxRecDepth 100000 in
theorem ref_Partial (xs : List Block) (A : Option Addr) (c : Nat) (pages but : Int) (h : FH) (w : World) (hs : Sits h w) (r : RowAt h A xs) :
    Calls Try.prog 32 #[.slice A xs.length c, .int .i64 pages, .int .i64 but] w fun e w' => e = .returned (.tuple #[.int .i64 (max (bestGo (partB pages but) (fun _ _ => false) xs xs.length) 0), .bool (decide (0 ≤ bestGo (partB pages but) (fun _ _ => false) xs xs.length))]) ∧ Ext h w h w' := by
  have hl := r.1
  obtain ⟨res, hres⟩ : ∃ n, n = bestGo (partB pages but) (fun _ _ => false) xs xs.length := ⟨_, rfl⟩
  rw [← hres]
  have HR := hid hres
  clear hres
  go_enter Try.func32, Try.ntmps32
  go_wp2
  go_loopw [8] (fun i wr => ∃ k : Nat, k ≤ xs.length ∧ i = .int .i64 k ∧ Hid (∀ (j : Nat) y, j < k → xs[j]? = some y → partB pages but j y = false) ∧ Ext h w h wr) (fun i _ => xs.length - (intOf i).toNat)
  case atStart => exact ⟨0, Nat.zero_le _, rfl, fun j y hj => by omega, Ext.refl hs⟩
  case round =>
    obtain ⟨k, hk, rfl, HN, E⟩ := hrel
    by_cases hlt : k < xs.length
    · obtain ⟨x, hx⟩ : ∃ x, xs[k]? = some x := ⟨xs[k], by simp [hlt]⟩
      obtain ⟨b, off, rfl, c0, c1, c2, c3⟩ := r.block hx E.sits
      have HX := hid hx
      clear hx
      go_upto_region 4 with (fail)
      go_cut [42] (fun s wx => s = .bool (partB pages but k x) ∧ wx = wr)
      case first =>
        as_aux_lemma =>
          cases hb : x.bad
          · rw [hb] at c3
            by_cases h1 : 1 ≤ x.prog
            · by_cases h2 : x.prog < pages
              · by_cases h3 : (k : Int) = but
                · have h3' : ((k : Int) != but) = false := by simp [h3]
                  have H3 := hid h3
                  clear h3
                  go_wp2
                  go_meet
                  exact ⟨ret_val5 (by simp [partB, H3.out]), rfl⟩
                · have h3' : ((k : Int) != but) = true := by simp [h3]
                  go_wp2
                  go_meet
                  exact ⟨ret_val5 (by simp only [partB, hb, h3']; simp; omega), rfl⟩
              · have h2' : decide (x.prog < pages) = false := by simp; omega
                go_wp2
                go_meet
                exact ⟨ret_val5 (by simp only [partB, hb, h2']; simp), rfl⟩
            · have h1'' : decide (1 ≤ x.prog) = false := by simp; omega
              go_wp2
              go_meet
              exact ⟨ret_val5 (by simp only [partB, hb, h1'']; simp), rfl⟩
          · rw [hb] at c3
            go_wp2
            go_meet
            exact ⟨ret_val5 (by simp [partB, hb]), rfl⟩
      case rest =>
        obtain ⟨rfl, rfl⟩ := hcut
        clear c0 c1 c2 c3
        obtain ⟨m, hm⟩ : ∃ t, partB pages but k x = t := ⟨_, rfl⟩
        have HM := hid hm
        rw [hm]
        clear hm
        cases m
        · go_wp2_with fail
          go_roundw
          case rel =>
            refine ⟨k + 1, by omega, by go_num, hid (fun j y hj hy => ?_), E⟩
            by_cases hjk : j = k
            · subst hjk; rw [HX.out] at hy; cases hy; exact HM.out
            · exact HN.out j y (by omega) hy
          case measure => simp [intOf]; omega
        · have HV := hid (show res = (k : Int) by
            rw [HR.out]
            refine best_first _ xs xs.length (Nat.le_refl _) k hlt (by rw [getD_of HX.out]; exact HM.out) (fun j hj => ?_)
            obtain ⟨y, hy⟩ : ∃ y, xs[j]? = some y := ⟨xs[j]'(by omega), List.getElem?_eq_getElem _⟩
            rw [getD_of hy]
            exact HN.out j y hj hy)
          go_wp2_with fail
          go_ret2
          exact ⟨ret_ib (by rw [HV.out]; omega) (by rw [HV.out]; simp), E⟩
    · have HV := hid (show res = -1 by
        rw [HR.out]
        refine best_none _ _ xs xs.length (fun j hj => ?_)
        obtain ⟨y, hy⟩ : ∃ y, xs[j]? = some y := ⟨xs[j]'(by omega), List.getElem?_eq_getElem _⟩
        rw [getD_of hy]
        exact HN.out j y (by omega) hy)
      go_wp2_with fail
      go_ret2
      exact ⟨ret_ib (by rw [HV.out]; rfl) (by rw [HV.out]; rfl), E⟩
end Go.Proofs.Ytokffohhegabhaa
