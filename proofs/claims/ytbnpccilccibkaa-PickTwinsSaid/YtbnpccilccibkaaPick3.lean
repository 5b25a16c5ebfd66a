import Derived.Test.YtbnpccilccibkaaPick2
namespace Go.Proofs.Ytbnpccilccibkaa
open Go.RowKit Go.Sort
set_option linter.unusedVariables false

set_option maxHeartbeats 4000000 in
theorem best_Victim (xs : List Block) (A : Option Addr) (c : Nat) (pinned : List Int) (p bm : Nat) (may : Int → Block → Bool) (hm : vicB pinned = may) (bet : Block → Block → Bool) (hb : bestV = bet) (h : FH) (hp : h.cell ⟨p, 0, none⟩ = some (.map (some bm))) (hmm : FMap encI h bm (pinsF pinned)) (w : World) (hs : Sits h w) (r : RowAt h A xs) :
    Calls Try.prog 18 #[.slice A xs.length c, .func (.func 22) #[] #[.pointer (some ⟨p, 0, none⟩)], .func (.func 23) #[] #[]] w fun e w' => e = .returned (.tuple #[.int .i64 (max (bestGo may bet xs xs.length) 0), .bool (decide (0 ≤ bestGo may bet xs xs.length))]) ∧ Ext h w h w' := by
  have hl := r.1
  have HM := hid hm
  have HB := hid hb
  clear hm hb
  go_enter Try.func18, Try.ntmps18
  go_wp2
  go_loopw [8, 13] (fun n i wr => ∃ k : Nat, k ≤ xs.length ∧ i = .int .i64 k ∧ n = .int .i64 (bestGo may bet xs k) ∧ Ext h w h wr) (fun _ i _ => xs.length - (intOf i).toNat)
  case atStart => exact ⟨0, Nat.zero_le _, rfl, rfl, Ext.refl hs⟩
  case round =>
    obtain ⟨k, hk, rfl, rfl, E⟩ := hrel
    have hbd := bestGo_bd may bet xs k
    generalize hat : bestGo may bet xs k = at_ at *
    have HAT := hid hat
    clear hat
    by_cases hlt : k < xs.length
    · obtain ⟨x, hx⟩ : ∃ x, xs[k]? = some x := ⟨xs[k], by simp [hlt]⟩
      obtain ⟨b, off, rfl, c0, c1, c2, c3⟩ := r.block hx E.sits
      have HX := hid hx
      clear hx
      have hgd : xs.getD k default = x := by rw [List.getD_eq_getElem?_getD, HX.out]; rfl
      have hstep : bestGo may bet xs (k + 1) = if may k x && (decide (at_ < 0) || bet x (xs.getD at_.toNat default)) then (k : Int) else at_ := by
        simp only [bestGo, hgd, HAT.out]
      have HS := hid hstep
      clear hgd hstep
      go_upto_region 5 with (fail)
      go_cut [34] (fun s wx => s = .bool (may k x && (decide (at_ < 0) || bet x (xs.getD at_.toNat default))) ∧ Ext h w h wx)
      case first =>
        have E2 := E.alloc (.cells #[.int .i64 x.prog, .int .i64 x.live, .int .i64 x.era, .bool x.bad] 23)
        obtain ⟨y, hy⟩ : ∃ y : Block, xs.getD at_.toNat default = y := ⟨_, rfl⟩
        have d : 0 ≤ at_ → wr.cell? ⟨b, off + at_.toNat * 4, none⟩ = some (.int .i64 y.prog) ∧ wr.cell? ⟨b, off + at_.toNat * 4 + 1, none⟩ = some (.int .i64 y.live) ∧ wr.cell? ⟨b, off + at_.toNat * 4 + 2, none⟩ = some (.int .i64 y.era) ∧ wr.cell? ⟨b, off + at_.toNat * 4 + 3, none⟩ = some (.bool y.bad) := by
          intro h0
          obtain ⟨y', hy'⟩ : ∃ y, xs[at_.toNat]? = some y := ⟨xs[at_.toNat]'(by omega), List.getElem?_eq_getElem _⟩
          obtain rfl : y' = y := by rw [← hy, List.getD_eq_getElem?_getD, hy']; rfl
          obtain ⟨b', off', e0, d0, d1, d2, d3⟩ := r.block hy' E.sits
          obtain ⟨rfl, rfl⟩ : b' = b ∧ off' = off := by simpa using e0.symm
          exact ⟨d0, d1, d2, d3⟩
        have HY := hid hy
        clear hy
        have d0 : 0 ≤ at_ → (wr.alloc (.cells #[.int .i64 x.prog, .int .i64 x.live, .int .i64 x.era, .bool x.bad] 23)).cell? ⟨b, off + at_.toNat * 4, none⟩ = some (.int .i64 y.prog) ∧ (wr.alloc (.cells #[.int .i64 x.prog, .int .i64 x.live, .int .i64 x.era, .bool x.bad] 23)).cell? ⟨b, off + at_.toNat * 4 + 1, none⟩ = some (.int .i64 y.live) ∧ (wr.alloc (.cells #[.int .i64 x.prog, .int .i64 x.live, .int .i64 x.era, .bool x.bad] 23)).cell? ⟨b, off + at_.toNat * 4 + 2, none⟩ = some (.int .i64 y.era) ∧ (wr.alloc (.cells #[.int .i64 x.prog, .int .i64 x.live, .int .i64 x.era, .bool x.bad] 23)).cell? ⟨b, off + at_.toNat * 4 + 3, none⟩ = some (.bool y.bad) := by
          intro h0
          obtain ⟨u0, u1, u2, u3⟩ := d h0
          exact ⟨((Ext.refl E.sits).alloc _).keep u0, ((Ext.refl E.sits).alloc _).keep u1, ((Ext.refl E.sits).alloc _).keep u2, ((Ext.refl E.sits).alloc _).keep u3⟩
        have z0 : (wr.alloc (.cells #[.int .i64 x.prog, .int .i64 x.live, .int .i64 x.era, .bool x.bad] 23)).cell? ⟨wr.heap.size, 0, none⟩ = some (.int .i64 x.prog) := by go_simp
        have z1 : (wr.alloc (.cells #[.int .i64 x.prog, .int .i64 x.live, .int .i64 x.era, .bool x.bad] 23)).cell? ⟨wr.heap.size, 1, none⟩ = some (.int .i64 x.live) := by go_simp
        have z2 : (wr.alloc (.cells #[.int .i64 x.prog, .int .i64 x.live, .int .i64 x.era, .bool x.bad] 23)).cell? ⟨wr.heap.size, 2, none⟩ = some (.int .i64 x.era) := by go_simp
        have z3 : (wr.alloc (.cells #[.int .i64 x.prog, .int .i64 x.live, .int .i64 x.era, .bool x.bad] 23)).cell? ⟨wr.heap.size, 3, none⟩ = some (.bool x.bad) := by go_simp
        generalize hg : wr.heap.size = g at *
        generalize (wr.alloc (.cells #[.int .i64 x.prog, .int .i64 x.live, .int .i64 x.era, .bool x.bad] 23)) = W2 at *
        clear d c0 c1 c2 c3 hg
        have q0 := fun d os => cell_regrown z0 d os
        have q1 := fun d os => cell_regrown z1 d os
        have q2 := fun d os => cell_regrown z2 d os
        have q3 := fun d os => cell_regrown z3 d os
        clear z0 z1 z2 z3
        obtain ⟨t, ht⟩ : ∃ t, may k x = t := ⟨_, rfl⟩
        have HT := hid ht
        clear ht
        have HT1 : Hid (vicB pinned k x = t) := by have h1 := HT.out; rw [← HM.out] at h1; exact h1
        by_cases hneg : at_ < 0
        · have hn2 : decide (at_ < 0) = true := by simpa using hneg
          clear d0
          cases t
          all_goals
            refine wp_region_quiet_below (by kernel_rfl) (by kernel_rfl) ?_
            repeat (go_big_quiet_step (exact quietCall (pick_Victim1 pinned _ x _ HT1.out h p bm hp hmm _ (Ext.quiet E2.sits _ _).sits)))
            refine wpQuiet_nil ?_
            intro _ hw'
            obtain ⟨⟨dq, osq⟩, hw''⟩ := hw'
            subst hw''
            go_wp2
            go_meet
            exact ⟨by rw [HT.out, hn2]; rfl, E2.trans (Ext.quiet E2.sits _ _)⟩
        · have hn2 : decide (at_ < 0) = false := by simpa using hneg
          have hpos : 0 ≤ at_ := by omega
          have hlt2 : at_ < (xs.length : Int) := by omega
          obtain ⟨y0, y1, y2, y3⟩ := d0 hpos
          clear d0
          have u0 := fun d os => cell_regrown y0 d os
          have u1 := fun d os => cell_regrown y1 d os
          have u2 := fun d os => cell_regrown y2 d os
          have u3 := fun d os => cell_regrown y3 d os
          clear y0 y1 y2 y3
          obtain ⟨t2, ht2⟩ : ∃ t, bet x y = t := ⟨_, rfl⟩
          have HT2 := hid ht2
          clear ht2
          have HT3 : Hid (bestV x y = t2) := by have h1 := HT2.out; rw [← HB.out] at h1; exact h1
          cases t
          all_goals
            refine wp_region_quiet_below (by kernel_rfl) (by kernel_rfl) ?_
            repeat (go_big_quiet_step (first | exact quietCall (pick_Victim1 pinned _ x _ HT1.out h p bm hp hmm _ (Ext.quiet E2.sits _ _).sits) | exact quietCall (pick_Victim2 x y _ HT3.out h _ (Ext.quiet E2.sits _ _).sits)))
            refine wpQuiet_nil ?_
            intro _ hw'
            obtain ⟨⟨dq, osq⟩, hw''⟩ := hw'
            subst hw''
            go_wp2
            go_meet
            exact ⟨by rw [HT.out, hn2, HY.out, HT2.out]; rfl, E2.trans (Ext.quiet E2.sits _ _)⟩
      case rest =>
        obtain ⟨rfl, E3⟩ := hcut
        cases hc : (may k x && (decide (at_ < 0) || bet x (xs.getD at_.toNat default)))
        all_goals
          have HC := hid hc
          clear hc
          go_wp2
          go_roundw
          case rel => exact ⟨k + 1, by omega, by go_num, by rw [HS.out, HC.out]; rfl, E3⟩
          case measure => simp [intOf]; omega
    · obtain rfl : k = xs.length := by omega
      go_wp2
      all_goals
        go_ret2
        exact ⟨ret_ib (by (rw [HAT.out]) <;> omega) (by (rw [HAT.out]) <;> first | rfl | (simp; omega) | (simp; assumption)), E⟩

set_option maxHeartbeats 4000000 in
theorem pick_Victim (xs : List Block) (A : Option Addr) (c : Nat) (pinned : List Int) (B : Option Addr) (d : Nat) (h : FH) (w : World) (hs : Sits h w) (r : RowAt h A xs) (rp : RowAt h B pinned) :
    Calls Try.prog 7 #[.slice A xs.length c, .slice B pinned.length d] w fun e w' => e = .returned (.tuple #[.int .i64 (max (bestGo (vicB pinned) bestV xs xs.length) 0), .bool (decide (0 ≤ bestGo (vicB pinned) bestV xs xs.length))]) ∧ Ext h w h w' := by
  have hl := rp.1
  have hmm := @run_makeMap Try.prog
  have HN1 := hid (hs.none (g := w.heap.size) (Nat.le_refl _))
  have HN2 := hid (hs.none (g := w.heap.size + 1) (by omega))
  go_enter Try.func7, Try.ntmps7
  go_wp2
  go_loopw [8, 12] (fun n i wr => ∃ k : Nat, k ≤ pinned.length ∧ i = .int .i64 k ∧ Ext h w h wr ∧ Hid (wr.heap[w.heap.size + 1]? = some (.cells #[.map (some w.heap.size)] 53)) ∧ MapIs encI wr w.heap.size (pinsF (pinned.take k))) (fun _ i _ => pinned.length - (intOf i).toNat)
  case atStart =>
    refine ⟨0, Nat.zero_le _, rfl, ((Ext.refl hs).alloc _).alloc _, ?_, ?_⟩
    · have := heap_new (w.alloc (.map #[] 0)) (.cells #[.map (some w.heap.size)] 53)
      simpa [Hid] using this
    · exact ((MapIs.made encI w).congr (fun a => by simp [pinsF])).alloc _
  case round =>
    obtain ⟨k, hk, rfl, E, HB, hm⟩ := hrel
    have hcell : wr.cell? ⟨w.heap.size + 1, 0, none⟩ = some (.map (some w.heap.size)) := by rw [cell_of_row _ _ _ _ _ _ HB.out]; rfl
    by_cases hlt : k < pinned.length
    · obtain ⟨x, hx⟩ : ∃ x, pinned[k]? = some x := ⟨pinned[k], by simp [hlt]⟩
      obtain ⟨b, off, rfl, c0⟩ := rp.int hx E.sits
      have HS := hid (pinsF_snoc pinned k x hx)
      have hcnt : ((pinned.take k).count x : Int) < 9223372036854775807 := by
        have h1 : (pinned.take k).count x ≤ (pinned.take k).length := List.count_le_length
        have h2 : (pinned.take k).length ≤ k := by simp; omega
        omega
      clear hx
      obtain ⟨st, w1, hent, m1, hg1, hst⟩ := hm.drew.entry kt_pick_block Try.underlying53 zero_int x
      obtain ⟨w2, hst2, m2, hg2⟩ := hst (.int .i64 ((List.count x (pinned.take k) : Int) + 1))
      have hlook0 := hm.drew.look kt_pick_block Try.underlying53 zero_int x
      have hlook1 := m1.look kt_pick_block Try.underlying53 zero_int x
      simp only [if_true, Option.getD_some, pinsF_getD, encI] at hent hlook0 hlook1
      have HM2 := hid (m2.congr (HS.out))
      have HG2 := hid hg2
      clear m1 hg1 hst m2 hg2 hm HS
      obtain ⟨n, hn⟩ : ∃ n : Nat, n = List.count x (pinned.take k) := ⟨_, rfl⟩
      rw [← hn] at hent hlook0 hlook1 hst2 hcnt
      clear hn
      go_upto_region 5 with (fail)
      go_region
      all_goals
        go_wp2
        go_roundw
        case rel => exact ⟨k + 1, by omega, by go_num, E.drew.grown HG2.out (fun j hj => by cases hj; exact ⟨Nat.le_refl _, HN1.out⟩), by unfold Hid; rw [HG2.out.block _ (by have := (Array.getElem?_eq_some_iff.1 HB.out).1; exact this) (by simp)]; exact HB.out, HM2.out⟩
        case measure => simp [intOf]; omega
    · obtain rfl : k = pinned.length := by omega
      have hm2 : MapIs encI wr w.heap.size (pinsF pinned) := by rw [List.take_length] at hm; exact hm
      obtain ⟨h1, E1, l1, F1, o1⟩ := hm2.freeze E HN1.out (Nat.le_refl _)
      have E2 := E1.add (g := w.heap.size + 1) HB.out (by rw [o1 _ (by omega)]; exact HN2.out) (by omega)
      have hc : (h1.add (w.heap.size + 1) (.cells #[.map (some w.heap.size)] 53)).cell ⟨w.heap.size + 1, 0, none⟩ = some (.map (some w.heap.size)) := FH.add_cell _ _ _ _ _ rfl
      have hle : FLe h1 (h1.add (w.heap.size + 1) (.cells #[.map (some w.heap.size)] 53)) := FLe.add (by rw [o1 _ (by omega)]; exact HN2.out) _
      go_wp2_with (go_at_call 18; refine (best_Victim xs A c pinned _ _ _ rfl _ rfl _ hc (F1.mono hle) _ E2.sits (r.mono E2.le)).mono ?_; rintro e w1 ⟨rfl, E5⟩)
      go_ret2
      exact ⟨rfl, (E2.trans E5).back⟩

end Go.Proofs.Ytbnpccilccibkaa
