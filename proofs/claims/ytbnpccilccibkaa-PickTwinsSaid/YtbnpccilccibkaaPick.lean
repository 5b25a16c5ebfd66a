import Derived.Test.YtbnpccilccibkaaData
namespace Go.Proofs.Ytbnpccilccibkaa
open Go.RowKit Go.Sort
set_option linter.unusedVariables false

/-! ### what package pick means -/
def freeB (x : Block) : Bool := !x.bad && x.prog == 0
/-- The place of the best among the first so many; -1: none. -/
def bestGo (may : Int → Block → Bool) (bet : Block → Block → Bool) (xs : List Block) : Nat → Int
  | 0 => -1
  | k + 1 => let at_ := bestGo may bet xs k
    if may k (xs.getD k default) && (decide (at_ < 0) || bet (xs.getD k default) (xs.getD at_.toNat default)) then k else at_
theorem bestGo_bd (may : Int → Block → Bool) (bet : Block → Block → Bool) (xs : List Block) (k : Nat) : -1 ≤ bestGo may bet xs k ∧ bestGo may bet xs k < k := by
  induction k with
  | zero => simp [bestGo]
  | succ k ih => simp only [bestGo]; split <;> omega
def younger (a b : Block) : Bool := decide (a.era < b.era)
def bestV (a b : Block) : Bool := decide (a.live < b.live) || (a.live == b.live && younger a b)
def partB (pages but : Int) (i : Int) (x : Block) : Bool := !x.bad && decide (1 ≤ x.prog) && decide (x.prog < pages) && i != but
def vicB (pinned : List Int) (i : Int) (x : Block) : Bool := !x.bad && decide (x.live < x.prog) && !(pinned.contains i)

/-! ### the small ones -/
set_option maxHeartbeats 400000 in
theorem pick_free (x : Block) (t : Bool) (ht : freeB x = t) (h : FH) (w : World) (hs : Sits h w) :
    Calls Try.prog 20 #[.agg #[.int .i64 x.prog, .int .i64 x.live, .int .i64 x.era, .bool x.bad]] w fun e w' => e = .returned (.bool t) ∧ Ext h w h w' := by
  have E0 := Ext.refl hs
  obtain ⟨a, b, c, d⟩ := x
  subst ht
  cases d
  all_goals
    go_enter Try.func20, Try.ntmps20
    go_wp2
    go_ret
    exact ⟨rfl, E0.alloc _⟩
set_option maxHeartbeats 400000 in
theorem pick_younger (x y : Block) (t : Bool) (ht : younger x y = t) (h : FH) (w : World) (hs : Sits h w) :
    Calls Try.prog 21 #[.agg #[.int .i64 x.prog, .int .i64 x.live, .int .i64 x.era, .bool x.bad], .agg #[.int .i64 y.prog, .int .i64 y.live, .int .i64 y.era, .bool y.bad]] w fun e w' => e = .returned (.bool t) ∧ Ext h w h w' := by
  have E0 := Ext.refl hs
  subst ht
  go_enter Try.func21, Try.ntmps21
  go_wp2
  go_ret
  exact ⟨rfl, (E0.alloc _).alloc _⟩
set_option maxHeartbeats 400000 in
theorem pick_Fresh1 (i : Int) (x : Block) (t : Bool) (ht : freeB x = t) (h : FH) (w : World) (hs : Sits h w) :
    Calls Try.prog 19 #[.int .i64 i, .agg #[.int .i64 x.prog, .int .i64 x.live, .int .i64 x.era, .bool x.bad]] w fun e w' => e = .returned (.bool t) ∧ Ext h w h w' := by
  have E0 := Ext.refl hs
  go_enter Try.func19, Try.ntmps19
  go_wp2_with (go_at_call 20; refine (pick_free x t ht h _ (E0.alloc _).sits).mono ?_; rintro e w1 ⟨rfl, E1⟩)
  go_ret
  exact ⟨rfl, (E0.alloc _).trans E1⟩
set_option maxHeartbeats 800000 in
theorem pick_Victim2 (x y : Block) (t : Bool) (ht : bestV x y = t) (h : FH) (w : World) (hs : Sits h w) :
    Calls Try.prog 23 #[.agg #[.int .i64 x.prog, .int .i64 x.live, .int .i64 x.era, .bool x.bad], .agg #[.int .i64 y.prog, .int .i64 y.live, .int .i64 y.era, .bool y.bad]] w fun e w' => e = .returned (.bool t) ∧ Ext h w h w' := by
  have E0 := Ext.refl hs
  subst ht
  by_cases h1 : x.live < y.live
  · go_enter Try.func23, Try.ntmps23
    go_wp2
    go_ret
    exact ⟨by simp [bestV, h1], (E0.alloc _).alloc _⟩
  · by_cases h2 : x.live = y.live
    · have h2' : (x.live == y.live) = true := by simp [h2]
      have H2 := hid h2
      clear h2
      go_enter Try.func23, Try.ntmps23
      go_wp2_with (go_at_call 21; refine (pick_younger x y _ rfl h _ ((E0.alloc _).alloc _).sits).mono ?_; rintro e w1 ⟨rfl, E1⟩)
      go_ret
      exact ⟨by simp [bestV, H2.out], ((E0.alloc _).alloc _).trans E1⟩
    · have h2' : (x.live == y.live) = false := by simp [h2]
      go_enter Try.func23, Try.ntmps23
      go_wp2
      go_ret
      exact ⟨by simp [bestV, h1, h2], (E0.alloc _).alloc _⟩


set_option maxHeartbeats 4000000 in
theorem best_Fresh (xs : List Block) (A : Option Addr) (c : Nat)  (may : Int → Block → Bool) (hm : (fun _ => freeB) = may) (bet : Block → Block → Bool) (hb : younger = bet) (h : FH) (w : World) (hs : Sits h w) (r : RowAt h A xs) :
    Calls Try.prog 18 #[.slice A xs.length c, .func (.func 19) #[] #[], .func (.func 21) #[] #[]] w fun e w' => e = .returned (.tuple #[.int .i64 (max (bestGo may bet xs xs.length) 0), .bool (decide (0 ≤ bestGo may bet xs xs.length))]) ∧ Ext h w h w' := by
  have hl := r.1
  have HM := hid hm
  have HB := hid hb
  clear hm hb
  go_enter Try.func18, Try.ntmps18
  go_wp2
  go_loopw [8, 13] (fun n i wr => ∃ k : Nat, k ≤ xs.length ∧ i = .int .i64 k ∧ n = .int .i64 (bestGo may bet xs k) ∧ Ext h w h wr) (fun _ i _ => xs.length - (intOf i).toNat)
  case atStart => exact ⟨0, Nat.zero_le _, rfl, rfl, Ext.refl hs⟩
  case round =>
    obtain ⟨k, hk, rfl, rfl, E⟩ := hrel
    have hbd := bestGo_bd may bet xs k
    generalize hat : bestGo may bet xs k = at_ at *
    have HAT := hid hat
    clear hat
    by_cases hlt : k < xs.length
    · obtain ⟨x, hx⟩ : ∃ x, xs[k]? = some x := ⟨xs[k], by simp [hlt]⟩
      obtain ⟨b, off, rfl, c0, c1, c2, c3⟩ := r.block hx E.sits
      have HX := hid hx
      clear hx
      have hgd : xs.getD k default = x := by rw [List.getD_eq_getElem?_getD, HX.out]; rfl
      have hstep : bestGo may bet xs (k + 1) = if may k x && (decide (at_ < 0) || bet x (xs.getD at_.toNat default)) then (k : Int) else at_ := by
        simp only [bestGo, hgd, HAT.out]
      have HS := hid hstep
      clear hgd hstep
      go_upto_region 5 with (fail)
      go_cut [34] (fun s wx => s = .bool (may k x && (decide (at_ < 0) || bet x (xs.getD at_.toNat default))) ∧ Ext h w h wx)
      case first =>
        have E2 := E.alloc (.cells #[.int .i64 x.prog, .int .i64 x.live, .int .i64 x.era, .bool x.bad] 23)
        obtain ⟨y, hy⟩ : ∃ y : Block, xs.getD at_.toNat default = y := ⟨_, rfl⟩
        have d : 0 ≤ at_ → wr.cell? ⟨b, off + at_.toNat * 4, none⟩ = some (.int .i64 y.prog) ∧ wr.cell? ⟨b, off + at_.toNat * 4 + 1, none⟩ = some (.int .i64 y.live) ∧ wr.cell? ⟨b, off + at_.toNat * 4 + 2, none⟩ = some (.int .i64 y.era) ∧ wr.cell? ⟨b, off + at_.toNat * 4 + 3, none⟩ = some (.bool y.bad) := by
          intro h0
          obtain ⟨y', hy'⟩ : ∃ y, xs[at_.toNat]? = some y := ⟨xs[at_.toNat]'(by omega), List.getElem?_eq_getElem _⟩
          obtain rfl : y' = y := by rw [← hy, List.getD_eq_getElem?_getD, hy']; rfl
          obtain ⟨b', off', e0, d0, d1, d2, d3⟩ := r.block hy' E.sits
          obtain ⟨rfl, rfl⟩ : b' = b ∧ off' = off := by simpa using e0.symm
          exact ⟨d0, d1, d2, d3⟩
        have HY := hid hy
        clear hy
        have d0 : 0 ≤ at_ → (wr.alloc (.cells #[.int .i64 x.prog, .int .i64 x.live, .int .i64 x.era, .bool x.bad] 23)).cell? ⟨b, off + at_.toNat * 4, none⟩ = some (.int .i64 y.prog) ∧ (wr.alloc (.cells #[.int .i64 x.prog, .int .i64 x.live, .int .i64 x.era, .bool x.bad] 23)).cell? ⟨b, off + at_.toNat * 4 + 1, none⟩ = some (.int .i64 y.live) ∧ (wr.alloc (.cells #[.int .i64 x.prog, .int .i64 x.live, .int .i64 x.era, .bool x.bad] 23)).cell? ⟨b, off + at_.toNat * 4 + 2, none⟩ = some (.int .i64 y.era) ∧ (wr.alloc (.cells #[.int .i64 x.prog, .int .i64 x.live, .int .i64 x.era, .bool x.bad] 23)).cell? ⟨b, off + at_.toNat * 4 + 3, none⟩ = some (.bool y.bad) := by
          intro h0
          obtain ⟨u0, u1, u2, u3⟩ := d h0
          exact ⟨((Ext.refl E.sits).alloc _).keep u0, ((Ext.refl E.sits).alloc _).keep u1, ((Ext.refl E.sits).alloc _).keep u2, ((Ext.refl E.sits).alloc _).keep u3⟩
        have z0 : (wr.alloc (.cells #[.int .i64 x.prog, .int .i64 x.live, .int .i64 x.era, .bool x.bad] 23)).cell? ⟨wr.heap.size, 0, none⟩ = some (.int .i64 x.prog) := by go_simp
        have z1 : (wr.alloc (.cells #[.int .i64 x.prog, .int .i64 x.live, .int .i64 x.era, .bool x.bad] 23)).cell? ⟨wr.heap.size, 1, none⟩ = some (.int .i64 x.live) := by go_simp
        have z2 : (wr.alloc (.cells #[.int .i64 x.prog, .int .i64 x.live, .int .i64 x.era, .bool x.bad] 23)).cell? ⟨wr.heap.size, 2, none⟩ = some (.int .i64 x.era) := by go_simp
        have z3 : (wr.alloc (.cells #[.int .i64 x.prog, .int .i64 x.live, .int .i64 x.era, .bool x.bad] 23)).cell? ⟨wr.heap.size, 3, none⟩ = some (.bool x.bad) := by go_simp
        generalize hg : wr.heap.size = g at *
        generalize (wr.alloc (.cells #[.int .i64 x.prog, .int .i64 x.live, .int .i64 x.era, .bool x.bad] 23)) = W2 at *
        clear d c0 c1 c2 c3 hg
        have q0 := fun d os => cell_regrown z0 d os
        have q1 := fun d os => cell_regrown z1 d os
        have q2 := fun d os => cell_regrown z2 d os
        have q3 := fun d os => cell_regrown z3 d os
        clear z0 z1 z2 z3
        obtain ⟨t, ht⟩ : ∃ t, may k x = t := ⟨_, rfl⟩
        have HT := hid ht
        clear ht
        have HT1 : Hid (freeB x = t) := by have h1 := HT.out; rw [← HM.out] at h1; exact h1
        by_cases hneg : at_ < 0
        · have hn2 : decide (at_ < 0) = true := by simpa using hneg
          clear d0
          cases t
          all_goals
            refine wp_region_quiet_below (by kernel_rfl) (by kernel_rfl) ?_
            repeat (go_big_quiet_step (exact quietCall (pick_Fresh1 _ x _ HT1.out h _ (Ext.quiet E2.sits _ _).sits)))
            refine wpQuiet_nil ?_
            intro _ hw'
            obtain ⟨⟨dq, osq⟩, hw''⟩ := hw'
            subst hw''
            go_wp2
            go_meet
            exact ⟨by rw [HT.out, hn2]; rfl, E2.trans (Ext.quiet E2.sits _ _)⟩
        · have hn2 : decide (at_ < 0) = false := by simpa using hneg
          have hpos : 0 ≤ at_ := by omega
          have hlt2 : at_ < (xs.length : Int) := by omega
          obtain ⟨y0, y1, y2, y3⟩ := d0 hpos
          clear d0
          have u0 := fun d os => cell_regrown y0 d os
          have u1 := fun d os => cell_regrown y1 d os
          have u2 := fun d os => cell_regrown y2 d os
          have u3 := fun d os => cell_regrown y3 d os
          clear y0 y1 y2 y3
          obtain ⟨t2, ht2⟩ : ∃ t, bet x y = t := ⟨_, rfl⟩
          have HT2 := hid ht2
          clear ht2
          have HT3 : Hid (younger x y = t2) := by have h1 := HT2.out; rw [← HB.out] at h1; exact h1
          cases t
          all_goals
            refine wp_region_quiet_below (by kernel_rfl) (by kernel_rfl) ?_
            repeat (go_big_quiet_step (first | exact quietCall (pick_Fresh1 _ x _ HT1.out h _ (Ext.quiet E2.sits _ _).sits) | exact quietCall (pick_younger x y _ HT3.out h _ (Ext.quiet E2.sits _ _).sits)))
            refine wpQuiet_nil ?_
            intro _ hw'
            obtain ⟨⟨dq, osq⟩, hw''⟩ := hw'
            subst hw''
            go_wp2
            go_meet
            exact ⟨by rw [HT.out, hn2, HY.out, HT2.out]; rfl, E2.trans (Ext.quiet E2.sits _ _)⟩
      case rest =>
        obtain ⟨rfl, E3⟩ := hcut
        cases hc : (may k x && (decide (at_ < 0) || bet x (xs.getD at_.toNat default)))
        all_goals
          have HC := hid hc
          clear hc
          go_wp2
          go_roundw
          case rel => exact ⟨k + 1, by omega, by go_num, by rw [HS.out, HC.out]; rfl, E3⟩
          case measure => simp [intOf]; omega
    · obtain rfl : k = xs.length := by omega
      go_wp2
      all_goals
        go_ret2
        exact ⟨ret_ib (by (rw [HAT.out]) <;> omega) (by (rw [HAT.out]) <;> first | rfl | (simp; omega) | (simp; assumption)), E⟩

set_option maxHeartbeats 400000 in
theorem pick_Fresh (xs : List Block) (A : Option Addr) (c : Nat) (h : FH) (w : World) (hs : Sits h w) (r : RowAt h A xs) :
    Calls Try.prog 6 #[.slice A xs.length c] w fun e w' => e = .returned (.tuple #[.int .i64 (max (bestGo (fun _ => freeB) younger xs xs.length) 0), .bool (decide (0 ≤ bestGo (fun _ => freeB) younger xs xs.length))]) ∧ Ext h w h w' := by
  go_enter Try.func6, Try.ntmps6
  go_wp2_with (go_at_call 18; refine (best_Fresh xs A c _ rfl _ rfl h _ hs r).mono ?_; rintro e w1 ⟨rfl, E1⟩)
  go_ret2
  exact ⟨rfl, E1⟩

end Go.Proofs.Ytbnpccilccibkaa
