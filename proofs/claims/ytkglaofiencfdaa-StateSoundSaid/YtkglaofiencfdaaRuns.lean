import Derived.Test.YtkglaofiencfdaaCore
namespace Go.Proofs.Ytkglaofiencfdaa
open Go.RowKit Go.Sort
set_option linter.unusedVariables false
theorem ret_val3 {a b : Bool} (h : a = b) : Value.bool a = .bool b := by rw [h]

/-! ### what package runs means -/
def goesB (a b : Run) : Bool := b.from_ == wrap64 (a.from_ + a.count) && b.at_ == wrap64 (a.at_ + a.count)
def ok1 (r : Run) : Bool := decide (0 ≤ r.from_) && decide (0 ≤ r.at_) && decide (1 ≤ r.count) && decide (r.count ≤ 64) && decide (r.from_ ≤ 64 - r.count) && decide (r.at_ ≤ 2147483648 - r.count)
theorem ok1_iff (r : Run) : ok1 r = true ↔ 0 ≤ r.from_ ∧ 0 ≤ r.at_ ∧ 1 ≤ r.count ∧ r.count ≤ 64 ∧ r.from_ ≤ 64 - r.count ∧ r.at_ ≤ 2147483648 - r.count := by
  simp [ok1, and_assoc]
def okPair (p r : Run) : Bool := !(decide (r.from_ < p.from_ + p.count)) && !goesB p r
/-- The run number i is right, and fits the one ahead. -/
def okAt (xs : List Run) (i : Nat) : Bool := ok1 (xs.getD i default) && (i == 0 || okPair (xs.getD (i - 1) default) (xs.getD i default))
def rightB (xs : List Run) : Bool := (List.range xs.length).all (okAt xs)
theorem rightB_true {xs : List Run} (h : ∀ i, i < xs.length → okAt xs i = true) : rightB xs = true := by
  unfold rightB; rw [List.all_eq_true]; intro i hi; exact h i (by simpa using hi)
theorem rightB_false {xs : List Run} {i : Nat} (hi : i < xs.length) (h : okAt xs i = false) : rightB xs = false := by
  unfold rightB
  rw [List.all_eq_false]
  exact ⟨i, by simpa using hi, by simp [h]⟩
theorem rightB_at {xs : List Run} (h : rightB xs = true) {i : Nat} (hi : i < xs.length) : okAt xs i = true := by
  unfold rightB at h; rw [List.all_eq_true] at h; exact h i (by simpa using hi)
theorem getD_run {xs : List Run} {i : Nat} {x : Run} (h : xs[i]? = some x) : xs.getD i default = x := by rw [List.getD_eq_getElem?_getD, h]; rfl
theorem rightB_ok1 {xs : List Run} (h : rightB xs = true) {i : Nat} {x : Run} (hx : xs[i]? = some x) : ok1 x = true := by
  have := rightB_at h (List.getElem?_eq_some_iff.1 hx).1
  simp only [okAt, Bool.and_eq_true, getD_run hx] at this
  exact this.1

set_option maxHeartbeats 1000000 in
theorem runs_goes (x y : Run) (t : Bool) (ht : goesB x y = t) (h : FH) (w : World) (hs : Sits h w) :
    Calls Try.prog 113 #[.agg #[.int .i64 x.from_, .int .i64 x.at_, .int .i64 x.count], .agg #[.int .i64 y.from_, .int .i64 y.at_, .int .i64 y.count]] w fun e w' => e = .returned (.bool t) ∧ Ext h w h w' := by
  have E0 := Ext.refl hs
  obtain ⟨a, b, c⟩ := x
  obtain ⟨d, e, f⟩ := y
  subst ht
  by_cases h1 : d = wrap64 (a + c)
  · have h1' : (d == wrap64 (a + c)) = true := by simp [h1]
    by_cases h2 : e = wrap64 (b + c)
    · have h2' : (e == wrap64 (b + c)) = true := by simp [h2]
      have HT := hid (show goesB ⟨a, b, c⟩ ⟨d, e, f⟩ = true by simp [goesB, h1, h2])
      clear h1 h2
      go_enter Try.func113, Try.ntmps113
      go_wp2
      go_ret
      exact ⟨ret_bool HT.out.symm, (E0.alloc _).alloc _⟩
    · have h2' : (e == wrap64 (b + c)) = false := by simp [h2]
      have HT := hid (show goesB ⟨a, b, c⟩ ⟨d, e, f⟩ = false by simp [goesB, h2])
      clear h1 h2
      go_enter Try.func113, Try.ntmps113
      go_wp2
      go_ret
      exact ⟨ret_bool HT.out.symm, (E0.alloc _).alloc _⟩
  · have h1' : (d == wrap64 (a + c)) = false := by simp [h1]
    have HT := hid (show goesB ⟨a, b, c⟩ ⟨d, e, f⟩ = false by simp [goesB, h1])
    clear h1
    go_enter Try.func113, Try.ntmps113
    go_wp2
    go_ret
    exact ⟨ret_bool HT.out.symm, (E0.alloc _).alloc _⟩

set_option maxHeartbeats 4000000 in
set_option maxRecDepth 100000 in
theorem runs_Right (xs : List Run) (A : Option Addr) (c : Nat) (t : Bool) (ht : rightB xs = t) (h : FH) (w : World) (hs : Sits h w) (r : RowAt h A xs) :
    Calls Try.prog 108 #[.slice A xs.length c] w fun e w' => e = .returned (.bool t) ∧ Ext h w h w' := by
  have hl := r.1
  have HT := hid ht
  clear ht
  go_enter Try.func108, Try.ntmps108
  go_wp2
  go_loopw [3, 7] (fun s3 i wr => ∃ k : Nat, k ≤ xs.length ∧ i = .int .i64 k ∧ Hid (∀ i, i < k → okAt xs i = true) ∧ Ext h w h wr) (fun _ i _ => xs.length - (intOf i).toNat)
  case atStart => exact ⟨0, Nat.zero_le _, rfl, hid (fun i hi => by omega), Ext.refl hs⟩
  case round =>
    obtain ⟨k, hk, rfl, HN, E⟩ := hrel
    by_cases hlt : k < xs.length
    · obtain ⟨x, hx⟩ : ∃ x, xs[k]? = some x := ⟨xs[k], by simp [hlt]⟩
      obtain ⟨b, off, rfl, c0, c1, c2⟩ := r.run hx E.sits
      have HX := hid hx
      clear hx
      go_upto_region 4 with (fail)
      go_cut [45] (fun s wx => s = .bool (!ok1 x) ∧ wx = wr.alloc (.cells #[.int .i64 x.from_, .int .i64 x.at_, .int .i64 x.count] 46))
      case first =>
        as_aux_lemma =>
          go_wp2
          all_goals (go_meet; exact ⟨ret_val3 (by rw [Bool.eq_iff_iff]; simp [ok1] <;> omega), rfl⟩)
      case rest =>
        obtain ⟨rfl, rfl⟩ := hcut
        obtain ⟨q, hq⟩ : ∃ q, ok1 x = q := ⟨_, rfl⟩
        have HQ := hid hq
        rw [hq]
        clear hq
        cases q
        · have HF := hid (show rightB xs = false from rightB_false hlt (by simp only [okAt, getD_run HX.out, HQ.out]; rfl))
          go_wp2
          go_ret
          exact ⟨ret_bool (by rw [← HT.out, HF.out]), E.alloc _⟩
        · have E2 := E.alloc (.cells #[.int .i64 x.from_, .int .i64 x.at_, .int .i64 x.count] 46)
          by_cases hk0 : k = 0
          · subst hk0
            have HA := hid (show okAt xs 0 = true by simp only [okAt, getD_run HX.out, HQ.out]; rfl)
            go_upto_region 6 with (fail)
            go_cut [74] (fun s wx => s = .bool false ∧ Ext h w h wx)
            case first =>
              as_aux_lemma =>
                refine wp_region_quiet_below (by kernel_rfl) (by kernel_rfl) ?_
                repeat (go_big_quiet_step (fail))
                refine wpQuiet_nil ?_
                intro _ hw'
                obtain ⟨⟨dq, osq⟩, hw''⟩ := hw'
                subst hw''
                go_wp2
                go_meet
                exact ⟨rfl, E2.trans (Ext.quiet E2.sits _ _)⟩
            case rest =>
              obtain ⟨rfl, E3⟩ := hcut
              go_wp2
              go_roundw
              case rel => exact ⟨1, by omega, by go_num, hid (fun i hi => (show i = 0 by omega) ▸ HA.out), E3⟩
              case measure => simp [intOf]; omega
          · obtain ⟨m, rfl⟩ : ∃ m, k = m + 1 := ⟨k - 1, by omega⟩
            obtain ⟨y, hy⟩ : ∃ y, xs[m]? = some y := ⟨xs[m]'(by omega), List.getElem?_eq_getElem _⟩
            obtain ⟨b', off', e0, d0, d1, d2⟩ := r.run hy E.sits
            obtain ⟨rfl, rfl⟩ : b = b' ∧ off = off' := by simpa using e0
            have HY := hid hy
            have hoky := HN.out m (by omega)
            simp only [okAt, getD_run hy, Bool.and_eq_true] at hoky
            obtain ⟨y0, y1, y2, y3, y4, y5⟩ := (ok1_iff y).1 hoky.1
            clear hy e0 hoky
            have k0 := keep1 d0
            have k1 := keep1 d1
            have k2 := keep1 d2
            have z0 : (wr.alloc (.cells #[.int .i64 x.from_, .int .i64 x.at_, .int .i64 x.count] 46)).cell? ⟨wr.heap.size, 0, none⟩ = some (.int .i64 x.from_) := by go_simp
            have z1 : (wr.alloc (.cells #[.int .i64 x.from_, .int .i64 x.at_, .int .i64 x.count] 46)).cell? ⟨wr.heap.size, 1, none⟩ = some (.int .i64 x.at_) := by go_simp
            have z2 : (wr.alloc (.cells #[.int .i64 x.from_, .int .i64 x.at_, .int .i64 x.count] 46)).cell? ⟨wr.heap.size, 2, none⟩ = some (.int .i64 x.count) := by go_simp
            have q0 := fun d os => cell_regrown (k0 (.cells #[.int .i64 x.from_, .int .i64 x.at_, .int .i64 x.count] 46)) d os
            have q1 := fun d os => cell_regrown (k1 (.cells #[.int .i64 x.from_, .int .i64 x.at_, .int .i64 x.count] 46)) d os
            have q2 := fun d os => cell_regrown (k2 (.cells #[.int .i64 x.from_, .int .i64 x.at_, .int .i64 x.count] 46)) d os
            have u0 := fun d os => cell_regrown z0 d os
            have u1 := fun d os => cell_regrown z1 d os
            have u2 := fun d os => cell_regrown z2 d os
            clear k0 k1 k2 z0 z1 z2 c0 c1 c2 d0 d1 d2
            have HA : Hid (okAt xs (m + 1) = okPair y x) := by
              simp only [Hid, okAt, getD_run HX.out, HQ.out, Nat.add_sub_cancel, getD_run HY.out, Bool.true_and]
              simp
            generalize hW : (wr.alloc (.cells #[.int .i64 x.from_, .int .i64 x.at_, .int .i64 x.count] 46)) = W2 at *
            generalize hg : wr.heap.size = g at *
            clear hW hg
            go_upto_region 6 with (fail)
            go_cut [74] (fun s wx => s = .bool (!okPair y x) ∧ Ext h w h wx)
            case first =>
              as_aux_lemma =>
                have i1 : (0 : Int) ≤ (m : Int) := by omega
                have i2 : (m : Int) < (xs.length : Int) := by omega
                by_cases hp : x.from_ < y.from_ + y.count
                · have hp' : decide (x.from_ < y.from_ + y.count) = true := by simpa using hp
                  refine wp_region_quiet_below (by kernel_rfl) (by kernel_rfl) ?_
                  repeat (go_big_quiet_step (fail))
                  refine wpQuiet_nil ?_
                  intro _ hw'
                  obtain ⟨⟨dq, osq⟩, hw''⟩ := hw'
                  subst hw''
                  go_wp2
                  go_meet
                  exact ⟨ret_val3 (by simp only [okPair, hp']; rfl), E2.trans (Ext.quiet E2.sits _ _)⟩
                · have hp' : decide (x.from_ < y.from_ + y.count) = false := by simpa using hp
                  obtain ⟨q, hq⟩ : ∃ q, goesB y x = q := ⟨_, rfl⟩
                  have HG := hid hq
                  clear hq
                  refine wp_region_quiet_below (by kernel_rfl) (by kernel_rfl) ?_
                  repeat (go_big_quiet_step (exact quietCall (runs_goes y x _ HG.out h _ (Ext.quiet E2.sits _ _).sits)))
                  refine wpQuiet_nil ?_
                  intro _ hw'
                  obtain ⟨⟨dq, osq⟩, hw''⟩ := hw'
                  subst hw''
                  go_wp2
                  go_meet
                  exact ⟨ret_val3 (by simp only [okPair, hp', HG.out]; cases q <;> rfl), E2.trans (Ext.quiet E2.sits _ _)⟩
            case rest =>
              obtain ⟨rfl, E3⟩ := hcut
              obtain ⟨q, hq⟩ : ∃ q, okPair y x = q := ⟨_, rfl⟩
              have HG := hid hq
              rw [hq]
              clear hq
              cases q
              · have HF := hid (show rightB xs = false from rightB_false hlt (by rw [HA.out, HG.out]))
                go_wp2
                go_ret
                exact ⟨ret_bool (by rw [← HT.out, HF.out]), E3⟩
              · go_wp2
                go_roundw
                case rel =>
                  refine ⟨m + 1 + 1, by omega, by go_num, hid (fun i hi => ?_), E3⟩
                  by_cases him : i = m + 1
                  · rw [him, HA.out, HG.out]
                  · exact HN.out i (by omega)
                case measure => simp [intOf]; omega
    · have hR : rightB xs = true := rightB_true (fun i hi => HN.out i (by omega))
      have HR := hid hR
      clear hR
      go_wp2
      go_ret
      exact ⟨ret_bool (by rw [← HT.out, HR.out]), E⟩
end Go.Proofs.Ytkglaofiencfdaa
