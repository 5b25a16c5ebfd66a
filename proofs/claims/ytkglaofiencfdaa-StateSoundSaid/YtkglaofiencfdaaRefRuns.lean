import Derived.Test.YtkglaofiencfdaaRunsAll
import Derived.Test.YtkglaofiencfdaaCore
namespace Go.Proofs.Ytkglaofiencfdaa
open Go.RowKit Go.Sort
set_option linter.unusedVariables false
set_option maxHeartbeats 4000000 in
set_option maxRecDepth 100000 in
theorem ref_RightRuns (xs : List Run) (A : Option Addr) (c : Nat) (t : Bool) (ht : rightB xs = t) (h : FH) (w : World) (hs : Sits h w) (r : RowAt h A xs) :
    Calls Try.prog 59 #[.slice A xs.length c] w fun e w' => e = .returned (.bool t) ∧ Ext h w h w' := by
  have hl := r.1
  have HT := hid ht
  clear ht
  go_enter Try.func59, Try.ntmps59
  go_wp2_with fail
  go_loopw [3] (fun i wr => ∃ k : Nat, k ≤ xs.length ∧ i = .int .i64 k ∧ Hid (∀ i, i < k → okAt xs i = true) ∧ Ext h w h wr) (fun i _ => xs.length - (intOf i).toNat)
  case atStart => exact ⟨0, Nat.zero_le _, rfl, hid (fun i hi => by omega), Ext.refl hs⟩
  case round =>
    obtain ⟨k, hk, rfl, HN, E⟩ := hrel
    by_cases hlt : k < xs.length
    · obtain ⟨x, hx⟩ : ∃ x, xs[k]? = some x := ⟨xs[k], by simp [hlt]⟩
      obtain ⟨b, off, rfl, c0, c1, c2⟩ := r.run hx E.sits
      have HX := hid hx
      clear hx
      go_upto_region 5 with (fail)
      go_cut [49] (fun s wx => s = .bool (!ok1 x) ∧ wx = wr.alloc (.cells #[.int .i64 x.from_, .int .i64 x.at_, .int .i64 x.count] 46))
      case first =>
        as_aux_lemma =>
          go_wp2
          all_goals (go_meet; exact ⟨ret_val3 (by rw [Bool.eq_iff_iff]; simp [ok1] <;> omega), rfl⟩)
      case rest =>
        obtain ⟨rfl, rfl⟩ := hcut
        obtain ⟨q, hq⟩ : ∃ q, ok1 x = q := ⟨_, rfl⟩
        have HQ := hid hq
        rw [hq]
        clear hq
        cases q
        · have HF := hid (show rightB xs = false from rightB_false hlt (by simp only [okAt, getD_run HX.out, HQ.out]; rfl))
          go_wp2
          go_ret
          exact ⟨ret_bool (by rw [← HT.out, HF.out]), E.alloc _⟩
        · have E2 := E.alloc (.cells #[.int .i64 x.from_, .int .i64 x.at_, .int .i64 x.count] 46)
          by_cases hk0 : k = 0
          · subst hk0
            have HA := hid (show okAt xs 0 = true by simp only [okAt, getD_run HX.out, HQ.out]; rfl)
            go_wp2
            go_roundw
            case rel => exact ⟨1, by omega, by go_num, hid (fun i hi => (show i = 0 by omega) ▸ HA.out), E2⟩
            case measure => simp [intOf]; omega
          · obtain ⟨m, rfl⟩ : ∃ m, k = m + 1 := ⟨k - 1, by omega⟩
            obtain ⟨y, hy⟩ : ∃ y, xs[m]? = some y := ⟨xs[m]'(by omega), List.getElem?_eq_getElem _⟩
            obtain ⟨b', off', e0, d0, d1, d2⟩ := r.run hy E.sits
            obtain ⟨rfl, rfl⟩ : b = b' ∧ off = off' := by simpa using e0
            have HY := hid hy
            have hoky := HN.out m (by omega)
            simp only [okAt, getD_run hy, Bool.and_eq_true] at hoky
            obtain ⟨y0, y1, y2, y3, y4, y5⟩ := (ok1_iff y).1 hoky.1
            obtain ⟨x0, x1, x2, x3, x4, x5⟩ := (ok1_iff x).1 HQ.out
            clear hy e0 hoky
            have k0 := keep1 d0 (.cells #[.int .i64 x.from_, .int .i64 x.at_, .int .i64 x.count] 46)
            have k1 := keep1 d1 (.cells #[.int .i64 x.from_, .int .i64 x.at_, .int .i64 x.count] 46)
            have k2 := keep1 d2 (.cells #[.int .i64 x.from_, .int .i64 x.at_, .int .i64 x.count] 46)
            have HA : Hid (okAt xs (m + 1) = okPair y x) := by
              simp only [Hid, okAt, getD_run HX.out, HQ.out, Nat.add_sub_cancel, getD_run HY.out, Bool.true_and]
              simp
            have z0 : (wr.alloc (.cells #[.int .i64 x.from_, .int .i64 x.at_, .int .i64 x.count] 46)).cell? ⟨wr.heap.size, 0, none⟩ = some (.int .i64 x.from_) := by go_simp
            have z1 : (wr.alloc (.cells #[.int .i64 x.from_, .int .i64 x.at_, .int .i64 x.count] 46)).cell? ⟨wr.heap.size, 1, none⟩ = some (.int .i64 x.at_) := by go_simp
            have z2 : (wr.alloc (.cells #[.int .i64 x.from_, .int .i64 x.at_, .int .i64 x.count] 46)).cell? ⟨wr.heap.size, 2, none⟩ = some (.int .i64 x.count) := by go_simp
            have hgl : wr.heap.size < (wr.alloc (.cells #[.int .i64 x.from_, .int .i64 x.at_, .int .i64 x.count] 46)).heap.size := by simp
            go_upto_region 8 with (fail)
            generalize (wr.alloc (.cells #[.int .i64 x.from_, .int .i64 x.at_, .int .i64 x.count] 46)) = W2 at *
            generalize wr.heap.size = gg at *
            clear c0 c1 c2 d0 d1 d2
            go_upto_region 9 with (fail)
            go_cut [84] (fun s wx => s = .bool (!okPair y x) ∧ Ext h w h wx)
            case first =>
              as_aux_lemma =>
                have hp : okPair y x = (!decide (x.from_ < y.from_ + y.count) && !(x.from_ == y.from_ + y.count && x.at_ == y.at_ + y.count)) := by
                  unfold okPair goesB
                  rw [show wrap64 (y.from_ + y.count) = y.from_ + y.count by unfold wrap64; omega, show wrap64 (y.at_ + y.count) = y.at_ + y.count by unfold wrap64; omega]
                have HP := hid hp
                clear hp
                go_wp2
                all_goals (go_meet; exact ⟨ret_val3 (by rw [HP.out, Bool.eq_iff_iff]; simp <;> omega), (E2.alloc _)⟩)
            case rest =>
              obtain ⟨rfl, E3⟩ := hcut
              obtain ⟨q, hq⟩ : ∃ q, okPair y x = q := ⟨_, rfl⟩
              have HG := hid hq
              rw [hq]
              clear hq
              cases q
              · have HF := hid (show rightB xs = false from rightB_false hlt (by rw [HA.out, HG.out]))
                go_wp2
                go_ret
                exact ⟨ret_bool (by rw [← HT.out, HF.out]), E3⟩
              · go_wp2
                go_roundw
                case rel =>
                  refine ⟨m + 1 + 1, by omega, by go_num, hid (fun i hi => ?_), E3⟩
                  by_cases him : i = m + 1
                  · rw [him, HA.out, HG.out]
                  · exact HN.out i (by omega)
                case measure => simp [intOf]; omega
    · have hR : rightB xs = true := rightB_true (fun i hi => HN.out i (by omega))
      have HR := hid hR
      clear hR
      go_wp2
      go_ret
      exact ⟨ret_bool (by rw [← HT.out, HR.out]), E⟩
theorem getB_at {xs : List Run} (hR : rightB xs = true) {q : Int} (q0 : 0 ≤ q) (q1 : q < 64) {k : Nat} {x : Run} (hx : xs[k]? = some x) (hn : ∀ i y, i < k → xs[i]? = some y → getHit q y = false) (hi : x.from_ ≤ q ∧ q < x.from_ + x.count) : getB xs q = some (x.at_ + q - x.from_) := by
  have hok := rightB_ok1 hR hx
  obtain ⟨x0, x1, x2, x3, x4, x5⟩ := (ok1_iff x).1 hok
  unfold getB
  rw [find_none_take hn hx ((getHit_iff hok q0 q1).2 hi)]
  simp only [Option.map_some]
  rw [wrap64_in (n := q - x.from_) (by omega) (by omega), wrap64_in (by omega) (by omega)]
  congr 1
  omega
set_option maxHeartbeats 4000000 in
set_option maxRecDepth 100000 in
theorem ref_GetRun (xs : List Run) (A : Option Addr) (c : Nat) (index : Int) (q0 : 0 ≤ index) (q1 : index < 64) (hR : rightB xs = true) (v : Option Int) (hv : getB xs index = v) (h : FH) (w : World) (hs : Sits h w) (r : RowAt h A xs) :
    Calls Try.prog 98 #[.slice A xs.length c, .int .i64 index] w fun e w' => e = .returned (.tuple #[.int .i64 (v.getD 0), .bool v.isSome]) ∧ Ext h w h w' := by
  have hl := r.1
  have HV := hid hv
  have HR := hid hR
  clear hv hR
  go_enter Try.func98, Try.ntmps98
  go_wp2_with fail
  go_loopw [6] (fun i wr => ∃ k : Nat, k ≤ xs.length ∧ i = .int .i64 k ∧ Hid (∀ i y, i < k → xs[i]? = some y → getHit index y = false) ∧ Ext h w h wr) (fun i _ => xs.length - (intOf i).toNat)
  case atStart => exact ⟨0, Nat.zero_le _, rfl, hid (fun i y hi => by omega), Ext.refl hs⟩
  case round =>
    obtain ⟨k, hk, rfl, HN, E⟩ := hrel
    by_cases hlt : k < xs.length
    · obtain ⟨x, hx⟩ : ∃ x, xs[k]? = some x := ⟨xs[k], by simp [hlt]⟩
      obtain ⟨b, off, rfl, c0, c1, c2⟩ := r.run hx E.sits
      have HX := hid hx
      have hok := rightB_ok1 HR.out hx
      obtain ⟨x0, x1, x2, x3, x4, x5⟩ := (ok1_iff x).1 hok
      have HIT := hid (getHit_iff hok q0 q1)
      have step : getHit index x = false → Hid (∀ i y, i < k + 1 → xs[i]? = some y → getHit index y = false) := fun hf i y hi hy => by
        by_cases hik : i = k
        · subst hik; rw [HX.out] at hy; cases hy; exact hf
        · exact HN.out i y (by omega) hy
      have STEP := hid step
      clear step hx hok
      have u0 := fun d os => cell_regrown c0 d os
      have u1 := fun d os => cell_regrown c1 d os
      have u2 := fun d os => cell_regrown c2 d os
      have i1 : (0 : Int) ≤ (k : Int) := by omega
      have i2 : (k : Int) < (xs.length : Int) := by omega
      have hc0 : decide (0 < x.count) = true := decide_eq_true (by omega)
      have hw1 : IntKind.u64.wrap x.count = x.count := by rw [IntKind.wrap_u64]; omega
      clear c0 c1 c2
      go_upto_region 4 with (fail)
      go_cut [44] (fun s wx => s = .bool (decide (x.from_ ≤ index ∧ index < x.from_ + x.count)) ∧ ∃ d os, wx = grow (redrawn wr d) os)
      case first =>
        as_aux_lemma =>
          by_cases hf : x.from_ ≤ index
          · have hf' : decide (x.from_ ≤ index) = true := by simpa using hf
            have hw2 : IntKind.u64.wrap (index - x.from_) = index - x.from_ := by rw [IntKind.wrap_u64]; omega
            have G := hid (show decide (index - x.from_ < x.count) = decide (x.from_ ≤ index ∧ index < x.from_ + x.count) from decide_eq_decide.2 (by omega))
            refine wp_region_quiet_below (by kernel_rfl) (by kernel_rfl) ?_
            repeat (go_big_quiet_step (fail))
            refine wpQuiet_nil ?_
            intro _ hw'
            obtain ⟨⟨dq, osq⟩, hw''⟩ := hw'
            subst hw''
            go_wp2
            go_meet
            exact ⟨ret_val3 G.out, dq, osq, rfl⟩
          · have hf' : decide (x.from_ ≤ index) = false := by simpa using hf
            have G := hid (show false = decide (x.from_ ≤ index ∧ index < x.from_ + x.count) by simp [hf])
            refine wp_region_quiet_below (by kernel_rfl) (by kernel_rfl) ?_
            repeat (go_big_quiet_step (fail))
            refine wpQuiet_nil ?_
            intro _ hw'
            obtain ⟨⟨dq, osq⟩, hw''⟩ := hw'
            subst hw''
            go_wp2
            go_meet
            exact ⟨ret_val3 G.out, dq, osq, rfl⟩
      case rest =>
        obtain ⟨rfl, dq, osq, rfl⟩ := hcut
        have E2 := E.trans (Ext.quiet E.sits dq osq)
        by_cases hi : x.from_ ≤ index ∧ index < x.from_ + x.count
        · rw [decide_eq_true hi]
          have G := hid (getB_at HR.out q0 q1 HX.out HN.out hi)
          obtain ⟨hi1, hi2⟩ := hi
          have z0 := u0 dq osq
          have z1 := u1 dq osq
          clear u0 u1 u2
          generalize grow (redrawn wr dq) osq = w2 at *
          have v0 := fun d os => cell_regrown z0 d os
          have v1 := fun d os => cell_regrown z1 d os
          have a1 : IntKind.i64.wrap (x.at_ + index) = x.at_ + index := by rw [IntKind.wrap_i64]; omega
          have a2 : IntKind.i64.wrap (x.at_ + index - x.from_) = x.at_ + index - x.from_ := by rw [IntKind.wrap_i64]; omega
          go_upto_region 5 with (fail)
          refine wp_region_quiet_below (by kernel_rfl) (by kernel_rfl) ?_
          repeat (go_big_quiet_step (fail))
          refine wpQuiet_nil ?_
          intro _ hw'
          obtain ⟨⟨dq, osq⟩, hw''⟩ := hw'
          subst hw''
          go_wp2
          go_ret2
          exact ⟨ret_ib' (by rw [← HV.out, G.out]; rfl) (by rw [← HV.out, G.out]; rfl), E2.trans (Ext.quiet E2.sits _ _)⟩
        · rw [decide_eq_false hi]
          have HG := hid (show getHit index x = false by
            cases hq : getHit index x with
            | false => rfl
            | true => exact absurd (HIT.out.1 hq) hi)
          go_wp2
          go_roundw
          case rel => exact ⟨k + 1, by omega, by go_num, STEP.out HG.out, E2⟩
          case measure => simp [intOf]; omega
    · have HG := hid (show getB xs index = none by unfold getB; rw [find_none_all (fun i y hi => HN.out i y (by omega))]; rfl)
      go_wp2
      go_ret2
      exact ⟨ret_ib' (by rw [← HV.out, HG.out]; rfl) (by rw [← HV.out, HG.out]; rfl), E⟩
def placesP (xs : List Run) (n : Nat) : List Int := (List.range n).map fun (j : Nat) => (getB xs (j : Int)).getD (-1)
theorem placesP_snoc (xs : List Run) (n : Nat) : placesP xs (n + 1) = placesP xs n ++ [(getB xs (n : Int)).getD (-1)] := by unfold placesP; rw [List.range_succ, List.map_append]; rfl
theorem placesP_len (xs : List Run) (n : Nat) : (placesP xs n).length = n := by simp [placesP]
theorem placesP_get (xs : List Run) {n j : Nat} (h : j < n) : (placesP xs n)[j]? = some ((getB xs (j : Int)).getD (-1)) := by simp [placesP, h]
set_option maxHeartbeats 4000000 in
set_option maxRecDepth 100000 in
theorem ref_placesOf (xs : List Run) (A : Option Addr) (c : Nat) (hR : rightB xs = true) (h : FH) (w : World) (hs : Sits h w) (r : RowAt h A xs) :
    Calls Try.prog 60 #[.slice A xs.length c] w fun e w' => RetOwn h w 3 (placesP xs 64) e w' := by
  have HN := hid (hs.none (g := w.heap.size) (Nat.le_refl _))
  have HR := hid hR
  obtain ⟨i, hi, hz0, hz1, hz2⟩ := info_parts (P := Try.prog) (e := 3) (z := .int .i64 0) (size := Enc.sz Int) (bytes := 8) (by kernel_rfl)
  have HI := hid hi
  clear hi hR
  go_enter Try.func60, Try.ntmps60
  go_wp2_with (at_make; refine wpList_make_full _ rfl _ _ 29 rfl w.heap.size 3 i _ _ Try.underlying29 HI.out hz0 hz1 _ _ _ _ 64 rfl rfl rfl rfl (by rw [hz2]; omega) (by unfold maxLen; omega) (Nat.le_refl _) ?_)
  intro w1 O1 hg1
  have E1 := (Ext.refl hs).grown hg1 (fun k hk => by cases hk)
  have O2 : OwnL h w1 w.heap.size 3 (.slice (some ⟨w.heap.size, 0, none⟩) 0 64) ([] : List Int) := ⟨⟨[], own_zero' O1, rfl⟩, fun g hg => by simp [Value.ownBlock] at hg; subst hg; exact HN.out⟩
  clear O1 hg1
  go_wp2_with fail
  go_loopw [4] (fun i wr => ∃ k : Nat, k ≤ 64 ∧ i = .int .i64 k ∧ OwnL h wr w.heap.size 3 (.slice (some ⟨w.heap.size, 0, none⟩) k 64) (placesP xs k) ∧ Ext h w h wr) (fun i _ => 64 - (intOf i).toNat)
  case atStart => exact ⟨0, Nat.zero_le _, rfl, O2, E1⟩
  case round =>
    obtain ⟨k, hk, rfl, O, E⟩ := hrel
    by_cases hlt : k < 64
    · have HS := hid (placesP_snoc xs k)
      have hlen := placesP_len xs k
      obtain ⟨v, hv⟩ : ∃ v, getB xs (k : Int) = v := ⟨_, rfl⟩
      have KG := hid (ref_GetRun xs A c k (by omega) (by omega) HR.out v hv h wr E.sits r)
      rw [hv] at HS
      clear hv
      go_wp2_with fail
      refine KG.out.mono ?_
      rintro e w2 ⟨rfl, E2⟩
      have O3 := O.ext E2
      have E3 := E.trans E2
      clear O E2 KG E
      have P := O3.push (y := v.getD 0) (cs := [.int .i64 (v.getD 0)]) rfl (by omega)
      rw [hlen] at P
      obtain ⟨O4, T4⟩ := P
      have E4 := Ext.setCells (Nat.le_refl _) HN.out [.int .i64 (v.getD 0)] (k * Enc.sz Int) _ E3
      rw [show k * Enc.sz Int = k from Nat.mul_one k] at O4 T4 E4
      obtain ⟨u, hu⟩ := Option.isSome_iff_exists.1 (T4 0 Enc.pos).1
      have hf := (T4 0 Enc.pos).2
      rw [Nat.add_zero] at hu hf
      cases v with
      | some a =>
        simp only [Option.getD_some] at HS O4
        rw [← HS.out] at O4
        have O5 := hid O4
        clear hlen O4
        go_wp2_with fail
        go_roundw
        case rel => exact ⟨k + 1, by omega, by go_num, O5.out, E4⟩
        case measure => simp [intOf]; omega
      | none =>
        simp only [Option.getD_none] at HS O4
        have hx : (placesP xs k ++ [(0 : Int)])[k]? = some 0 := by
          rw [List.getElem?_append_right (by omega), hlen, Nat.sub_self]; rfl
        have O6 := put_int O4 hx (-1)
        obtain ⟨_, f6, _, _⟩ := cell_int O4 hx
        have E6 := E4.setCell (p := ⟨w.heap.size, k, none⟩) (Nat.le_refl _) HN.out (.int .i64 (-1))
        rw [show (placesP xs k ++ [(0 : Int)]).set k (-1) = placesP xs k ++ [-1] by rw [List.set_append_right _ _ (by omega), hlen, Nat.sub_self]; rfl, ← HS.out] at O6
        have O5 := hid O6
        clear hlen O4 O6 hx E4
        go_wp2_with fail
        go_roundw
        case rel => exact ⟨k + 1, by omega, by go_num, O5.out, E6⟩
        case measure => simp [intOf]; omega
    · obtain rfl : k = 64 := by omega
      go_wp2_with fail
      go_ret
      exact ⟨_, rfl, O, E⟩
theorem Reps.int_any {h h' : FH} : ∀ {cells : List Value} {xs : List Int}, Reps h cells xs → Reps h' cells xs
  | _, [], r => r
  | _, _ :: _, ⟨cs, rest, e, r, t⟩ => ⟨cs, rest, e, r, t.int_any⟩
theorem OwnL.back_int {h h2 : FH} {w : World} {base : Nat} {e : TypeId} {v : Value} {xs : List Int} (o : OwnL h2 w base e v xs) (l : FLe h h2) : OwnL h w base e v xs := by
  obtain ⟨c, a, b⟩ := o.own
  refine ⟨⟨c, a, b.int_any⟩, fun g hg => ?_⟩
  cases e : h g with
  | none => rfl
  | some x => have := l _ _ e; rw [o.free g hg] at this; cases this
def refPages (xs : List Run) : List Int := if rightB xs then (placesP xs 64).filter (fun p => decide (0 ≤ p)) else []
theorem refPages_len (xs : List Run) : (refPages xs).length = (pagesR xs).length := by
  unfold refPages
  cases hR : rightB xs with
  | false => unfold pagesR; rw [hR]; rfl
  | true =>
    rw [(right_told hR).2, if_pos rfl]
    have : ∀ k : Nat, k ≤ 64 → ((placesP xs k).filter (fun p => decide (0 ≤ p))).length = cntG (getB xs) k := by
      intro k
      induction k with
      | zero => intro _; rfl
      | succ k ih =>
        intro hk
        rw [placesP_snoc, List.filter_append, List.length_append, ih (by omega)]
        show _ = cntG (getB xs) k + if (getB xs k).isSome then 1 else 0
        cases hv : getB xs (k : Int) with
        | none => rfl
        | some v =>
          have := (getB_bound xs (by omega) (by omega) hR hv).1
          simp [this]
    exact this 64 (Nat.le_refl _)
set_option maxHeartbeats 4000000 in
set_option maxRecDepth 100000 in
theorem ref_PagesOf (xs : List Run) (A : Option Addr) (c : Nat) (h : FH) (w : World) (hs : Sits h w) (r : RowAt h A xs) :
    Calls Try.prog 86 #[.slice A xs.length c] w fun e w' => RetOwn h w 3 (refPages xs) e w' := by
  obtain ⟨t, ht⟩ : ∃ t, rightB xs = t := ⟨_, rfl⟩
  have K := hid (ref_RightRuns xs A c t ht h w hs r)
  cases t
  · have HP := hid (show refPages xs = [] by unfold refPages; rw [ht]; rfl)
    clear ht
    go_enter Try.func86, Try.ntmps86
    go_wp2_with fail
    refine K.out.mono ?_
    rintro e w1 ⟨rfl, E1⟩
    go_wp2_with fail
    go_ret
    exact ⟨_, rfl, by rw [HP.out]; exact OwnL.nil _ _ _ _, E1⟩
  · have HP := hid (show refPages xs = (placesP xs 64).filter (fun p => decide (0 ≤ p)) by unfold refPages; rw [ht]; rfl)
    have HPO := hid (fun w hs => ref_placesOf xs A c ht h w hs r)
    clear ht
    go_enter Try.func86, Try.ntmps86
    go_wp2_with fail
    refine K.out.mono ?_
    rintro e w1 ⟨rfl, E1⟩
    go_wp2_with fail
    refine (HPO.out _ E1.sits).mono ?_
    rintro e w2 ⟨v, rfl, O, E2⟩
    obtain ⟨h2, A2, c2, hv, r2, l2, E3⟩ := O.stay (E1.trans E2) E1.size (by rw [placesP_len]; omega)
    rw [placesP_len] at hv
    subst hv
    have HPL := hid (placesP_len xs 64)
    clear O E2 E1 K HPO
    generalize placesP xs 64 = ps at *
    go_wp2_with fail
    go_loopw [3, 5] (fun s3 i wr => ∃ k : Nat, k ≤ 64 ∧ i = .int .i64 k ∧ OwnL h2 wr w.heap.size 3 s3 ((ps.take k).filter (fun p => decide (0 ≤ p))) ∧ Ext h w h2 wr) (fun _ i _ => 64 - (intOf i).toNat)
    case atStart => exact ⟨0, Nat.zero_le _, rfl, OwnL.nil _ _ _ _, E3⟩
    case round =>
      obtain ⟨k, hk, rfl, O, E⟩ := hrel
      by_cases hlt : k < 64
      · obtain ⟨p, hp⟩ : ∃ p, ps[k]? = some p := ⟨ps[k]'(by rw [HPL.out]; exact hlt), List.getElem?_eq_getElem _⟩
        obtain ⟨b, off, rfl, c0⟩ := r2.int hp E.sits
        have HS := hid (show (ps.take (k + 1)).filter (fun p => decide (0 ≤ p)) = (ps.take k).filter (fun p => decide (0 ≤ p)) ++ (if 0 ≤ p then [p] else []) by
          rw [List.take_add_one, hp, List.filter_append]
          congr 1
          show List.filter _ [p] = _
          by_cases h0 : 0 ≤ p
          · simp [h0]
          · simp [h0])
        have hle : ((ps.take k).filter (fun p => decide (0 ≤ p))).length ≤ 64 := by
          have h1 := List.length_filter_le (fun p => decide ((0 : Int) ≤ p)) (ps.take k)
          have h2 := HPL.out
          rw [List.length_take] at h1
          omega
        clear hp
        generalize (ps.take k).filter (fun p => decide (0 ≤ p)) = ys at *
        by_cases h0 : 0 ≤ p
        · rw [if_pos h0] at HS
          go_wp2_with (at_builtin; refine wpList_append1 rfl _ _ 29 rfl w.heap.size 3 8 ty_Int _ _ rfl O E.sits [.int .i64 p] p _ rfl rfl (by omega) (by decide) E.size ?_)
          intro v1 w3 O3 hg1 _
          have E4 := E.grown hg1 (fun k hk => ⟨(O.lt k hk).1, O.free k hk⟩)
          rw [← HS.out] at O3
          have O5 := hid O3
          clear O3 hg1 O
          go_wp2_with fail
          go_roundw
          case rel => exact ⟨k + 1, by omega, by go_num, O5.out, E4⟩
          case measure => simp [intOf]; omega
        · rw [if_neg h0, List.append_nil] at HS
          rw [← HS.out] at O
          have O5 := hid O
          clear O
          go_wp2_with fail
          go_roundw
          case rel => exact ⟨k + 1, by omega, by go_num, O5.out, E⟩
          case measure => simp [intOf]; omega
      · obtain rfl : k = 64 := by omega
        rw [List.take_of_length_le (by rw [HPL.out]; omega)] at O
        go_wp2_with fail
        go_ret
        exact ⟨_, rfl, by rw [HP.out]; exact O.back_int l2, E.back⟩
end Go.Proofs.Ytkglaofiencfdaa
