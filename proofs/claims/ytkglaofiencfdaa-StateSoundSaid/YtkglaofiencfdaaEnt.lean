import Derived.Test.YtkglaofiencfdaaNameF
import Derived.Test.YtkglaofiencfdaaRuns
namespace Go.Proofs.Ytkglaofiencfdaa
open Go.RowKit Go.Sort
set_option linter.unusedVariables false
/-! ### what entries mean -/
def leB (a b : ByteArray) : Bool := Op.bytesLess a.toList b.toList || a.toList == b.toList
def okEnt (x : Entry) : Bool := nameB x.name && decide (0 < x.no)
def okEAt (xs : List Entry) (i : Nat) : Bool := okEnt (xs.getD i default) && (i == 0 || !leB (xs.getD i default).name (xs.getD (i - 1) default).name)
def rightE (xs : List Entry) : Bool := (List.range xs.length).all (okEAt xs) && decide (xs.length ≤ 100)
theorem rightE_true {xs : List Entry} (h : ∀ i, i < xs.length → okEAt xs i = true) : rightE xs = decide (xs.length ≤ 100) := by
  unfold rightE
  rw [show (List.range xs.length).all (okEAt xs) = true by rw [List.all_eq_true]; intro i hi; exact h i (by simpa using hi), Bool.true_and]
theorem rightE_false {xs : List Entry} {i : Nat} (hi : i < xs.length) (h : okEAt xs i = false) : rightE xs = false := by
  unfold rightE
  rw [show (List.range xs.length).all (okEAt xs) = false by rw [List.all_eq_false]; exact ⟨i, by simpa using hi, by simp [h]⟩, Bool.false_and]
theorem rightE_at {xs : List Entry} (h : rightE xs = true) {i : Nat} (hi : i < xs.length) : okEAt xs i = true := by
  unfold rightE at h
  rw [Bool.and_eq_true, List.all_eq_true] at h
  exact h.1 i (by simpa using hi)
theorem rightE_len {xs : List Entry} (h : rightE xs = true) : xs.length ≤ 100 := by
  unfold rightE at h
  rw [Bool.and_eq_true] at h
  simpa using h.2
theorem getD_ent {xs : List Entry} {i : Nat} {x : Entry} (h : xs[i]? = some x) : xs.getD i default = x := by rw [List.getD_eq_getElem?_getD, h]; rfl
theorem okE_a {xs : List Entry} {k : Nat} {x : Entry} (hx : xs[k]? = some x) (h : nameB x.name = false) : okEAt xs k = false := by simp only [okEAt, getD_ent hx, okEnt, h]; rfl
theorem okE_b {xs : List Entry} {k : Nat} {x : Entry} (hx : xs[k]? = some x) (h : x.no ≤ 0) : okEAt xs k = false := by
  have : decide (0 < x.no) = false := by simpa using h
  simp only [okEAt, getD_ent hx, okEnt, this, Bool.and_false, Bool.false_and]
theorem okE_c {xs : List Entry} {x : Entry} (hx : xs[0]? = some x) (h : nameB x.name = true) (h1 : 0 < x.no) : okEAt xs 0 = true := by
  have : decide (0 < x.no) = true := by simpa using h1
  simp only [okEAt, getD_ent hx, okEnt, h, this]; rfl
theorem okE_d {xs : List Entry} {m : Nat} {x y : Entry} (hx : xs[m + 1]? = some x) (hy : xs[m]? = some y) (h : nameB x.name = true) (h1 : 0 < x.no) : okEAt xs (m + 1) = !leB x.name y.name := by
  have : decide (0 < x.no) = true := by simpa using h1
  simp only [okEAt, getD_ent hx, Nat.add_sub_cancel, getD_ent hy, okEnt, h, this]; simp
set_option maxHeartbeats 4000000 in
set_option maxRecDepth 100000 in
theorem entries_Right (xs : List Entry) (A : Option Addr) (c : Nat) (t : Bool) (ht : rightE xs = t) (h : FH) (w : World) (hs : Sits h w) (r : RowAt h A xs) :
    Calls Try.prog 109 #[.slice A xs.length c] w fun e w' => e = .returned (.bool t) ∧ Ext h w h w' := by
  have hl := r.1
  have HT := hid ht
  clear ht
  go_enter Try.func109, Try.ntmps109
  go_wp2_with fail
  go_loopw [3, 7] (fun s3 i wr => ∃ k : Nat, k ≤ xs.length ∧ i = .int .i64 k ∧ Hid (∀ i, i < k → okEAt xs i = true) ∧ Ext h w h wr) (fun _ i _ => xs.length - (intOf i).toNat)
  case atStart => exact ⟨0, Nat.zero_le _, rfl, hid (fun i hi => by omega), Ext.refl hs⟩
  case round =>
    obtain ⟨k, hk, rfl, HN, E⟩ := hrel
    by_cases hlt : k < xs.length
    · obtain ⟨x, hx⟩ : ∃ x, xs[k]? = some x := ⟨xs[k], by simp [hlt]⟩
      obtain ⟨b, off, rfl, c0, c1, hxs⟩ := r.entry hx E.sits
      have HX := hid hx
      clear hx
      have E2 := E.alloc (.cells #[.string x.name, .int .i64 x.no] 44)
      have z0 : (wr.alloc (.cells #[.string x.name, .int .i64 x.no] 44)).cell? ⟨wr.heap.size, 0, none⟩ = some (.string x.name) := by go_simp
      have z1 : (wr.alloc (.cells #[.string x.name, .int .i64 x.no] 44)).cell? ⟨wr.heap.size, 1, none⟩ = some (.int .i64 x.no) := by go_simp
      have hkeep := fun (p : Addr) (v : Value) (hp : wr.cell? p = some v) => keep1 hp (.cells #[.string x.name, .int .i64 x.no] 44)
      go_upto_region 4 with (fail)
      generalize (wr.alloc (.cells #[.string x.name, .int .i64 x.no] 44)) = W2 at *
      generalize wr.heap.size = g at *
      have u0 := fun d os => cell_regrown z0 d os
      have u1 := fun d os => cell_regrown z1 d os
      have i1 : (0 : Int) ≤ (k : Int) := by omega
      have i2 : (k : Int) < (xs.length : Int) := by omega
      clear z0 z1
      go_cut [35] (fun s wx => s = .bool (!okEAt xs k) ∧ Ext h w h wx)
      case first =>
        as_aux_lemma =>
          obtain ⟨q, hq⟩ : ∃ q, nameB x.name = q := ⟨_, rfl⟩
          have HQ := hid hq
          clear hq
          cases q
          · have G := hid (okE_a HX.out HQ.out)
            refine wp_region_quiet_below (by kernel_rfl) (by kernel_rfl) ?_
            repeat (go_big_quiet_step (exact quietCall (name_Right x.name hxs false HQ.out h _ (Ext.quiet E2.sits _ _).sits)))
            refine wpQuiet_nil ?_
            intro _ hw'
            obtain ⟨⟨dq, osq⟩, hw''⟩ := hw'
            subst hw''
            go_wp2
            go_meet
            exact ⟨ret_val3 (by rw [G.out]; first | rfl | (rw [Bool.not_not]; rfl)), E2.trans (Ext.quiet E2.sits _ _)⟩
          · by_cases hno : x.no ≤ 0
            · have G := hid (okE_b HX.out hno)
              have hno2 : decide (x.no ≤ 0) = true := by simpa using hno
              have hno3 : decide (x.no < 1) = true := by simp; omega
              refine wp_region_quiet_below (by kernel_rfl) (by kernel_rfl) ?_
              repeat (go_big_quiet_step (exact quietCall (name_Right x.name hxs true HQ.out h _ (Ext.quiet E2.sits _ _).sits)))
              refine wpQuiet_nil ?_
              intro _ hw'
              obtain ⟨⟨dq, osq⟩, hw''⟩ := hw'
              subst hw''
              go_wp2
              go_meet
              exact ⟨ret_val3 (by rw [G.out]; first | rfl | (rw [Bool.not_not]; rfl)), E2.trans (Ext.quiet E2.sits _ _)⟩
            · have hno2 : decide (x.no ≤ 0) = false := by simpa using hno
              have hno3 : decide (x.no < 1) = false := by simp; omega
              cases k with
              | zero =>
                have G := hid (okE_c HX.out HQ.out (by omega))
                try simp only [Nat.zero_mul, Nat.add_zero] at u0 u1
                refine wp_region_quiet_below (by kernel_rfl) (by kernel_rfl) ?_
                repeat (go_big_quiet_step (exact quietCall (name_Right x.name hxs true HQ.out h _ (Ext.quiet E2.sits _ _).sits)))
                refine wpQuiet_nil ?_
                intro _ hw'
                obtain ⟨⟨dq, osq⟩, hw''⟩ := hw'
                subst hw''
                go_wp2
                go_meet
                exact ⟨ret_val3 (by rw [G.out]; first | rfl | (rw [Bool.not_not]; rfl)), E2.trans (Ext.quiet E2.sits _ _)⟩
              | succ m =>
                obtain ⟨y, hy⟩ : ∃ y, xs[m]? = some y := ⟨xs[m]'(by omega), List.getElem?_eq_getElem _⟩
                obtain ⟨b', off', e0, d0, _, _⟩ := r.entry hy E.sits
                obtain ⟨rfl, rfl⟩ : b = b' ∧ off = off' := by simpa using e0
                have G := hid (okE_d HX.out hy HQ.out (by omega))
                have v0 := fun d os => cell_regrown (hkeep _ _ d0) d os
                have e1 : ((m + 1 : Nat) : Int) = (m : Int) + 1 := by omega
                rw [e1] at i1 i2
                rw [e1]
                have hz : decide (0 < (m : Int) + 1) = true := decide_eq_true (by omega)
                have i3 : (0 : Int) ≤ (m : Int) := by omega
                have i4 : (m : Int) < (xs.length : Int) := by omega
                clear hy e0 d0 e1
                refine wp_region_quiet_below (by kernel_rfl) (by kernel_rfl) ?_
                repeat (go_big_quiet_step (exact quietCall (name_Right x.name hxs true HQ.out h _ (Ext.quiet E2.sits _ _).sits)))
                refine wpQuiet_nil ?_
                intro _ hw'
                obtain ⟨⟨dq, osq⟩, hw''⟩ := hw'
                subst hw''
                go_wp2
                go_meet
                exact ⟨ret_val3 (by rw [G.out]; first | rfl | (rw [Bool.not_not]; rfl)), E2.trans (Ext.quiet E2.sits _ _)⟩
      case rest =>
        obtain ⟨rfl, E3⟩ := hcut
        obtain ⟨q, hq⟩ : ∃ q, okEAt xs k = q := ⟨_, rfl⟩
        have HG := hid hq
        rw [hq]
        clear hq
        cases q
        · have HF := hid (rightE_false hlt HG.out)
          go_wp2
          go_ret
          exact ⟨ret_bool (by rw [← HT.out, HF.out]), E3⟩
        · go_wp2
          go_roundw
          case rel =>
            refine ⟨k + 1, by omega, by go_num, hid (fun i hi => ?_), E3⟩
            by_cases hik : i = k
            · rw [hik, HG.out]
            · exact HN.out i (by omega)
          case measure => simp [intOf]; omega
    · have HR := hid (rightE_true (fun i hi => HN.out i (by omega)))
      go_wp2
      go_ret
      exact ⟨ret_bool (by rw [← HT.out, HR.out]; exact decide_eq_decide.2 (by omega)), E⟩
set_option maxHeartbeats 4000000 in
set_option maxRecDepth 100000 in
theorem ref_RightEntries (xs : List Entry) (A : Option Addr) (c : Nat) (t : Bool) (ht : rightE xs = t) (h : FH) (w : World) (hs : Sits h w) (r : RowAt h A xs) :
    Calls Try.prog 82 #[.slice A xs.length c] w fun e w' => e = .returned (.bool t) ∧ Ext h w h w' := by
  have hl := r.1
  have HT := hid ht
  clear ht
  go_enter Try.func82, Try.ntmps82
  go_wp2_with fail
  go_loopw [3] (fun i wr => ∃ k : Nat, k ≤ xs.length ∧ i = .int .i64 k ∧ Hid (∀ i, i < k → okEAt xs i = true) ∧ Ext h w h wr) (fun i _ => xs.length - (intOf i).toNat)
  case atStart => exact ⟨0, Nat.zero_le _, rfl, hid (fun i hi => by omega), Ext.refl hs⟩
  case round =>
    obtain ⟨k, hk, rfl, HN, E⟩ := hrel
    by_cases hlt : k < xs.length
    · obtain ⟨x, hx⟩ : ∃ x, xs[k]? = some x := ⟨xs[k], by simp [hlt]⟩
      obtain ⟨b, off, rfl, c0, c1, hxs⟩ := r.entry hx E.sits
      have HX := hid hx
      clear hx
      have E2 := E
      have z0 := c0
      have z1 := c1
      have hkeep := fun (p : Addr) (v : Value) (hp : wr.cell? p = some v) => hp
      go_upto_region 4 with (fail)
      have u0 := fun d os => cell_regrown z0 d os
      have u1 := fun d os => cell_regrown z1 d os
      have i1 : (0 : Int) ≤ (k : Int) := by omega
      have i2 : (k : Int) < (xs.length : Int) := by omega
      clear z0 z1
      go_cut [42] (fun s wx => s = .bool (!okEAt xs k) ∧ Ext h w h wx)
      case first =>
        as_aux_lemma =>
          obtain ⟨q, hq⟩ : ∃ q, nameB x.name = q := ⟨_, rfl⟩
          have HQ := hid hq
          clear hq
          cases q
          · have G := hid (okE_a HX.out HQ.out)
            refine wp_region_quiet_below (by kernel_rfl) (by kernel_rfl) ?_
            repeat (go_big_quiet_step (exact quietCall (ref_RightName x.name hxs false HQ.out h _ (Ext.quiet E2.sits _ _).sits)))
            refine wpQuiet_nil ?_
            intro _ hw'
            obtain ⟨⟨dq, osq⟩, hw''⟩ := hw'
            subst hw''
            go_wp2
            go_meet
            exact ⟨ret_val3 (by rw [G.out]; first | rfl | (rw [Bool.not_not]; rfl)), E2.trans (Ext.quiet E2.sits _ _)⟩
          · by_cases hno : x.no ≤ 0
            · have G := hid (okE_b HX.out hno)
              have hno2 : decide (x.no ≤ 0) = true := by simpa using hno
              have hno3 : decide (x.no < 1) = true := by simp; omega
              refine wp_region_quiet_below (by kernel_rfl) (by kernel_rfl) ?_
              repeat (go_big_quiet_step (exact quietCall (ref_RightName x.name hxs true HQ.out h _ (Ext.quiet E2.sits _ _).sits)))
              refine wpQuiet_nil ?_
              intro _ hw'
              obtain ⟨⟨dq, osq⟩, hw''⟩ := hw'
              subst hw''
              go_wp2
              go_meet
              exact ⟨ret_val3 (by rw [G.out]; first | rfl | (rw [Bool.not_not]; rfl)), E2.trans (Ext.quiet E2.sits _ _)⟩
            · have hno2 : decide (x.no ≤ 0) = false := by simpa using hno
              have hno3 : decide (x.no < 1) = false := by simp; omega
              cases k with
              | zero =>
                have G := hid (okE_c HX.out HQ.out (by omega))
                try simp only [Nat.zero_mul, Nat.add_zero] at u0 u1
                refine wp_region_quiet_below (by kernel_rfl) (by kernel_rfl) ?_
                repeat (go_big_quiet_step (exact quietCall (ref_RightName x.name hxs true HQ.out h _ (Ext.quiet E2.sits _ _).sits)))
                refine wpQuiet_nil ?_
                intro _ hw'
                obtain ⟨⟨dq, osq⟩, hw''⟩ := hw'
                subst hw''
                go_wp2
                go_meet
                exact ⟨ret_val3 (by rw [G.out]; first | rfl | (rw [Bool.not_not]; rfl)), E2.trans (Ext.quiet E2.sits _ _)⟩
              | succ m =>
                obtain ⟨y, hy⟩ : ∃ y, xs[m]? = some y := ⟨xs[m]'(by omega), List.getElem?_eq_getElem _⟩
                obtain ⟨b', off', e0, d0, _, _⟩ := r.entry hy E.sits
                obtain ⟨rfl, rfl⟩ : b = b' ∧ off = off' := by simpa using e0
                have G := hid (okE_d HX.out hy HQ.out (by omega))
                have v0 := fun d os => cell_regrown (hkeep _ _ d0) d os
                have e1 : ((m + 1 : Nat) : Int) = (m : Int) + 1 := by omega
                rw [e1] at i1 i2
                rw [e1]
                have hz : decide (0 < (m : Int) + 1) = true := decide_eq_true (by omega)
                have i3 : (0 : Int) ≤ (m : Int) := by omega
                have i4 : (m : Int) < (xs.length : Int) := by omega
                clear hy e0 d0 e1
                refine wp_region_quiet_below (by kernel_rfl) (by kernel_rfl) ?_
                repeat (go_big_quiet_step (exact quietCall (ref_RightName x.name hxs true HQ.out h _ (Ext.quiet E2.sits _ _).sits)))
                refine wpQuiet_nil ?_
                intro _ hw'
                obtain ⟨⟨dq, osq⟩, hw''⟩ := hw'
                subst hw''
                go_wp2
                go_meet
                exact ⟨ret_val3 (by rw [G.out]; first | rfl | (rw [Bool.not_not]; rfl)), E2.trans (Ext.quiet E2.sits _ _)⟩
      case rest =>
        obtain ⟨rfl, E3⟩ := hcut
        obtain ⟨q, hq⟩ : ∃ q, okEAt xs k = q := ⟨_, rfl⟩
        have HG := hid hq
        rw [hq]
        clear hq
        cases q
        · have HF := hid (rightE_false hlt HG.out)
          go_wp2
          go_ret
          exact ⟨ret_bool (by rw [← HT.out, HF.out]), E3⟩
        · go_wp2
          go_roundw
          case rel =>
            refine ⟨k + 1, by omega, by go_num, hid (fun i hi => ?_), E3⟩
            by_cases hik : i = k
            · rw [hik, HG.out]
            · exact HN.out i (by omega)
          case measure => simp [intOf]; omega
    · have HR := hid (rightE_true (fun i hi => HN.out i (by omega)))
      go_wp2
      go_ret
      exact ⟨ret_bool (by rw [← HT.out, HR.out]; exact decide_eq_decide.2 (by omega)), E⟩
end Go.Proofs.Ytkglaofiencfdaa
