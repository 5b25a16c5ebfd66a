import Derived.Test.YthffdfcjphohcaaDoorPlain
namespace Go.Proofs.YthffdfcjphohcaaDoor
open Go.RowKit Go.Sort
set_option linter.unusedVariables false
set_option maxHeartbeats 1000000 in
theorem plain1_Str (x y : ByteArray) (t : Bool) (ht : decide (x = y) = t) (h : FH) (w : World) (hs : Sits h w) :
    Calls Tryd.prog 20 #[.string x, .string y] w fun e w' => e = .returned (.bool t) ∧ Ext h w h w' := by
  have E0 := Ext.refl hs
  subst ht
  go_enter Tryd.func20, Tryd.ntmps20
  go_wp2
  all_goals
    go_ret
    exact ⟨ret_bool (by first | rfl | exact bytes_toList_beq _ _ | simp_all [bytes_toList_eq]), E0⟩
set_option maxHeartbeats 4000000 in
theorem same_Str (xs ys : List ByteArray) (A B : Option Addr) (c d : Nat) (t : Bool) (ht : decide (xs = ys) = t) (h : FH) (w : World) (hs : Sits h w) (r : RowAt h A xs) (r' : RowAt h B ys) :
    Calls Tryd.prog 19 #[.slice A xs.length c, .slice B ys.length d, .func (.func 20) #[] #[]] w fun e w' => e = .returned (.bool t) ∧ Ext h w h w' := by
  have hl := r.1
  have hl' := r'.1
  have E0 := Ext.refl hs
  subst ht
  by_cases hlen : xs.length = ys.length
  · have HL := hid hlen
    have hb : ((xs.length : Int) != (ys.length : Int)) = false := by simp [hlen]
    clear hlen
    go_enter Tryd.func19, Tryd.ntmps19
    go_wp2_with fail
    go_loopw [7] (fun i wr => ∃ k : Nat, k ≤ xs.length ∧ i = .int .i64 k ∧ Hid (xs.take k = ys.take k) ∧ Ext h w h wr) (fun i _ => xs.length - (intOf i).toNat)
    case atStart => exact ⟨0, Nat.zero_le _, rfl, by simp [Hid], E0⟩
    case round =>
      obtain ⟨k, hk, rfl, HN, E⟩ := hrel
      by_cases hlt : k < xs.length
      · have hlt' : k < ys.length := by have := HL.out; omega
        obtain ⟨x, hx⟩ : ∃ x, xs[k]? = some x := ⟨xs[k], by simp [hlt]⟩
        obtain ⟨y, hy⟩ : ∃ y, ys[k]? = some y := ⟨ys[k], by simp [hlt']⟩
        obtain ⟨b, off, rfl, c0, _⟩ := r.str hx E.sits
        obtain ⟨b', off', rfl, d0, _⟩ := r'.str hy E.sits
        have HX := hid hx
        have HY := hid hy
        clear hx hy
        have z0 := fun d os => cell_regrown c0 d os
        have v0 := fun d os => cell_regrown d0 d os
        clear c0 d0
        obtain ⟨q, hq⟩ : ∃ q, decide (x = y) = q := ⟨_, rfl⟩
        have HQ := hid hq
        clear hq
        go_upto_region 6 with (fail)
        refine wp_region_quiet_below (by kernel_rfl) (by kernel_rfl) ?_
        repeat (go_big_quiet_step (exact quietCall (plain1_Str x y _ HQ.out h _ (Ext.quiet E.sits _ _).sits)))
        refine wpQuiet_nil ?_
        intro _ hw'
        obtain ⟨⟨dq, osq⟩, hw''⟩ := hw'
        subst hw''
        cases q
        · go_wp2
          go_ret
          exact ⟨ret_bool (decide_eq_false (ne_of_at HX.out HY.out (of_decide_eq_false HQ.out))).symm, E.trans (Ext.quiet E.sits _ _)⟩
        · go_wp2
          go_roundw
          case rel => exact ⟨k + 1, by omega, by go_num, hid (take_eq_snoc HN.out HX.out HY.out (of_decide_eq_true HQ.out)), E.trans (Ext.quiet E.sits _ _)⟩
          case measure => simp [intOf]; omega
      · have he : xs = ys := by
          have h1 := HN.out
          rwa [List.take_of_length_le (by omega), List.take_of_length_le (by have := HL.out; omega)] at h1
        have HE := hid he
        clear he
        go_wp2
        go_ret
        exact ⟨ret_bool (decide_eq_true HE.out).symm, E⟩
  · have hb : ((xs.length : Int) != (ys.length : Int)) = true := by simp; omega
    have HL := hid hlen
    clear hlen
    go_enter Tryd.func19, Tryd.ntmps19
    go_wp2
    go_ret
    exact ⟨ret_bool (decide_eq_false (fun h => HL.out (by rw [h]))).symm, E0⟩
set_option maxHeartbeats 400000 in
theorem plain_Str (xs ys : List ByteArray) (A B : Option Addr) (c d : Nat) (t : Bool) (ht : decide (xs = ys) = t) (h : FH) (w : World) (hs : Sits h w) (r : RowAt h A xs) (r' : RowAt h B ys) :
    Calls Tryd.prog 15 #[.slice A xs.length c, .slice B ys.length d] w fun e w' => e = .returned (.bool t) ∧ Ext h w h w' := by
  go_enter Tryd.func15, Tryd.ntmps15
  go_wp2_with (go_at_call 19; refine (same_Str xs ys A B c d t ht h _ hs r r').mono ?_; rintro e w1 ⟨rfl, E1⟩)
  go_ret
  exact ⟨rfl, E1⟩
end Go.Proofs.YthffdfcjphohcaaDoor
