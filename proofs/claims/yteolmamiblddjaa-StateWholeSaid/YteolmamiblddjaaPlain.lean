import Derived.Test.YteolmamiblddjaaKeys
import Derived.Laws.StructEq
namespace Go.Proofs.Yteolmamiblddjaa
open Go.RowKit Go.Sort
set_option linter.unusedVariables false
theorem bytes_toList_eq (a b : ByteArray) : (a.toList = b.toList) = (a = b) := propext ⟨bytes_toList_inj, fun h => by rw [h]⟩
theorem take_eq_snoc {α : Type} {xs ys : List α} {k : Nat} {x y : α} (h : xs.take k = ys.take k) (hx : xs[k]? = some x) (hy : ys[k]? = some y) (e : x = y) : xs.take (k + 1) = ys.take (k + 1) := by
  rw [List.take_add_one, List.take_add_one, h, hx, hy, e]
theorem ne_of_at {α : Type} {xs ys : List α} {k : Nat} {x y : α} (hx : xs[k]? = some x) (hy : ys[k]? = some y) (e : x ≠ y) : xs ≠ ys := fun h => by
  rw [h, hy] at hx; cases hx; exact e rfl
set_option maxHeartbeats 1000000 in
theorem plain1_Int (x y : Int) (t : Bool) (ht : decide (x = y) = t) (h : FH) (w : World) (hs : Sits h w) :
    Calls Try.prog 47 #[.int .i64 x, .int .i64 y] w fun e w' => e = .returned (.bool t) ∧ Ext h w h w' := by
  have E0 := Ext.refl hs
  subst ht
  go_enter Try.func47, Try.ntmps47
  go_wp2
  all_goals
    go_ret
    exact ⟨ret_bool (by first | rfl | simp_all [bytes_toList_eq]), E0⟩
set_option maxHeartbeats 4000000 in
theorem same_Int (xs ys : List Int) (A B : Option Addr) (c d : Nat) (t : Bool) (ht : decide (xs = ys) = t) (h : FH) (w : World) (hs : Sits h w) (r : RowAt h A xs) (r' : RowAt h B ys) :
    Calls Try.prog 46 #[.slice A xs.length c, .slice B ys.length d, .func (.func 47) #[] #[]] w fun e w' => e = .returned (.bool t) ∧ Ext h w h w' := by
  have hl := r.1
  have hl' := r'.1
  have E0 := Ext.refl hs
  subst ht
  by_cases hlen : xs.length = ys.length
  · have HL := hid hlen
    have hb : ((xs.length : Int) != (ys.length : Int)) = false := by simp [hlen]
    clear hlen
    go_enter Try.func46, Try.ntmps46
    go_wp2_with fail
    go_loopw [7] (fun i wr => ∃ k : Nat, k ≤ xs.length ∧ i = .int .i64 k ∧ Hid (xs.take k = ys.take k) ∧ Ext h w h wr) (fun i _ => xs.length - (intOf i).toNat)
    case atStart => exact ⟨0, Nat.zero_le _, rfl, by simp [Hid], E0⟩
    case round =>
      obtain ⟨k, hk, rfl, HN, E⟩ := hrel
      by_cases hlt : k < xs.length
      · have hlt' : k < ys.length := by have := HL.out; omega
        obtain ⟨x, hx⟩ : ∃ x, xs[k]? = some x := ⟨xs[k], by simp [hlt]⟩
        obtain ⟨y, hy⟩ : ∃ y, ys[k]? = some y := ⟨ys[k], by simp [hlt']⟩
        obtain ⟨b, off, rfl, c0⟩ := r.int hx E.sits
        obtain ⟨b', off', rfl, d0⟩ := r'.int hy E.sits
        have HX := hid hx
        have HY := hid hy
        clear hx hy
        have z0 := fun d os => cell_regrown c0 d os
        have v0 := fun d os => cell_regrown d0 d os
        clear c0 d0
        obtain ⟨q, hq⟩ : ∃ q, decide (x = y) = q := ⟨_, rfl⟩
        have HQ := hid hq
        clear hq
        go_upto_region 6 with (fail)
        refine wp_region_quiet_below (by kernel_rfl) (by kernel_rfl) ?_
        repeat (go_big_quiet_step (exact quietCall (plain1_Int x y _ HQ.out h _ (Ext.quiet E.sits _ _).sits)))
        refine wpQuiet_nil ?_
        intro _ hw'
        obtain ⟨⟨dq, osq⟩, hw''⟩ := hw'
        subst hw''
        cases q
        · go_wp2
          go_ret
          exact ⟨ret_bool (decide_eq_false (ne_of_at HX.out HY.out (of_decide_eq_false HQ.out))).symm, E.trans (Ext.quiet E.sits _ _)⟩
        · go_wp2
          go_roundw
          case rel => exact ⟨k + 1, by omega, by go_num, hid (take_eq_snoc HN.out HX.out HY.out (of_decide_eq_true HQ.out)), E.trans (Ext.quiet E.sits _ _)⟩
          case measure => simp [intOf]; omega
      · have he : xs = ys := by
          have h1 := HN.out
          rwa [List.take_of_length_le (by omega), List.take_of_length_le (by have := HL.out; omega)] at h1
        have HE := hid he
        clear he
        go_wp2
        go_ret
        exact ⟨ret_bool (decide_eq_true HE.out).symm, E⟩
  · have hb : ((xs.length : Int) != (ys.length : Int)) = true := by simp; omega
    have HL := hid hlen
    clear hlen
    go_enter Try.func46, Try.ntmps46
    go_wp2
    go_ret
    exact ⟨ret_bool (decide_eq_false (fun h => HL.out (by rw [h]))).symm, E0⟩
set_option maxHeartbeats 400000 in
theorem plain_Int (xs ys : List Int) (A B : Option Addr) (c d : Nat) (t : Bool) (ht : decide (xs = ys) = t) (h : FH) (w : World) (hs : Sits h w) (r : RowAt h A xs) (r' : RowAt h B ys) :
    Calls Try.prog 16 #[.slice A xs.length c, .slice B ys.length d] w fun e w' => e = .returned (.bool t) ∧ Ext h w h w' := by
  go_enter Try.func16, Try.ntmps16
  go_wp2_with (go_at_call 46; refine (same_Int xs ys A B c d t ht h _ hs r r').mono ?_; rintro e w1 ⟨rfl, E1⟩)
  go_ret
  exact ⟨rfl, E1⟩
instance : DecidableEq Block := fun a b => by
  obtain ⟨a0, a1, a2, a3⟩ := a
  obtain ⟨b0, b1, b2, b3⟩ := b
  simp only [Block.mk.injEq]
  exact inferInstance
instance : DecidableEq Run := fun a b => by
  obtain ⟨a0, a1, a2⟩ := a
  obtain ⟨b0, b1, b2⟩ := b
  simp only [Run.mk.injEq]
  exact inferInstance
set_option maxHeartbeats 1000000 in
theorem plain1_Run (x y : Run) (t : Bool) (ht : decide (x = y) = t) (h : FH) (w : World) (hs : Sits h w) :
    Calls Try.prog 83 #[.agg #[.int .i64 x.from_, .int .i64 x.at_, .int .i64 x.count], .agg #[.int .i64 y.from_, .int .i64 y.at_, .int .i64 y.count]] w fun e w' => e = .returned (.bool t) ∧ Ext h w h w' := by
  have E0 := Ext.refl hs
  obtain ⟨a0, a1, a2⟩ := x
  obtain ⟨b0, b1, b2⟩ := y
  subst ht
  go_enter Try.func83, Try.ntmps83
  go_wp2
  all_goals
    go_ret
    exact ⟨ret_bool (by simp_all), (E0.alloc _).alloc _⟩
set_option maxHeartbeats 4000000 in
theorem same_Run (xs ys : List Run) (A B : Option Addr) (c d : Nat) (t : Bool) (ht : decide (xs = ys) = t) (h : FH) (w : World) (hs : Sits h w) (r : RowAt h A xs) (r' : RowAt h B ys) :
    Calls Try.prog 82 #[.slice A xs.length c, .slice B ys.length d, .func (.func 83) #[] #[]] w fun e w' => e = .returned (.bool t) ∧ Ext h w h w' := by
  have hl := r.1
  have hl' := r'.1
  have E0 := Ext.refl hs
  subst ht
  by_cases hlen : xs.length = ys.length
  · have HL := hid hlen
    have hb : ((xs.length : Int) != (ys.length : Int)) = false := by simp [hlen]
    clear hlen
    go_enter Try.func82, Try.ntmps82
    go_wp2_with fail
    go_loopw [7] (fun i wr => ∃ k : Nat, k ≤ xs.length ∧ i = .int .i64 k ∧ Hid (xs.take k = ys.take k) ∧ Ext h w h wr) (fun i _ => xs.length - (intOf i).toNat)
    case atStart => exact ⟨0, Nat.zero_le _, rfl, by simp [Hid], E0⟩
    case round =>
      obtain ⟨k, hk, rfl, HN, E⟩ := hrel
      by_cases hlt : k < xs.length
      · have hlt' : k < ys.length := by have := HL.out; omega
        obtain ⟨x, hx⟩ : ∃ x, xs[k]? = some x := ⟨xs[k], by simp [hlt]⟩
        obtain ⟨y, hy⟩ : ∃ y, ys[k]? = some y := ⟨ys[k], by simp [hlt']⟩
        obtain ⟨b, off, rfl, c0, c1, c2⟩ := r.run hx E.sits
        obtain ⟨b', off', rfl, d0, d1, d2⟩ := r'.run hy E.sits
        have HX := hid hx
        have HY := hid hy
        clear hx hy
        have z0 := fun d os => cell_regrown c0 d os
        have v0 := fun d os => cell_regrown d0 d os
        have z1 := fun d os => cell_regrown c1 d os
        have v1 := fun d os => cell_regrown d1 d os
        have z2 := fun d os => cell_regrown c2 d os
        have v2 := fun d os => cell_regrown d2 d os
        clear c0 c1 c2 d0 d1 d2
        obtain ⟨q, hq⟩ : ∃ q, decide (x = y) = q := ⟨_, rfl⟩
        have HQ := hid hq
        clear hq
        go_upto_region 6 with (fail)
        refine wp_region_quiet_below (by kernel_rfl) (by kernel_rfl) ?_
        repeat (go_big_quiet_step (exact quietCall (plain1_Run x y _ HQ.out h _ (Ext.quiet E.sits _ _).sits)))
        refine wpQuiet_nil ?_
        intro _ hw'
        obtain ⟨⟨dq, osq⟩, hw''⟩ := hw'
        subst hw''
        cases q
        · go_wp2
          go_ret
          exact ⟨ret_bool (decide_eq_false (ne_of_at HX.out HY.out (of_decide_eq_false HQ.out))).symm, E.trans (Ext.quiet E.sits _ _)⟩
        · go_wp2
          go_roundw
          case rel => exact ⟨k + 1, by omega, by go_num, hid (take_eq_snoc HN.out HX.out HY.out (of_decide_eq_true HQ.out)), E.trans (Ext.quiet E.sits _ _)⟩
          case measure => simp [intOf]; omega
      · have he : xs = ys := by
          have h1 := HN.out
          rwa [List.take_of_length_le (by omega), List.take_of_length_le (by have := HL.out; omega)] at h1
        have HE := hid he
        clear he
        go_wp2
        go_ret
        exact ⟨ret_bool (decide_eq_true HE.out).symm, E⟩
  · have hb : ((xs.length : Int) != (ys.length : Int)) = true := by simp; omega
    have HL := hid hlen
    clear hlen
    go_enter Try.func82, Try.ntmps82
    go_wp2
    go_ret
    exact ⟨ret_bool (decide_eq_false (fun h => HL.out (by rw [h]))).symm, E0⟩
set_option maxHeartbeats 400000 in
theorem plain_Run (xs ys : List Run) (A B : Option Addr) (c d : Nat) (t : Bool) (ht : decide (xs = ys) = t) (h : FH) (w : World) (hs : Sits h w) (r : RowAt h A xs) (r' : RowAt h B ys) :
    Calls Try.prog 50 #[.slice A xs.length c, .slice B ys.length d] w fun e w' => e = .returned (.bool t) ∧ Ext h w h w' := by
  go_enter Try.func50, Try.ntmps50
  go_wp2_with (go_at_call 82; refine (same_Run xs ys A B c d t ht h _ hs r r').mono ?_; rintro e w1 ⟨rfl, E1⟩)
  go_ret
  exact ⟨rfl, E1⟩
instance : DecidableEq Entry := fun a b => by
  obtain ⟨a0, a1⟩ := a
  obtain ⟨b0, b1⟩ := b
  simp only [Entry.mk.injEq]
  exact inferInstance
set_option maxHeartbeats 1000000 in
theorem plain1_Entry (x y : Entry) (t : Bool) (ht : decide (x = y) = t) (h : FH) (w : World) (hs : Sits h w) :
    Calls Try.prog 81 #[.agg #[.string x.name, .int .i64 x.no], .agg #[.string y.name, .int .i64 y.no]] w fun e w' => e = .returned (.bool t) ∧ Ext h w h w' := by
  have E0 := Ext.refl hs
  obtain ⟨a0, a1⟩ := x
  obtain ⟨b0, b1⟩ := y
  subst ht
  go_enter Try.func81, Try.ntmps81
  go_wp2
  all_goals
    go_ret
    exact ⟨ret_bool (by simp_all [bytes_toList_eq]), (E0.alloc _).alloc _⟩
set_option maxHeartbeats 4000000 in
theorem same_Entry (xs ys : List Entry) (A B : Option Addr) (c d : Nat) (t : Bool) (ht : decide (xs = ys) = t) (h : FH) (w : World) (hs : Sits h w) (r : RowAt h A xs) (r' : RowAt h B ys) :
    Calls Try.prog 80 #[.slice A xs.length c, .slice B ys.length d, .func (.func 81) #[] #[]] w fun e w' => e = .returned (.bool t) ∧ Ext h w h w' := by
  have hl := r.1
  have hl' := r'.1
  have E0 := Ext.refl hs
  subst ht
  by_cases hlen : xs.length = ys.length
  · have HL := hid hlen
    have hb : ((xs.length : Int) != (ys.length : Int)) = false := by simp [hlen]
    clear hlen
    go_enter Try.func80, Try.ntmps80
    go_wp2_with fail
    go_loopw [7] (fun i wr => ∃ k : Nat, k ≤ xs.length ∧ i = .int .i64 k ∧ Hid (xs.take k = ys.take k) ∧ Ext h w h wr) (fun i _ => xs.length - (intOf i).toNat)
    case atStart => exact ⟨0, Nat.zero_le _, rfl, by simp [Hid], E0⟩
    case round =>
      obtain ⟨k, hk, rfl, HN, E⟩ := hrel
      by_cases hlt : k < xs.length
      · have hlt' : k < ys.length := by have := HL.out; omega
        obtain ⟨x, hx⟩ : ∃ x, xs[k]? = some x := ⟨xs[k], by simp [hlt]⟩
        obtain ⟨y, hy⟩ : ∃ y, ys[k]? = some y := ⟨ys[k], by simp [hlt']⟩
        obtain ⟨b, off, rfl, c0, c1, _⟩ := r.entry hx E.sits
        obtain ⟨b', off', rfl, d0, d1, _⟩ := r'.entry hy E.sits
        have HX := hid hx
        have HY := hid hy
        clear hx hy
        have z0 := fun d os => cell_regrown c0 d os
        have v0 := fun d os => cell_regrown d0 d os
        have z1 := fun d os => cell_regrown c1 d os
        have v1 := fun d os => cell_regrown d1 d os
        clear c0 c1 d0 d1
        obtain ⟨q, hq⟩ : ∃ q, decide (x = y) = q := ⟨_, rfl⟩
        have HQ := hid hq
        clear hq
        go_upto_region 6 with (fail)
        refine wp_region_quiet_below (by kernel_rfl) (by kernel_rfl) ?_
        repeat (go_big_quiet_step (exact quietCall (plain1_Entry x y _ HQ.out h _ (Ext.quiet E.sits _ _).sits)))
        refine wpQuiet_nil ?_
        intro _ hw'
        obtain ⟨⟨dq, osq⟩, hw''⟩ := hw'
        subst hw''
        cases q
        · go_wp2
          go_ret
          exact ⟨ret_bool (decide_eq_false (ne_of_at HX.out HY.out (of_decide_eq_false HQ.out))).symm, E.trans (Ext.quiet E.sits _ _)⟩
        · go_wp2
          go_roundw
          case rel => exact ⟨k + 1, by omega, by go_num, hid (take_eq_snoc HN.out HX.out HY.out (of_decide_eq_true HQ.out)), E.trans (Ext.quiet E.sits _ _)⟩
          case measure => simp [intOf]; omega
      · have he : xs = ys := by
          have h1 := HN.out
          rwa [List.take_of_length_le (by omega), List.take_of_length_le (by have := HL.out; omega)] at h1
        have HE := hid he
        clear he
        go_wp2
        go_ret
        exact ⟨ret_bool (decide_eq_true HE.out).symm, E⟩
  · have hb : ((xs.length : Int) != (ys.length : Int)) = true := by simp; omega
    have HL := hid hlen
    clear hlen
    go_enter Try.func80, Try.ntmps80
    go_wp2
    go_ret
    exact ⟨ret_bool (decide_eq_false (fun h => HL.out (by rw [h]))).symm, E0⟩
set_option maxHeartbeats 400000 in
theorem plain_Entry (xs ys : List Entry) (A B : Option Addr) (c d : Nat) (t : Bool) (ht : decide (xs = ys) = t) (h : FH) (w : World) (hs : Sits h w) (r : RowAt h A xs) (r' : RowAt h B ys) :
    Calls Try.prog 49 #[.slice A xs.length c, .slice B ys.length d] w fun e w' => e = .returned (.bool t) ∧ Ext h w h w' := by
  go_enter Try.func49, Try.ntmps49
  go_wp2_with (go_at_call 80; refine (same_Entry xs ys A B c d t ht h _ hs r r').mono ?_; rintro e w1 ⟨rfl, E1⟩)
  go_ret
  exact ⟨rfl, E1⟩
end Go.Proofs.Yteolmamiblddjaa
