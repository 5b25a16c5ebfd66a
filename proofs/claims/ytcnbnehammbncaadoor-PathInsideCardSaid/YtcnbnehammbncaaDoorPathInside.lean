/- The walk of the law PathInside: it returns true, and writes nothing that was there. -/
import Derived.Test.YtcnbnehammbncaaDoorLineSt
import Derived.Test.YtcnbnehammbncaaDoorPkInA
namespace Go.Proofs.YtcnbnehammbncaaDoor
open Go.RowKit Go.Sort
set_option linter.unusedVariables false
def wayW : Nat → ByteArray
  | 0 => ⟨#[47]⟩
  | k + 1 => wayW k ++ ⟨#[100, 47]⟩
theorem wayW_sz : ∀ k, (wayW k).size = 2 * k + 1
  | 0 => rfl
  | k + 1 => by rw [wayW, ByteArray.size_append, wayW_sz k]; show 2 * k + 1 + 2 = _; omega
theorem way_to : ∀ n, n < 9 → ∀ k, k < n + 1 → resolveP (stateP n ⟨#[120]⟩).inodes (wayW k) true = ((k : Int) + 1, 0) := by decide +kernel
theorem way_in : ∀ n, n < 9 → ∀ a : Nat, a < n + 1 → ∀ b : Nat, b < n + 1 → insideP (stateP n ⟨#[120]⟩).inodes ((a : Int) + 1) ((b : Int) + 1) = decide (b ≤ a) := by decide +kernel
theorem eqB_f (w : World) : (binOp .eql 4 (.bool false) (.bool false)).run Tryd.prog w = .ok (.bool true) w := by kernel_rfl
theorem eqB_t (w : World) : (binOp .eql 4 (.bool true) (.bool true)).run Tryd.prog w = .ok (.bool true) w := by kernel_rfl
theorem geq_run {a b : Nat} {t : Bool} (h : decide (b ≤ a) = t) (w : World) : (binOp .geq 3 (.int .i64 (a : Int)) (.int .i64 (b : Int))).run Tryd.prog w = .ok (.bool t) w := by
  simp [binOp, go_sem]
  exact h
theorem way_len : ∀ n, n < 9 → (stateP n ⟨#[120]⟩).inodes.length ≤ 1000 := by decide +kernel
set_option maxHeartbeats 4000000 in
set_option maxRecDepth 100000 in
theorem law15_way (n : Nat) (hn : n ≤ 8) (h : FH) (w : World) (hs : Sits h w) : Calls Tryd.prog 25 #[.int .i64 n] w fun e w' => e = .returned (.string (wayW n)) ∧ Ext h w h w' := by
  go_enter Tryd.func25, Tryd.ntmps25
  go_wp2_with fail
  go_loopw [3, 4] (fun s3 i wr => ∃ k : Nat, k ≤ n ∧ s3 = .string (wayW k) ∧ i = .int .i64 k ∧ wr = w) (fun _ i _ => n - (intOf i).toNat)
  case atStart => exact ⟨0, Nat.zero_le _, rfl, rfl, rfl⟩
  case round =>
    obtain ⟨k, hk, rfl, rfl, rfl⟩ := hrel
    have hz := wayW_sz k
    have hzb : (wayW k).size ≤ 17 := by omega
    clear hz
    by_cases hlt : k < n
    · go_wp2_with fail
      go_roundw
      case rel => exact ⟨k + 1, by omega, by first | rfl | trivial | go_num, by go_num, by first | trivial | rfl⟩
      case measure => simp [intOf]; omega
    · obtain rfl : k = n := by omega
      go_wp2_with fail
      go_ret
      exact ⟨rfl, Ext.refl hs⟩
set_option maxHeartbeats 16000000 in
set_option maxRecDepth 100000 in
theorem PathInside_walk (n0 a0 b0 : Int) (W : World) :
    Calls Tryd.prog 6 #[.int .i64 n0, .int .i64 a0, .int .i64 b0] W fun e w' => e = .returned (.bool true) ∧ Ext (fhOf W) W (fhOf W) w' := by
  have hs := Sits.all W
  have hmd : ∀ (x : Int) (m : Nat), 0 < m → m ≤ 9 → ∃ n : Nat, (IntKind.u64.wrap x).tmod (m : Int) = n ∧ n < m := fun x m h0 h9 => by
    have h0' : 0 ≤ IntKind.u64.wrap x := by rw [IntKind.wrap_u64]; omega
    rw [Int.tmod_eq_emod_of_nonneg h0']
    have q1 := Int.emod_nonneg (IntKind.u64.wrap x) (show (m : Int) ≠ 0 by omega)
    have q2 := Int.emod_lt_of_pos (IntKind.u64.wrap x) (show (0 : Int) < m by omega)
    exact ⟨(IntKind.u64.wrap x % (m : Int)).toNat, by omega, by omega⟩
  obtain ⟨r, hr, hr8⟩ := hmd n0 8 (by decide) (by decide)
  have hr : (IntKind.u64.wrap n0).tmod 8 = (r : Int) := hr
  have hw1 : wrap64 (r : Int) = r := IntWalk.wrap64_in _ (by omega)
  obtain ⟨n, hn⟩ : ∃ n, n = 1 + r := ⟨_, rfl⟩
  have hn8 : n ≤ 8 := by omega
  have hwn : IntKind.i64.wrap (1 + (r : Int)) = (n : Int) := by rw [IntKind.wrap_i64]; omega
  have hwn1 : IntKind.i64.wrap ((n : Int) + 1) = (n : Int) + 1 := by rw [IntKind.wrap_i64]; omega
  have hwu : IntKind.u64.wrap ((n : Int) + 1) = (n : Int) + 1 := by rw [IntKind.wrap_u64]; omega
  obtain ⟨a, ha, ha8⟩ := hmd a0 (n + 1) (by omega) (by omega)
  obtain ⟨b, hb, hb8⟩ := hmd b0 (n + 1) (by omega) (by omega)
  have hwa : wrap64 (a : Int) = a := IntWalk.wrap64_in _ (by omega)
  have hwb : wrap64 (b : Int) = b := IntWalk.wrap64_in _ (by omega)
  have ha : (IntKind.u64.wrap a0).tmod ((n : Int) + 1) = (a : Int) := ha
  have hb : (IntKind.u64.wrap b0).tmod ((n : Int) + 1) = (b : Int) := hb
  have hn0 : ¬ ((n : Int) + 1 = 0) := by omega
  have HA := hid ha8
  have HB := hid hb8
  clear hmd
  have HN := hid (show n < 9 by omega)
  have KS := hid (law15_state n hn8 ⟨#[120]⟩ (by decide) (fhOf W) W hs)
  clear hn hn8 hr8 ha8 hb8
  go_enter Tryd.func6, Tryd.ntmps6
  go_upto_region 2 with (fail)
  clear hr hw1 hwn
  go_upto_region 3 with (go_at_call 23; refine KS.out.mono ?_; rintro e w1 ⟨cs, h1, rfl, rs, F1⟩; obtain ⟨A1, c1, A2, c2, rfl⟩ := rs.open; have E1 := hid F1; have R1 := hid rs; clear F1)
  obtain ⟨X, hX⟩ : ∃ X, X = stateP n ⟨#[120]⟩ := ⟨_, rfl⟩
  have FT := hid (way_to n HN.out)
  have FI := hid (way_in n HN.out)
  have FL := hid (way_len n HN.out)
  rw [← hX] at FT FI FL R1 ⊢
  clear hX
  obtain ⟨h2, E2, hbS, le2, hh2⟩ := E1.out.boxF #[.int .i64 X.next, .slice A1 X.inodes.length c1, .slice A2 X.bads.length c2] 28
  have R2 := hid (repState.mono le2 R1.out)
  generalize w1.heap.size = gS at *
  with_reducible generalize w1.alloc (.cells #[.int .i64 X.next, .slice A1 X.inodes.length c1, .slice A2 X.bads.length c2] 28) = w2 at E2 ⊢
  have E2 := hid E2
  clear hh2 le2 R1 hr KS
  go_region
  rw [hwa, hwb]
  have E3 := hid E2.out.drew
  with_reducible generalize w2.drew = w3 at E3 ⊢
  clear ha hb hwn1 hwu hwa hwb hn0
  go_upto_region 5 with (fail)
  have s0 := fun d os => cell_regrown (show w3.cell? ⟨gS, 0, none⟩ = some (.int .i64 X.next) from Sits_at E3.out.sits hbS rfl) d os
  have s1 := fun d os => cell_regrown (show w3.cell? ⟨gS, 1, none⟩ = some (.slice A1 X.inodes.length c1) from Sits_at E3.out.sits hbS rfl) d os
  have s2 := fun d os => cell_regrown (show w3.cell? ⟨gS, 2, none⟩ = some (.slice A2 X.bads.length c2) from Sits_at E3.out.sits hbS rfl) d os
  refine wp_region_quiet_below (by kernel_rfl) (by kernel_rfl) ?_
  repeat (go_big_quiet_step (first | (go_at_call 25; exact quietCall (law15_way a (by have := HN.out; have := HA.out; omega) h2 _ (Ext.quiet E3.out.sits _ _).sits)) | (go_at_call 13; exact quietCall (path_Resolve X _ (wayW a) (by have := wayW_sz a; have := HN.out; have := HA.out; omega) true _ (FT.out a HA.out) h2 _ (Ext.quiet E3.out.sits _ _).sits R2.out))))
  refine wpQuiet_nil ?_
  intro _ hw'
  obtain ⟨⟨dq, osq⟩, hw''⟩ := hw'
  subst hw''
  clear s0 s1 s2
  have E4 := hid (E3.out.trans (Ext.quiet E3.out.sits dq osq))
  with_reducible generalize grow (redrawn w3 dq) osq = w4 at E4 ⊢
  go_upto_region 6 with (fail)
  have s0 := fun d os => cell_regrown (show w4.cell? ⟨gS, 0, none⟩ = some (.int .i64 X.next) from Sits_at E4.out.sits hbS rfl) d os
  have s1 := fun d os => cell_regrown (show w4.cell? ⟨gS, 1, none⟩ = some (.slice A1 X.inodes.length c1) from Sits_at E4.out.sits hbS rfl) d os
  have s2 := fun d os => cell_regrown (show w4.cell? ⟨gS, 2, none⟩ = some (.slice A2 X.bads.length c2) from Sits_at E4.out.sits hbS rfl) d os
  refine wp_region_quiet_below (by kernel_rfl) (by kernel_rfl) ?_
  repeat (go_big_quiet_step (first | (go_at_call 25; exact quietCall (law15_way b (by have := HN.out; have := HB.out; omega) h2 _ (Ext.quiet E4.out.sits _ _).sits)) | (go_at_call 13; exact quietCall (path_Resolve X _ (wayW b) (by have := wayW_sz b; have := HN.out; have := HB.out; omega) true _ (FT.out b HB.out) h2 _ (Ext.quiet E4.out.sits _ _).sits R2.out))))
  refine wpQuiet_nil ?_
  intro _ hw'
  obtain ⟨⟨dq, osq⟩, hw''⟩ := hw'
  subst hw''
  clear s0 s1 s2
  have E5 := hid (E4.out.trans (Ext.quiet E4.out.sits dq osq))
  with_reducible generalize grow (redrawn w4 dq) osq = w5 at E5 ⊢
  have eqf := eqB_f
  have eqt := eqB_t
  rcases Nat.lt_trichotomy a b with hab | hab | hab
  · have K1 := hid (show decide (b ≤ a) = false from decide_eq_false (by omega))
    have K2 := hid (show decide (a ≤ b) = true from decide_eq_true (by omega))
    have KI1 := hid (fun w hs => path_Inside X _ ((a : Int) + 1) ((b : Int) + 1) false (by rw [FI.out a HA.out b HB.out]; exact K1.out) FL.out h2 w hs R2.out)
    have KI2 := hid (fun w hs => path_Inside X _ ((b : Int) + 1) ((a : Int) + 1) true (by rw [FI.out b HB.out a HA.out]; exact K2.out) FL.out h2 w hs R2.out)
    have g1 : ∀ w : World, (binOp .geq 3 (.int .i64 a) (.int .i64 b)).run Tryd.prog w = .ok (.bool false) w := fun w => geq_run (by first | exact K1.out | omega) w
    have g2 : ∀ w : World, (binOp .geq 3 (.int .i64 b) (.int .i64 a)).run Tryd.prog w = .ok (.bool true) w := fun w => geq_run (by first | exact K2.out | omega) w
    have HAB := hid hab
    clear hab
    go_wp2_with (first | (go_at_call 9; refine (law15_awake h2 w5 E5.out.sits).mono ?_; rintro e w6 ⟨rfl, F6⟩; have E6 := hid (E5.out.trans F6); have s0 : w6.cell? ⟨gS, 0, none⟩ = some (.int .i64 X.next) := Sits_at E6.out.sits hbS rfl; have s1 : w6.cell? ⟨gS, 1, none⟩ = some (.slice A1 X.inodes.length c1) := Sits_at E6.out.sits hbS rfl; have s2 : w6.cell? ⟨gS, 2, none⟩ = some (.slice A2 X.bads.length c2) := Sits_at E6.out.sits hbS rfl; clear F6) | (go_at_call 17; have E7' := E7; (with_reducible refine (KI2.out w7 E7'.out.sits).mono ?_); rintro e w8 ⟨rfl, F8⟩; have E8 := hid (E7'.out.trans F8); clear F8 s0 s1 s2) | (go_at_call 17; (with_reducible refine (KI1.out w6 E6.out.sits).mono ?_); rintro e w7 ⟨rfl, F7⟩; have E7 := hid (E6.out.trans F7); clear F7 s0 s1 s2; have s0 : w7.cell? ⟨gS, 0, none⟩ = some (.int .i64 X.next) := Sits_at E7.out.sits hbS rfl; have s1 : w7.cell? ⟨gS, 1, none⟩ = some (.slice A1 X.inodes.length c1) := Sits_at E7.out.sits hbS rfl; have s2 : w7.cell? ⟨gS, 2, none⟩ = some (.slice A2 X.bads.length c2) := Sits_at E7.out.sits hbS rfl))
    all_goals first
      | ((exfalso; have q := HAB.out; omega))
      | (go_ret
         refine ⟨?_, E8.out.back⟩
         first
        | rfl
        | (show Ending.returned (.bool (!decide (b ≤ a) && decide (a ≤ b))) = _; (try rw [K1.out]); (try rw [K2.out]); rfl)
        | (show Ending.returned (.bool (decide (a ≤ b))) = _; (try rw [K1.out]); (try rw [K2.out]); rfl)
        | (show Ending.returned (.bool (decide (b ≤ a) && !decide (a ≤ b))) = _; (try rw [K1.out]); (try rw [K2.out]); rfl)
        | (show Ending.returned (.bool (!decide (a ≤ b))) = _; (try rw [K1.out]); (try rw [K2.out]); rfl)
        | (show Ending.returned (.bool (decide (b ≤ a))) = _; (try rw [K1.out]); (try rw [K2.out]); rfl))
  · subst hab
    have K1 := hid (show decide (a ≤ a) = true from decide_eq_true (Nat.le_refl _))
    have K2 := hid (show decide (a ≤ a) = true from decide_eq_true (Nat.le_refl _))
    have KI1 := hid (fun w hs => path_Inside X _ ((a : Int) + 1) ((a : Int) + 1) true (by rw [FI.out a HA.out a HA.out]; exact K1.out) FL.out h2 w hs R2.out)
    have KI2 := hid (fun w hs => path_Inside X _ ((a : Int) + 1) ((a : Int) + 1) true (by rw [FI.out a HA.out a HA.out]; exact K2.out) FL.out h2 w hs R2.out)
    have g1 : ∀ w : World, (binOp .geq 3 (.int .i64 a) (.int .i64 a)).run Tryd.prog w = .ok (.bool true) w := fun w => geq_run (by first | exact K1.out | omega) w
    have g2 : ∀ w : World, (binOp .geq 3 (.int .i64 a) (.int .i64 a)).run Tryd.prog w = .ok (.bool true) w := fun w => geq_run (by first | exact K2.out | omega) w
    go_wp2_with (first | (go_at_call 9; refine (law15_awake h2 w5 E5.out.sits).mono ?_; rintro e w6 ⟨rfl, F6⟩; have E6 := hid (E5.out.trans F6); have s0 : w6.cell? ⟨gS, 0, none⟩ = some (.int .i64 X.next) := Sits_at E6.out.sits hbS rfl; have s1 : w6.cell? ⟨gS, 1, none⟩ = some (.slice A1 X.inodes.length c1) := Sits_at E6.out.sits hbS rfl; have s2 : w6.cell? ⟨gS, 2, none⟩ = some (.slice A2 X.bads.length c2) := Sits_at E6.out.sits hbS rfl; clear F6) | (go_at_call 17; have E7' := E7; (with_reducible refine (KI2.out w7 E7'.out.sits).mono ?_); rintro e w8 ⟨rfl, F8⟩; have E8 := hid (E7'.out.trans F8); clear F8 s0 s1 s2) | (go_at_call 17; (with_reducible refine (KI1.out w6 E6.out.sits).mono ?_); rintro e w7 ⟨rfl, F7⟩; have E7 := hid (E6.out.trans F7); clear F7 s0 s1 s2; have s0 : w7.cell? ⟨gS, 0, none⟩ = some (.int .i64 X.next) := Sits_at E7.out.sits hbS rfl; have s1 : w7.cell? ⟨gS, 1, none⟩ = some (.slice A1 X.inodes.length c1) := Sits_at E7.out.sits hbS rfl; have s2 : w7.cell? ⟨gS, 2, none⟩ = some (.slice A2 X.bads.length c2) := Sits_at E7.out.sits hbS rfl))
    all_goals first
      | (fail)
      | (go_ret
         refine ⟨?_, E8.out.back⟩
         first
        | rfl
        | (show Ending.returned (.bool (!decide (b ≤ a) && decide (a ≤ b))) = _; (try rw [K1.out]); (try rw [K2.out]); rfl)
        | (show Ending.returned (.bool (decide (a ≤ b))) = _; (try rw [K1.out]); (try rw [K2.out]); rfl)
        | (show Ending.returned (.bool (decide (b ≤ a) && !decide (a ≤ b))) = _; (try rw [K1.out]); (try rw [K2.out]); rfl)
        | (show Ending.returned (.bool (!decide (a ≤ b))) = _; (try rw [K1.out]); (try rw [K2.out]); rfl)
        | (show Ending.returned (.bool (decide (b ≤ a))) = _; (try rw [K1.out]); (try rw [K2.out]); rfl))
  · have K1 := hid (show decide (b ≤ a) = true from decide_eq_true (by omega))
    have K2 := hid (show decide (a ≤ b) = false from decide_eq_false (by omega))
    have KI1 := hid (fun w hs => path_Inside X _ ((a : Int) + 1) ((b : Int) + 1) true (by rw [FI.out a HA.out b HB.out]; exact K1.out) FL.out h2 w hs R2.out)
    have KI2 := hid (fun w hs => path_Inside X _ ((b : Int) + 1) ((a : Int) + 1) false (by rw [FI.out b HB.out a HA.out]; exact K2.out) FL.out h2 w hs R2.out)
    have g1 : ∀ w : World, (binOp .geq 3 (.int .i64 a) (.int .i64 b)).run Tryd.prog w = .ok (.bool true) w := fun w => geq_run (by first | exact K1.out | omega) w
    have g2 : ∀ w : World, (binOp .geq 3 (.int .i64 b) (.int .i64 a)).run Tryd.prog w = .ok (.bool false) w := fun w => geq_run (by first | exact K2.out | omega) w
    have HAB := hid hab
    clear hab
    go_wp2_with (first | (go_at_call 9; refine (law15_awake h2 w5 E5.out.sits).mono ?_; rintro e w6 ⟨rfl, F6⟩; have E6 := hid (E5.out.trans F6); have s0 : w6.cell? ⟨gS, 0, none⟩ = some (.int .i64 X.next) := Sits_at E6.out.sits hbS rfl; have s1 : w6.cell? ⟨gS, 1, none⟩ = some (.slice A1 X.inodes.length c1) := Sits_at E6.out.sits hbS rfl; have s2 : w6.cell? ⟨gS, 2, none⟩ = some (.slice A2 X.bads.length c2) := Sits_at E6.out.sits hbS rfl; clear F6) | (go_at_call 17; have E7' := E7; (with_reducible refine (KI2.out w7 E7'.out.sits).mono ?_); rintro e w8 ⟨rfl, F8⟩; have E8 := hid (E7'.out.trans F8); clear F8 s0 s1 s2) | (go_at_call 17; (with_reducible refine (KI1.out w6 E6.out.sits).mono ?_); rintro e w7 ⟨rfl, F7⟩; have E7 := hid (E6.out.trans F7); clear F7 s0 s1 s2; have s0 : w7.cell? ⟨gS, 0, none⟩ = some (.int .i64 X.next) := Sits_at E7.out.sits hbS rfl; have s1 : w7.cell? ⟨gS, 1, none⟩ = some (.slice A1 X.inodes.length c1) := Sits_at E7.out.sits hbS rfl; have s2 : w7.cell? ⟨gS, 2, none⟩ = some (.slice A2 X.bads.length c2) := Sits_at E7.out.sits hbS rfl))
    all_goals first
      | ((exfalso; have q := HAB.out; omega))
      | (go_ret
         refine ⟨?_, E8.out.back⟩
         first
        | rfl
        | (show Ending.returned (.bool (!decide (b ≤ a) && decide (a ≤ b))) = _; (try rw [K1.out]); (try rw [K2.out]); rfl)
        | (show Ending.returned (.bool (decide (a ≤ b))) = _; (try rw [K1.out]); (try rw [K2.out]); rfl)
        | (show Ending.returned (.bool (decide (b ≤ a) && !decide (a ≤ b))) = _; (try rw [K1.out]); (try rw [K2.out]); rfl)
        | (show Ending.returned (.bool (!decide (a ≤ b))) = _; (try rw [K1.out]); (try rw [K2.out]); rfl)
        | (show Ending.returned (.bool (decide (b ≤ a))) = _; (try rw [K1.out]); (try rw [K2.out]); rfl))
end Go.Proofs.YtcnbnehammbncaaDoor
