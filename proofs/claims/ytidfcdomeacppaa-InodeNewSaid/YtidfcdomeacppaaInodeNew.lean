/- The walk of the law InodeNew. -/
import Derived.Test.YtidfcdomeacppaaSameI
namespace Go.Proofs.Ytidfcdomeacppaa
open Go.RowKit Go.Sort
set_option linter.unusedVariables false
theorem bool_eq2 (q : Bool) : ∀ w : World, (binOp .eql 4 (.bool q) (.bool q)).run Try.prog w = .ok (.bool true) w := fun w => by cases q <;> kernel_rfl
theorem decide_no (no : Int) : decide (0 < no) = decide (1 ≤ no) := decide_eq_decide.2 (by omega)
set_option maxHeartbeats 4000000 in
set_option maxRecDepth 100000 in
theorem InodeNew_walk_0 (no : Int) (s : ByteArray) (W : World) (hsz : s.size ≤ 9223372036854775807) :
    Calls Try.prog 4 #[.int .i64 no, .int .i64 1, .string s] W fun e w' => e = .returned (.bool true) ∧ Ext (fhOf W) W (fhOf W) w' := by
  have hs := Sits.all W
  have E0 := Ext.refl hs
  obtain ⟨q, hq⟩ : ∃ q, decide (1 ≤ no) = q := ⟨_, rfl⟩
  have hR : rightI (newI no 1 s) = q := by rw [← hq]; simp [rightI, newI, fileB, noText, decide_no, rightB]
  have hV : newV no 1 s = .agg #[.int .i64 no, .int .i64 1, .int .i64 1, .int .i64 0, .string ⟨#[]⟩, .slice none 0 0, .slice none 0 0] := by unfold newV newI; rfl
  have hS : statV (newI no 1 s) = .agg #[.int .i64 no, .int .i64 1, .int .i64 1, .int .i64 0, .int .i64 0] := by unfold statV newI; rfl
  have hrep : repInode (fhOf W) [.int .i64 no, .int .i64 1, .int .i64 1, .int .i64 0, .string ⟨#[]⟩, .slice none 0 0, .slice none 0 0] (newI no 1 s) := by
    obtain ⟨ns, hns, hr⟩ := newV_rep (fhOf W) no 1 s hsz
    rw [hV] at hns
    have e : ns = [.int .i64 no, .int .i64 1, .int .i64 1, .int .i64 0, .string ⟨#[]⟩, .slice none 0 0, .slice none 0 0] := by
      have := congrArg (fun v => match v with | .agg a => a.toList | _ => []) hns
      simpa using this.symm
    rw [← e]; exact hr
  have KA := hid (fun w hs => law12_awake (fhOf W) w hs)
  have K1 := hid (fun w hs => inode_New no 1 s hsz (fhOf W) w hs)
  have K3 := hid (fun w hs => inode_Stat _ _ (fhOf W) w hs hrep)
  have K4 := hid (fun w hs => inode_Right _ _ q hR (fhOf W) w hs hrep)
  rw [hV] at K1
  rw [hS] at K3
  clear hR hV hS hrep
  have HQ := hid hq
  clear hq
  by_cases h500 : (500 : Int) < s.size
  · go_enter Try.func4, Try.ntmps4
    go_wp2_with fail
    refine (KA.out _ hs).mono ?_
    rintro e w2 ⟨rfl, E1⟩
    go_wp2_with fail
    go_ret
    exact ⟨rfl, E1⟩
  · go_enter Try.func4, Try.ntmps4
    go_wp2_with fail
    refine (K1.out _ hs).mono ?_
    rintro e w1 ⟨rfl, E1⟩
    have E2 := E1.alloc (.cells #[.int .i64 no, .int .i64 1, .int .i64 1, .int .i64 0, .string ⟨#[]⟩, .slice none 0 0, .slice none 0 0] 25)
    have z0 : (w1.alloc (.cells #[.int .i64 no, .int .i64 1, .int .i64 1, .int .i64 0, .string ⟨#[]⟩, .slice none 0 0, .slice none 0 0] 25)).cell? ⟨w1.heap.size, 0, none⟩ = some (.int .i64 no) := by go_simp
    have z1 : (w1.alloc (.cells #[.int .i64 no, .int .i64 1, .int .i64 1, .int .i64 0, .string ⟨#[]⟩, .slice none 0 0, .slice none 0 0] 25)).cell? ⟨w1.heap.size, 1, none⟩ = some (.int .i64 1) := by go_simp
    have z2 : (w1.alloc (.cells #[.int .i64 no, .int .i64 1, .int .i64 1, .int .i64 0, .string ⟨#[]⟩, .slice none 0 0, .slice none 0 0] 25)).cell? ⟨w1.heap.size, 2, none⟩ = some (.int .i64 1) := by go_simp
    have z3 : (w1.alloc (.cells #[.int .i64 no, .int .i64 1, .int .i64 1, .int .i64 0, .string ⟨#[]⟩, .slice none 0 0, .slice none 0 0] 25)).cell? ⟨w1.heap.size, 3, none⟩ = some (.int .i64 0) := by go_simp
    have z4 : (w1.alloc (.cells #[.int .i64 no, .int .i64 1, .int .i64 1, .int .i64 0, .string ⟨#[]⟩, .slice none 0 0, .slice none 0 0] 25)).cell? ⟨w1.heap.size, 4, none⟩ = some (.string ⟨#[]⟩) := by go_simp
    have z5 : (w1.alloc (.cells #[.int .i64 no, .int .i64 1, .int .i64 1, .int .i64 0, .string ⟨#[]⟩, .slice none 0 0, .slice none 0 0] 25)).cell? ⟨w1.heap.size, 5, none⟩ = some (.slice none 0 0) := by go_simp
    have z6 : (w1.alloc (.cells #[.int .i64 no, .int .i64 1, .int .i64 1, .int .i64 0, .string ⟨#[]⟩, .slice none 0 0, .slice none 0 0] 25)).cell? ⟨w1.heap.size, 6, none⟩ = some (.slice none 0 0) := by go_simp
    go_upto_region 4 with (fail)
    generalize (w1.alloc (.cells #[.int .i64 no, .int .i64 1, .int .i64 1, .int .i64 0, .string ⟨#[]⟩, .slice none 0 0, .slice none 0 0] 25)) = w2 at *
    generalize w1.heap.size = g at *
    go_cut [8] (fun s8 wx => s8 = .bool q ∧ Ext (fhOf W) w2 (fhOf W) wx)
    case first =>
      by_cases hno : (1 : Int) ≤ no
      · have HQ2 := hid (show true = q by rw [← HQ.out] <;> simp [hno])
        go_wp2_with (fail)
        all_goals
          go_meet
          exact ⟨ret_val6 HQ2.out, by first | exact E3 | exact Ext.refl E2.sits⟩
      · have HQ2 := hid (show false = q by rw [← HQ.out] <;> simp [hno])
        go_wp2_with fail
        all_goals
          go_meet
          exact ⟨ret_val6 HQ2.out, Ext.refl E2.sits⟩
    case rest =>
      obtain ⟨rfl, E3⟩ := hcut
      have E4 := E2.trans E3
      have y0 := E3.keep z0
      have y1 := E3.keep z1
      have y2 := E3.keep z2
      have y3 := E3.keep z3
      have y4 := E3.keep z4
      have y5 := E3.keep z5
      have y6 := E3.keep z6
      go_wp2_with fail
      refine (K3.out _ E4.sits).mono ?_
      rintro e w3 ⟨rfl, E5⟩
      have E6 := (E4.trans E5).alloc (.cells #[.int .i64 no, .int .i64 1, .int .i64 1, .int .i64 0, .int .i64 0] 31)
      have x0 : (w3.alloc (.cells #[.int .i64 no, .int .i64 1, .int .i64 1, .int .i64 0, .int .i64 0] 31)).cell? ⟨w3.heap.size, 0, none⟩ = some (.int .i64 no) := by go_simp
      have x1 : (w3.alloc (.cells #[.int .i64 no, .int .i64 1, .int .i64 1, .int .i64 0, .int .i64 0] 31)).cell? ⟨w3.heap.size, 1, none⟩ = some (.int .i64 1) := by go_simp
      have x2 : (w3.alloc (.cells #[.int .i64 no, .int .i64 1, .int .i64 1, .int .i64 0, .int .i64 0] 31)).cell? ⟨w3.heap.size, 2, none⟩ = some (.int .i64 1) := by go_simp
      have x3 : (w3.alloc (.cells #[.int .i64 no, .int .i64 1, .int .i64 1, .int .i64 0, .int .i64 0] 31)).cell? ⟨w3.heap.size, 3, none⟩ = some (.int .i64 0) := by go_simp
      have x4 : (w3.alloc (.cells #[.int .i64 no, .int .i64 1, .int .i64 1, .int .i64 0, .int .i64 0] 31)).cell? ⟨w3.heap.size, 4, none⟩ = some (.int .i64 0) := by go_simp
      have u0 := keep1 (E5.keep y0) (.cells #[.int .i64 no, .int .i64 1, .int .i64 1, .int .i64 0, .int .i64 0] 31)
      have u1 := keep1 (E5.keep y1) (.cells #[.int .i64 no, .int .i64 1, .int .i64 1, .int .i64 0, .int .i64 0] 31)
      have u2 := keep1 (E5.keep y2) (.cells #[.int .i64 no, .int .i64 1, .int .i64 1, .int .i64 0, .int .i64 0] 31)
      have u3 := keep1 (E5.keep y3) (.cells #[.int .i64 no, .int .i64 1, .int .i64 1, .int .i64 0, .int .i64 0] 31)
      have u4 := keep1 (E5.keep y4) (.cells #[.int .i64 no, .int .i64 1, .int .i64 1, .int .i64 0, .int .i64 0] 31)
      have u5 := keep1 (E5.keep y5) (.cells #[.int .i64 no, .int .i64 1, .int .i64 1, .int .i64 0, .int .i64 0] 31)
      have u6 := keep1 (E5.keep y6) (.cells #[.int .i64 no, .int .i64 1, .int .i64 1, .int .i64 0, .int .i64 0] 31)
      go_upto_region 9 with (fail)
      generalize (w3.alloc (.cells #[.int .i64 no, .int .i64 1, .int .i64 1, .int .i64 0, .int .i64 0] 31)) = w4 at *
      generalize w3.heap.size = g2 at *
      clear E4 E5 E2 E3 E1
      go_wp2_with fail
      refine (KA.out _ E6.sits).mono ?_
      rintro e w5 ⟨rfl, E7⟩
      have E8 := E6.trans E7
      have t1 := E7.keep x1
      have t3 := E7.keep x3
      have t4 := E7.keep x4
      have r0 := E7.keep u0
      have r1 := E7.keep u1
      have r2 := E7.keep u2
      have r3 := E7.keep u3
      have r4 := E7.keep u4
      have r5 := E7.keep u5
      have r6 := E7.keep u6
      go_wp2_with fail
      refine (K4.out _ E8.sits).mono ?_
      rintro e w6 ⟨rfl, E9⟩
      have v1 := E9.keep t1
      have v3 := E9.keep t3
      have v4 := E9.keep t4
      have hqq := bool_eq2 q
      go_wp2_with fail
      go_ret
      exact ⟨rfl, E8.trans E9⟩
set_option maxHeartbeats 4000000 in
set_option maxRecDepth 100000 in
theorem InodeNew_walk_1 (no : Int) (s : ByteArray) (W : World) (hsz : s.size ≤ 9223372036854775807) :
    Calls Try.prog 4 #[.int .i64 no, .int .i64 2, .string s] W fun e w' => e = .returned (.bool true) ∧ Ext (fhOf W) W (fhOf W) w' := by
  have hs := Sits.all W
  have E0 := Ext.refl hs
  obtain ⟨q, hq⟩ : ∃ q, decide (1 ≤ no) = q := ⟨_, rfl⟩
  have hR : rightI (newI no 2 s) = q := by rw [← hq]; simp [rightI, newI, dirB, noText, decide_no, rightE]
  have hV : newV no 2 s = .agg #[.int .i64 no, .int .i64 2, .int .i64 2, .int .i64 0, .string ⟨#[]⟩, .slice none 0 0, .slice none 0 0] := by unfold newV newI; rfl
  have hS : statV (newI no 2 s) = .agg #[.int .i64 no, .int .i64 2, .int .i64 2, .int .i64 0, .int .i64 0] := by unfold statV newI; rfl
  have hrep : repInode (fhOf W) [.int .i64 no, .int .i64 2, .int .i64 2, .int .i64 0, .string ⟨#[]⟩, .slice none 0 0, .slice none 0 0] (newI no 2 s) := by
    obtain ⟨ns, hns, hr⟩ := newV_rep (fhOf W) no 2 s hsz
    rw [hV] at hns
    have e : ns = [.int .i64 no, .int .i64 2, .int .i64 2, .int .i64 0, .string ⟨#[]⟩, .slice none 0 0, .slice none 0 0] := by
      have := congrArg (fun v => match v with | .agg a => a.toList | _ => []) hns
      simpa using this.symm
    rw [← e]; exact hr
  have KA := hid (fun w hs => law12_awake (fhOf W) w hs)
  have K1 := hid (fun w hs => inode_New no 2 s hsz (fhOf W) w hs)
  have K3 := hid (fun w hs => inode_Stat _ _ (fhOf W) w hs hrep)
  have K4 := hid (fun w hs => inode_Right _ _ q hR (fhOf W) w hs hrep)
  rw [hV] at K1
  rw [hS] at K3
  clear hR hV hS hrep
  have HQ := hid hq
  clear hq
  by_cases h500 : (500 : Int) < s.size
  · go_enter Try.func4, Try.ntmps4
    go_wp2_with fail
    refine (KA.out _ hs).mono ?_
    rintro e w2 ⟨rfl, E1⟩
    go_wp2_with fail
    go_ret
    exact ⟨rfl, E1⟩
  · go_enter Try.func4, Try.ntmps4
    go_wp2_with fail
    refine (K1.out _ hs).mono ?_
    rintro e w1 ⟨rfl, E1⟩
    have E2 := E1.alloc (.cells #[.int .i64 no, .int .i64 2, .int .i64 2, .int .i64 0, .string ⟨#[]⟩, .slice none 0 0, .slice none 0 0] 25)
    have z0 : (w1.alloc (.cells #[.int .i64 no, .int .i64 2, .int .i64 2, .int .i64 0, .string ⟨#[]⟩, .slice none 0 0, .slice none 0 0] 25)).cell? ⟨w1.heap.size, 0, none⟩ = some (.int .i64 no) := by go_simp
    have z1 : (w1.alloc (.cells #[.int .i64 no, .int .i64 2, .int .i64 2, .int .i64 0, .string ⟨#[]⟩, .slice none 0 0, .slice none 0 0] 25)).cell? ⟨w1.heap.size, 1, none⟩ = some (.int .i64 2) := by go_simp
    have z2 : (w1.alloc (.cells #[.int .i64 no, .int .i64 2, .int .i64 2, .int .i64 0, .string ⟨#[]⟩, .slice none 0 0, .slice none 0 0] 25)).cell? ⟨w1.heap.size, 2, none⟩ = some (.int .i64 2) := by go_simp
    have z3 : (w1.alloc (.cells #[.int .i64 no, .int .i64 2, .int .i64 2, .int .i64 0, .string ⟨#[]⟩, .slice none 0 0, .slice none 0 0] 25)).cell? ⟨w1.heap.size, 3, none⟩ = some (.int .i64 0) := by go_simp
    have z4 : (w1.alloc (.cells #[.int .i64 no, .int .i64 2, .int .i64 2, .int .i64 0, .string ⟨#[]⟩, .slice none 0 0, .slice none 0 0] 25)).cell? ⟨w1.heap.size, 4, none⟩ = some (.string ⟨#[]⟩) := by go_simp
    have z5 : (w1.alloc (.cells #[.int .i64 no, .int .i64 2, .int .i64 2, .int .i64 0, .string ⟨#[]⟩, .slice none 0 0, .slice none 0 0] 25)).cell? ⟨w1.heap.size, 5, none⟩ = some (.slice none 0 0) := by go_simp
    have z6 : (w1.alloc (.cells #[.int .i64 no, .int .i64 2, .int .i64 2, .int .i64 0, .string ⟨#[]⟩, .slice none 0 0, .slice none 0 0] 25)).cell? ⟨w1.heap.size, 6, none⟩ = some (.slice none 0 0) := by go_simp
    go_upto_region 4 with (fail)
    generalize (w1.alloc (.cells #[.int .i64 no, .int .i64 2, .int .i64 2, .int .i64 0, .string ⟨#[]⟩, .slice none 0 0, .slice none 0 0] 25)) = w2 at *
    generalize w1.heap.size = g at *
    go_cut [8] (fun s8 wx => s8 = .bool q ∧ Ext (fhOf W) w2 (fhOf W) wx)
    case first =>
      by_cases hno : (1 : Int) ≤ no
      · have HQ2 := hid (show true = q by rw [← HQ.out] <;> simp [hno])
        go_wp2_with (fail)
        all_goals
          go_meet
          exact ⟨ret_val6 HQ2.out, by first | exact E3 | exact Ext.refl E2.sits⟩
      · have HQ2 := hid (show false = q by rw [← HQ.out] <;> simp [hno])
        go_wp2_with fail
        all_goals
          go_meet
          exact ⟨ret_val6 HQ2.out, Ext.refl E2.sits⟩
    case rest =>
      obtain ⟨rfl, E3⟩ := hcut
      have E4 := E2.trans E3
      have y0 := E3.keep z0
      have y1 := E3.keep z1
      have y2 := E3.keep z2
      have y3 := E3.keep z3
      have y4 := E3.keep z4
      have y5 := E3.keep z5
      have y6 := E3.keep z6
      go_wp2_with fail
      refine (K3.out _ E4.sits).mono ?_
      rintro e w3 ⟨rfl, E5⟩
      have E6 := (E4.trans E5).alloc (.cells #[.int .i64 no, .int .i64 2, .int .i64 2, .int .i64 0, .int .i64 0] 31)
      have x0 : (w3.alloc (.cells #[.int .i64 no, .int .i64 2, .int .i64 2, .int .i64 0, .int .i64 0] 31)).cell? ⟨w3.heap.size, 0, none⟩ = some (.int .i64 no) := by go_simp
      have x1 : (w3.alloc (.cells #[.int .i64 no, .int .i64 2, .int .i64 2, .int .i64 0, .int .i64 0] 31)).cell? ⟨w3.heap.size, 1, none⟩ = some (.int .i64 2) := by go_simp
      have x2 : (w3.alloc (.cells #[.int .i64 no, .int .i64 2, .int .i64 2, .int .i64 0, .int .i64 0] 31)).cell? ⟨w3.heap.size, 2, none⟩ = some (.int .i64 2) := by go_simp
      have x3 : (w3.alloc (.cells #[.int .i64 no, .int .i64 2, .int .i64 2, .int .i64 0, .int .i64 0] 31)).cell? ⟨w3.heap.size, 3, none⟩ = some (.int .i64 0) := by go_simp
      have x4 : (w3.alloc (.cells #[.int .i64 no, .int .i64 2, .int .i64 2, .int .i64 0, .int .i64 0] 31)).cell? ⟨w3.heap.size, 4, none⟩ = some (.int .i64 0) := by go_simp
      have u0 := keep1 (E5.keep y0) (.cells #[.int .i64 no, .int .i64 2, .int .i64 2, .int .i64 0, .int .i64 0] 31)
      have u1 := keep1 (E5.keep y1) (.cells #[.int .i64 no, .int .i64 2, .int .i64 2, .int .i64 0, .int .i64 0] 31)
      have u2 := keep1 (E5.keep y2) (.cells #[.int .i64 no, .int .i64 2, .int .i64 2, .int .i64 0, .int .i64 0] 31)
      have u3 := keep1 (E5.keep y3) (.cells #[.int .i64 no, .int .i64 2, .int .i64 2, .int .i64 0, .int .i64 0] 31)
      have u4 := keep1 (E5.keep y4) (.cells #[.int .i64 no, .int .i64 2, .int .i64 2, .int .i64 0, .int .i64 0] 31)
      have u5 := keep1 (E5.keep y5) (.cells #[.int .i64 no, .int .i64 2, .int .i64 2, .int .i64 0, .int .i64 0] 31)
      have u6 := keep1 (E5.keep y6) (.cells #[.int .i64 no, .int .i64 2, .int .i64 2, .int .i64 0, .int .i64 0] 31)
      go_upto_region 9 with (fail)
      generalize (w3.alloc (.cells #[.int .i64 no, .int .i64 2, .int .i64 2, .int .i64 0, .int .i64 0] 31)) = w4 at *
      generalize w3.heap.size = g2 at *
      clear E4 E5 E2 E3 E1
      go_wp2_with fail
      refine (KA.out _ E6.sits).mono ?_
      rintro e w5 ⟨rfl, E7⟩
      have E8 := E6.trans E7
      have t1 := E7.keep x1
      have t3 := E7.keep x3
      have t4 := E7.keep x4
      have r0 := E7.keep u0
      have r1 := E7.keep u1
      have r2 := E7.keep u2
      have r3 := E7.keep u3
      have r4 := E7.keep u4
      have r5 := E7.keep u5
      have r6 := E7.keep u6
      go_wp2_with fail
      refine (K4.out _ E8.sits).mono ?_
      rintro e w6 ⟨rfl, E9⟩
      have v1 := E9.keep t1
      have v3 := E9.keep t3
      have v4 := E9.keep t4
      have hqq := bool_eq2 q
      go_wp2_with fail
      go_ret
      exact ⟨rfl, E8.trans E9⟩
set_option maxHeartbeats 4000000 in
set_option maxRecDepth 100000 in
theorem InodeNew_walk_2 (no : Int) (s : ByteArray) (W : World) (hsz : s.size ≤ 9223372036854775807) :
    Calls Try.prog 4 #[.int .i64 no, .int .i64 3, .string s] W fun e w' => e = .returned (.bool true) ∧ Ext (fhOf W) W (fhOf W) w' := by
  have hs := Sits.all W
  have E0 := Ext.refl hs
  obtain ⟨q, hq⟩ : ∃ q, (decide (1 ≤ no) && targetB s) = q := ⟨_, rfl⟩
  obtain ⟨tq, htq⟩ : ∃ q, targetB s = q := ⟨_, rfl⟩
  have hR : rightI (newI no 3 s) = q := by rw [← hq]; simp only [rightI, newI, linkB_target]; simp [decide_no]
  have hV : newV no 3 s = .agg #[.int .i64 no, .int .i64 3, .int .i64 1, .int .i64 (s.size : Int), .string s, .slice none 0 0, .slice none 0 0] := by unfold newV newI; rfl
  have hS : statV (newI no 3 s) = .agg #[.int .i64 no, .int .i64 3, .int .i64 1, .int .i64 (s.size : Int), .int .i64 0] := by unfold statV newI; rfl
  have hrep : repInode (fhOf W) [.int .i64 no, .int .i64 3, .int .i64 1, .int .i64 (s.size : Int), .string s, .slice none 0 0, .slice none 0 0] (newI no 3 s) := by
    obtain ⟨ns, hns, hr⟩ := newV_rep (fhOf W) no 3 s hsz
    rw [hV] at hns
    have e : ns = [.int .i64 no, .int .i64 3, .int .i64 1, .int .i64 (s.size : Int), .string s, .slice none 0 0, .slice none 0 0] := by
      have := congrArg (fun v => match v with | .agg a => a.toList | _ => []) hns
      simpa using this.symm
    rw [← e]; exact hr
  have KA := hid (fun w hs => law12_awake (fhOf W) w hs)
  have K1 := hid (fun w hs => inode_New no 3 s hsz (fhOf W) w hs)
  have K2 := hid (fun w hs => ref_RightTarget s hsz tq htq (fhOf W) w hs)
  have K3 := hid (fun w hs => inode_Stat _ _ (fhOf W) w hs hrep)
  have K4 := hid (fun w hs => inode_Right _ _ q hR (fhOf W) w hs hrep)
  rw [hV] at K1
  rw [hS] at K3
  clear hR hV hS hrep
  rw [htq] at hq
  have HQ := hid hq
  clear hq htq
  by_cases h500 : (500 : Int) < s.size
  · go_enter Try.func4, Try.ntmps4
    go_wp2_with fail
    refine (KA.out _ hs).mono ?_
    rintro e w2 ⟨rfl, E1⟩
    go_wp2_with fail
    go_ret
    exact ⟨rfl, E1⟩
  · go_enter Try.func4, Try.ntmps4
    go_wp2_with fail
    refine (K1.out _ hs).mono ?_
    rintro e w1 ⟨rfl, E1⟩
    have E2 := E1.alloc (.cells #[.int .i64 no, .int .i64 3, .int .i64 1, .int .i64 (s.size : Int), .string s, .slice none 0 0, .slice none 0 0] 25)
    have z0 : (w1.alloc (.cells #[.int .i64 no, .int .i64 3, .int .i64 1, .int .i64 (s.size : Int), .string s, .slice none 0 0, .slice none 0 0] 25)).cell? ⟨w1.heap.size, 0, none⟩ = some (.int .i64 no) := by go_simp
    have z1 : (w1.alloc (.cells #[.int .i64 no, .int .i64 3, .int .i64 1, .int .i64 (s.size : Int), .string s, .slice none 0 0, .slice none 0 0] 25)).cell? ⟨w1.heap.size, 1, none⟩ = some (.int .i64 3) := by go_simp
    have z2 : (w1.alloc (.cells #[.int .i64 no, .int .i64 3, .int .i64 1, .int .i64 (s.size : Int), .string s, .slice none 0 0, .slice none 0 0] 25)).cell? ⟨w1.heap.size, 2, none⟩ = some (.int .i64 1) := by go_simp
    have z3 : (w1.alloc (.cells #[.int .i64 no, .int .i64 3, .int .i64 1, .int .i64 (s.size : Int), .string s, .slice none 0 0, .slice none 0 0] 25)).cell? ⟨w1.heap.size, 3, none⟩ = some (.int .i64 (s.size : Int)) := by go_simp
    have z4 : (w1.alloc (.cells #[.int .i64 no, .int .i64 3, .int .i64 1, .int .i64 (s.size : Int), .string s, .slice none 0 0, .slice none 0 0] 25)).cell? ⟨w1.heap.size, 4, none⟩ = some (.string s) := by go_simp
    have z5 : (w1.alloc (.cells #[.int .i64 no, .int .i64 3, .int .i64 1, .int .i64 (s.size : Int), .string s, .slice none 0 0, .slice none 0 0] 25)).cell? ⟨w1.heap.size, 5, none⟩ = some (.slice none 0 0) := by go_simp
    have z6 : (w1.alloc (.cells #[.int .i64 no, .int .i64 3, .int .i64 1, .int .i64 (s.size : Int), .string s, .slice none 0 0, .slice none 0 0] 25)).cell? ⟨w1.heap.size, 6, none⟩ = some (.slice none 0 0) := by go_simp
    go_upto_region 4 with (fail)
    generalize (w1.alloc (.cells #[.int .i64 no, .int .i64 3, .int .i64 1, .int .i64 (s.size : Int), .string s, .slice none 0 0, .slice none 0 0] 25)) = w2 at *
    generalize w1.heap.size = g at *
    go_cut [8] (fun s8 wx => s8 = .bool q ∧ Ext (fhOf W) w2 (fhOf W) wx)
    case first =>
      by_cases hno : (1 : Int) ≤ no
      · have HQ2 := hid (show tq = q by rw [← HQ.out] <;> simp [hno])
        go_wp2_with (go_at_call 19; refine (K2.out _ E2.sits).mono ?_; rintro e wb ⟨rfl, E3⟩)
        all_goals
          go_meet
          exact ⟨ret_val6 HQ2.out, by first | exact E3 | exact Ext.refl E2.sits⟩
      · have HQ2 := hid (show false = q by rw [← HQ.out] <;> simp [hno])
        go_wp2_with fail
        all_goals
          go_meet
          exact ⟨ret_val6 HQ2.out, Ext.refl E2.sits⟩
    case rest =>
      obtain ⟨rfl, E3⟩ := hcut
      have E4 := E2.trans E3
      have y0 := E3.keep z0
      have y1 := E3.keep z1
      have y2 := E3.keep z2
      have y3 := E3.keep z3
      have y4 := E3.keep z4
      have y5 := E3.keep z5
      have y6 := E3.keep z6
      go_wp2_with fail
      refine (K3.out _ E4.sits).mono ?_
      rintro e w3 ⟨rfl, E5⟩
      have E6 := (E4.trans E5).alloc (.cells #[.int .i64 no, .int .i64 3, .int .i64 1, .int .i64 (s.size : Int), .int .i64 0] 31)
      have x0 : (w3.alloc (.cells #[.int .i64 no, .int .i64 3, .int .i64 1, .int .i64 (s.size : Int), .int .i64 0] 31)).cell? ⟨w3.heap.size, 0, none⟩ = some (.int .i64 no) := by go_simp
      have x1 : (w3.alloc (.cells #[.int .i64 no, .int .i64 3, .int .i64 1, .int .i64 (s.size : Int), .int .i64 0] 31)).cell? ⟨w3.heap.size, 1, none⟩ = some (.int .i64 3) := by go_simp
      have x2 : (w3.alloc (.cells #[.int .i64 no, .int .i64 3, .int .i64 1, .int .i64 (s.size : Int), .int .i64 0] 31)).cell? ⟨w3.heap.size, 2, none⟩ = some (.int .i64 1) := by go_simp
      have x3 : (w3.alloc (.cells #[.int .i64 no, .int .i64 3, .int .i64 1, .int .i64 (s.size : Int), .int .i64 0] 31)).cell? ⟨w3.heap.size, 3, none⟩ = some (.int .i64 (s.size : Int)) := by go_simp
      have x4 : (w3.alloc (.cells #[.int .i64 no, .int .i64 3, .int .i64 1, .int .i64 (s.size : Int), .int .i64 0] 31)).cell? ⟨w3.heap.size, 4, none⟩ = some (.int .i64 0) := by go_simp
      have u0 := keep1 (E5.keep y0) (.cells #[.int .i64 no, .int .i64 3, .int .i64 1, .int .i64 (s.size : Int), .int .i64 0] 31)
      have u1 := keep1 (E5.keep y1) (.cells #[.int .i64 no, .int .i64 3, .int .i64 1, .int .i64 (s.size : Int), .int .i64 0] 31)
      have u2 := keep1 (E5.keep y2) (.cells #[.int .i64 no, .int .i64 3, .int .i64 1, .int .i64 (s.size : Int), .int .i64 0] 31)
      have u3 := keep1 (E5.keep y3) (.cells #[.int .i64 no, .int .i64 3, .int .i64 1, .int .i64 (s.size : Int), .int .i64 0] 31)
      have u4 := keep1 (E5.keep y4) (.cells #[.int .i64 no, .int .i64 3, .int .i64 1, .int .i64 (s.size : Int), .int .i64 0] 31)
      have u5 := keep1 (E5.keep y5) (.cells #[.int .i64 no, .int .i64 3, .int .i64 1, .int .i64 (s.size : Int), .int .i64 0] 31)
      have u6 := keep1 (E5.keep y6) (.cells #[.int .i64 no, .int .i64 3, .int .i64 1, .int .i64 (s.size : Int), .int .i64 0] 31)
      go_upto_region 9 with (fail)
      generalize (w3.alloc (.cells #[.int .i64 no, .int .i64 3, .int .i64 1, .int .i64 (s.size : Int), .int .i64 0] 31)) = w4 at *
      generalize w3.heap.size = g2 at *
      clear E4 E5 E2 E3 E1
      go_wp2_with fail
      refine (KA.out _ E6.sits).mono ?_
      rintro e w5 ⟨rfl, E7⟩
      have E8 := E6.trans E7
      have t1 := E7.keep x1
      have t3 := E7.keep x3
      have t4 := E7.keep x4
      have r0 := E7.keep u0
      have r1 := E7.keep u1
      have r2 := E7.keep u2
      have r3 := E7.keep u3
      have r4 := E7.keep u4
      have r5 := E7.keep u5
      have r6 := E7.keep u6
      go_wp2_with fail
      refine (K4.out _ E8.sits).mono ?_
      rintro e w6 ⟨rfl, E9⟩
      have v1 := E9.keep t1
      have v3 := E9.keep t3
      have v4 := E9.keep t4
      have hqq := bool_eq2 q
      go_wp2_with fail
      go_ret
      exact ⟨rfl, E8.trans E9⟩
set_option maxHeartbeats 4000000 in
set_option maxRecDepth 100000 in
theorem InodeNew_walk_3 (no : Int) (kind : Int) (s : ByteArray) (W : World) (hsz : s.size ≤ 9223372036854775807) (k1 : ¬ kind = 1) (k2 : ¬ kind = 2) (k3 : ¬ kind = 3) :
    Calls Try.prog 4 #[.int .i64 no, .int .i64 kind, .string s] W fun e w' => e = .returned (.bool true) ∧ Ext (fhOf W) W (fhOf W) w' := by
  have hs := Sits.all W
  have E0 := Ext.refl hs
  obtain ⟨q, hq⟩ : ∃ q, false = q := ⟨_, rfl⟩
  have hR : rightI (newI no kind s) = q := by rw [← hq]; simp [rightI, newI, k1, k2, k3]
  have hV : newV no kind s = .agg #[.int .i64 no, .int .i64 kind, .int .i64 1, .int .i64 0, .string ⟨#[]⟩, .slice none 0 0, .slice none 0 0] := by unfold newV newI; simp only [if_neg k2, if_neg k3]
  have hS : statV (newI no kind s) = .agg #[.int .i64 no, .int .i64 kind, .int .i64 1, .int .i64 0, .int .i64 0] := by unfold statV newI; simp only [if_neg k2, if_neg k3]; rfl
  have hrep : repInode (fhOf W) [.int .i64 no, .int .i64 kind, .int .i64 1, .int .i64 0, .string ⟨#[]⟩, .slice none 0 0, .slice none 0 0] (newI no kind s) := by
    obtain ⟨ns, hns, hr⟩ := newV_rep (fhOf W) no kind s hsz
    rw [hV] at hns
    have e : ns = [.int .i64 no, .int .i64 kind, .int .i64 1, .int .i64 0, .string ⟨#[]⟩, .slice none 0 0, .slice none 0 0] := by
      have := congrArg (fun v => match v with | .agg a => a.toList | _ => []) hns
      simpa using this.symm
    rw [← e]; exact hr
  have KA := hid (fun w hs => law12_awake (fhOf W) w hs)
  have K1 := hid (fun w hs => inode_New no kind s hsz (fhOf W) w hs)
  have K3 := hid (fun w hs => inode_Stat _ _ (fhOf W) w hs hrep)
  have K4 := hid (fun w hs => inode_Right _ _ q hR (fhOf W) w hs hrep)
  rw [hV] at K1
  rw [hS] at K3
  clear hR hV hS hrep
  have HQ := hid hq
  clear hq
  have g1 : (kind == 1) = false := by simpa using k1
  have g2 : (kind == 2) = false := by simpa using k2
  have g3 : (kind == 3) = false := by simpa using k3
  clear k1 k2 k3
  by_cases h500 : (500 : Int) < s.size
  · go_enter Try.func4, Try.ntmps4
    go_wp2_with fail
    refine (KA.out _ hs).mono ?_
    rintro e w2 ⟨rfl, E1⟩
    go_wp2_with fail
    go_ret
    exact ⟨rfl, E1⟩
  · go_enter Try.func4, Try.ntmps4
    go_wp2_with fail
    refine (K1.out _ hs).mono ?_
    rintro e w1 ⟨rfl, E1⟩
    have E2 := E1.alloc (.cells #[.int .i64 no, .int .i64 kind, .int .i64 1, .int .i64 0, .string ⟨#[]⟩, .slice none 0 0, .slice none 0 0] 25)
    have z0 : (w1.alloc (.cells #[.int .i64 no, .int .i64 kind, .int .i64 1, .int .i64 0, .string ⟨#[]⟩, .slice none 0 0, .slice none 0 0] 25)).cell? ⟨w1.heap.size, 0, none⟩ = some (.int .i64 no) := by go_simp
    have z1 : (w1.alloc (.cells #[.int .i64 no, .int .i64 kind, .int .i64 1, .int .i64 0, .string ⟨#[]⟩, .slice none 0 0, .slice none 0 0] 25)).cell? ⟨w1.heap.size, 1, none⟩ = some (.int .i64 kind) := by go_simp
    have z2 : (w1.alloc (.cells #[.int .i64 no, .int .i64 kind, .int .i64 1, .int .i64 0, .string ⟨#[]⟩, .slice none 0 0, .slice none 0 0] 25)).cell? ⟨w1.heap.size, 2, none⟩ = some (.int .i64 1) := by go_simp
    have z3 : (w1.alloc (.cells #[.int .i64 no, .int .i64 kind, .int .i64 1, .int .i64 0, .string ⟨#[]⟩, .slice none 0 0, .slice none 0 0] 25)).cell? ⟨w1.heap.size, 3, none⟩ = some (.int .i64 0) := by go_simp
    have z4 : (w1.alloc (.cells #[.int .i64 no, .int .i64 kind, .int .i64 1, .int .i64 0, .string ⟨#[]⟩, .slice none 0 0, .slice none 0 0] 25)).cell? ⟨w1.heap.size, 4, none⟩ = some (.string ⟨#[]⟩) := by go_simp
    have z5 : (w1.alloc (.cells #[.int .i64 no, .int .i64 kind, .int .i64 1, .int .i64 0, .string ⟨#[]⟩, .slice none 0 0, .slice none 0 0] 25)).cell? ⟨w1.heap.size, 5, none⟩ = some (.slice none 0 0) := by go_simp
    have z6 : (w1.alloc (.cells #[.int .i64 no, .int .i64 kind, .int .i64 1, .int .i64 0, .string ⟨#[]⟩, .slice none 0 0, .slice none 0 0] 25)).cell? ⟨w1.heap.size, 6, none⟩ = some (.slice none 0 0) := by go_simp
    go_upto_region 4 with (fail)
    generalize (w1.alloc (.cells #[.int .i64 no, .int .i64 kind, .int .i64 1, .int .i64 0, .string ⟨#[]⟩, .slice none 0 0, .slice none 0 0] 25)) = w2 at *
    generalize w1.heap.size = g at *
    go_cut [8] (fun s8 wx => s8 = .bool q ∧ Ext (fhOf W) w2 (fhOf W) wx)
    case first =>
      by_cases hno : (1 : Int) ≤ no
      · have HQ2 := hid (show false = q by rw [← HQ.out] <;> simp [hno])
        go_wp2_with (fail)
        all_goals
          go_meet
          exact ⟨ret_val6 HQ2.out, by first | exact E3 | exact Ext.refl E2.sits⟩
      · have HQ2 := hid (show false = q by rw [← HQ.out] <;> simp [hno])
        go_wp2_with fail
        all_goals
          go_meet
          exact ⟨ret_val6 HQ2.out, Ext.refl E2.sits⟩
    case rest =>
      obtain ⟨rfl, E3⟩ := hcut
      have E4 := E2.trans E3
      have y0 := E3.keep z0
      have y1 := E3.keep z1
      have y2 := E3.keep z2
      have y3 := E3.keep z3
      have y4 := E3.keep z4
      have y5 := E3.keep z5
      have y6 := E3.keep z6
      go_wp2_with fail
      refine (K3.out _ E4.sits).mono ?_
      rintro e w3 ⟨rfl, E5⟩
      have E6 := (E4.trans E5).alloc (.cells #[.int .i64 no, .int .i64 kind, .int .i64 1, .int .i64 0, .int .i64 0] 31)
      have x0 : (w3.alloc (.cells #[.int .i64 no, .int .i64 kind, .int .i64 1, .int .i64 0, .int .i64 0] 31)).cell? ⟨w3.heap.size, 0, none⟩ = some (.int .i64 no) := by go_simp
      have x1 : (w3.alloc (.cells #[.int .i64 no, .int .i64 kind, .int .i64 1, .int .i64 0, .int .i64 0] 31)).cell? ⟨w3.heap.size, 1, none⟩ = some (.int .i64 kind) := by go_simp
      have x2 : (w3.alloc (.cells #[.int .i64 no, .int .i64 kind, .int .i64 1, .int .i64 0, .int .i64 0] 31)).cell? ⟨w3.heap.size, 2, none⟩ = some (.int .i64 1) := by go_simp
      have x3 : (w3.alloc (.cells #[.int .i64 no, .int .i64 kind, .int .i64 1, .int .i64 0, .int .i64 0] 31)).cell? ⟨w3.heap.size, 3, none⟩ = some (.int .i64 0) := by go_simp
      have x4 : (w3.alloc (.cells #[.int .i64 no, .int .i64 kind, .int .i64 1, .int .i64 0, .int .i64 0] 31)).cell? ⟨w3.heap.size, 4, none⟩ = some (.int .i64 0) := by go_simp
      have u0 := keep1 (E5.keep y0) (.cells #[.int .i64 no, .int .i64 kind, .int .i64 1, .int .i64 0, .int .i64 0] 31)
      have u1 := keep1 (E5.keep y1) (.cells #[.int .i64 no, .int .i64 kind, .int .i64 1, .int .i64 0, .int .i64 0] 31)
      have u2 := keep1 (E5.keep y2) (.cells #[.int .i64 no, .int .i64 kind, .int .i64 1, .int .i64 0, .int .i64 0] 31)
      have u3 := keep1 (E5.keep y3) (.cells #[.int .i64 no, .int .i64 kind, .int .i64 1, .int .i64 0, .int .i64 0] 31)
      have u4 := keep1 (E5.keep y4) (.cells #[.int .i64 no, .int .i64 kind, .int .i64 1, .int .i64 0, .int .i64 0] 31)
      have u5 := keep1 (E5.keep y5) (.cells #[.int .i64 no, .int .i64 kind, .int .i64 1, .int .i64 0, .int .i64 0] 31)
      have u6 := keep1 (E5.keep y6) (.cells #[.int .i64 no, .int .i64 kind, .int .i64 1, .int .i64 0, .int .i64 0] 31)
      go_upto_region 9 with (fail)
      generalize (w3.alloc (.cells #[.int .i64 no, .int .i64 kind, .int .i64 1, .int .i64 0, .int .i64 0] 31)) = w4 at *
      generalize w3.heap.size = g2 at *
      clear E4 E5 E2 E3 E1
      go_wp2_with fail
      refine (KA.out _ E6.sits).mono ?_
      rintro e w5 ⟨rfl, E7⟩
      have E8 := E6.trans E7
      have t1 := E7.keep x1
      have t3 := E7.keep x3
      have t4 := E7.keep x4
      have r0 := E7.keep u0
      have r1 := E7.keep u1
      have r2 := E7.keep u2
      have r3 := E7.keep u3
      have r4 := E7.keep u4
      have r5 := E7.keep u5
      have r6 := E7.keep u6
      go_wp2_with fail
      refine (K4.out _ E8.sits).mono ?_
      rintro e w6 ⟨rfl, E9⟩
      have v1 := E9.keep t1
      have v3 := E9.keep t3
      have v4 := E9.keep t4
      have hqq := bool_eq2 q
      go_wp2_with fail
      go_ret
      exact ⟨rfl, E8.trans E9⟩
theorem InodeNew_walk (no kind : Int) (s : ByteArray) (W : World) (hsz : s.size ≤ 9223372036854775807) :
    Calls Try.prog 4 #[.int .i64 no, .int .i64 kind, .string s] W fun e w' => e = .returned (.bool true) ∧ Ext (fhOf W) W (fhOf W) w' := by
  by_cases k1 : kind = 1
  · subst k1; exact InodeNew_walk_0 no s W hsz
  by_cases k2 : kind = 2
  · subst k2; exact InodeNew_walk_1 no s W hsz
  by_cases k3 : kind = 3
  · subst k3; exact InodeNew_walk_2 no s W hsz
  exact InodeNew_walk_3 no kind s W hsz k1 k2 k3
end Go.Proofs.Ytidfcdomeacppaa
