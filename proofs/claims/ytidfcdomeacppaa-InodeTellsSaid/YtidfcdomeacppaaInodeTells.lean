/- The walk of the law InodeTells. -/
import Derived.Test.YtidfcdomeacppaaSameI
namespace Go.Proofs.Ytidfcdomeacppaa
open Go.RowKit Go.Sort
set_option linter.unusedVariables false
theorem stat_equal (a b c d e : Int) (w : World) : (Op.equal 31 (.agg #[.int .i64 a, .int .i64 b, .int .i64 c, .int .i64 d, .int .i64 e]) (.agg #[.int .i64 a, .int .i64 b, .int .i64 c, .int .i64 d, .int .i64 e])).run Try.prog w = .ok true w := by
  simp [Op.equal, Op.maxDepth, go_sem, Try.underlying31, Try.underlying3]
theorem bool_eq (q : Bool) (w : World) : (binOp .eql 4 (.bool q) (.bool q)).run Try.prog w = .ok (.bool true) w := by cases q <;> kernel_rfl
set_option maxHeartbeats 4000000 in
set_option maxRecDepth 100000 in
theorem InodeTells_walk (no kind : Int) (s : ByteArray) (cs : List Value) (x : Inode) (W : World) (hsz : s.size ≤ 9223372036854775807) (r : repInode (fhOf W) cs x) :
    Calls Try.prog 3 #[.int .i64 no, .int .i64 kind, .string s, .agg cs.toArray] W fun e w' => e = .returned (.bool true) ∧ Ext (fhOf W) W (fhOf W) w' := by
  have hs := Sits.all W
  have r0 := r
  obtain ⟨A5, c5, A6, c6, rfl, s0, s1, s2, s3, s4⟩ := r
  have hlE := s2.1
  have hlR := s4.1
  obtain ⟨ns, hns, hrep⟩ := newV_rep (fhOf W) no kind s hsz
  obtain ⟨q, hq⟩ : ∃ q, rightI x = q := ⟨_, rfl⟩
  have KA := hid (fun w hs => law12_awake (fhOf W) w hs)
  have K1 := hid (fun w hs => inode_New no kind s hsz (fhOf W) w hs)
  have K2 := hid (fun w hs => ref_NewInode no kind s hsz (fhOf W) w hs)
  have K3 := hid (fun w hs => same_Inode _ _ ns ns true (eqI_refl _) (fhOf W) w hs hrep hrep)
  have K4 := hid (fun w hs => inode_Right x _ q hq (fhOf W) w hs r0)
  have K5 := hid (fun w hs => ref_RightInode x _ q hq (fhOf W) w hs r0)
  have K6 := hid (fun w hs => inode_Stat x _ (fhOf W) w hs r0)
  have K7 := hid (fun w hs => ref_StatOf x _ (fhOf W) w hs r0)
  rw [hns] at K1 K2
  unfold statV at K6 K7
  generalize (if x.kind = 2 then (x.entries.length : Int) else x.size) = sz at *
  generalize ((pagesR x.runs).length : Int) = pg at *
  have hqq := fun (w : World) => show (binOp .eql 4 (.bool q) (.bool q)).run Try.prog w = .ok (.bool true) w from bool_eq q w
  generalize ns.toArray = na at *
  have E0 := (Ext.refl hs).alloc (.cells #[.int .i64 x.no, .int .i64 x.kind, .int .i64 x.links, .int .i64 x.size, .string x.target, .slice A5 x.entries.length c5, .slice A6 x.runs.length c6] 25)
  have z0 : (W.alloc (.cells #[.int .i64 x.no, .int .i64 x.kind, .int .i64 x.links, .int .i64 x.size, .string x.target, .slice A5 x.entries.length c5, .slice A6 x.runs.length c6] 25)).cell? ⟨W.heap.size, 0, none⟩ = some (.int .i64 x.no) := by go_simp
  have z1 : (W.alloc (.cells #[.int .i64 x.no, .int .i64 x.kind, .int .i64 x.links, .int .i64 x.size, .string x.target, .slice A5 x.entries.length c5, .slice A6 x.runs.length c6] 25)).cell? ⟨W.heap.size, 1, none⟩ = some (.int .i64 x.kind) := by go_simp
  have z2 : (W.alloc (.cells #[.int .i64 x.no, .int .i64 x.kind, .int .i64 x.links, .int .i64 x.size, .string x.target, .slice A5 x.entries.length c5, .slice A6 x.runs.length c6] 25)).cell? ⟨W.heap.size, 2, none⟩ = some (.int .i64 x.links) := by go_simp
  have z3 : (W.alloc (.cells #[.int .i64 x.no, .int .i64 x.kind, .int .i64 x.links, .int .i64 x.size, .string x.target, .slice A5 x.entries.length c5, .slice A6 x.runs.length c6] 25)).cell? ⟨W.heap.size, 3, none⟩ = some (.int .i64 x.size) := by go_simp
  have z4 : (W.alloc (.cells #[.int .i64 x.no, .int .i64 x.kind, .int .i64 x.links, .int .i64 x.size, .string x.target, .slice A5 x.entries.length c5, .slice A6 x.runs.length c6] 25)).cell? ⟨W.heap.size, 4, none⟩ = some (.string x.target) := by go_simp
  have z5 : (W.alloc (.cells #[.int .i64 x.no, .int .i64 x.kind, .int .i64 x.links, .int .i64 x.size, .string x.target, .slice A5 x.entries.length c5, .slice A6 x.runs.length c6] 25)).cell? ⟨W.heap.size, 5, none⟩ = some (.slice A5 x.entries.length c5) := by go_simp
  have z6 : (W.alloc (.cells #[.int .i64 x.no, .int .i64 x.kind, .int .i64 x.links, .int .i64 x.size, .string x.target, .slice A5 x.entries.length c5, .slice A6 x.runs.length c6] 25)).cell? ⟨W.heap.size, 6, none⟩ = some (.slice A6 x.runs.length c6) := by go_simp
  go_enter Try.func3, Try.ntmps3
  go_upto_region 1 with (fail)
  generalize (W.alloc (.cells #[.int .i64 x.no, .int .i64 x.kind, .int .i64 x.links, .int .i64 x.size, .string x.target, .slice A5 x.entries.length c5, .slice A6 x.runs.length c6] 25)) = W1 at *
  go_cut [29] (fun s wx => ∃ q : Bool, s = .bool q ∧ W1 = wx)
  case first =>
    go_wp2
    all_goals (go_meet; exact ⟨_, rfl, rfl⟩)
  case rest =>
    obtain ⟨q2, rfl, rfl⟩ := hcut
    cases q2
    · go_upto_region 3 with (fail)
      have y0 := fun d os => cell_regrown z0 d os
      have y1 := fun d os => cell_regrown z1 d os
      have y2 := fun d os => cell_regrown z2 d os
      have y3 := fun d os => cell_regrown z3 d os
      have y4 := fun d os => cell_regrown z4 d os
      have y5 := fun d os => cell_regrown z5 d os
      have y6 := fun d os => cell_regrown z6 d os
      clear z0 z1 z2 z3 z4 z5 z6
      have HQS := hid (fun d os => (E0.trans (Ext.quiet E0.sits d os)).sits)
      refine wp_region_quiet_below (by kernel_rfl) (by kernel_rfl) ?_
      repeat (go_big_quiet_step (first | (go_at_call 11; exact quietCall (KA.out _ (HQS.out _ _))) | (go_at_call 13; exact quietCall (K1.out _ (HQS.out _ _))) | (go_at_call 14; exact quietCall (K2.out _ (HQS.out _ _))) | (go_at_call 12; exact quietCall (K3.out _ (HQS.out _ _))) | (go_at_call 15; exact quietCall (K4.out _ (HQS.out _ _))) | (go_at_call 16; exact quietCall (K5.out _ (HQS.out _ _))) | (go_at_call 17; exact quietCall (K6.out _ (HQS.out _ _))) | (go_at_call 18; exact quietCall (K7.out _ (HQS.out _ _)))))
      refine wpQuiet_nil ?_
      intro _ hw'
      obtain ⟨⟨dq, osq⟩, hw''⟩ := hw'
      subst hw''
      go_wp2
      go_ret
      exact ⟨rfl, E0.trans (Ext.quiet E0.sits _ _)⟩
    · go_wp2_with fail
      refine (KA.out _ E0.sits).mono ?_
      rintro e w2 ⟨rfl, E1⟩
      go_wp2_with fail
      go_ret
      exact ⟨rfl, E0.trans E1⟩
end Go.Proofs.Ytidfcdomeacppaa
