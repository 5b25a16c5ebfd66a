import Derived.Test.YtidfcdomeacppaaStat
namespace Go.Proofs.Ytidfcdomeacppaa
open Go.RowKit Go.Sort
set_option linter.unusedVariables false
def eqI (x y : Inode) : Bool := x.no == y.no && x.kind == y.kind && x.links == y.links && x.size == y.size && (x.target.toList == y.target.toList) && decide (x.entries = y.entries) && decide (x.runs = y.runs)
theorem eqI_refl (x : Inode) : eqI x x = true := by simp [eqI]
set_option maxHeartbeats 4000000 in
set_option maxRecDepth 100000 in
theorem same_Inode (x y : Inode) (cs ds : List Value) (t : Bool) (ht : eqI x y = t) (h : FH) (w : World) (hs : Sits h w) (r : repInode h cs x) (r' : repInode h ds y) :
    Calls Try.prog 12 #[.agg cs.toArray, .agg ds.toArray] w fun e w' => e = .returned (.bool t) ∧ Ext h w h w' := by
  obtain ⟨Ax5, cx5, Ax6, cx6, rfl, s0, s1, s2, s3, s4⟩ := r
  obtain ⟨Ay5, cy5, Ay6, cy6, rfl, p0, p1, p2, p3, p4⟩ := r'
  have HT := hid ht
  clear ht
  have E0 := ((Ext.refl hs).alloc (.cells #[.int .i64 x.no, .int .i64 x.kind, .int .i64 x.links, .int .i64 x.size, .string x.target, .slice Ax5 x.entries.length cx5, .slice Ax6 x.runs.length cx6] 25)).alloc (.cells #[.int .i64 y.no, .int .i64 y.kind, .int .i64 y.links, .int .i64 y.size, .string y.target, .slice Ay5 y.entries.length cy5, .slice Ay6 y.runs.length cy6] 25)
  obtain ⟨q1, hq1⟩ : ∃ q, decide (x.entries = y.entries) = q := ⟨_, rfl⟩
  obtain ⟨q2, hq2⟩ : ∃ q, decide (x.runs = y.runs) = q := ⟨_, rfl⟩
  have HQ := hid (And.intro hq1 hq2)
  have K1 := hid (fun w hs => plain_Entry x.entries y.entries Ax5 Ay5 cx5 cy5 q1 hq1 h w hs s2 p2)
  have K2 := hid (fun w hs => plain_Run x.runs y.runs Ax6 Ay6 cx6 cy6 q2 hq2 h w hs s4 p4)
  clear hq1 hq2
  have z0 : ((w.alloc (.cells #[.int .i64 x.no, .int .i64 x.kind, .int .i64 x.links, .int .i64 x.size, .string x.target, .slice Ax5 x.entries.length cx5, .slice Ax6 x.runs.length cx6] 25)).alloc (.cells #[.int .i64 y.no, .int .i64 y.kind, .int .i64 y.links, .int .i64 y.size, .string y.target, .slice Ay5 y.entries.length cy5, .slice Ay6 y.runs.length cy6] 25)).cell? ⟨w.heap.size, 0, none⟩ = some (.int .i64 x.no) := by go_simp
  have z1 : ((w.alloc (.cells #[.int .i64 x.no, .int .i64 x.kind, .int .i64 x.links, .int .i64 x.size, .string x.target, .slice Ax5 x.entries.length cx5, .slice Ax6 x.runs.length cx6] 25)).alloc (.cells #[.int .i64 y.no, .int .i64 y.kind, .int .i64 y.links, .int .i64 y.size, .string y.target, .slice Ay5 y.entries.length cy5, .slice Ay6 y.runs.length cy6] 25)).cell? ⟨w.heap.size, 1, none⟩ = some (.int .i64 x.kind) := by go_simp
  have z2 : ((w.alloc (.cells #[.int .i64 x.no, .int .i64 x.kind, .int .i64 x.links, .int .i64 x.size, .string x.target, .slice Ax5 x.entries.length cx5, .slice Ax6 x.runs.length cx6] 25)).alloc (.cells #[.int .i64 y.no, .int .i64 y.kind, .int .i64 y.links, .int .i64 y.size, .string y.target, .slice Ay5 y.entries.length cy5, .slice Ay6 y.runs.length cy6] 25)).cell? ⟨w.heap.size, 2, none⟩ = some (.int .i64 x.links) := by go_simp
  have z3 : ((w.alloc (.cells #[.int .i64 x.no, .int .i64 x.kind, .int .i64 x.links, .int .i64 x.size, .string x.target, .slice Ax5 x.entries.length cx5, .slice Ax6 x.runs.length cx6] 25)).alloc (.cells #[.int .i64 y.no, .int .i64 y.kind, .int .i64 y.links, .int .i64 y.size, .string y.target, .slice Ay5 y.entries.length cy5, .slice Ay6 y.runs.length cy6] 25)).cell? ⟨w.heap.size, 3, none⟩ = some (.int .i64 x.size) := by go_simp
  have z4 : ((w.alloc (.cells #[.int .i64 x.no, .int .i64 x.kind, .int .i64 x.links, .int .i64 x.size, .string x.target, .slice Ax5 x.entries.length cx5, .slice Ax6 x.runs.length cx6] 25)).alloc (.cells #[.int .i64 y.no, .int .i64 y.kind, .int .i64 y.links, .int .i64 y.size, .string y.target, .slice Ay5 y.entries.length cy5, .slice Ay6 y.runs.length cy6] 25)).cell? ⟨w.heap.size, 4, none⟩ = some (.string x.target) := by go_simp
  have z5 : ((w.alloc (.cells #[.int .i64 x.no, .int .i64 x.kind, .int .i64 x.links, .int .i64 x.size, .string x.target, .slice Ax5 x.entries.length cx5, .slice Ax6 x.runs.length cx6] 25)).alloc (.cells #[.int .i64 y.no, .int .i64 y.kind, .int .i64 y.links, .int .i64 y.size, .string y.target, .slice Ay5 y.entries.length cy5, .slice Ay6 y.runs.length cy6] 25)).cell? ⟨w.heap.size, 5, none⟩ = some (.slice Ax5 x.entries.length cx5) := by go_simp
  have z6 : ((w.alloc (.cells #[.int .i64 x.no, .int .i64 x.kind, .int .i64 x.links, .int .i64 x.size, .string x.target, .slice Ax5 x.entries.length cx5, .slice Ax6 x.runs.length cx6] 25)).alloc (.cells #[.int .i64 y.no, .int .i64 y.kind, .int .i64 y.links, .int .i64 y.size, .string y.target, .slice Ay5 y.entries.length cy5, .slice Ay6 y.runs.length cy6] 25)).cell? ⟨w.heap.size, 6, none⟩ = some (.slice Ax6 x.runs.length cx6) := by go_simp
  have y0 : ((w.alloc (.cells #[.int .i64 x.no, .int .i64 x.kind, .int .i64 x.links, .int .i64 x.size, .string x.target, .slice Ax5 x.entries.length cx5, .slice Ax6 x.runs.length cx6] 25)).alloc (.cells #[.int .i64 y.no, .int .i64 y.kind, .int .i64 y.links, .int .i64 y.size, .string y.target, .slice Ay5 y.entries.length cy5, .slice Ay6 y.runs.length cy6] 25)).cell? ⟨w.heap.size + 1, 0, none⟩ = some (.int .i64 y.no) := by go_simp
  have y1 : ((w.alloc (.cells #[.int .i64 x.no, .int .i64 x.kind, .int .i64 x.links, .int .i64 x.size, .string x.target, .slice Ax5 x.entries.length cx5, .slice Ax6 x.runs.length cx6] 25)).alloc (.cells #[.int .i64 y.no, .int .i64 y.kind, .int .i64 y.links, .int .i64 y.size, .string y.target, .slice Ay5 y.entries.length cy5, .slice Ay6 y.runs.length cy6] 25)).cell? ⟨w.heap.size + 1, 1, none⟩ = some (.int .i64 y.kind) := by go_simp
  have y2 : ((w.alloc (.cells #[.int .i64 x.no, .int .i64 x.kind, .int .i64 x.links, .int .i64 x.size, .string x.target, .slice Ax5 x.entries.length cx5, .slice Ax6 x.runs.length cx6] 25)).alloc (.cells #[.int .i64 y.no, .int .i64 y.kind, .int .i64 y.links, .int .i64 y.size, .string y.target, .slice Ay5 y.entries.length cy5, .slice Ay6 y.runs.length cy6] 25)).cell? ⟨w.heap.size + 1, 2, none⟩ = some (.int .i64 y.links) := by go_simp
  have y3 : ((w.alloc (.cells #[.int .i64 x.no, .int .i64 x.kind, .int .i64 x.links, .int .i64 x.size, .string x.target, .slice Ax5 x.entries.length cx5, .slice Ax6 x.runs.length cx6] 25)).alloc (.cells #[.int .i64 y.no, .int .i64 y.kind, .int .i64 y.links, .int .i64 y.size, .string y.target, .slice Ay5 y.entries.length cy5, .slice Ay6 y.runs.length cy6] 25)).cell? ⟨w.heap.size + 1, 3, none⟩ = some (.int .i64 y.size) := by go_simp
  have y4 : ((w.alloc (.cells #[.int .i64 x.no, .int .i64 x.kind, .int .i64 x.links, .int .i64 x.size, .string x.target, .slice Ax5 x.entries.length cx5, .slice Ax6 x.runs.length cx6] 25)).alloc (.cells #[.int .i64 y.no, .int .i64 y.kind, .int .i64 y.links, .int .i64 y.size, .string y.target, .slice Ay5 y.entries.length cy5, .slice Ay6 y.runs.length cy6] 25)).cell? ⟨w.heap.size + 1, 4, none⟩ = some (.string y.target) := by go_simp
  have y5 : ((w.alloc (.cells #[.int .i64 x.no, .int .i64 x.kind, .int .i64 x.links, .int .i64 x.size, .string x.target, .slice Ax5 x.entries.length cx5, .slice Ax6 x.runs.length cx6] 25)).alloc (.cells #[.int .i64 y.no, .int .i64 y.kind, .int .i64 y.links, .int .i64 y.size, .string y.target, .slice Ay5 y.entries.length cy5, .slice Ay6 y.runs.length cy6] 25)).cell? ⟨w.heap.size + 1, 5, none⟩ = some (.slice Ay5 y.entries.length cy5) := by go_simp
  have y6 : ((w.alloc (.cells #[.int .i64 x.no, .int .i64 x.kind, .int .i64 x.links, .int .i64 x.size, .string x.target, .slice Ax5 x.entries.length cx5, .slice Ax6 x.runs.length cx6] 25)).alloc (.cells #[.int .i64 y.no, .int .i64 y.kind, .int .i64 y.links, .int .i64 y.size, .string y.target, .slice Ay5 y.entries.length cy5, .slice Ay6 y.runs.length cy6] 25)).cell? ⟨w.heap.size + 1, 6, none⟩ = some (.slice Ay6 y.runs.length cy6) := by go_simp
  go_enter Try.func12, Try.ntmps12
  go_upto_region 1 with (fail)
  generalize ((w.alloc (.cells #[.int .i64 x.no, .int .i64 x.kind, .int .i64 x.links, .int .i64 x.size, .string x.target, .slice Ax5 x.entries.length cx5, .slice Ax6 x.runs.length cx6] 25)).alloc (.cells #[.int .i64 y.no, .int .i64 y.kind, .int .i64 y.links, .int .i64 y.size, .string y.target, .slice Ay5 y.entries.length cy5, .slice Ay6 y.runs.length cy6] 25)) = W1 at *
  generalize w.heap.size + 1 = g' at *
  generalize w.heap.size = g at *
  go_wp2_with (first | (go_at_call 32; refine (K1.out _ E0.sits).mono ?_; rintro e w1 ⟨rfl, E1⟩; have x6 := E1.keep z6; have v6 := E1.keep y6) | (go_at_call 35; refine (K2.out _ (E0.trans E1).sits).mono ?_; rintro e w2 ⟨rfl, E2⟩))
  all_goals
    go_ret
    refine ⟨ret_bool (by rw [← HT.out]; simp [eqI, HQ.out.1, HQ.out.2, *]), ?_⟩
    first | exact (E0.trans E1).trans E2 | exact E0.trans E1 | exact E0
theorem stat_eq (a b c d e : Int) (w : World) : (binOp .eql 31 (.agg #[.int .i64 a, .int .i64 b, .int .i64 c, .int .i64 d, .int .i64 e]) (.agg #[.int .i64 a, .int .i64 b, .int .i64 c, .int .i64 d, .int .i64 e])).run Try.prog w = .ok (.bool true) w := by
  simp [binOp, Op.equal, Op.maxDepth, go_sem, Try.underlying31, Try.underlying3]
theorem stat_field0 (a b c d e : Int) (w : World) : (Instr.field 31 (.agg #[.int .i64 a, .int .i64 b, .int .i64 c, .int .i64 d, .int .i64 e]) 0).run Try.prog w = .ok (.int .i64 a) w := by kernel_rfl
set_option maxHeartbeats 4000000 in
set_option maxRecDepth 100000 in
theorem law12_awake (h : FH) (w : World) (hs : Sits h w) : Calls Try.prog 11 #[] w fun e w' => e = .returned (.bool true) ∧ Ext h w h w' := by
  have hr : rightI (newI 2 2 ⟨#[]⟩) = true := by kernel_rfl
  have hrep : repInode h [.int .i64 2, .int .i64 2, .int .i64 2, .int .i64 0, .string ⟨#[]⟩, .slice none 0 0, .slice none 0 0] (newI 2 2 ⟨#[]⟩) := ⟨none, 0, none, 0, rfl, Nat.zero_le _, Nat.le_refl _, RowAt.nil _ _, Nat.le_refl _, RowAt.nil _ _⟩
  have K1 := hid (inode_New 2 2 ⟨#[]⟩ (Nat.zero_le _) h w hs)
  have K2 := hid (fun w hs => inode_Right (newI 2 2 ⟨#[]⟩) _ true hr h w hs hrep)
  have K3 := hid (fun w hs => inode_Stat (newI 2 2 ⟨#[]⟩) _ h w hs hrep)
  have HV : Hid (newV 2 2 ⟨#[]⟩ = .agg #[.int .i64 2, .int .i64 2, .int .i64 2, .int .i64 0, .string ⟨#[]⟩, .slice none 0 0, .slice none 0 0]) := rfl
  have HS : Hid (statV (newI 2 2 ⟨#[]⟩) = .agg #[.int .i64 2, .int .i64 2, .int .i64 2, .int .i64 0, .int .i64 0]) := hid (by kernel_rfl)
  rw [HV.out] at K1
  rw [HS.out] at K3
  clear hr hrep HV HS
  have hf := fun w => stat_field0 2 2 2 0 0 w
  go_enter Try.func11, Try.ntmps11
  go_wp2_with (go_at_call 13; refine K1.out.mono ?_; rintro e w1 ⟨rfl, E1⟩)
  have E2 := E1.alloc (.cells #[.int .i64 2, .int .i64 2, .int .i64 2, .int .i64 0, .string ⟨#[]⟩, .slice none 0 0, .slice none 0 0] 25)
  refine (K2.out _ E2.sits).mono ?_
  rintro e w2 ⟨rfl, E3⟩
  have z0 := E3.keep (show (w1.alloc (.cells #[.int .i64 2, .int .i64 2, .int .i64 2, .int .i64 0, .string ⟨#[]⟩, .slice none 0 0, .slice none 0 0] 25)).cell? ⟨w1.heap.size, 0, none⟩ = some (.int .i64 2) by go_simp)
  have z1 := E3.keep (show (w1.alloc (.cells #[.int .i64 2, .int .i64 2, .int .i64 2, .int .i64 0, .string ⟨#[]⟩, .slice none 0 0, .slice none 0 0] 25)).cell? ⟨w1.heap.size, 1, none⟩ = some (.int .i64 2) by go_simp)
  have z2 := E3.keep (show (w1.alloc (.cells #[.int .i64 2, .int .i64 2, .int .i64 2, .int .i64 0, .string ⟨#[]⟩, .slice none 0 0, .slice none 0 0] 25)).cell? ⟨w1.heap.size, 2, none⟩ = some (.int .i64 2) by go_simp)
  have z3 := E3.keep (show (w1.alloc (.cells #[.int .i64 2, .int .i64 2, .int .i64 2, .int .i64 0, .string ⟨#[]⟩, .slice none 0 0, .slice none 0 0] 25)).cell? ⟨w1.heap.size, 3, none⟩ = some (.int .i64 0) by go_simp)
  have z4 := E3.keep (show (w1.alloc (.cells #[.int .i64 2, .int .i64 2, .int .i64 2, .int .i64 0, .string ⟨#[]⟩, .slice none 0 0, .slice none 0 0] 25)).cell? ⟨w1.heap.size, 4, none⟩ = some (.string ⟨#[]⟩) by go_simp)
  have z5 := E3.keep (show (w1.alloc (.cells #[.int .i64 2, .int .i64 2, .int .i64 2, .int .i64 0, .string ⟨#[]⟩, .slice none 0 0, .slice none 0 0] 25)).cell? ⟨w1.heap.size, 5, none⟩ = some (.slice none 0 0) by go_simp)
  have z6 := E3.keep (show (w1.alloc (.cells #[.int .i64 2, .int .i64 2, .int .i64 2, .int .i64 0, .string ⟨#[]⟩, .slice none 0 0, .slice none 0 0] 25)).cell? ⟨w1.heap.size, 6, none⟩ = some (.slice none 0 0) by go_simp)
  have E4 := E2.trans E3
  go_wp2_with fail
  refine (K3.out _ E4.sits).mono ?_
  rintro e w3 ⟨rfl, E5⟩
  go_wp2_with fail
  go_ret
  exact ⟨rfl, E4.trans E5⟩
end Go.Proofs.Ytidfcdomeacppaa
