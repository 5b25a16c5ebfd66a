import Derived.Test.YtdiaibkpcnknbaaGreatDoorInoAll
namespace Go.Proofs.YtdiaibkpcnknbaaGreatDoor
open Go.RowKit Go.Sort
set_option linter.unusedVariables false
def eqI (x y : Inode) : Bool := x.no == y.no && x.kind == y.kind && x.links == y.links && x.size == y.size && (x.target.toList == y.target.toList) && decide (x.entries = y.entries) && decide (x.runs = y.runs)
theorem eqI_refl (x : Inode) : eqI x x = true := by simp [eqI]
set_option maxHeartbeats 4000000 in
set_option maxRecDepth 100000 in
theorem same_Inode (x y : Inode) (cs ds : List Value) (t : Bool) (ht : eqI x y = t) (h : FH) (w : World) (hs : Sits h w) (r : repInode h cs x) (r' : repInode h ds y) :
    Calls Tryz.prog 41 #[.agg cs.toArray, .agg ds.toArray] w fun e w' => e = .returned (.bool t) ∧ Ext h w h w' := by
  obtain ⟨Ax5, cx5, Ax6, cx6, rfl, s0, s1, s2, s3, s4⟩ := r
  obtain ⟨Ay5, cy5, Ay6, cy6, rfl, p0, p1, p2, p3, p4⟩ := r'
  have HT := hid ht
  clear ht
  have E0 := ((Ext.refl hs).alloc (.cells #[.int .i64 x.no, .int .i64 x.kind, .int .i64 x.links, .int .i64 x.size, .string x.target, .slice Ax5 x.entries.length cx5, .slice Ax6 x.runs.length cx6] 33)).alloc (.cells #[.int .i64 y.no, .int .i64 y.kind, .int .i64 y.links, .int .i64 y.size, .string y.target, .slice Ay5 y.entries.length cy5, .slice Ay6 y.runs.length cy6] 33)
  obtain ⟨q1, hq1⟩ : ∃ q, decide (x.entries = y.entries) = q := ⟨_, rfl⟩
  obtain ⟨q2, hq2⟩ : ∃ q, decide (x.runs = y.runs) = q := ⟨_, rfl⟩
  have HQ := hid (And.intro hq1 hq2)
  have K1 := hid (fun w hs => plain_Entry x.entries y.entries Ax5 Ay5 cx5 cy5 q1 hq1 h w hs s2 p2)
  have K2 := hid (fun w hs => plain_Run x.runs y.runs Ax6 Ay6 cx6 cy6 q2 hq2 h w hs s4 p4)
  clear hq1 hq2
  have z0 : ((w.alloc (.cells #[.int .i64 x.no, .int .i64 x.kind, .int .i64 x.links, .int .i64 x.size, .string x.target, .slice Ax5 x.entries.length cx5, .slice Ax6 x.runs.length cx6] 33)).alloc (.cells #[.int .i64 y.no, .int .i64 y.kind, .int .i64 y.links, .int .i64 y.size, .string y.target, .slice Ay5 y.entries.length cy5, .slice Ay6 y.runs.length cy6] 33)).cell? ⟨w.heap.size, 0, none⟩ = some (.int .i64 x.no) := by go_simp
  have z1 : ((w.alloc (.cells #[.int .i64 x.no, .int .i64 x.kind, .int .i64 x.links, .int .i64 x.size, .string x.target, .slice Ax5 x.entries.length cx5, .slice Ax6 x.runs.length cx6] 33)).alloc (.cells #[.int .i64 y.no, .int .i64 y.kind, .int .i64 y.links, .int .i64 y.size, .string y.target, .slice Ay5 y.entries.length cy5, .slice Ay6 y.runs.length cy6] 33)).cell? ⟨w.heap.size, 1, none⟩ = some (.int .i64 x.kind) := by go_simp
  have z2 : ((w.alloc (.cells #[.int .i64 x.no, .int .i64 x.kind, .int .i64 x.links, .int .i64 x.size, .string x.target, .slice Ax5 x.entries.length cx5, .slice Ax6 x.runs.length cx6] 33)).alloc (.cells #[.int .i64 y.no, .int .i64 y.kind, .int .i64 y.links, .int .i64 y.size, .string y.target, .slice Ay5 y.entries.length cy5, .slice Ay6 y.runs.length cy6] 33)).cell? ⟨w.heap.size, 2, none⟩ = some (.int .i64 x.links) := by go_simp
  have z3 : ((w.alloc (.cells #[.int .i64 x.no, .int .i64 x.kind, .int .i64 x.links, .int .i64 x.size, .string x.target, .slice Ax5 x.entries.length cx5, .slice Ax6 x.runs.length cx6] 33)).alloc (.cells #[.int .i64 y.no, .int .i64 y.kind, .int .i64 y.links, .int .i64 y.size, .string y.target, .slice Ay5 y.entries.length cy5, .slice Ay6 y.runs.length cy6] 33)).cell? ⟨w.heap.size, 3, none⟩ = some (.int .i64 x.size) := by go_simp
  have z4 : ((w.alloc (.cells #[.int .i64 x.no, .int .i64 x.kind, .int .i64 x.links, .int .i64 x.size, .string x.target, .slice Ax5 x.entries.length cx5, .slice Ax6 x.runs.length cx6] 33)).alloc (.cells #[.int .i64 y.no, .int .i64 y.kind, .int .i64 y.links, .int .i64 y.size, .string y.target, .slice Ay5 y.entries.length cy5, .slice Ay6 y.runs.length cy6] 33)).cell? ⟨w.heap.size, 4, none⟩ = some (.string x.target) := by go_simp
  have z5 : ((w.alloc (.cells #[.int .i64 x.no, .int .i64 x.kind, .int .i64 x.links, .int .i64 x.size, .string x.target, .slice Ax5 x.entries.length cx5, .slice Ax6 x.runs.length cx6] 33)).alloc (.cells #[.int .i64 y.no, .int .i64 y.kind, .int .i64 y.links, .int .i64 y.size, .string y.target, .slice Ay5 y.entries.length cy5, .slice Ay6 y.runs.length cy6] 33)).cell? ⟨w.heap.size, 5, none⟩ = some (.slice Ax5 x.entries.length cx5) := by go_simp
  have z6 : ((w.alloc (.cells #[.int .i64 x.no, .int .i64 x.kind, .int .i64 x.links, .int .i64 x.size, .string x.target, .slice Ax5 x.entries.length cx5, .slice Ax6 x.runs.length cx6] 33)).alloc (.cells #[.int .i64 y.no, .int .i64 y.kind, .int .i64 y.links, .int .i64 y.size, .string y.target, .slice Ay5 y.entries.length cy5, .slice Ay6 y.runs.length cy6] 33)).cell? ⟨w.heap.size, 6, none⟩ = some (.slice Ax6 x.runs.length cx6) := by go_simp
  have y0 : ((w.alloc (.cells #[.int .i64 x.no, .int .i64 x.kind, .int .i64 x.links, .int .i64 x.size, .string x.target, .slice Ax5 x.entries.length cx5, .slice Ax6 x.runs.length cx6] 33)).alloc (.cells #[.int .i64 y.no, .int .i64 y.kind, .int .i64 y.links, .int .i64 y.size, .string y.target, .slice Ay5 y.entries.length cy5, .slice Ay6 y.runs.length cy6] 33)).cell? ⟨w.heap.size + 1, 0, none⟩ = some (.int .i64 y.no) := by go_simp
  have y1 : ((w.alloc (.cells #[.int .i64 x.no, .int .i64 x.kind, .int .i64 x.links, .int .i64 x.size, .string x.target, .slice Ax5 x.entries.length cx5, .slice Ax6 x.runs.length cx6] 33)).alloc (.cells #[.int .i64 y.no, .int .i64 y.kind, .int .i64 y.links, .int .i64 y.size, .string y.target, .slice Ay5 y.entries.length cy5, .slice Ay6 y.runs.length cy6] 33)).cell? ⟨w.heap.size + 1, 1, none⟩ = some (.int .i64 y.kind) := by go_simp
  have y2 : ((w.alloc (.cells #[.int .i64 x.no, .int .i64 x.kind, .int .i64 x.links, .int .i64 x.size, .string x.target, .slice Ax5 x.entries.length cx5, .slice Ax6 x.runs.length cx6] 33)).alloc (.cells #[.int .i64 y.no, .int .i64 y.kind, .int .i64 y.links, .int .i64 y.size, .string y.target, .slice Ay5 y.entries.length cy5, .slice Ay6 y.runs.length cy6] 33)).cell? ⟨w.heap.size + 1, 2, none⟩ = some (.int .i64 y.links) := by go_simp
  have y3 : ((w.alloc (.cells #[.int .i64 x.no, .int .i64 x.kind, .int .i64 x.links, .int .i64 x.size, .string x.target, .slice Ax5 x.entries.length cx5, .slice Ax6 x.runs.length cx6] 33)).alloc (.cells #[.int .i64 y.no, .int .i64 y.kind, .int .i64 y.links, .int .i64 y.size, .string y.target, .slice Ay5 y.entries.length cy5, .slice Ay6 y.runs.length cy6] 33)).cell? ⟨w.heap.size + 1, 3, none⟩ = some (.int .i64 y.size) := by go_simp
  have y4 : ((w.alloc (.cells #[.int .i64 x.no, .int .i64 x.kind, .int .i64 x.links, .int .i64 x.size, .string x.target, .slice Ax5 x.entries.length cx5, .slice Ax6 x.runs.length cx6] 33)).alloc (.cells #[.int .i64 y.no, .int .i64 y.kind, .int .i64 y.links, .int .i64 y.size, .string y.target, .slice Ay5 y.entries.length cy5, .slice Ay6 y.runs.length cy6] 33)).cell? ⟨w.heap.size + 1, 4, none⟩ = some (.string y.target) := by go_simp
  have y5 : ((w.alloc (.cells #[.int .i64 x.no, .int .i64 x.kind, .int .i64 x.links, .int .i64 x.size, .string x.target, .slice Ax5 x.entries.length cx5, .slice Ax6 x.runs.length cx6] 33)).alloc (.cells #[.int .i64 y.no, .int .i64 y.kind, .int .i64 y.links, .int .i64 y.size, .string y.target, .slice Ay5 y.entries.length cy5, .slice Ay6 y.runs.length cy6] 33)).cell? ⟨w.heap.size + 1, 5, none⟩ = some (.slice Ay5 y.entries.length cy5) := by go_simp
  have y6 : ((w.alloc (.cells #[.int .i64 x.no, .int .i64 x.kind, .int .i64 x.links, .int .i64 x.size, .string x.target, .slice Ax5 x.entries.length cx5, .slice Ax6 x.runs.length cx6] 33)).alloc (.cells #[.int .i64 y.no, .int .i64 y.kind, .int .i64 y.links, .int .i64 y.size, .string y.target, .slice Ay5 y.entries.length cy5, .slice Ay6 y.runs.length cy6] 33)).cell? ⟨w.heap.size + 1, 6, none⟩ = some (.slice Ay6 y.runs.length cy6) := by go_simp
  go_enter Tryz.func41, Tryz.ntmps41
  go_upto_region 1 with (fail)
  generalize ((w.alloc (.cells #[.int .i64 x.no, .int .i64 x.kind, .int .i64 x.links, .int .i64 x.size, .string x.target, .slice Ax5 x.entries.length cx5, .slice Ax6 x.runs.length cx6] 33)).alloc (.cells #[.int .i64 y.no, .int .i64 y.kind, .int .i64 y.links, .int .i64 y.size, .string y.target, .slice Ay5 y.entries.length cy5, .slice Ay6 y.runs.length cy6] 33)) = W1 at *
  generalize w.heap.size + 1 = g' at *
  generalize w.heap.size = g at *
  go_wp2_with (first | (go_at_call 72; refine (K1.out _ E0.sits).mono ?_; rintro e w1 ⟨rfl, E1⟩; have x6 := E1.keep z6; have v6 := E1.keep y6) | (go_at_call 73; refine (K2.out _ (E0.trans E1).sits).mono ?_; rintro e w2 ⟨rfl, E2⟩))
  all_goals
    go_ret
    refine ⟨ret_bool (by rw [← HT.out]; simp [eqI, HQ.out.1, HQ.out.2, *]), ?_⟩
    first | exact (E0.trans E1).trans E2 | exact E0.trans E1 | exact E0
end Go.Proofs.YtdiaibkpcnknbaaGreatDoor
