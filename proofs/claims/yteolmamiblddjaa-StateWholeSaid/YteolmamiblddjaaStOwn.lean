import Derived.Test.YteolmamiblddjaaClone
import Derived.Test.YteolmamiblddjaaBox
namespace Go.Proofs.Yteolmamiblddjaa
open Go.RowKit Go.Sort
set_option linter.unusedVariables false
/-! ### state.own: a copy of an inode -/
set_option maxHeartbeats 4000000 in
set_option maxRecDepth 100000 in
theorem state_own (x : Inode) (cs : List Value) (hb1 : x.entries.length * 24 ≤ 140737488355328) (hb2 : x.runs.length * 24 ≤ 140737488355328) (h : FH) (w : World) (hs : Sits h w) (r : repInode h cs x) :
    Calls Try.prog 39 #[.agg cs.toArray] w fun e w' => ∃ cs' h1, e = .returned (.agg cs'.toArray) ∧ repInode h1 cs' x ∧ Ext h w h1 w' := by
  obtain ⟨A5, c5, A6, c6, rfl, s0, s1, s2, s3, s4⟩ := r
  have K1 := hid (fun (h' : FH) w' hs' (l : FLe h h') => clone_Entry x.entries A5 c5 hb1 h' w' hs' (s2.mono l))
  have K2 := hid (fun (h' : FH) w' hs' (l : FLe h h') => clone_Run x.runs A6 c6 hb2 h' w' hs' (s4.mono l))
  obtain ⟨no, kind, links, size, target, es, rs⟩ := x
  simp only at *
  have E2 := ((Ext.refl hs).alloc (.cells #[.int .i64 no, .int .i64 kind, .int .i64 links, .int .i64 size, .string target, .slice A5 es.length c5, .slice A6 rs.length c6] 37)).alloc (.cells #[.int .i64 0, .int .i64 0, .int .i64 0, .int .i64 0, .string ⟨#[]⟩, .slice none 0 0, .slice none 0 0] 37)
  have hb0 : ((w.alloc (.cells #[.int .i64 no, .int .i64 kind, .int .i64 links, .int .i64 size, .string target, .slice A5 es.length c5, .slice A6 rs.length c6] 37)).alloc (.cells #[.int .i64 0, .int .i64 0, .int .i64 0, .int .i64 0, .string ⟨#[]⟩, .slice none 0 0, .slice none 0 0] 37)).heap[w.heap.size]? = some (.cells #[.int .i64 no, .int .i64 kind, .int .i64 links, .int .i64 size, .string target, .slice A5 es.length c5, .slice A6 rs.length c6] 37) := box_alloc (heap_new _ _) _
  have hb3 : ((w.alloc (.cells #[.int .i64 no, .int .i64 kind, .int .i64 links, .int .i64 size, .string target, .slice A5 es.length c5, .slice A6 rs.length c6] 37)).alloc (.cells #[.int .i64 0, .int .i64 0, .int .i64 0, .int .i64 0, .string ⟨#[]⟩, .slice none 0 0, .slice none 0 0] 37)).heap[w.heap.size + 1]? = some (.cells #[.int .i64 0, .int .i64 0, .int .i64 0, .int .i64 0, .string ⟨#[]⟩, .slice none 0 0, .slice none 0 0] 37) := by
    have := heap_new (w.alloc (.cells #[.int .i64 no, .int .i64 kind, .int .i64 links, .int .i64 size, .string target, .slice A5 es.length c5, .slice A6 rs.length c6] 37)) (.cells #[.int .i64 0, .int .i64 0, .int .i64 0, .int .i64 0, .string ⟨#[]⟩, .slice none 0 0, .slice none 0 0] 37)
    simpa using this
  have N0 := hid (show h w.heap.size = none from hs.none (Nat.le_refl _))
  have N1 := hid (show h (w.heap.size + 1) = none from hs.none (Nat.le_succ _))
  go_enter Try.func39, Try.ntmps39
  go_upto_region 1 with (fail)
  generalize (w.alloc (.cells #[.int .i64 no, .int .i64 kind, .int .i64 links, .int .i64 size, .string target, .slice A5 es.length c5, .slice A6 rs.length c6] 37)).alloc (.cells #[.int .i64 0, .int .i64 0, .int .i64 0, .int .i64 0, .string ⟨#[]⟩, .slice none 0 0, .slice none 0 0] 37) = W1 at *
  have Ed := E2.drew
  have y5 : W1.cell? ⟨w.heap.size, 5, none⟩ = some (.slice A5 es.length c5) := box_cell (j := 5) hb0 rfl
  have y6 : W1.cell? ⟨w.heap.size, 6, none⟩ = some (.slice A6 rs.length c6) := box_cell (j := 6) hb0 rfl
  go_region_with (first
    | (go_at_call 70; refine (K1.out _ _ Ed.sits (FLe.refl h)).mono ?_; rintro e' w2 R; obtain ⟨A2, c2, h2, rfl, r2, F2, u0, u1, u2⟩ := RetOwn.stayX R (by omega); have hf2 := F2.row (show W1.drew.heap[w.heap.size]? = _ from hb0); have hz2 := F2.row (show W1.drew.heap[w.heap.size + 1]? = _ from hb3); have x6 : w2.cell? ⟨w.heap.size, 6, none⟩ = some (.slice A6 rs.length c6) := box_cell (j := 6) hf2 rfl; have Ed2 := Ed.trans F2; have l2 := F2.le)
    | (go_at_call 71; refine (K2.out _ _ Ed2.sits l2).mono ?_; rintro e' w3 R3; obtain ⟨A3, c3, h3, rfl, r3, F3, v0, v1, v2⟩ := RetOwn.stayX R3 (by omega); have hf3 := F3.row hf2; have hz3 := F3.row hz2; have z5 := box_free (j := 5) hf3; have z6 := box_free (j := 6) hf3; have q6 := box_free (j := 6) (box_set (i := 5) hf3 (.slice A2 es.length c2)); have q5 := box_free (j := 5) (box_set (i := 6) hf3 (.slice A3 rs.length c3)); have p6 := box_cell (j := 6) (v := .slice A6 rs.length c6) (box_set (i := 5) hf3 (.slice A2 es.length c2)) rfl; have p5 := box_cell (j := 5) (v := .slice A5 es.length c5) hf3 rfl; have p7 := box_cell (j := 6) (v := .slice A6 rs.length c6) hf3 rfl))
  all_goals
    have lt0 : w.heap.size < W1.drew.heap.size := (Array.getElem?_eq_some_iff.1 hb0).1
    have lt2 : w.heap.size < w2.heap.size := (Array.getElem?_eq_some_iff.1 hf2).1
    have g0 := F3.none (F2.none N0.out lt0) lt2
    have lt1 : w.heap.size + 1 < W1.drew.heap.size := (Array.getElem?_eq_some_iff.1 hb3).1
    have lt3 : w.heap.size + 1 < w2.heap.size := (Array.getElem?_eq_some_iff.1 hz2).1
    have g1 := F3.none (F2.none N1.out lt1) lt3
    have B5 := box_set (i := 6) (box_set (i := 5) hf3 (.slice A2 es.length c2)) (.slice A3 rs.length c3)
    have Z5 := box_other (i := 6) (box_other (i := 5) hz3 (Nat.succ_ne_self _) (.slice A2 es.length c2)) (Nat.succ_ne_self _) (.slice A3 rs.length c3)
    have E5 := Ext.setCell (p := ⟨w.heap.size, 6, none⟩) (Ext.setCell (p := ⟨w.heap.size, 5, none⟩) (Ed2.trans F3) (Nat.le_refl _) g0 (.slice A2 es.length c2)) (Nat.le_refl _) g0 (.slice A3 rs.length c3)
    generalize (w3.setCell ⟨w.heap.size, 5, none⟩ (.slice A2 es.length c2)).setCell ⟨w.heap.size, 6, none⟩ (.slice A3 rs.length c3) = W5 at *
    have d0 : W5.cell? ⟨w.heap.size, 0, none⟩ = some (.int .i64 no) := box_cell (j := 0) B5 rfl
    have d1 : W5.cell? ⟨w.heap.size, 1, none⟩ = some (.int .i64 kind) := box_cell (j := 1) B5 rfl
    have d2 : W5.cell? ⟨w.heap.size, 2, none⟩ = some (.int .i64 links) := box_cell (j := 2) B5 rfl
    have d3 : W5.cell? ⟨w.heap.size, 3, none⟩ = some (.int .i64 size) := box_cell (j := 3) B5 rfl
    have d4 : W5.cell? ⟨w.heap.size, 4, none⟩ = some (.string target) := box_cell (j := 4) B5 rfl
    have d5 : W5.cell? ⟨w.heap.size, 5, none⟩ = some (.slice A2 es.length c2) := box_cell (j := 5) B5 rfl
    have d6 : W5.cell? ⟨w.heap.size, 6, none⟩ = some (.slice A3 rs.length c3) := box_cell (j := 6) B5 rfl
    have f0 := box_free (j := 0) Z5
    have f1 := box_free (j := 1) Z5
    have f2 := box_free (j := 2) Z5
    have f3 := box_free (j := 3) Z5
    have f4 := box_free (j := 4) Z5
    have f5 := box_free (j := 5) Z5
    have f6 := box_free (j := 6) Z5
    have k0 : W5.cell? ⟨w.heap.size + 1, 0, none⟩ = some (.int .i64 0) := box_cell (j := 0) Z5 rfl
    have k1 : W5.cell? ⟨w.heap.size + 1, 1, none⟩ = some (.int .i64 0) := box_cell (j := 1) Z5 rfl
    have k2 : W5.cell? ⟨w.heap.size + 1, 2, none⟩ = some (.int .i64 0) := box_cell (j := 2) Z5 rfl
    have k3 : W5.cell? ⟨w.heap.size + 1, 3, none⟩ = some (.int .i64 0) := box_cell (j := 3) Z5 rfl
    have k4 : W5.cell? ⟨w.heap.size + 1, 4, none⟩ = some (.string ⟨#[]⟩) := box_cell (j := 4) Z5 rfl
    have k5 : W5.cell? ⟨w.heap.size + 1, 5, none⟩ = some (.slice none 0 0) := box_cell (j := 5) Z5 rfl
    have k6 : W5.cell? ⟨w.heap.size + 1, 6, none⟩ = some (.slice none 0 0) := box_cell (j := 6) Z5 rfl
    clear B5 hf3 hf2 hz2 hz3 hb0 hb3 x6 y5 y6 z5 z6 q5 q6 p5 p6 p7
    go_wp2_with fail
    have R7 := (box_set (i := 6) (box_set (i := 5) (box_set (i := 4) (box_set (i := 3) (box_set (i := 2) (box_set (i := 1) (box_set (i := 0) Z5 (.int .i64 no)) (.int .i64 kind)) (.int .i64 links)) (.int .i64 size)) (.string target)) (.slice A2 es.length c2)) (.slice A3 rs.length c3))
    have E7 := Ext.setCells (g := w.heap.size + 1) (Nat.le_succ _) g1 [.int .i64 no, .int .i64 kind, .int .i64 links, .int .i64 size, .string target, .slice A2 es.length c2, .slice A3 rs.length c3] 0 _ E5
    refine bodyPost_ret (v := .agg #[.int .i64 no, .int .i64 kind, .int .i64 links, .int .i64 size, .string target, .slice A2 es.length c2, .slice A3 rs.length c3]) ?_ rfl ⟨[.int .i64 no, .int .i64 kind, .int .i64 links, .int .i64 size, .string target, .slice A2 es.length c2, .slice A3 rs.length c3], h3, rfl, ⟨A2, c2, A3, c3, rfl, s0, ⟨u1, u0, u2⟩, r2.mono F3.le, ⟨v1, v0, v2⟩, r3⟩, E7⟩
    exact results_cell_row (p := 2) (ty := 37) (by kernel_rfl) _ _ (w.heap.size + 1) 37 #[.int .i64 no, .int .i64 kind, .int .i64 links, .int .i64 size, .string target, .slice A2 es.length c2, .slice A3 rs.length c3] (0, 0) _ (by simp) R7 Try.underlying37 rfl (by kernel_rfl)
end Go.Proofs.Yteolmamiblddjaa
