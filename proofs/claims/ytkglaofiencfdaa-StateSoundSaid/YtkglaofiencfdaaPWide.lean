import Derived.Test.YtkglaofiencfdaaStAll
import Derived.Test.YtkglaofiencfdaaStB
namespace Go.Proofs.Ytkglaofiencfdaa
open Go.RowKit Go.Sort
set_option linter.unusedVariables false
set_option maxHeartbeats 4000000 in
set_option maxRecDepth 100000 in
theorem play_Wide (h : FH) (w : World) (hs : Sits h w) : Calls Try.prog 7 #[] w fun e w' => e = .returned (.agg #[.int .i64 8, .int .i64 2048, .int .i64 12, .int .i64 8, .int .i64 32]) ∧ Ext h w h w' := by
  have hR := heap_new w (.cells #[.int .i64 0, .int .i64 0, .int .i64 0, .int .i64 0, .int .i64 0] 26)
  have E1 := (Ext.refl hs).alloc (.cells #[.int .i64 0, .int .i64 0, .int .i64 0, .int .i64 0, .int .i64 0] 26)
  have nR := hs.none (Nat.le_refl w.heap.size)
  go_enter Try.func7, Try.ntmps7
  go_upto_region 1 with (fail)
  generalize hgR : w.heap.size = gR at *
  with_reducible generalize w.alloc (.cells #[.int .i64 0, .int .i64 0, .int .i64 0, .int .i64 0, .int .i64 0] 26) = w0 at E1 hR ⊢
  have hwR := hid (Nat.le_of_eq hgR)
  have z0 : w0.cell? ⟨gR, 0, none⟩ = some (.int .i64 0) := box_cell (j := 0) hR rfl
  have z1 : w0.cell? ⟨gR, 1, none⟩ = some (.int .i64 0) := box_cell (j := 1) hR rfl
  have z2 : w0.cell? ⟨gR, 2, none⟩ = some (.int .i64 0) := box_cell (j := 2) hR rfl
  have z3 : w0.cell? ⟨gR, 3, none⟩ = some (.int .i64 0) := box_cell (j := 3) hR rfl
  have z4 : w0.cell? ⟨gR, 4, none⟩ = some (.int .i64 0) := box_cell (j := 4) hR rfl
  have f0 := box_free (j := 0) hR
  have f1 := box_free (j := 1) hR
  have f2 := box_free (j := 2) hR
  have f3 := box_free (j := 3) hR
  have f4 := box_free (j := 4) hR
  have hR := hid hR
  have nR := hid nR
  have E1 := hid E1
  clear hgR
  go_wp2
  have R7 : ((((((w0.setCell ⟨gR, 0, none⟩ (.int .i64 8)).setCell ⟨gR, 1, none⟩ (.int .i64 2048)).setCell ⟨gR, 2, none⟩ (.int .i64 12)).setCell ⟨gR, 3, none⟩ (.int .i64 8)).setCell ⟨gR, 4, none⟩ (.int .i64 32))).heap[gR]? = some (.cells #[.int .i64 8, .int .i64 2048, .int .i64 12, .int .i64 8, .int .i64 32] 26 (0, 0)) := setCells_row [.int .i64 8, .int .i64 2048, .int .i64 12, .int .i64 8, .int .i64 32] hR.out rfl
  have E7 : Ext h w h (((((w0.setCell ⟨gR, 0, none⟩ (.int .i64 8)).setCell ⟨gR, 1, none⟩ (.int .i64 2048)).setCell ⟨gR, 2, none⟩ (.int .i64 12)).setCell ⟨gR, 3, none⟩ (.int .i64 8)).setCell ⟨gR, 4, none⟩ (.int .i64 32)) := Ext.setCells (g := gR) hwR.out nR.out [.int .i64 8, .int .i64 2048, .int .i64 12, .int .i64 8, .int .i64 32] 0 _ E1.out
  refine bodyPost_ret (v := .agg #[.int .i64 8, .int .i64 2048, .int .i64 12, .int .i64 8, .int .i64 32]) ?_ rfl ⟨rfl, E7⟩
  exact results_cell_row (p := 0) (ty := 26) (by kernel_rfl) _ _ gR 26 #[.int .i64 8, .int .i64 2048, .int .i64 12, .int .i64 8, .int .i64 32] (0, 0) _ (by simp) R7 Try.underlying26 rfl (by kernel_rfl)
end Go.Proofs.Ytkglaofiencfdaa
