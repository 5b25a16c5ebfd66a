import Derived.Test.YtkglaofiencfdaaStAll
import Derived.Test.YtkglaofiencfdaaStB
import Derived.Test.YtkglaofiencfdaaHelpIn
import Derived.Test.YtkglaofiencfdaaRefAdd
import Derived.ArgAppend
namespace Go.Proofs.Ytkglaofiencfdaa
open Go.RowKit Go.Sort
set_option linter.unusedVariables false
set_option maxHeartbeats 8000000 in
set_option maxRecDepth 100000 in
theorem ref_FindInode (s : State) (cs : List Value) (no : Int) (v : Option Inode) (hv : findI s.inodes no = v) (h : FH) (w : World) (hs : Sits h w) (r : repState h cs s) :
    Calls Try.prog 14 #[.agg cs.toArray, .int .i64 no] w fun e w' => RetFind h w v e w' := by
  obtain ⟨A1, c1, A2, c2, rfl, l1, r1, l2, r2⟩ := r
  have hl := r1.1
  have HV := hid hv
  clear hv
  obtain ⟨h1, E1, hb1, le1, hh1⟩ := (Ext.refl hs).boxF #[.int .i64 s.next, .slice A1 s.inodes.length c1, .slice A2 s.bads.length c2] 31
  have E2 := E1.alloc (.cells #[.int .i64 0, .int .i64 0, .int .i64 0, .int .i64 0, .string ⟨#[]⟩, .slice none 0 0, .slice none 0 0] 37)
  have hR := heap_new (w.alloc (.cells #[.int .i64 s.next, .slice A1 s.inodes.length c1, .slice A2 s.bads.length c2] 31)) (.cells #[.int .i64 0, .int .i64 0, .int .i64 0, .int .i64 0, .string ⟨#[]⟩, .slice none 0 0, .slice none 0 0] 37)
  have hR0 := E1.sits.none (g := (w.alloc (.cells #[.int .i64 s.next, .slice A1 s.inodes.length c1, .slice A2 s.bads.length c2] 31)).heap.size) (Nat.le_refl _)
  have hRs := E1.size
  go_enter Try.func14, Try.ntmps14
  go_upto_region 1 with (fail)
  generalize hgR : (w.alloc (.cells #[.int .i64 s.next, .slice A1 s.inodes.length c1, .slice A2 s.bads.length c2] 31)).heap.size = gR at *
  have hgR' : w.heap.size + 1 = gR := by rw [← hgR]; simp
  generalize (w.alloc (.cells #[.int .i64 s.next, .slice A1 s.inodes.length c1, .slice A2 s.bads.length c2] 31)).alloc (.cells #[.int .i64 0, .int .i64 0, .int .i64 0, .int .i64 0, .string ⟨#[]⟩, .slice none 0 0, .slice none 0 0] 37) = W2 at *
  have HR := hid hR
  have HE2 := hid E2
  rw [hgR']
  clear hR E2 hh1 hgR hgR'
  go_wp2_with fail
  go_loopw [6] (fun i wr => ∃ k : Nat, k ≤ s.inodes.length ∧ i = .int .i64 k ∧ Hid (∀ i y, i < k → s.inodes[i]? = some y → isI no y = false) ∧ Hid (Ext h w h1 wr) ∧ Hid (wr.heap[gR]? = some (.cells #[.int .i64 0, .int .i64 0, .int .i64 0, .int .i64 0, .string ⟨#[]⟩, .slice none 0 0, .slice none 0 0] 37 (0, 0)))) (fun i _ => s.inodes.length - (intOf i).toNat)
  case atStart => exact ⟨0, Nat.zero_le _, rfl, hid (fun i y hi => by omega), HE2, HR⟩
  case round =>
    obtain ⟨k, hk, rfl, HN, E, HRr⟩ := hrel
    have x1 : wr.cell? ⟨w.heap.size, 1, none⟩ = some (.slice A1 s.inodes.length c1) := Sits_at E.out.sits hb1 rfl
    by_cases hlt : k < s.inodes.length
    · obtain ⟨x, hx⟩ : ∃ x, s.inodes[k]? = some x := ⟨s.inodes[k], by simp [hlt]⟩
      obtain ⟨b, off, A5, c5, A6, c6, rfl, d0, d1, d2, d3, d4, d5, d6, s0, s1, s2, s3, s4⟩ := (r1.mono E.out.le).inode hx E.out.sits
      have HX := hid hx
      have RX := hid (show repInode h1 [.int .i64 x.no, .int .i64 x.kind, .int .i64 x.links, .int .i64 x.size, .string x.target, .slice A5 x.entries.length c5, .slice A6 x.runs.length c6] x from ⟨A5, c5, A6, c6, rfl, s0, s1, s2, s3, s4⟩)
      clear hx
      obtain ⟨q, hq⟩ : ∃ q, isI no x = q := ⟨_, rfl⟩
      have HQ := hid hq
      have hq2 : (x.no == no) = q := hq
      clear hq
      cases q
      · have HN2 := hid (no_step HN.out HX.out HQ.out)
        go_wp2_with fail
        go_roundw
        case rel => exact ⟨k + 1, by omega, by go_num, HN2, E, HRr⟩
        case measure => simp [intOf]; omega
      · have HVS := hid (show v = some x by rw [← HV.out]; exact find_at HN.out HX.out HQ.out)
        have u0 : wr.cell? ⟨gR, 0, none⟩ = some (.int .i64 0) := box_cell (j := 0) HRr.out rfl
        have f0 := box_free (j := 0) HRr.out
        have u1 : wr.cell? ⟨gR, 1, none⟩ = some (.int .i64 0) := box_cell (j := 1) HRr.out rfl
        have f1 := box_free (j := 1) HRr.out
        have u2 : wr.cell? ⟨gR, 2, none⟩ = some (.int .i64 0) := box_cell (j := 2) HRr.out rfl
        have f2 := box_free (j := 2) HRr.out
        have u3 : wr.cell? ⟨gR, 3, none⟩ = some (.int .i64 0) := box_cell (j := 3) HRr.out rfl
        have f3 := box_free (j := 3) HRr.out
        have u4 : wr.cell? ⟨gR, 4, none⟩ = some (.string ⟨#[]⟩) := box_cell (j := 4) HRr.out rfl
        have f4 := box_free (j := 4) HRr.out
        have u5 : wr.cell? ⟨gR, 5, none⟩ = some (.slice none 0 0) := box_cell (j := 5) HRr.out rfl
        have f5 := box_free (j := 5) HRr.out
        have u6 : wr.cell? ⟨gR, 6, none⟩ = some (.slice none 0 0) := box_cell (j := 6) HRr.out rfl
        have f6 := box_free (j := 6) HRr.out
        go_wp2_with fail
        have E7 : Ext h w h1 (((((((wr.setCell ⟨gR, 0, none⟩ (.int .i64 x.no)).setCell ⟨gR, 1, none⟩ (.int .i64 x.kind)).setCell ⟨gR, 2, none⟩ (.int .i64 x.links)).setCell ⟨gR, 3, none⟩ (.int .i64 x.size)).setCell ⟨gR, 4, none⟩ (.string x.target)).setCell ⟨gR, 5, none⟩ (.slice A5 x.entries.length c5)).setCell ⟨gR, 6, none⟩ (.slice A6 x.runs.length c6)) := Ext.setCells (g := gR) hRs hR0 [.int .i64 x.no, .int .i64 x.kind, .int .i64 x.links, .int .i64 x.size, .string x.target, .slice A5 x.entries.length c5, .slice A6 x.runs.length c6] 0 _ E.out
        have R7 : ((((((((wr.setCell ⟨gR, 0, none⟩ (.int .i64 x.no)).setCell ⟨gR, 1, none⟩ (.int .i64 x.kind)).setCell ⟨gR, 2, none⟩ (.int .i64 x.links)).setCell ⟨gR, 3, none⟩ (.int .i64 x.size)).setCell ⟨gR, 4, none⟩ (.string x.target)).setCell ⟨gR, 5, none⟩ (.slice A5 x.entries.length c5)).setCell ⟨gR, 6, none⟩ (.slice A6 x.runs.length c6))).heap[gR]? = some (.cells #[.int .i64 x.no, .int .i64 x.kind, .int .i64 x.links, .int .i64 x.size, .string x.target, .slice A5 x.entries.length c5, .slice A6 x.runs.length c6] 37 (0, 0)) := setCells_row [.int .i64 x.no, .int .i64 x.kind, .int .i64 x.links, .int .i64 x.size, .string x.target, .slice A5 x.entries.length c5, .slice A6 x.runs.length c6] HRr.out rfl
        with_reducible generalize (((((((wr.setCell ⟨gR, 0, none⟩ (.int .i64 x.no)).setCell ⟨gR, 1, none⟩ (.int .i64 x.kind)).setCell ⟨gR, 2, none⟩ (.int .i64 x.links)).setCell ⟨gR, 3, none⟩ (.int .i64 x.size)).setCell ⟨gR, 4, none⟩ (.string x.target)).setCell ⟨gR, 5, none⟩ (.slice A5 x.entries.length c5)).setCell ⟨gR, 6, none⟩ (.slice A6 x.runs.length c6)) = W9 at E7 R7 ⊢
        have y0 : W9.cell? ⟨gR, 0, none⟩ = some (.int .i64 x.no) := box_cell (j := 0) R7 rfl
        have y1 : W9.cell? ⟨gR, 1, none⟩ = some (.int .i64 x.kind) := box_cell (j := 1) R7 rfl
        have y2 : W9.cell? ⟨gR, 2, none⟩ = some (.int .i64 x.links) := box_cell (j := 2) R7 rfl
        have y3 : W9.cell? ⟨gR, 3, none⟩ = some (.int .i64 x.size) := box_cell (j := 3) R7 rfl
        have y4 : W9.cell? ⟨gR, 4, none⟩ = some (.string x.target) := box_cell (j := 4) R7 rfl
        have y5 : W9.cell? ⟨gR, 5, none⟩ = some (.slice A5 x.entries.length c5) := box_cell (j := 5) R7 rfl
        have y6 : W9.cell? ⟨gR, 6, none⟩ = some (.slice A6 x.runs.length c6) := box_cell (j := 6) R7 rfl
        refine bodyPost_ret (v := .tuple #[.agg #[.int .i64 x.no, .int .i64 x.kind, .int .i64 x.links, .int .i64 x.size, .string x.target, .slice A5 x.entries.length c5, .slice A6 x.runs.length c6], .bool true]) (by simp [results, Try.results14, go_sem, y0, y1, y2, y3, y4, y5, y6]) rfl ⟨_, h1, by rw [HVS.out]; rfl, by rw [HVS.out]; exact RX.out, E7⟩
    · have HVN := hid (show v = none by rw [← HV.out]; exact find_no (fun i y hi => HN.out i y (by omega)))
      have u0 : wr.cell? ⟨gR, 0, none⟩ = some (.int .i64 0) := box_cell (j := 0) HRr.out rfl
      have f0 := box_free (j := 0) HRr.out
      have u1 : wr.cell? ⟨gR, 1, none⟩ = some (.int .i64 0) := box_cell (j := 1) HRr.out rfl
      have f1 := box_free (j := 1) HRr.out
      have u2 : wr.cell? ⟨gR, 2, none⟩ = some (.int .i64 0) := box_cell (j := 2) HRr.out rfl
      have f2 := box_free (j := 2) HRr.out
      have u3 : wr.cell? ⟨gR, 3, none⟩ = some (.int .i64 0) := box_cell (j := 3) HRr.out rfl
      have f3 := box_free (j := 3) HRr.out
      have u4 : wr.cell? ⟨gR, 4, none⟩ = some (.string ⟨#[]⟩) := box_cell (j := 4) HRr.out rfl
      have f4 := box_free (j := 4) HRr.out
      have u5 : wr.cell? ⟨gR, 5, none⟩ = some (.slice none 0 0) := box_cell (j := 5) HRr.out rfl
      have f5 := box_free (j := 5) HRr.out
      have u6 : wr.cell? ⟨gR, 6, none⟩ = some (.slice none 0 0) := box_cell (j := 6) HRr.out rfl
      have f6 := box_free (j := 6) HRr.out
      go_wp2_with fail
      have E7 : Ext h w h1 (((((((wr.setCell ⟨gR, 0, none⟩ (.int .i64 0)).setCell ⟨gR, 1, none⟩ (.int .i64 0)).setCell ⟨gR, 2, none⟩ (.int .i64 0)).setCell ⟨gR, 3, none⟩ (.int .i64 0)).setCell ⟨gR, 4, none⟩ (.string ⟨#[]⟩)).setCell ⟨gR, 5, none⟩ (.slice none 0 0)).setCell ⟨gR, 6, none⟩ (.slice none 0 0)) := Ext.setCells (g := gR) hRs hR0 [.int .i64 0, .int .i64 0, .int .i64 0, .int .i64 0, .string ⟨#[]⟩, .slice none 0 0, .slice none 0 0] 0 _ E.out
      have R7 : ((((((((wr.setCell ⟨gR, 0, none⟩ (.int .i64 0)).setCell ⟨gR, 1, none⟩ (.int .i64 0)).setCell ⟨gR, 2, none⟩ (.int .i64 0)).setCell ⟨gR, 3, none⟩ (.int .i64 0)).setCell ⟨gR, 4, none⟩ (.string ⟨#[]⟩)).setCell ⟨gR, 5, none⟩ (.slice none 0 0)).setCell ⟨gR, 6, none⟩ (.slice none 0 0))).heap[gR]? = some (.cells #[.int .i64 0, .int .i64 0, .int .i64 0, .int .i64 0, .string ⟨#[]⟩, .slice none 0 0, .slice none 0 0] 37 (0, 0)) := setCells_row [.int .i64 0, .int .i64 0, .int .i64 0, .int .i64 0, .string ⟨#[]⟩, .slice none 0 0, .slice none 0 0] HRr.out rfl
      with_reducible generalize (((((((wr.setCell ⟨gR, 0, none⟩ (.int .i64 0)).setCell ⟨gR, 1, none⟩ (.int .i64 0)).setCell ⟨gR, 2, none⟩ (.int .i64 0)).setCell ⟨gR, 3, none⟩ (.int .i64 0)).setCell ⟨gR, 4, none⟩ (.string ⟨#[]⟩)).setCell ⟨gR, 5, none⟩ (.slice none 0 0)).setCell ⟨gR, 6, none⟩ (.slice none 0 0)) = W9 at E7 R7 ⊢
      have y0 : W9.cell? ⟨gR, 0, none⟩ = some (.int .i64 0) := box_cell (j := 0) R7 rfl
      have y1 : W9.cell? ⟨gR, 1, none⟩ = some (.int .i64 0) := box_cell (j := 1) R7 rfl
      have y2 : W9.cell? ⟨gR, 2, none⟩ = some (.int .i64 0) := box_cell (j := 2) R7 rfl
      have y3 : W9.cell? ⟨gR, 3, none⟩ = some (.int .i64 0) := box_cell (j := 3) R7 rfl
      have y4 : W9.cell? ⟨gR, 4, none⟩ = some (.string ⟨#[]⟩) := box_cell (j := 4) R7 rfl
      have y5 : W9.cell? ⟨gR, 5, none⟩ = some (.slice none 0 0) := box_cell (j := 5) R7 rfl
      have y6 : W9.cell? ⟨gR, 6, none⟩ = some (.slice none 0 0) := box_cell (j := 6) R7 rfl
      refine bodyPost_ret (v := .tuple #[.agg #[.int .i64 0, .int .i64 0, .int .i64 0, .int .i64 0, .string ⟨#[]⟩, .slice none 0 0, .slice none 0 0], .bool false]) (by simp [results, Try.results14, go_sem, y0, y1, y2, y3, y4, y5, y6]) rfl ⟨_, h1, by rw [HVN.out]; rfl, by rw [HVN.out]; exact zeroI_rep _, E7⟩
set_option maxHeartbeats 4000000 in
set_option maxRecDepth 100000 in
theorem ref_NewState (h : FH) (w : World) (hs : Sits h w) : Calls Try.prog 23 #[] w fun e w' => RetState h w newS e w' := by
  have E1 := (Ext.refl hs).alloc (.cells #[.int .i64 0, .slice none 0 0, .slice none 0 0] 31)
  have hR := heap_new w (.cells #[.int .i64 0, .slice none 0 0, .slice none 0 0] 31)
  have nR := hs.none (Nat.le_refl w.heap.size)
  go_enter Try.func23, Try.ntmps23
  go_upto_region 1 with (fail)
  generalize hgR : w.heap.size = gR at *
  with_reducible generalize w.alloc (.cells #[.int .i64 0, .slice none 0 0, .slice none 0 0] 31) = w1 at E1 hR ⊢
  have E1 := hid E1
  have hR := hid hR
  have nR := hid nR
  have hwR := hid (Nat.le_of_eq hgR)
  clear hgR
  go_wp2_with (go_at_call 51; refine (ref_NewInode_2 1 ⟨#[]⟩ (by decide) h w1 E1.out.sits).mono ?_; rintro e w2 ⟨rfl, F2⟩; rw [show newV 1 2 ⟨#[]⟩ = .agg #[.int .i64 1, .int .i64 2, .int .i64 2, .int .i64 0, .string ⟨#[]⟩, .slice none 0 0, .slice none 0 0] from rfl]; obtain ⟨h3, E3, hI, le3, hh3⟩ := (E1.out.trans F2).boxF #[.int .i64 1, .int .i64 2, .int .i64 2, .int .i64 0, .string ⟨#[]⟩, .slice none 0 0, .slice none 0 0] 37; have hlt := (F2.none nR.out (Array.getElem?_eq_some_iff.1 hR.out).1); have hR3 := box_alloc (F2.row hR.out) (.cells #[.int .i64 1, .int .i64 2, .int .i64 2, .int .i64 0, .string ⟨#[]⟩, .slice none 0 0, .slice none 0 0] 37); have n3 := hid (show h3 gR = none by rw [hh3, FH.add_other _ _ (Nat.ne_of_lt (Array.getElem?_eq_some_iff.1 (F2.row hR.out)).1)]; exact nR.out); clear hh3; have z0 : (w2.alloc (.cells #[.int .i64 1, .int .i64 2, .int .i64 2, .int .i64 0, .string ⟨#[]⟩, .slice none 0 0, .slice none 0 0] 37)).cell? ⟨gR, 0, none⟩ = some (.int .i64 0) := box_cell (j := 0) hR3 rfl; have z1 : (w2.alloc (.cells #[.int .i64 1, .int .i64 2, .int .i64 2, .int .i64 0, .string ⟨#[]⟩, .slice none 0 0, .slice none 0 0] 37)).cell? ⟨gR, 1, none⟩ = some (.slice none 0 0) := box_cell (j := 1) hR3 rfl; have z2 : (w2.alloc (.cells #[.int .i64 1, .int .i64 2, .int .i64 2, .int .i64 0, .string ⟨#[]⟩, .slice none 0 0, .slice none 0 0] 37)).cell? ⟨gR, 2, none⟩ = some (.slice none 0 0) := box_cell (j := 2) hR3 rfl; have f0 := box_free (j := 0) hR3; have f1 := box_free (j := 1) hR3; have f2 := box_free (j := 2) hR3; have hR3 := hid hR3; have hI := hid hI; have E3 := hid E3; clear hlt)
  have R7 : (((((w2.alloc (.cells #[.int .i64 1, .int .i64 2, .int .i64 2, .int .i64 0, .string ⟨#[]⟩, .slice none 0 0, .slice none 0 0] 37)).setCell ⟨gR, 0, none⟩ (.int .i64 2)).setCell ⟨gR, 1, none⟩ (.slice (some ⟨w2.heap.size, 0, none⟩) 1 1)).setCell ⟨gR, 2, none⟩ (.slice none 0 0))).heap[gR]? = some (.cells #[.int .i64 2, .slice (some ⟨w2.heap.size, 0, none⟩) 1 1, .slice none 0 0] 31 (0, 0)) := setCells_row [.int .i64 2, .slice (some ⟨w2.heap.size, 0, none⟩) 1 1, .slice none 0 0] hR3.out rfl
  have E7 : Ext h w h3 ((((w2.alloc (.cells #[.int .i64 1, .int .i64 2, .int .i64 2, .int .i64 0, .string ⟨#[]⟩, .slice none 0 0, .slice none 0 0] 37)).setCell ⟨gR, 0, none⟩ (.int .i64 2)).setCell ⟨gR, 1, none⟩ (.slice (some ⟨w2.heap.size, 0, none⟩) 1 1)).setCell ⟨gR, 2, none⟩ (.slice none 0 0)) := Ext.setCells (g := gR) hwR.out n3.out [.int .i64 2, .slice (some ⟨w2.heap.size, 0, none⟩) 1 1, .slice none 0 0] 0 _ E3.out
  refine bodyPost_ret (v := .agg #[.int .i64 2, .slice (some ⟨w2.heap.size, 0, none⟩) 1 1, .slice none 0 0]) ?_ rfl ⟨_, h3, rfl, ⟨some ⟨w2.heap.size, 0, none⟩, 1, none, 0, rfl, ⟨Nat.le_refl _, (fun e => by cases e), by decide⟩, RowAt.of_block hI.out (Reps.single ⟨none, 0, none, 0, rfl, by decide, ⟨Nat.le_refl _, fun _ => rfl, by decide⟩, RowAt.nil _ _, ⟨Nat.le_refl _, fun _ => rfl, by decide⟩, RowAt.nil _ _⟩) (by decide), ⟨Nat.le_refl _, fun _ => rfl, by decide⟩, RowAt.nil _ _⟩, E7⟩
  exact results_cell_row (p := 0) (ty := 31) (by kernel_rfl) _ _ gR 31 #[.int .i64 2, .slice (some ⟨w2.heap.size, 0, none⟩) 1 1, .slice none 0 0] (0, 0) _ (by simp) R7 Try.underlying31 rfl (by kernel_rfl)
end Go.Proofs.Ytkglaofiencfdaa

namespace Go.Proofs.Ytkglaofiencfdaa
open Go.RowKit Go.Sort
set_option linter.unusedVariables false
/-- What a slice expression's address is. -/
theorem RowAt.dropS {α : Type} [Enc α] {h : FH} {A : Option Addr} {xs : List α} (r : RowAt h A xs) (k c : Nat) (hk : k ≤ xs.length) (hlc : xs.length ≤ c) : RowAt h (if c = k then A else A.map (fun x => x.add (k * Enc.sz α))) (xs.drop k) := by
  by_cases hd : 0 < (xs.drop k).length
  · rw [List.length_drop] at hd
    obtain ⟨b, off, rfl, f⟩ := r.2 (by omega)
    rw [if_neg (by omega)]
    have := r.dropN k
    rw [show Option.map (fun x : Addr => x.add (k * Enc.sz α)) (some ⟨b, off, none⟩) = some ⟨b, off + k * Enc.sz α, none⟩ from by simp [Addr.add]]
    exact this
  · rw [List.eq_nil_of_length_eq_zero (l := xs.drop k) (by omega)]; exact RowAt.nil _ _
set_option maxRecDepth 100000 in
theorem RowAt.ixInt {h : FH} {A : Option Addr} {xs : List Int} (r : RowAt h A xs) {k : Nat} {x : Int} (hx : xs[k]? = some x) {w : World} (hs : Sits h w) (c : Nat) :
    ∃ b off, (∀ w', (Instr.indexAt 29 (.slice A xs.length c) (.int .i64 (k : Int))).run Try.prog w' = .ok (.pointer (some ⟨b, off + k, none⟩)) w') ∧ w.cell? ⟨b, off + k, none⟩ = some (.int .i64 x) := by
  obtain ⟨b, off, rfl, d0⟩ := r.int hx hs
  have hlt := (List.getElem?_eq_some_iff.1 hx).1
  refine ⟨b, off, fun w' => ?_, d0⟩
  rw [run_indexAt_slice (h := Try.underlying29), if_pos (by omega)]
  rw [show (sizeOf (Try.prog.elem 29)).run Try.prog w' = .ok 1 w' from by kernel_rfl]
  simp [Result.andThen, Addr.add]
/-- A row is handed back, which may be anyone's, and stays as it is. -/
def RetRow {α : Type} [Enc α] (h : FH) (w : World) (xs : List α) (e : Ending) (w' : World) : Prop := ∃ A c h1, e = .returned (.slice A xs.length c) ∧ CapLe A xs.length c ∧ RowAt h1 A xs ∧ Ext h w h1 w'
theorem RetRow.own {α : Type} [Enc α] {h h1 : FH} {w w1 : World} {T : TypeId} {base : Nat} {v : Value} {xs : List α} (O : OwnL h1 w1 base T v xs) (E : Ext h w h1 w1) (hb : w.heap.size ≤ base) (hlen : xs.length ≤ 9223372036854775807) : RetRow h w xs (.returned v) w1 := by
  obtain ⟨h', A, c, rfl, r, l, E1, u0, u1, u2, f⟩ := O.stayX E hb hlen
  exact ⟨A, c, h', rfl, ⟨u0, u2, u1⟩, r, E1⟩
theorem any_eqZ (xs : List Int) (no : Int) : xs.contains no = xs.any (eqZ no) := by
  rw [List.contains_eq_any_beq]; rfl
theorem posZ_at {no : Int} : ∀ {xs : List Int} {k : Nat}, k ≤ xs.length → (∀ i y, i < k → xs[i]? = some y → gtZ no y = false) → (∀ y, xs[k]? = some y → gtZ no y = true) → posZ xs no = k := fun {xs k} hk hn hy => by
  unfold posZ
  by_cases hlt : k < xs.length
  · rw [findIdx_hit hn (List.getElem?_eq_getElem hlt) (hy _ (List.getElem?_eq_getElem hlt))]; rfl
  · rw [findIdx_none_all (fun i y hi => hn i y (by omega))]; simp; omega

theorem newcellsX (w : World) (cs : List Value) (t : TypeId) : ∀ j u, cs[j]? = some u → (w.alloc (.cells cs.toArray t)).cell? ⟨w.heap.size, j, none⟩ = some u := fun j u hu => by
  rw [cell_of_row _ w.heap.size j cs.toArray t (0, 0) (heap_alloc_new w _)]; simpa using hu
set_option maxHeartbeats 8000000 in
set_option maxRecDepth 100000 in
theorem ref_addBad (xs : List Int) (A : Option Addr) (c : Nat) (hc : CapLe A xs.length c) (hbig : xs.length ≤ 1000) (no : Int) (h : FH) (w : World) (hs : Sits h w) (r : RowAt h A xs) :
    Calls Try.prog 29 #[.slice A xs.length c, .int .i64 no] w fun e w' => RetRow h w (badZ xs no) e w' := by
  have hl := r.1
  obtain ⟨c0, c1, c2⟩ := hc
  obtain ⟨q, hq⟩ : ∃ q, xs.any (eqZ no) = q := ⟨_, rfl⟩
  have KI := hid (help_In xs A c no q (by rw [any_eqZ]; exact hq) h w hs r)
  have HQ := hid hq
  have HC := hid (show CapLe A xs.length c from ⟨c0, c1, c2⟩)
  have hlc : (xs.length : Int) ≤ (c : Int) := by omega
  clear hq c1
  go_enter Try.func29, Try.ntmps29
  cases q
  · have HR := hid (show badZ xs no = xs.take (posZ xs no) ++ [no] ++ xs.drop (posZ xs no) by unfold badZ; rw [HQ.out]; rfl)
    go_wp2_with (go_at_call 62; refine KI.out.mono ?_; rintro e w1 ⟨rfl, E1⟩)
    go_loopw [5] (fun i wr => ∃ k : Nat, k ≤ xs.length ∧ i = .int .i64 k ∧ Hid (∀ i y, i < k → xs[i]? = some y → gtZ no y = false) ∧ Hid (Ext h w h wr)) (fun i _ => xs.length - (intOf i).toNat)
    case atStart => exact ⟨0, Nat.zero_le _, rfl, hid (fun i y hi => by omega), hid E1⟩
    case round =>
      obtain ⟨k, hk, rfl, HN, E⟩ := hrel
      have EE := E.out
      have i1 : (0 : Int) ≤ (k : Int) := by omega
      by_cases hstay : ∃ y, xs[k]? = some y ∧ gtZ no y = false
      · obtain ⟨y, hy, hg⟩ := hstay
        have HN2 := hid (show ∀ i z, i < k + 1 → xs[i]? = some z → gtZ no z = false from not_step HN.out hy hg)
        have hlt : k < xs.length := (List.getElem?_eq_some_iff.1 hy).1
        obtain ⟨b, off, hx, d0⟩ := r.ixInt hy EE.sits c
        have hle : y ≤ no := by unfold gtZ at hg; simpa using hg
        clear hy hg
        go_wp2_with fail
        go_roundw
        case rel => exact ⟨k + 1, by omega, by go_num, HN2, E⟩
        case measure => simp [intOf]; omega
      · have HP := hid (show posZ xs no = k from posZ_at hk HN.out (fun y hy => by
          cases hg : gtZ no y
          · exact absurd ⟨y, hy, hg⟩ hstay
          · rfl))
        have HI := hid (show badZ xs no = [] ++ xs.take k ++ [no] ++ xs.drop k by rw [HR.out, HP.out]; rfl)
        have HLT := hid (show k = (xs.take k).length by simp; omega)
        have HLD := hid (show xs.length - k = (xs.drop k).length by simp)
        have HB1 := hid (show (([] : List Int).length + (xs.take k).length) * 8 ≤ 140737488355328 by simp; omega)
        have HB2 := hid (show (([] ++ xs.take k : List Int).length + 1) * 8 ≤ 140737488355328 by simp; omega)
        have HB3 := hid (show (([] ++ xs.take k ++ [no] : List Int).length + (xs.drop k).length) * 8 ≤ 140737488355328 by simp; omega)
        have HRT := hid (r.takeN k)
        have HRD := hid (show RowAt h (if c = k then A else A.map (fun x => x.add k)) (xs.drop k) by have q := r.dropS k c hk HC.out.le; rwa [show k * Enc.sz Int = k from Nat.mul_one k] at q)
        have HSZ := hid (fun (w' : World) (E : Ext h w h w') => show w.heap.size ≤ w'.heap.size from E.size)
        have i2 : (k : Int) ≤ (c : Int) := by omega
        have i4 : (k : Int) ≤ (xs.length : Int) := by omega
        have FIN := hid (fun (u : Value) (w6 : World) (ys : List Int) (O : OwnL h w6 w.heap.size 3 u ys) (E : Ext h w h w6) (hy : ys = badZ xs no) => (by rw [← hy]; exact RetRow.own O E (Nat.le_refl _) (by rw [hy]; have := badZ_len xs no; omega) : RetRow h w (badZ xs no) (.returned u) w6))
        go_upto_region 4 with (fail)
        go_cut [21] (fun s wx => s = .bool false ∧ wx = wr)
        case first =>
          by_cases hlt : k < xs.length
          · obtain ⟨y, hy⟩ : ∃ y, xs[k]? = some y := ⟨xs[k], List.getElem?_eq_getElem hlt⟩
            obtain ⟨b, off, hx, d0⟩ := r.ixInt hy EE.sits c
            have hng : ¬ y ≤ no := fun hle => hstay ⟨y, hy, by unfold gtZ; simpa using hle⟩
            clear hy hstay
            go_wp2_with fail
            go_meet
            exact ⟨rfl, rfl⟩
          · clear hstay
            go_wp2_with fail
            go_meet
            exact ⟨rfl, rfl⟩
        case rest =>
          obtain ⟨rfl, rfl⟩ := hcut
          clear hstay
          have E4 := EE
          have E5 := EE.drew
          go_wp2_with fail
          go_region_held3 (fun w' => Ext h w h w') (first | with_reducible assumption | with_reducible exact E8 | with_reducible exact E7 | with_reducible exact E6 | with_reducible exact Ext.alloc E6 _ | with_reducible exact Ext.alloc E5 _ | with_reducible exact (Ext.alloc E4 _).drew) (first | (rw [if_pos (by rfl)]; refine step_appendR _ _ 29 rfl w.heap.size 3 8 ty_Int (.slice none 0 0) [] (xs.take k) rfl (OwnL.nil _ _ _ _) (Ext.sits (h := h) (h' := h) (w := w) (by first | with_reducible assumption | assumption)) _ k c rfl HLT.out HRT.out HB1.out (by decide) (HSZ.out _ (by first | with_reducible assumption | assumption)) ?_; intro v1 w4 O1 hg1; have E6 := Ext.grown (h := h) (h1 := h) (w := w) (by first | with_reducible assumption | assumption) hg1 (fun k hk => by cases hk)) | (rw [if_pos (by rfl)]; refine step_append1At _ _ 29 rfl w.heap.size 3 8 ty_Int v1 ([] ++ xs.take k) rfl (by first | with_reducible exact O1 | with_reducible exact O1.alloc _) (Ext.sits (h := h) (h' := h) (w := w) (by first | with_reducible assumption | assumption)) _ rfl [.int .i64 no] no rfl (by first | exact newcells _ [.int .i64 no] _ | exact fun j u hu => hg1.cell (newcells _ [.int .i64 no] _ j u hu) (by simp [Value.ownBlock])) HB2.out (by decide) (HSZ.out _ (by first | with_reducible assumption | assumption)) ?_; intro v2 w5 O2 hg2; have E7 := Ext.grown (h := h) (h1 := h) (w := w) (by first | with_reducible assumption | assumption) hg2 (fun k hk => ⟨(O1.lt k hk).1, O1.free k hk⟩)) | (rw [if_pos (by rfl)]; refine step_appendR _ _ 29 rfl w.heap.size 3 8 ty_Int v2 ([] ++ xs.take k ++ [no]) (xs.drop k) rfl O2 (Ext.sits (h := h) (h' := h) (w := w) (by first | with_reducible assumption | assumption)) _ _ _ rfl HLD.out HRD.out HB3.out (by decide) (HSZ.out _ (by first | with_reducible assumption | assumption)) ?_; intro v3 w6 O3 hg3; have E8 := Ext.grown (h := h) (h1 := h) (w := w) (by first | with_reducible assumption | assumption) hg3 (fun k hk => ⟨(O2.lt k hk).1, O2.free k hk⟩)))
          all_goals
            go_wp2_with fail
            all_goals
              go_ret
              exact FIN.out _ _ _ O3 E8 HI.out.symm
  · have HR := hid (show badZ xs no = xs by unfold badZ; rw [HQ.out]; rfl)
    go_wp2_with (go_at_call 62; refine KI.out.mono ?_; rintro e w1 ⟨rfl, E1⟩)
    go_ret
    rw [HR.out]
    exact ⟨A, c, h, rfl, HC.out, r, E1⟩
end Go.Proofs.Ytkglaofiencfdaa

namespace Go.Proofs.Ytkglaofiencfdaa
open Go.RowKit Go.Sort
set_option linter.unusedVariables false
section
variable {α : Type} [Enc α] {P : Program}
/-- append to a slice without room. -/
theorem run_appendFull {h : FH} {w : World} {t ty e : TypeId} {bytes : Nat} (T : TyOk P t e (Enc.sz α) bytes) {A : Option Addr} {xs : List α} (r : RowAt h A xs) (hs : Sits h w) {g : Nat} {cs : List Value} {y : α} (hy : Enc.rep h cs y) (hc : ∀ j u, cs[j]? = some u → w.cell? ⟨g, j, none⟩ = some u)
    (hbytes : (xs.length + 1) * bytes ≤ 140737488355328) (hpos : 0 < bytes) :
    ∃ v' w', (Builtin.append_ #[t, t] ty #[.slice A xs.length xs.length, .slice (some ⟨g, 0, none⟩) 1 1]).run P w = .ok v' w' ∧ OwnL h w' w.heap.size e v' (xs ++ [y]) ∧ w.grownBy w' none := by
  obtain ⟨i, z, hi, hz0, hz1, hz2, hz3⟩ := T.info
  have hlen : xs.length + 1 ≤ 140737488355328 := Nat.le_trans (Nat.le_mul_of_pos_right _ hpos) hbytes
  cases A with
  | none =>
    have hx : xs = [] := by
      cases xs with
      | nil => rfl
      | cons a l => obtain ⟨b, off, e, _⟩ := r.2 (by simp); cases e
    subst hx
    obtain ⟨v', w', h1, h2, h3⟩ := run_append1At (ty := ty) T (OwnL.nil h w w.heap.size e) hs hy hc (by simpa using hbytes) hpos (Nat.le_refl _)
    exact ⟨v', w', h1, h2, h3⟩
  | some ad =>
    obtain ⟨olds, RO, ho⟩ : ∃ olds, Reps h olds xs ∧ ∀ j u, olds[j]? = some u → w.cell? (ad.add j) = some u := by
      by_cases hx : 0 < xs.length
      · obtain ⟨b, off, e, f⟩ := r.2 hx
        cases e
        obtain ⟨olds, RN, hn⟩ := RowAt.reps (h := h) (b := b) (off := off) (xs := xs) 0 (fun i x hx => by simpa using f i x hx)
        exact ⟨olds, RN, fun j u hu => by rw [show (⟨b, off, none⟩ : Addr).add j = ⟨b, off + j, none⟩ from by unfold Addr.add; split <;> simp_all]; exact hs.cell (by simpa using hn j u hu)⟩
      · have : xs = [] := List.eq_nil_of_length_eq_zero (by omega)
        subst this
        exact ⟨[], rfl, fun j u hu => by simp at hu⟩
    have RN := Reps.single hy
    obtain ⟨v', w', h1, h2, h3⟩ := run_append_arg_grows (P := P) w t ty e i z (Enc.sz α) bytes T.und hi hz0 hz1 hz2 hz3 Enc.pos ad xs.length xs.length olds RO.length ho ⟨g, 0, none⟩ 1 1 cs (by rw [Enc.len hy]; omega) (fun j u hu => by
        rw [show (⟨g, 0, none⟩ : Addr).add j = ⟨g, j, none⟩ from by unfold Addr.add; split <;> simp_all]
        exact hc j u hu) (by omega) (by unfold maxLen; omega) hbytes
    refine ⟨v', w', h1, ⟨⟨_, by rw [List.length_append]; exact h2, RO.append RN⟩, fun g hg => ?_⟩, h3⟩
    have hb := h2.lt g hg
    exact hs.none hb.1
theorem step_appendFull {h : FH} {w : World} {o : Oper} {a : Act} {K : Act → World → Prop} {Q : Exit → Act → World → Prop} (s x : Operand) (t : TypeId)
    (ho : o.op = .call { callee := .builtin .append, args := #[s, x], argTypes := #[t, t] }) (e : TypeId) (bytes : Nat) (T : TyOk P t e (Enc.sz α) bytes) (A : Option Addr) (xs : List α) (r : RowAt h A xs) (n c : Nat) (hv : a.eval s = .slice A n c) (hn : n = xs.length) (hcx : c = xs.length) (hs : Sits h w)
    (g : Nat) (hx : a.eval x = .slice (some ⟨g, 0, none⟩) 1 1) (cs : List Value) (y : α) (hy : Enc.rep h cs y) (hc : ∀ j u, cs[j]? = some u → w.cell? ⟨g, j, none⟩ = some u) (hbytes : (xs.length + 1) * bytes ≤ 140737488355328) (hpos : 0 < bytes)
    (k : ∀ v' w', OwnL h w' w.heap.size e v' (xs ++ [y]) → w.grownBy w' none → K (a.put o.dst v') w') : o.wp P a w K Q := by
  subst hn
  subst hcx
  obtain ⟨v', w', hr, h2, h3⟩ := run_appendFull (ty := o.type) T r hs hy hc hbytes hpos
  unfold Oper.wp execOp
  simp only [ho, resolve, invoke, builtin, Sem.run_bind, Sem.run_pure, Result.andThen_ok, List.map_toArray, List.map_cons, List.map_nil, hv, hx, hr]
  exact k v' w' h2 h3
end
set_option maxRecDepth 100000 in
theorem RowAt.ixInode {h : FH} {A : Option Addr} {xs : List Inode} (r : RowAt h A xs) {k : Nat} {x : Inode} (hx : xs[k]? = some x) {w : World} (hs : Sits h w) (c : Nat) :
    ∃ b off A5 c5 A6 c6, (∀ w', (Instr.indexAt 28 (.slice A xs.length c) (.int .i64 (k : Int))).run Try.prog w' = .ok (.pointer (some ⟨b, off + k * 7, none⟩)) w') ∧ A = some ⟨b, off, none⟩ ∧ (w.cell? ⟨b, off + k * 7, none⟩ = some (.int .i64 x.no) ∧ w.cell? ⟨b, off + k * 7 + 1, none⟩ = some (.int .i64 x.kind) ∧ w.cell? ⟨b, off + k * 7 + 2, none⟩ = some (.int .i64 x.links) ∧ w.cell? ⟨b, off + k * 7 + 3, none⟩ = some (.int .i64 x.size) ∧ w.cell? ⟨b, off + k * 7 + 4, none⟩ = some (.string x.target) ∧ w.cell? ⟨b, off + k * 7 + 5, none⟩ = some (.slice A5 x.entries.length c5) ∧ w.cell? ⟨b, off + k * 7 + 6, none⟩ = some (.slice A6 x.runs.length c6)) ∧ repInode h [.int .i64 x.no, .int .i64 x.kind, .int .i64 x.links, .int .i64 x.size, .string x.target, .slice A5 x.entries.length c5, .slice A6 x.runs.length c6] x := by
  obtain ⟨b, off, A5, c5, A6, c6, rfl, d0, d1, d2, d3, d4, d5, d6, s0, s1, s2, s3, s4⟩ := r.inode hx hs
  have hlt := (List.getElem?_eq_some_iff.1 hx).1
  refine ⟨b, off, A5, c5, A6, c6, fun w' => ?_, rfl, ⟨d0, d1, d2, d3, d4, d5, d6⟩, ⟨A5, c5, A6, c6, rfl, s0, s1, s2, s3, s4⟩⟩
  rw [run_indexAt_slice (h := Try.underlying28), if_pos (by omega)]
  rw [show (sizeOf (Try.prog.elem 28)).run Try.prog w' = .ok 7 w' from by kernel_rfl]
  simp [Result.andThen, Addr.add]
theorem posI_at {no : Int} {xs : List Inode} {k : Nat} (hk : k ≤ xs.length) (hn : ∀ i y, i < k → xs[i]? = some y → gtI no y = false) (hy : ∀ y, xs[k]? = some y → gtI no y = true) : posI xs no = k := by
  unfold posI
  by_cases hlt : k < xs.length
  · rw [findIdx_hit hn (List.getElem?_eq_getElem hlt) (hy _ (List.getElem?_eq_getElem hlt))]; rfl
  · rw [findIdx_none_all (fun i y hi => hn i y (by omega))]; simp; omega

set_option maxHeartbeats 8000000 in
set_option maxRecDepth 100000 in
theorem ref_putInode (xs : List Inode) (A : Option Addr) (c : Nat) (hc : CapLe A xs.length c) (hbig : xs.length ≤ 1000) (x : Inode) (cs : List Value) (h : FH) (w : World) (hs : Sits h w) (r : RowAt h A xs) (rx : repInode h cs x) :
    Calls Try.prog 28 #[.slice A xs.length c, .agg cs.toArray] w fun e w' => RetRow h w (putI xs x) e w' := by
  have hl := r.1
  obtain ⟨A5, c5, A6, c6, rfl, s0, s1, s2, s3, s4⟩ := rx
  have RX := hid (show repInode h [.int .i64 x.no, .int .i64 x.kind, .int .i64 x.links, .int .i64 x.size, .string x.target, .slice A5 x.entries.length c5, .slice A6 x.runs.length c6] x from ⟨A5, c5, A6, c6, rfl, s0, s1, s2, s3, s4⟩)
  obtain ⟨h1, E1, hbX, le1, hh1⟩ := (Ext.refl hs).boxF #[.int .i64 x.no, .int .i64 x.kind, .int .i64 x.links, .int .i64 x.size, .string x.target, .slice A5 x.entries.length c5, .slice A6 x.runs.length c6] 37
  have RX1 := hid (RX.out.mono le1)
  have r1 := r.mono le1
  have HC := hid hc
  have hcap : (c : Int) ≤ 9223372036854775807 := by have := hc.mx; omega
  have hlc : (xs.length : Int) ≤ (c : Int) := by have := hc.le; omega
  have HB0 := hid (show (([] : List Inode).length + xs.length) * 96 ≤ 140737488355328 by simp; omega)
  clear hh1 hc
  go_enter Try.func28, Try.ntmps28
  go_upto_region 1 with (fail)
  generalize hgX : w.heap.size = gX at *
  have HgX := hid (Nat.le_of_eq hgX)
  with_reducible generalize w.alloc (.cells #[.int .i64 x.no, .int .i64 x.kind, .int .i64 x.links, .int .i64 x.size, .string x.target, .slice A5 x.entries.length c5, .slice A6 x.runs.length c6] 37) = w1 at E1 ⊢
  have hsz1 := hid E1.size
  clear hgX
  go_wp2_with (at_builtin; refine wpList_appendR rfl _ _ 28 rfl w.heap.size 37 96 ty_Inode (.slice none 0 0) [] xs rfl (OwnL.nil _ _ _ _) E1.sits _ _ _ rfl rfl r1 HB0.out (by decide) hsz1.out ?_; intro v1 w2 O1 hg1 _; have E2 := hid (E1.grown hg1 (fun k hk => by cases hk)); have O1 := hid (show OwnL h1 w2 w.heap.size 37 v1 xs by simpa using O1); obtain ⟨A1, d1, hv1, hcl⟩ := O1.out.slice; subst hv1; clear hg1)
  go_loopw [6] (fun i wr => ∃ k : Nat, k ≤ xs.length ∧ i = .int .i64 k ∧ Hid (∀ i y, i < k → xs[i]? = some y → isI x.no y = false) ∧ Hid (Ext h w h1 wr) ∧ Hid (OwnL h1 wr w.heap.size 37 (.slice A1 xs.length d1) xs)) (fun i _ => xs.length - (intOf i).toNat)
  case atStart => exact ⟨0, Nat.zero_le _, rfl, hid (fun i y hi => by omega), E2, O1⟩
  case round =>
    obtain ⟨k, hk, rfl, HN, E, O⟩ := hrel
    have hszr := hid E.out.size
    have i1 : (0 : Int) ≤ (k : Int) := by omega
    by_cases hlt : k < xs.length
    · obtain ⟨z, hz⟩ : ∃ z, xs[k]? = some z := ⟨xs[k], List.getElem?_eq_getElem hlt⟩
      have HZ := hid hz
      obtain ⟨g0, rfl⟩ : ∃ g0, A1 = some ⟨g0, 0, none⟩ := by
        obtain ⟨g2, cap2, cs2, hv2, _⟩ := O.out.get hz
        exact ⟨g2, by simp only [Value.slice.injEq] at hv2; exact hv2.1⟩
      obtain ⟨B5, e5, B6, e6, ⟨z0, z1, z2, z3, z4, z5, z6⟩, _, hfr2⟩ := own_get O.out hz
      have m0 : wr.cell? ⟨gX, 0, none⟩ = some (.int .i64 x.no) := Sits_at E.out.sits hbX rfl
      have y0 := fun d os => cell_regrown z0 d os
      have y1 := fun d os => cell_regrown m0 d os
      obtain ⟨q, hq⟩ : ∃ q, isI x.no z = q := ⟨_, rfl⟩
      have HQ := hid hq
      have hq2 : (z.no == x.no) = q := hq
      have i2 : (k : Int) < (xs.length : Int) := by omega
      clear hz hq z0 z1 z2 z3 z4 z5 z6 m0
      go_upto_region 5 with (fail)
      refine wp_region_quiet_below (by kernel_rfl) (by kernel_rfl) ?_
      repeat (go_big_quiet_step (fail))
      refine wpQuiet_nil ?_
      intro _ hw'
      obtain ⟨⟨dq, osq⟩, hw''⟩ := hw'
      subst hw''

      have Eq := hid (E.out.trans (Ext.quiet E.out.sits dq osq))
      have Oq := hid (O.out.ext (Ext.quiet E.out.sits dq osq))
      with_reducible generalize grow (redrawn wr dq) osq = wq at Eq Oq ⊢
      clear y0 y1
      cases q
      · have HN2 := hid (no_step HN.out HZ.out HQ.out)
        go_wp2_with fail
        go_roundw
        case rel => exact ⟨k + 1, by omega, by go_num, HN2, Eq, Oq⟩
        case measure => simp [intOf]; omega
      · have HP := hid (show putI xs x = xs.set k x by unfold putI; rw [findIdx_hit HN.out HZ.out HQ.out])
        obtain ⟨B5, e5, B6, e6, ⟨z0, z1, z2, z3, z4, z5, z6⟩, _, hfr2⟩ := own_get Oq.out HZ.out
        have r0 := hfr2 (k * 7)
        have r1 := hfr2 (k * 7 + 1)
        have r2 := hfr2 (k * 7 + 2)
        have r3 := hfr2 (k * 7 + 3)
        have r4 := hfr2 (k * 7 + 4)
        have r5 := hfr2 (k * 7 + 5)
        have r6 := hfr2 (k * 7 + 6)
        have m0 : wq.cell? ⟨gX, 0, none⟩ = some (.int .i64 x.no) := Sits_at Eq.out.sits hbX rfl
        have m1 : wq.cell? ⟨gX, 1, none⟩ = some (.int .i64 x.kind) := Sits_at Eq.out.sits hbX rfl
        have m2 : wq.cell? ⟨gX, 2, none⟩ = some (.int .i64 x.links) := Sits_at Eq.out.sits hbX rfl
        have m3 : wq.cell? ⟨gX, 3, none⟩ = some (.int .i64 x.size) := Sits_at Eq.out.sits hbX rfl
        have m4 : wq.cell? ⟨gX, 4, none⟩ = some (.string x.target) := Sits_at Eq.out.sits hbX rfl
        have m5 : wq.cell? ⟨gX, 5, none⟩ = some (.slice A5 x.entries.length c5) := Sits_at Eq.out.sits hbX rfl
        have m6 : wq.cell? ⟨gX, 6, none⟩ = some (.slice A6 x.runs.length c6) := Sits_at Eq.out.sits hbX rfl
        clear hfr2
        go_wp2_with fail
        have OF := Oq.out.setElem (i := k) (y := x) hlt RX1.out
        have GF := grown_setCells g0 [.int .i64 x.no, .int .i64 x.kind, .int .i64 x.links, .int .i64 x.size, .string x.target, .slice A5 x.entries.length c5, .slice A6 x.runs.length c6] (k * 7) wq (grownBy_of_ext (Ext.refl (Sits.all wq)) (some g0))
        have EF := Eq.out.grown GF (fun j hj => by cases hj; exact ⟨(Oq.out.lt g0 rfl).1, Oq.out.free g0 rfl⟩)
        go_ret
        rw [HP.out]
        exact RetRow.own OF EF (Nat.le_refl _) (by rw [List.length_set]; exact hl)
    · have HFN := hid (show xs.findIdx? (isI x.no) = none from findIdx_none_all (fun i y hi => HN.out i y (by omega)))
      go_wp2_with fail
      go_loopw [7] (fun i wr => ∃ k : Nat, k ≤ xs.length ∧ i = .int .i64 k ∧ Hid (∀ i y, i < k → xs[i]? = some y → gtI x.no y = false) ∧ Hid (Ext h w h1 wr) ∧ Hid (OwnL h1 wr w.heap.size 37 (.slice A1 xs.length d1) xs)) (fun i _ => xs.length - (intOf i).toNat)
      case atStart => exact ⟨0, Nat.zero_le _, rfl, hid (fun i y hi => by omega), E, O⟩
      case round =>
        obtain ⟨k, hk, rfl, HN, E, O⟩ := hrel
        have i1 : (0 : Int) ≤ (k : Int) := by omega
        obtain ⟨t, ht⟩ : ∃ t, (k < xs.length && (xs[k]?.map fun y => !gtI x.no y).getD false) = t := ⟨_, rfl⟩
        have HT := hid ht
        clear ht
        go_upto_region 9 with (fail)
        go_cut [42] (fun s wx => s = .bool t ∧ Hid (Ext h w h1 wx) ∧ Hid (OwnL h1 wx w.heap.size 37 (.slice A1 xs.length d1) xs))
        case first =>
          by_cases hlt2 : k < xs.length
          · obtain ⟨z, hz⟩ : ∃ z, xs[k]? = some z := ⟨xs[k], List.getElem?_eq_getElem hlt2⟩
            obtain ⟨b, off, B5, e5, B6, e6, hx, hA, ⟨z0, z1, z2, z3, z4, z5, z6⟩, _⟩ := r1.ixInode hz E.out.sits c
            have HT2 := hid (show decide (z.no ≤ x.no) = t by rw [← HT.out, hz]; by_cases hh : x.no < z.no <;> simp [hlt2, gtI, hh] <;> omega)
            have m0 : wr.cell? ⟨gX, 0, none⟩ = some (.int .i64 x.no) := Sits_at E.out.sits hbX rfl
            have y0 := fun d os => cell_regrown z0 d os
            have y1 := fun d os => cell_regrown m0 d os
            have i2 : (k : Int) < (xs.length : Int) := by omega
            have i3 : decide ((k : Int) < (xs.length : Int)) = true := decide_eq_true i2
            clear hz z0 z1 z2 z3 z4 z5 z6 m0 hA
            refine wp_region_quiet_below (by kernel_rfl) (by kernel_rfl) ?_
            repeat (go_big_quiet_step (fail))
            refine wpQuiet_nil ?_
            intro _ hw'
            obtain ⟨⟨dq, osq⟩, hw''⟩ := hw'
            subst hw''

            go_wp2
            go_meet
            exact ⟨by rw [← HT2.out], hid (E.out.trans (Ext.quiet E.out.sits dq osq)), hid (O.out.ext (Ext.quiet E.out.sits dq osq))⟩
          · have HT2 := hid (show false = t by rw [← HT.out]; simp [hlt2])
            have i3 : decide ((k : Int) < (xs.length : Int)) = false := decide_eq_false (by omega)
            refine wp_region_quiet_below (by kernel_rfl) (by kernel_rfl) ?_
            repeat (go_big_quiet_step (fail))
            refine wpQuiet_nil ?_
            intro _ hw'
            obtain ⟨⟨dq, osq⟩, hw''⟩ := hw'
            subst hw''

            go_wp2
            go_meet
            exact ⟨by rw [← HT2.out], hid (E.out.trans (Ext.quiet E.out.sits dq osq)), hid (O.out.ext (Ext.quiet E.out.sits dq osq))⟩
        case rest =>
          obtain ⟨rfl, E4, O4⟩ := hcut
          clear E O
          cases t
          · have HP := hid (show posI xs x.no = k from posI_at hk HN.out (fun y hy => by
              have q := HT.out
              have hlt2 := (List.getElem?_eq_some_iff.1 hy).1
              rw [hy] at q
              simpa [hlt2] using q))
            have HI := hid (show putI xs x = xs.take k ++ [x] ++ xs.drop k by unfold putI; rw [HFN.out, HP.out])
            obtain ⟨h2, A4, d4, hv4, rA, le2, E5, hc4, k1, k2, f4⟩ := O4.out.stayX E4.out (Nat.le_refl _) hl
            obtain ⟨rfl, rfl⟩ : A1 = A4 ∧ d1 = d4 := by simpa using hv4
            have HLT := hid (show k = (xs.take k).length by simp; omega)
            have HLD := hid (show xs.length - k = (xs.drop k).length by simp)
            have HB2 := hid (show ((xs.take k).length + 1) * 96 ≤ 140737488355328 by simp; omega)
            have HB3 := hid (show ((xs.take k ++ [x]).length + (xs.drop k).length) * 96 ≤ 140737488355328 by simp; omega)
            have HRT := hid (rA.takeN k)
            have HRD := hid (show RowAt h2 (if c = k then A else A.map (fun x => x.add (k * 7))) (xs.drop k) from (r1.mono le2).dropS k c hk HC.out.le)
            have HSZ := hid (fun (w' : World) (E : Ext h w h2 w') => show w.heap.size ≤ w'.heap.size from E.size)
            have RX2 := hid (RX1.out.mono le2)
            have hb2 := le2 _ _ hbX
            have cx0 : ∀ w' : World, Ext h w h2 w' → w'.cell? ⟨gX, 0, none⟩ = some (.int .i64 x.no) := fun w' E => Sits_at E.sits hb2 rfl
            have cx1 : ∀ w' : World, Ext h w h2 w' → w'.cell? ⟨gX, 1, none⟩ = some (.int .i64 x.kind) := fun w' E => Sits_at E.sits hb2 rfl
            have cx2 : ∀ w' : World, Ext h w h2 w' → w'.cell? ⟨gX, 2, none⟩ = some (.int .i64 x.links) := fun w' E => Sits_at E.sits hb2 rfl
            have cx3 : ∀ w' : World, Ext h w h2 w' → w'.cell? ⟨gX, 3, none⟩ = some (.int .i64 x.size) := fun w' E => Sits_at E.sits hb2 rfl
            have cx4 : ∀ w' : World, Ext h w h2 w' → w'.cell? ⟨gX, 4, none⟩ = some (.string x.target) := fun w' E => Sits_at E.sits hb2 rfl
            have cx5 : ∀ w' : World, Ext h w h2 w' → w'.cell? ⟨gX, 5, none⟩ = some (.slice A5 x.entries.length c5) := fun w' E => Sits_at E.sits hb2 rfl
            have cx6 : ∀ w' : World, Ext h w h2 w' → w'.cell? ⟨gX, 6, none⟩ = some (.slice A6 x.runs.length c6) := fun w' E => Sits_at E.sits hb2 rfl
            have i2 : (k : Int) ≤ (c : Int) := by omega
            have i4 : (k : Int) ≤ (xs.length : Int) := by omega
            have i5 : (k : Int) ≤ (d1 : Int) := by omega
            have FIN := hid (fun (u : Value) (w6 : World) (ys : List Inode) (O : OwnL h2 w6 w.heap.size 37 u ys) (E : Ext h w h2 w6) (hy : ys = putI xs x) => (by rw [← hy]; exact RetRow.own O E (Nat.le_refl _) (by rw [hy]; have := putI_len xs x; omega) : RetRow h w (putI xs x) (.returned u) w6))
            have E6 := E5.drew
            clear HT HN hv4 hc4 k1 k2 f4
            go_wp2_with fail
            go_region_held3 (fun w' => Ext h w h2 w') (first | with_reducible assumption | with_reducible exact E8 | with_reducible exact E7 | with_reducible exact Ext.alloc E6 _ | with_reducible exact (Ext.alloc E5 _).drew) (first | (rw [if_pos (by rfl)]; refine step_appendFull _ _ 28 rfl 37 96 ty_Inode A1 (xs.take k) HRT.out _ _ rfl HLT.out HLT.out (Ext.sits (h := h) (h' := h2) (w := w) (by first | with_reducible assumption | assumption)) _ rfl [.int .i64 x.no, .int .i64 x.kind, .int .i64 x.links, .int .i64 x.size, .string x.target, .slice A5 x.entries.length c5, .slice A6 x.runs.length c6] x RX2.out (by first | exact newcellsX _ [.int .i64 x.no, .int .i64 x.kind, .int .i64 x.links, .int .i64 x.size, .string x.target, .slice A5 x.entries.length c5, .slice A6 x.runs.length c6] _ | exact fun j u hu => newcellsX _ [.int .i64 x.no, .int .i64 x.kind, .int .i64 x.links, .int .i64 x.size, .string x.target, .slice A5 x.entries.length c5, .slice A6 x.runs.length c6] _ j u hu) HB2.out (by decide) ?_; intro v2 w5 O2 hg2; have O2 := OwnL.rebase (base' := w.heap.size) O2 (HSZ.out _ (by first | with_reducible assumption | assumption)); have E7 := Ext.grown (h := h) (h1 := h2) (w := w) (by first | with_reducible assumption | assumption) hg2 (fun k hk => by cases hk)) | (rw [if_pos (by rfl)]; refine step_appendR _ _ 28 rfl w.heap.size 37 96 ty_Inode v2 (xs.take k ++ [x]) (xs.drop k) rfl O2 (Ext.sits (h := h) (h' := h2) (w := w) (by first | with_reducible assumption | assumption)) _ _ _ rfl HLD.out HRD.out HB3.out (by decide) (HSZ.out _ (by first | with_reducible assumption | assumption)) ?_; intro v3 w6 O3 hg3; have E8 := Ext.grown (h := h) (h1 := h2) (w := w) (by first | with_reducible assumption | assumption) hg3 (fun k hk => ⟨(O2.lt k hk).1, O2.free k hk⟩)))
            all_goals
              go_wp2_with fail
              all_goals
                go_ret
                exact FIN.out _ _ _ O3 E8 HI.out.symm
          · have hlt2 : k < xs.length := by
              have q := HT.out; simp only [Bool.and_eq_true, decide_eq_true_eq] at q; exact q.1
            have HN2 := hid (show ∀ i y, i < k + 1 → xs[i]? = some y → gtI x.no y = false from by
              have q := HT.out
              rw [List.getElem?_eq_getElem hlt2] at q
              exact no_step HN.out (List.getElem?_eq_getElem hlt2) (by simpa [hlt2] using q))
            go_wp2_with fail
            go_roundw
            case rel => exact ⟨k + 1, by omega, by go_num, HN2, E4, O4⟩
            case measure => simp [intOf]; omega
end Go.Proofs.Ytkglaofiencfdaa

namespace Go.Proofs.Ytkglaofiencfdaa
open Go.RowKit Go.Sort
set_option linter.unusedVariables false
structure InRA (h : FH) (w : World) (gS gR : Nat) (t : State) (h' : FH) (wr : World) (A3 : Option Addr) (c3 : Nat) (A4 : Option Addr) (c4 : Nat) : Prop where
  ext : Ext h w h' wr
  box : wr.heap[gS]? = some (.cells #[.int .i64 t.next, .slice A3 t.inodes.length c3, .slice A4 t.bads.length c4] 31 (0, 0))
  out : wr.heap[gR]? = some (.cells #[.int .i64 0, .slice none 0 0, .slice none 0 0] 31 (0, 0))
  k1 : CapLe A3 t.inodes.length c3
  r1 : RowAt h' A3 t.inodes
  k2 : CapLe A4 t.bads.length c4
  r2 : RowAt h' A4 t.bads
  nS : h' gS = none
  nR : h' gR = none
theorem InRA.more {h : FH} {w : World} {gS gR : Nat} {t : State} {h' h2 : FH} {wr w2 : World} {A3 : Option Addr} {c3 : Nat} {A4 : Option Addr} {c4 : Nat} (I : InRA h w gS gR t h' wr A3 c3 A4 c4) (E : Ext h' wr h2 w2) : InRA h w gS gR t h2 w2 A3 c3 A4 c4 :=
  ⟨I.ext.trans E, E.row I.box, E.row I.out, I.k1, I.r1.mono E.le, I.k2, I.r2.mono E.le, E.none I.nS (Array.getElem?_eq_some_iff.1 I.box).1, E.none I.nR (Array.getElem?_eq_some_iff.1 I.out).1⟩
theorem InRA.next {h : FH} {w : World} {gS gR : Nat} {t : State} {h' : FH} {wr : World} {A3 : Option Addr} {c3 : Nat} {A4 : Option Addr} {c4 : Nat} (I : InRA h w gS gR t h' wr A3 c3 A4 c4) (hw : w.heap.size ≤ gS) (hSR : gS ≠ gR) (n : Int) : InRA h w gS gR { t with next := n } h' (wr.setCell ⟨gS, 0, none⟩ (.int .i64 n)) A3 c3 A4 c4 :=
  ⟨I.ext.setCell hw I.nS _, box_set (i := 0) I.box _, box_other (i := 0) I.out (fun e => hSR e.symm) _, I.k1, I.r1, I.k2, I.r2, I.nS, I.nR⟩
theorem InRA.ino {h : FH} {w : World} {gS gR : Nat} {t : State} {h' : FH} {wr : World} {A3 : Option Addr} {c3 : Nat} {A4 : Option Addr} {c4 : Nat} (I : InRA h w gS gR t h' wr A3 c3 A4 c4) (hw : w.heap.size ≤ gS) (hSR : gS ≠ gR) {A : Option Addr} {c : Nat} {xs : List Inode} (k : CapLe A xs.length c) (r : RowAt h' A xs) : InRA h w gS gR { t with inodes := xs } h' (wr.setCell ⟨gS, 1, none⟩ (.slice A xs.length c)) A c A4 c4 :=
  ⟨I.ext.setCell hw I.nS _, box_set (i := 1) I.box _, box_other (i := 1) I.out (fun e => hSR e.symm) _, k, r, I.k2, I.r2, I.nS, I.nR⟩
theorem InRA.bad {h : FH} {w : World} {gS gR : Nat} {t : State} {h' : FH} {wr : World} {A3 : Option Addr} {c3 : Nat} {A4 : Option Addr} {c4 : Nat} (I : InRA h w gS gR t h' wr A3 c3 A4 c4) (hw : w.heap.size ≤ gS) (hSR : gS ≠ gR) {A : Option Addr} {c : Nat} {xs : List Int} (k : CapLe A xs.length c) (r : RowAt h' A xs) : InRA h w gS gR { t with bads := xs } h' (wr.setCell ⟨gS, 2, none⟩ (.slice A xs.length c)) A3 c3 A c :=
  ⟨I.ext.setCell hw I.nS _, box_set (i := 2) I.box _, box_other (i := 2) I.out (fun e => hSR e.symm) _, I.k1, I.r1, k, r, I.nS, I.nR⟩
theorem filter_snoc {xs : List Inode} {j : Nat} {x : Inode} (p : Inode → Bool) (hx : xs[j]? = some x) : (xs.take (j + 1)).filter p = if p x then (xs.take j).filter p ++ [x] else (xs.take j).filter p := by
  rw [take_snoc hx, List.filter_append]
  cases e : p x <;> simp [e]

set_option maxHeartbeats 8000000 in
set_option maxRecDepth 100000 in
theorem ref_Apply (s : State) (cs : List Value) (ds : List Deed) (AD : Option Addr) (cD : Nat) (hb1 : s.inodes.length + ds.length ≤ 900) (hb2 : s.bads.length + ds.length ≤ 900) (h : FH) (w : World) (hs : Sits h w) (r : repState h cs s) (rd : RowAt h AD ds) :
    Calls Try.prog 9 #[.agg cs.toArray, .slice AD ds.length cD] w fun e w' => RetState h w (applyS s ds) e w' := by
  obtain ⟨A1, c1, A2, c2, rfl, l1, r1, l2, r2⟩ := r
  have hld := rd.1
  have E1 := (Ext.refl hs).alloc (.cells #[.int .i64 s.next, .slice A1 s.inodes.length c1, .slice A2 s.bads.length c2] 31)
  have E2 := E1.alloc (.cells #[.int .i64 0, .slice none 0 0, .slice none 0 0] 31)
  have hS := box_alloc (heap_new w (.cells #[.int .i64 s.next, .slice A1 s.inodes.length c1, .slice A2 s.bads.length c2] 31)) (.cells #[.int .i64 0, .slice none 0 0, .slice none 0 0] 31)
  have hR := heap_new (w.alloc (.cells #[.int .i64 s.next, .slice A1 s.inodes.length c1, .slice A2 s.bads.length c2] 31)) (.cells #[.int .i64 0, .slice none 0 0, .slice none 0 0] 31)
  have nS := hs.none (Nat.le_refl w.heap.size)
  have nR := E1.sits.none (Nat.le_refl _)
  have hszR : (w.alloc (.cells #[.int .i64 s.next, .slice A1 s.inodes.length c1, .slice A2 s.bads.length c2] 31)).heap.size = w.heap.size + 1 := by simp
  clear E1
  go_enter Try.func9, Try.ntmps9
  go_upto_region 1 with (fail)
  rw [hszR] at hR nR
  obtain ⟨gS, hgS⟩ : ∃ gS, gS = w.heap.size := ⟨_, rfl⟩
  obtain ⟨gR, hgR⟩ : ∃ gR, gR = w.heap.size + 1 := ⟨_, rfl⟩
  rw [← hgS] at hS nS
  rw [← hgR] at hR nR
  rw [← hgR, ← hgS]
  with_reducible generalize (w.alloc (.cells #[.int .i64 s.next, .slice A1 s.inodes.length c1, .slice A2 s.bads.length c2] 31)).alloc (.cells #[.int .i64 0, .slice none 0 0, .slice none 0 0] 31) = W2 at E2 hS hR ⊢
  have hwS : w.heap.size ≤ gS := by omega
  have hwR : w.heap.size ≤ gR := by omega
  have hSR : gS ≠ gR := by omega
  have I0 : Hid (InRA h w gS gR (applyS s (ds.take 0)) h W2 A1 c1 A2 c2) := hid ⟨E2, hS, hR, l1, r1, l2, r2, nS, nR⟩
  clear hgS hgR hszR E2 hS hR nS nR r1 r2 l1 l2
  go_wp2_with fail
  go_loopw [5] (fun i wr => ∃ (k : Nat) (h' : FH) (A3 : Option Addr) (c3 : Nat) (A4 : Option Addr) (c4 : Nat), k ≤ ds.length ∧ i = .int .i64 k ∧ Hid (InRA h w gS gR (applyS s (ds.take k)) h' wr A3 c3 A4 c4)) (fun i _ => ds.length - (intOf i).toNat)
  case atStart => exact ⟨0, h, A1, c1, A2, c2, Nat.zero_le _, rfl, I0⟩
  case round =>
    obtain ⟨k, h', A3, c3, A4, c4, hk, rfl, I⟩ := hrel
    by_cases hlt : k < ds.length
    · obtain ⟨d, hd⟩ : ∃ d, ds[k]? = some d := ⟨ds[k], by simp [hlt]⟩
      obtain ⟨b, off, A7, c7, A8, c8, rfl, d0, d1, d2, d3, d4, d5, d6, d7, d8, t0, t1, t2, t3, t4⟩ := (rd.mono I.out.ext.le).deed hd I.out.ext.sits
      have HS := hid (applyS_snoc s hd)
      have hln := applyS_take_len s ds k hk
      have RD := hid (show repInode h' [.int .i64 d.inode.no, .int .i64 d.inode.kind, .int .i64 d.inode.links, .int .i64 d.inode.size, .string d.inode.target, .slice A7 d.inode.entries.length c7, .slice A8 d.inode.runs.length c8] d.inode from ⟨A7, c7, A8, c8, rfl, t0, t1, t2, t3, t4⟩)
      clear hd
      generalize applyS s (ds.take k) = t at I HS hln
      go_upto_region 5 with (fail)
      obtain ⟨h2, E3, hb3, le3, hh3⟩ := (Ext.refl I.out.ext.sits).boxF #[.int .i64 d.kind, .int .i64 d.no, .int .i64 d.inode.no, .int .i64 d.inode.kind, .int .i64 d.inode.links, .int .i64 d.inode.size, .string d.inode.target, .slice A7 d.inode.entries.length c7, .slice A8 d.inode.runs.length c8] 39
      have I1 := hid (I.out.more E3)
      have RD := hid (RD.out.mono le3)
      clear hh3 E3 le3
      generalize hgb : wr.heap.size = gb at *
      with_reducible generalize wr.alloc (.cells #[.int .i64 d.kind, .int .i64 d.no, .int .i64 d.inode.no, .int .i64 d.inode.kind, .int .i64 d.inode.links, .int .i64 d.inode.size, .string d.inode.target, .slice A7 d.inode.entries.length c7, .slice A8 d.inode.runs.length c8] 39) = W1 at I1 ⊢
      have m0 : W1.cell? ⟨gb, 0, none⟩ = some (.int .i64 d.kind) := Sits_at I1.out.ext.sits hb3 rfl
      have m1 : W1.cell? ⟨gb, 1, none⟩ = some (.int .i64 d.no) := Sits_at I1.out.ext.sits hb3 rfl
      have m2 : W1.cell? ⟨gb, 2, none⟩ = some (.int .i64 d.inode.no) := Sits_at I1.out.ext.sits hb3 rfl
      have m3 : W1.cell? ⟨gb, 3, none⟩ = some (.int .i64 d.inode.kind) := Sits_at I1.out.ext.sits hb3 rfl
      have m4 : W1.cell? ⟨gb, 4, none⟩ = some (.int .i64 d.inode.links) := Sits_at I1.out.ext.sits hb3 rfl
      have m5 : W1.cell? ⟨gb, 5, none⟩ = some (.int .i64 d.inode.size) := Sits_at I1.out.ext.sits hb3 rfl
      have m6 : W1.cell? ⟨gb, 6, none⟩ = some (.string d.inode.target) := Sits_at I1.out.ext.sits hb3 rfl
      have m7 : W1.cell? ⟨gb, 7, none⟩ = some (.slice A7 d.inode.entries.length c7) := Sits_at I1.out.ext.sits hb3 rfl
      have m8 : W1.cell? ⟨gb, 8, none⟩ = some (.slice A8 d.inode.runs.length c8) := Sits_at I1.out.ext.sits hb3 rfl
      have x0 : W1.cell? ⟨gS, 0, none⟩ = some (.int .i64 t.next) := box_cell (j := 0) I1.out.box rfl
      have x1 : W1.cell? ⟨gS, 1, none⟩ = some (.slice A3 t.inodes.length c3) := box_cell (j := 1) I1.out.box rfl
      have x2 : W1.cell? ⟨gS, 2, none⟩ = some (.slice A4 t.bads.length c4) := box_cell (j := 2) I1.out.box rfl
      have f0 := box_free (j := 0) I1.out.box
      have f1 := box_free (j := 1) I1.out.box
      have f2 := box_free (j := 2) I1.out.box
      have KP := hid (ref_putInode t.inodes A3 c3 I1.out.k1 (by omega) d.inode _ h2 W1 I1.out.ext.sits I1.out.r1 RD.out)
      have KB := hid (ref_addBad t.bads A4 c4 I1.out.k2 (by omega) d.no h2 W1 I1.out.ext.sits I1.out.r2)
      clear d0 d1 d2 d3 d4 d5 d6 d7 d8 I
      by_cases k1 : d.kind = 1
      · have b1 : (d.kind == 1) = true := by simpa using k1
        have HA := hid (show applyD t d = { t with next := d.no } by unfold applyD; rw [if_pos k1])
        clear k1
        go_wp2_with fail
        go_roundw
        case rel => exact ⟨k + 1, h2, A3, c3, A4, c4, by omega, by go_num, hid (by rw [HS.out, HA.out]; exact I1.out.next hwS hSR _)⟩
        case measure => simp [intOf]; omega
      · have b1 : (d.kind == 1) = false := by simpa using k1
        by_cases k2 : d.kind = 2
        · have b2 : (d.kind == 2) = true := by simpa using k2
          have HA := hid (show applyD t d = { t with inodes := putI t.inodes d.inode } by unfold applyD; rw [if_neg k1, if_pos k2])
          clear k1 k2
          go_wp2_with (go_at_call 28; refine KP.out.mono ?_; rintro e w2 ⟨A9, c9, h3, rfl, q9, r9, F9⟩; have I2 := hid (I1.out.more F9); have y1 : w2.cell? ⟨gS, 1, none⟩ = _ := box_cell (j := 1) I2.out.box rfl; have g1 := box_free (j := 1) I2.out.box; have q9 := hid q9; have r9 := hid r9; clear F9)
          go_roundw
          case rel => exact ⟨k + 1, h3, A9, c9, A4, c4, by omega, by go_num, hid (by rw [HS.out, HA.out]; exact I2.out.ino hwS hSR q9.out r9.out)⟩
          case measure => simp [intOf]; omega
        · have b2 : (d.kind == 2) = false := by simpa using k2
          by_cases k3 : d.kind = 3
          · have b3 : (d.kind == 3) = true := by simpa using k3
            have HA := hid (show applyD t d = { t with inodes := t.inodes.filter (neI d.no) } by unfold applyD; rw [if_neg k1, if_neg k2, if_pos k3])
            have hl1 := I1.out.r1.1
            clear k1 k2 k3 x0 x2 m2 m3 m4 m5 m6 m7 m8 f0 f2
            go_wp2_with fail
            go_loopw [7, 8] (fun s7 i wr => ∃ (j : Nat), j ≤ t.inodes.length ∧ i = .int .i64 j ∧ Hid (Ext h2 W1 h2 wr) ∧ Hid (OwnL h2 wr W1.heap.size 37 s7 ((t.inodes.take j).filter (neI d.no)))) (fun _ i _ => t.inodes.length - (intOf i).toNat)
            case atStart => exact ⟨0, Nat.zero_le _, rfl, hid (Ext.refl I1.out.ext.sits), hid (OwnL.nil _ _ _ _)⟩
            case round =>
              obtain ⟨j, hj, rfl, E, O⟩ := hrel
              have I2 := hid (I1.out.more E.out)
              have y1 : wr.cell? ⟨gS, 1, none⟩ = _ := box_cell (j := 1) I2.out.box rfl
              clear x1 m0 m1 f1
              by_cases hjt : j < t.inodes.length
              · obtain ⟨x, hx⟩ : ∃ x, t.inodes[j]? = some x := ⟨t.inodes[j], by simp [hjt]⟩
                obtain ⟨b, off, A5, c5, A6, c6, ha, hA, ⟨z0, z1, z2, z3, z4, z5, z6⟩, RX⟩ := I2.out.r1.ixInode hx I2.out.ext.sits c3
                have m1 : wr.cell? ⟨gb, 1, none⟩ = some (.int .i64 d.no) := Sits_at E.out.sits hb3 rfl
                have RX := hid RX
                have HX := hid hx
                have HFS := hid (filter_snoc (neI d.no) hx)
                obtain ⟨q, hq⟩ : ∃ q, neI d.no x = q := ⟨_, rfl⟩
                have hq2 : (!(x.no == d.no)) = q := hq
                have hq3 : (x.no != d.no) = q := hq
                rw [hq] at HFS
                have i2 : (j : Int) < (t.inodes.length : Int) := by omega
                have v0 := fun d os => cell_regrown y1 d os
                have v1 := fun d os => cell_regrown z0 d os
                have v2 := fun d os => cell_regrown m1 d os
                have HB := hid (show (((t.inodes.take j).filter (neI d.no)).length + 1) * 96 ≤ 140737488355328 by have := List.length_filter_le (neI d.no) (t.inodes.take j); rw [List.length_take] at this; omega)
                clear hx hA hq
                go_upto_region 15 with (fail)
                clear y1 z0 z1 z2 z3 z4 z5 z6 m1
                refine wp_region_quiet_below (by kernel_rfl) (by kernel_rfl) ?_
                repeat (go_big_quiet_step (fail))
                refine wpQuiet_nil ?_
                intro _ hw'
                obtain ⟨⟨dq, osq⟩, hw''⟩ := hw'
                subst hw''
                have Eq := hid (E.out.trans (Ext.quiet E.out.sits dq osq))
                have Oq := hid (O.out.ext (Ext.quiet E.out.sits dq osq))
                with_reducible generalize grow (redrawn wr dq) osq = wq at Eq Oq ⊢
                clear v0 v1 v2
                cases q
                · go_wp2_with fail
                  go_roundw
                  case rel => exact ⟨j + 1, by omega, by go_num, Eq, hid (by rw [HFS.out]; exact Oq.out)⟩
                  case measure => simp [intOf]; omega
                · have I3 := hid (I1.out.more Eq.out)
                  have y1 : wq.cell? ⟨gS, 1, none⟩ = _ := box_cell (j := 1) I3.out.box rfl
                  clear ha
                  obtain ⟨b, off, A5, c5, A6, c6, ha, hA, ⟨z0, z1, z2, z3, z4, z5, z6⟩, RX⟩ := I3.out.r1.ixInode HX.out I3.out.ext.sits c3
                  have RX := hid RX
                  clear hA
                  go_wp2_with (at_builtin; refine wpList_append1At rfl _ _ 28 rfl W1.heap.size 37 96 ty_Inode _ _ rfl (Oq.out.alloc _) (Eq.out.sits.alloc _) _ rfl _ x RX.out (cells_of_box (heap_new _ _)) HB.out (by decide) (Eq.out.alloc _).size ?_; intro v3 w4 O3 hg3; have O3 := hid O3; have E4 := hid ((Eq.out.alloc _).grown hg3 (fun k hk => ⟨(Oq.out.lt k hk).1, Oq.out.free k hk⟩)); clear hg3)
                  go_roundw
                  case rel => exact ⟨j + 1, by omega, by go_num, E4, hid (by rw [HFS.out]; exact O3.out)⟩
                  case measure => simp [intOf]; omega
              · have hjl : t.inodes.take j = t.inodes := List.take_of_length_le (by omega)
                rw [hjl] at O
                obtain ⟨h3, A9, c9, hv9, r9, l9, E9, u0, u1, u2, f9⟩ := O.out.stayX E.out (Nat.le_refl _) (Nat.le_trans (List.length_filter_le _ _) hl1)
                subst hv9
                have I3 := hid (I1.out.more E9)
                have g1 := box_free (j := 1) I3.out.box
                have q9 : Hid (CapLe A9 (t.inodes.filter (neI d.no)).length c9) := hid ⟨u0, u2, u1⟩
                have r9 := hid r9
                clear hjl u0 u1 u2 f9 l9 E9 O
                go_wp2_with fail
                go_roundw
                case rel => exact ⟨k + 1, h3, A9, c9, A4, c4, by omega, by go_num, hid (by rw [HS.out, HA.out]; exact I3.out.ino hwS hSR q9.out r9.out)⟩
                case measure => simp [intOf]; omega
          · have b3 : (d.kind == 3) = false := by simpa using k3
            by_cases k4 : d.kind = 4
            · have b4 : (d.kind == 4) = true := by simpa using k4
              have HA := hid (show applyD t d = { t with bads := badZ t.bads d.no } by unfold applyD; rw [if_neg k1, if_neg k2, if_neg k3, if_pos k4])
              clear k1 k2 k3 k4
              go_wp2_with (go_at_call 29; refine KB.out.mono ?_; rintro e w2 ⟨A9, c9, h3, rfl, q9, r9, F9⟩; have I2 := hid (I1.out.more F9); have y1 : w2.cell? ⟨gS, 2, none⟩ = _ := box_cell (j := 2) I2.out.box rfl; have g1 := box_free (j := 2) I2.out.box; have q9 := hid q9; have r9 := hid r9; clear F9)
              go_roundw
              case rel => exact ⟨k + 1, h3, A3, c3, A9, c9, by omega, by go_num, hid (by rw [HS.out, HA.out]; exact I2.out.bad hwS hSR q9.out r9.out)⟩
              case measure => simp [intOf]; omega
            · have b4 : (d.kind == 4) = false := by simpa using k4
              have HA := hid (show applyD t d = t by unfold applyD; rw [if_neg k1, if_neg k2, if_neg k3, if_neg k4])
              clear k1 k2 k3 k4
              go_wp2_with fail
              go_roundw
              case rel => exact ⟨k + 1, h2, A3, c3, A4, c4, by omega, by go_num, hid (by rw [HS.out, HA.out]; exact I1.out)⟩
              case measure => simp [intOf]; omega
    · have HT := hid (show ds.take k = ds from List.take_of_length_le (by omega))
      rw [HT.out] at I
      obtain ⟨t, ht⟩ : ∃ t, applyS s ds = t := ⟨_, rfl⟩
      rw [ht] at I
      have HT2 := hid ht
      clear ht
      have x0 : wr.cell? ⟨gS, 0, none⟩ = _ := box_cell (j := 0) I.out.box rfl
      have x1 : wr.cell? ⟨gS, 1, none⟩ = _ := box_cell (j := 1) I.out.box rfl
      have x2 : wr.cell? ⟨gS, 2, none⟩ = _ := box_cell (j := 2) I.out.box rfl
      have z0 : wr.cell? ⟨gR, 0, none⟩ = some (.int .i64 0) := box_cell (j := 0) I.out.out rfl
      have z1 : wr.cell? ⟨gR, 1, none⟩ = some (.slice none 0 0) := box_cell (j := 1) I.out.out rfl
      have z2 : wr.cell? ⟨gR, 2, none⟩ = some (.slice none 0 0) := box_cell (j := 2) I.out.out rfl
      have f0 := box_free (j := 0) I.out.out
      have f1 := box_free (j := 1) I.out.out
      have f2 := box_free (j := 2) I.out.out
      go_wp2_with fail
      have R7 : ((((wr.setCell ⟨gR, 0, none⟩ (.int .i64 t.next)).setCell ⟨gR, 1, none⟩ (.slice A3 t.inodes.length c3)).setCell ⟨gR, 2, none⟩ (.slice A4 t.bads.length c4))).heap[gR]? = some (.cells #[.int .i64 t.next, .slice A3 t.inodes.length c3, .slice A4 t.bads.length c4] 31 (0, 0)) := setCells_row [.int .i64 t.next, .slice A3 t.inodes.length c3, .slice A4 t.bads.length c4] I.out.out rfl
      have E7 : Ext h w h' (((wr.setCell ⟨gR, 0, none⟩ (.int .i64 t.next)).setCell ⟨gR, 1, none⟩ (.slice A3 t.inodes.length c3)).setCell ⟨gR, 2, none⟩ (.slice A4 t.bads.length c4)) := Ext.setCells (g := gR) hwR I.out.nR [.int .i64 t.next, .slice A3 t.inodes.length c3, .slice A4 t.bads.length c4] 0 _ I.out.ext
      refine bodyPost_ret (v := .agg #[.int .i64 t.next, .slice A3 t.inodes.length c3, .slice A4 t.bads.length c4]) ?_ rfl ⟨_, h', rfl, by rw [HT2.out]; exact ⟨A3, c3, A4, c4, rfl, I.out.k1, I.out.r1, I.out.k2, I.out.r2⟩, E7⟩
      exact results_cell_row (p := 4) (ty := 31) (by kernel_rfl) _ _ gR 31 #[.int .i64 t.next, .slice A3 t.inodes.length c3, .slice A4 t.bads.length c4] (0, 0) _ (by simp) R7 Try.underlying31 rfl (by kernel_rfl)
end Go.Proofs.Ytkglaofiencfdaa
