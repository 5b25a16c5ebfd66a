import Derived.Test.YtcnbnehammbncaaDoorStFind
import Derived.Test.YtcnbnehammbncaaDoorStDef
namespace Go.Proofs.YtcnbnehammbncaaDoor
open Go.RowKit Go.Sort
set_option linter.unusedVariables false
set_option maxHeartbeats 8000000 in
set_option maxRecDepth 100000 in
theorem ref_FindInode (s : State) (cs : List Value) (no : Int) (v : Option Inode) (hv : findI s.inodes no = v) (h : FH) (w : World) (hs : Sits h w) (r : repState h cs s) :
    Calls Tryd.prog 22 #[.agg cs.toArray, .int .i64 no] w fun e w' => RetFind h w v e w' := by
  obtain ⟨A1, c1, A2, c2, rfl, l1, r1, l2, r2⟩ := r
  have hl := r1.1
  have HV := hid hv
  clear hv
  obtain ⟨h1, E1, hb1, le1, hh1⟩ := (Ext.refl hs).boxF #[.int .i64 s.next, .slice A1 s.inodes.length c1, .slice A2 s.bads.length c2] 28
  have E2 := E1.alloc (.cells #[.int .i64 0, .int .i64 0, .int .i64 0, .int .i64 0, .string ⟨#[]⟩, .slice none 0 0, .slice none 0 0] 50)
  have hR := heap_new (w.alloc (.cells #[.int .i64 s.next, .slice A1 s.inodes.length c1, .slice A2 s.bads.length c2] 28)) (.cells #[.int .i64 0, .int .i64 0, .int .i64 0, .int .i64 0, .string ⟨#[]⟩, .slice none 0 0, .slice none 0 0] 50)
  have hR0 := E1.sits.none (g := (w.alloc (.cells #[.int .i64 s.next, .slice A1 s.inodes.length c1, .slice A2 s.bads.length c2] 28)).heap.size) (Nat.le_refl _)
  have hRs := E1.size
  go_enter Tryd.func22, Tryd.ntmps22
  go_upto_region 1 with (fail)
  generalize hgR : (w.alloc (.cells #[.int .i64 s.next, .slice A1 s.inodes.length c1, .slice A2 s.bads.length c2] 28)).heap.size = gR at *
  have hgR' : w.heap.size + 1 = gR := by rw [← hgR]; simp
  generalize (w.alloc (.cells #[.int .i64 s.next, .slice A1 s.inodes.length c1, .slice A2 s.bads.length c2] 28)).alloc (.cells #[.int .i64 0, .int .i64 0, .int .i64 0, .int .i64 0, .string ⟨#[]⟩, .slice none 0 0, .slice none 0 0] 50) = W2 at *
  have HR := hid hR
  have HE2 := hid E2
  rw [hgR']
  clear hR E2 hh1 hgR hgR'
  go_wp2_with fail
  go_loopw [6] (fun i wr => ∃ k : Nat, k ≤ s.inodes.length ∧ i = .int .i64 k ∧ Hid (∀ i y, i < k → s.inodes[i]? = some y → isI no y = false) ∧ Hid (Ext h w h1 wr) ∧ Hid (wr.heap[gR]? = some (.cells #[.int .i64 0, .int .i64 0, .int .i64 0, .int .i64 0, .string ⟨#[]⟩, .slice none 0 0, .slice none 0 0] 50 (0, 0)))) (fun i _ => s.inodes.length - (intOf i).toNat)
  case atStart => exact ⟨0, Nat.zero_le _, rfl, hid (fun i y hi => by omega), HE2, HR⟩
  case round =>
    obtain ⟨k, hk, rfl, HN, E, HRr⟩ := hrel
    have x1 : wr.cell? ⟨w.heap.size, 1, none⟩ = some (.slice A1 s.inodes.length c1) := Sits_at E.out.sits hb1 rfl
    by_cases hlt : k < s.inodes.length
    · obtain ⟨x, hx⟩ : ∃ x, s.inodes[k]? = some x := ⟨s.inodes[k], by simp [hlt]⟩
      obtain ⟨b, off, A5, c5, A6, c6, rfl, d0, d1, d2, d3, d4, d5, d6, s0, s1, s2, s3, s4⟩ := (r1.mono E.out.le).inode hx E.out.sits
      have HX := hid hx
      have RX := hid (show repInode h1 [.int .i64 x.no, .int .i64 x.kind, .int .i64 x.links, .int .i64 x.size, .string x.target, .slice A5 x.entries.length c5, .slice A6 x.runs.length c6] x from ⟨A5, c5, A6, c6, rfl, s0, s1, s2, s3, s4⟩)
      clear hx
      obtain ⟨q, hq⟩ : ∃ q, isI no x = q := ⟨_, rfl⟩
      have HQ := hid hq
      have hq2 : (x.no == no) = q := hq
      clear hq
      cases q
      · have HN2 := hid (no_step HN.out HX.out HQ.out)
        go_wp2_with fail
        go_roundw
        case rel => exact ⟨k + 1, by omega, by go_num, HN2, E, HRr⟩
        case measure => simp [intOf]; omega
      · have HVS := hid (show v = some x by rw [← HV.out]; exact find_at HN.out HX.out HQ.out)
        have u0 : wr.cell? ⟨gR, 0, none⟩ = some (.int .i64 0) := box_cell (j := 0) HRr.out rfl
        have f0 := box_free (j := 0) HRr.out
        have u1 : wr.cell? ⟨gR, 1, none⟩ = some (.int .i64 0) := box_cell (j := 1) HRr.out rfl
        have f1 := box_free (j := 1) HRr.out
        have u2 : wr.cell? ⟨gR, 2, none⟩ = some (.int .i64 0) := box_cell (j := 2) HRr.out rfl
        have f2 := box_free (j := 2) HRr.out
        have u3 : wr.cell? ⟨gR, 3, none⟩ = some (.int .i64 0) := box_cell (j := 3) HRr.out rfl
        have f3 := box_free (j := 3) HRr.out
        have u4 : wr.cell? ⟨gR, 4, none⟩ = some (.string ⟨#[]⟩) := box_cell (j := 4) HRr.out rfl
        have f4 := box_free (j := 4) HRr.out
        have u5 : wr.cell? ⟨gR, 5, none⟩ = some (.slice none 0 0) := box_cell (j := 5) HRr.out rfl
        have f5 := box_free (j := 5) HRr.out
        have u6 : wr.cell? ⟨gR, 6, none⟩ = some (.slice none 0 0) := box_cell (j := 6) HRr.out rfl
        have f6 := box_free (j := 6) HRr.out
        go_wp2_with fail
        have E7 : Ext h w h1 (((((((wr.setCell ⟨gR, 0, none⟩ (.int .i64 x.no)).setCell ⟨gR, 1, none⟩ (.int .i64 x.kind)).setCell ⟨gR, 2, none⟩ (.int .i64 x.links)).setCell ⟨gR, 3, none⟩ (.int .i64 x.size)).setCell ⟨gR, 4, none⟩ (.string x.target)).setCell ⟨gR, 5, none⟩ (.slice A5 x.entries.length c5)).setCell ⟨gR, 6, none⟩ (.slice A6 x.runs.length c6)) := Ext.setCells (g := gR) hRs hR0 [.int .i64 x.no, .int .i64 x.kind, .int .i64 x.links, .int .i64 x.size, .string x.target, .slice A5 x.entries.length c5, .slice A6 x.runs.length c6] 0 _ E.out
        have R7 : ((((((((wr.setCell ⟨gR, 0, none⟩ (.int .i64 x.no)).setCell ⟨gR, 1, none⟩ (.int .i64 x.kind)).setCell ⟨gR, 2, none⟩ (.int .i64 x.links)).setCell ⟨gR, 3, none⟩ (.int .i64 x.size)).setCell ⟨gR, 4, none⟩ (.string x.target)).setCell ⟨gR, 5, none⟩ (.slice A5 x.entries.length c5)).setCell ⟨gR, 6, none⟩ (.slice A6 x.runs.length c6))).heap[gR]? = some (.cells #[.int .i64 x.no, .int .i64 x.kind, .int .i64 x.links, .int .i64 x.size, .string x.target, .slice A5 x.entries.length c5, .slice A6 x.runs.length c6] 50 (0, 0)) := setCells_row [.int .i64 x.no, .int .i64 x.kind, .int .i64 x.links, .int .i64 x.size, .string x.target, .slice A5 x.entries.length c5, .slice A6 x.runs.length c6] HRr.out rfl
        with_reducible generalize (((((((wr.setCell ⟨gR, 0, none⟩ (.int .i64 x.no)).setCell ⟨gR, 1, none⟩ (.int .i64 x.kind)).setCell ⟨gR, 2, none⟩ (.int .i64 x.links)).setCell ⟨gR, 3, none⟩ (.int .i64 x.size)).setCell ⟨gR, 4, none⟩ (.string x.target)).setCell ⟨gR, 5, none⟩ (.slice A5 x.entries.length c5)).setCell ⟨gR, 6, none⟩ (.slice A6 x.runs.length c6)) = W9 at E7 R7 ⊢
        have y0 : W9.cell? ⟨gR, 0, none⟩ = some (.int .i64 x.no) := box_cell (j := 0) R7 rfl
        have y1 : W9.cell? ⟨gR, 1, none⟩ = some (.int .i64 x.kind) := box_cell (j := 1) R7 rfl
        have y2 : W9.cell? ⟨gR, 2, none⟩ = some (.int .i64 x.links) := box_cell (j := 2) R7 rfl
        have y3 : W9.cell? ⟨gR, 3, none⟩ = some (.int .i64 x.size) := box_cell (j := 3) R7 rfl
        have y4 : W9.cell? ⟨gR, 4, none⟩ = some (.string x.target) := box_cell (j := 4) R7 rfl
        have y5 : W9.cell? ⟨gR, 5, none⟩ = some (.slice A5 x.entries.length c5) := box_cell (j := 5) R7 rfl
        have y6 : W9.cell? ⟨gR, 6, none⟩ = some (.slice A6 x.runs.length c6) := box_cell (j := 6) R7 rfl
        refine bodyPost_ret (v := .tuple #[.agg #[.int .i64 x.no, .int .i64 x.kind, .int .i64 x.links, .int .i64 x.size, .string x.target, .slice A5 x.entries.length c5, .slice A6 x.runs.length c6], .bool true]) (by simp [results, Tryd.results22, go_sem, y0, y1, y2, y3, y4, y5, y6]) rfl ⟨_, h1, by rw [HVS.out]; rfl, by rw [HVS.out]; exact RX.out, E7⟩
    · have HVN := hid (show v = none by rw [← HV.out]; exact find_no (fun i y hi => HN.out i y (by omega)))
      have u0 : wr.cell? ⟨gR, 0, none⟩ = some (.int .i64 0) := box_cell (j := 0) HRr.out rfl
      have f0 := box_free (j := 0) HRr.out
      have u1 : wr.cell? ⟨gR, 1, none⟩ = some (.int .i64 0) := box_cell (j := 1) HRr.out rfl
      have f1 := box_free (j := 1) HRr.out
      have u2 : wr.cell? ⟨gR, 2, none⟩ = some (.int .i64 0) := box_cell (j := 2) HRr.out rfl
      have f2 := box_free (j := 2) HRr.out
      have u3 : wr.cell? ⟨gR, 3, none⟩ = some (.int .i64 0) := box_cell (j := 3) HRr.out rfl
      have f3 := box_free (j := 3) HRr.out
      have u4 : wr.cell? ⟨gR, 4, none⟩ = some (.string ⟨#[]⟩) := box_cell (j := 4) HRr.out rfl
      have f4 := box_free (j := 4) HRr.out
      have u5 : wr.cell? ⟨gR, 5, none⟩ = some (.slice none 0 0) := box_cell (j := 5) HRr.out rfl
      have f5 := box_free (j := 5) HRr.out
      have u6 : wr.cell? ⟨gR, 6, none⟩ = some (.slice none 0 0) := box_cell (j := 6) HRr.out rfl
      have f6 := box_free (j := 6) HRr.out
      go_wp2_with fail
      have E7 : Ext h w h1 (((((((wr.setCell ⟨gR, 0, none⟩ (.int .i64 0)).setCell ⟨gR, 1, none⟩ (.int .i64 0)).setCell ⟨gR, 2, none⟩ (.int .i64 0)).setCell ⟨gR, 3, none⟩ (.int .i64 0)).setCell ⟨gR, 4, none⟩ (.string ⟨#[]⟩)).setCell ⟨gR, 5, none⟩ (.slice none 0 0)).setCell ⟨gR, 6, none⟩ (.slice none 0 0)) := Ext.setCells (g := gR) hRs hR0 [.int .i64 0, .int .i64 0, .int .i64 0, .int .i64 0, .string ⟨#[]⟩, .slice none 0 0, .slice none 0 0] 0 _ E.out
      have R7 : ((((((((wr.setCell ⟨gR, 0, none⟩ (.int .i64 0)).setCell ⟨gR, 1, none⟩ (.int .i64 0)).setCell ⟨gR, 2, none⟩ (.int .i64 0)).setCell ⟨gR, 3, none⟩ (.int .i64 0)).setCell ⟨gR, 4, none⟩ (.string ⟨#[]⟩)).setCell ⟨gR, 5, none⟩ (.slice none 0 0)).setCell ⟨gR, 6, none⟩ (.slice none 0 0))).heap[gR]? = some (.cells #[.int .i64 0, .int .i64 0, .int .i64 0, .int .i64 0, .string ⟨#[]⟩, .slice none 0 0, .slice none 0 0] 50 (0, 0)) := setCells_row [.int .i64 0, .int .i64 0, .int .i64 0, .int .i64 0, .string ⟨#[]⟩, .slice none 0 0, .slice none 0 0] HRr.out rfl
      with_reducible generalize (((((((wr.setCell ⟨gR, 0, none⟩ (.int .i64 0)).setCell ⟨gR, 1, none⟩ (.int .i64 0)).setCell ⟨gR, 2, none⟩ (.int .i64 0)).setCell ⟨gR, 3, none⟩ (.int .i64 0)).setCell ⟨gR, 4, none⟩ (.string ⟨#[]⟩)).setCell ⟨gR, 5, none⟩ (.slice none 0 0)).setCell ⟨gR, 6, none⟩ (.slice none 0 0)) = W9 at E7 R7 ⊢
      have y0 : W9.cell? ⟨gR, 0, none⟩ = some (.int .i64 0) := box_cell (j := 0) R7 rfl
      have y1 : W9.cell? ⟨gR, 1, none⟩ = some (.int .i64 0) := box_cell (j := 1) R7 rfl
      have y2 : W9.cell? ⟨gR, 2, none⟩ = some (.int .i64 0) := box_cell (j := 2) R7 rfl
      have y3 : W9.cell? ⟨gR, 3, none⟩ = some (.int .i64 0) := box_cell (j := 3) R7 rfl
      have y4 : W9.cell? ⟨gR, 4, none⟩ = some (.string ⟨#[]⟩) := box_cell (j := 4) R7 rfl
      have y5 : W9.cell? ⟨gR, 5, none⟩ = some (.slice none 0 0) := box_cell (j := 5) R7 rfl
      have y6 : W9.cell? ⟨gR, 6, none⟩ = some (.slice none 0 0) := box_cell (j := 6) R7 rfl
      refine bodyPost_ret (v := .tuple #[.agg #[.int .i64 0, .int .i64 0, .int .i64 0, .int .i64 0, .string ⟨#[]⟩, .slice none 0 0, .slice none 0 0], .bool false]) (by simp [results, Tryd.results22, go_sem, y0, y1, y2, y3, y4, y5, y6]) rfl ⟨_, h1, by rw [HVN.out]; rfl, by rw [HVN.out]; exact zeroI_rep _, E7⟩
set_option maxHeartbeats 4000000 in
set_option maxRecDepth 100000 in
theorem ref_NewState (h : FH) (w : World) (hs : Sits h w) : Calls Tryd.prog 19 #[] w fun e w' => RetState h w newS e w' := by
  have E1 := (Ext.refl hs).alloc (.cells #[.int .i64 0, .slice none 0 0, .slice none 0 0] 28)
  have hR := heap_new w (.cells #[.int .i64 0, .slice none 0 0, .slice none 0 0] 28)
  have nR := hs.none (Nat.le_refl w.heap.size)
  go_enter Tryd.func19, Tryd.ntmps19
  go_upto_region 1 with (fail)
  generalize hgR : w.heap.size = gR at *
  with_reducible generalize w.alloc (.cells #[.int .i64 0, .slice none 0 0, .slice none 0 0] 28) = w1 at E1 hR ⊢
  have E1 := hid E1
  have hR := hid hR
  have nR := hid nR
  have hwR := hid (Nat.le_of_eq hgR)
  clear hgR
  go_wp2_with (go_at_call 36; refine (ref_NewInode_2 1 ⟨#[]⟩ (by decide) h w1 E1.out.sits).mono ?_; rintro e w2 ⟨rfl, F2⟩; rw [show newV 1 2 ⟨#[]⟩ = .agg #[.int .i64 1, .int .i64 2, .int .i64 2, .int .i64 0, .string ⟨#[]⟩, .slice none 0 0, .slice none 0 0] from rfl]; obtain ⟨h3, E3, hI, le3, hh3⟩ := (E1.out.trans F2).boxF #[.int .i64 1, .int .i64 2, .int .i64 2, .int .i64 0, .string ⟨#[]⟩, .slice none 0 0, .slice none 0 0] 50; have hlt := (F2.none nR.out (Array.getElem?_eq_some_iff.1 hR.out).1); have hR3 := box_alloc (F2.row hR.out) (.cells #[.int .i64 1, .int .i64 2, .int .i64 2, .int .i64 0, .string ⟨#[]⟩, .slice none 0 0, .slice none 0 0] 50); have n3 := hid (show h3 gR = none by rw [hh3, FH.add_other _ _ (Nat.ne_of_lt (Array.getElem?_eq_some_iff.1 (F2.row hR.out)).1)]; exact nR.out); clear hh3; have z0 : (w2.alloc (.cells #[.int .i64 1, .int .i64 2, .int .i64 2, .int .i64 0, .string ⟨#[]⟩, .slice none 0 0, .slice none 0 0] 50)).cell? ⟨gR, 0, none⟩ = some (.int .i64 0) := box_cell (j := 0) hR3 rfl; have z1 : (w2.alloc (.cells #[.int .i64 1, .int .i64 2, .int .i64 2, .int .i64 0, .string ⟨#[]⟩, .slice none 0 0, .slice none 0 0] 50)).cell? ⟨gR, 1, none⟩ = some (.slice none 0 0) := box_cell (j := 1) hR3 rfl; have z2 : (w2.alloc (.cells #[.int .i64 1, .int .i64 2, .int .i64 2, .int .i64 0, .string ⟨#[]⟩, .slice none 0 0, .slice none 0 0] 50)).cell? ⟨gR, 2, none⟩ = some (.slice none 0 0) := box_cell (j := 2) hR3 rfl; have f0 := box_free (j := 0) hR3; have f1 := box_free (j := 1) hR3; have f2 := box_free (j := 2) hR3; have hR3 := hid hR3; have hI := hid hI; have E3 := hid E3; clear hlt)
  have R7 : (((((w2.alloc (.cells #[.int .i64 1, .int .i64 2, .int .i64 2, .int .i64 0, .string ⟨#[]⟩, .slice none 0 0, .slice none 0 0] 50)).setCell ⟨gR, 0, none⟩ (.int .i64 2)).setCell ⟨gR, 1, none⟩ (.slice (some ⟨w2.heap.size, 0, none⟩) 1 1)).setCell ⟨gR, 2, none⟩ (.slice none 0 0))).heap[gR]? = some (.cells #[.int .i64 2, .slice (some ⟨w2.heap.size, 0, none⟩) 1 1, .slice none 0 0] 28 (0, 0)) := setCells_row [.int .i64 2, .slice (some ⟨w2.heap.size, 0, none⟩) 1 1, .slice none 0 0] hR3.out rfl
  have E7 : Ext h w h3 ((((w2.alloc (.cells #[.int .i64 1, .int .i64 2, .int .i64 2, .int .i64 0, .string ⟨#[]⟩, .slice none 0 0, .slice none 0 0] 50)).setCell ⟨gR, 0, none⟩ (.int .i64 2)).setCell ⟨gR, 1, none⟩ (.slice (some ⟨w2.heap.size, 0, none⟩) 1 1)).setCell ⟨gR, 2, none⟩ (.slice none 0 0)) := Ext.setCells (g := gR) hwR.out n3.out [.int .i64 2, .slice (some ⟨w2.heap.size, 0, none⟩) 1 1, .slice none 0 0] 0 _ E3.out
  refine bodyPost_ret (v := .agg #[.int .i64 2, .slice (some ⟨w2.heap.size, 0, none⟩) 1 1, .slice none 0 0]) ?_ rfl ⟨_, h3, rfl, ⟨some ⟨w2.heap.size, 0, none⟩, 1, none, 0, rfl, ⟨Nat.le_refl _, (fun e => by cases e), by decide⟩, RowAt.of_block hI.out (Reps.single ⟨none, 0, none, 0, rfl, by decide, ⟨Nat.le_refl _, fun _ => rfl, by decide⟩, RowAt.nil _ _, ⟨Nat.le_refl _, fun _ => rfl, by decide⟩, RowAt.nil _ _⟩) (by decide), ⟨Nat.le_refl _, fun _ => rfl, by decide⟩, RowAt.nil _ _⟩, E7⟩
  exact results_cell_row (p := 0) (ty := 28) (by kernel_rfl) _ _ gR 28 #[.int .i64 2, .slice (some ⟨w2.heap.size, 0, none⟩) 1 1, .slice none 0 0] (0, 0) _ (by simp) R7 Tryd.underlying28 rfl (by kernel_rfl)
end Go.Proofs.YtcnbnehammbncaaDoor
