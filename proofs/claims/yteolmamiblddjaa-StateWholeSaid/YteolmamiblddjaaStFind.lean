import Derived.Test.YteolmamiblddjaaStCp
import Derived.Test.YteolmamiblddjaaEnter
namespace Go.Proofs.Yteolmamiblddjaa
open Go.RowKit Go.Sort
set_option linter.unusedVariables false
def findI (xs : List Inode) (no : Int) : Option Inode := xs.find? (isI no)
def zeroI : Inode := ⟨0, 0, 0, 0, ⟨#[]⟩, [], []⟩
/-- An inode, and whether there is one. -/
def RetFind (h : FH) (w : World) (v : Option Inode) (e : Ending) (w' : World) : Prop := ∃ cs h1, e = .returned (.tuple #[.agg cs.toArray, .bool v.isSome]) ∧ repInode h1 cs (v.getD zeroI) ∧ Ext h w h1 w'
theorem zeroI_rep (h : FH) : repInode h [.int .i64 0, .int .i64 0, .int .i64 0, .int .i64 0, .string ⟨#[]⟩, .slice none 0 0, .slice none 0 0] zeroI := ⟨none, 0, none, 0, rfl, by decide, ⟨Nat.le_refl _, fun _ => rfl, by decide⟩, RowAt.nil _ _, ⟨Nat.le_refl _, fun _ => rfl, by decide⟩, RowAt.nil _ _⟩
theorem find_at {xs : List Inode} {no : Int} {k : Nat} {x : Inode} (h : ∀ i y, i < k → xs[i]? = some y → isI no y = false) (hx : xs[k]? = some x) (hp : isI no x = true) : findI xs no = some x := find_none_take h hx hp
theorem find_no {xs : List Inode} {no : Int} (h : ∀ i y, i < xs.length → xs[i]? = some y → isI no y = false) : findI xs no = none := by
  unfold findI
  rw [List.find?_eq_none]
  intro y hy
  obtain ⟨i, hi, rfl⟩ := List.mem_iff_getElem.1 hy
  rw [h i _ hi (List.getElem?_eq_getElem _)]; simp
set_option maxHeartbeats 8000000 in
set_option maxRecDepth 100000 in
theorem state_Find (s : State) (cs : List Value) (no : Int) (hfit : ∀ x ∈ s.inodes, fitI x) (v : Option Inode) (hv : findI s.inodes no = v) (h : FH) (w : World) (hs : Sits h w) (r : repState h cs s) :
    Calls Try.prog 14 #[.agg cs.toArray, .int .i64 no] w fun e w' => RetFind h w v e w' := by
  obtain ⟨A1, c1, A2, c2, rfl, l1, r1, l2, r2⟩ := r
  have hl := r1.1
  have HF := hid hfit
  have HV := hid hv
  clear hfit hv
  obtain ⟨h1, E1, hb1, le1, hh1⟩ := (Ext.refl hs).boxF #[.int .i64 s.next, .slice A1 s.inodes.length c1, .slice A2 s.bads.length c2] 31
  have E2 := E1.alloc (.cells #[.int .i64 0, .int .i64 0, .int .i64 0, .int .i64 0, .string ⟨#[]⟩, .slice none 0 0, .slice none 0 0] 37)
  have hR := heap_new (w.alloc (.cells #[.int .i64 s.next, .slice A1 s.inodes.length c1, .slice A2 s.bads.length c2] 31)) (.cells #[.int .i64 0, .int .i64 0, .int .i64 0, .int .i64 0, .string ⟨#[]⟩, .slice none 0 0, .slice none 0 0] 37)
  have hR0 := E1.sits.none (g := (w.alloc (.cells #[.int .i64 s.next, .slice A1 s.inodes.length c1, .slice A2 s.bads.length c2] 31)).heap.size) (Nat.le_refl _)
  have hRs := E1.size
  go_enter Try.func14, Try.ntmps14
  go_upto_region 1 with (fail)
  generalize hgR : (w.alloc (.cells #[.int .i64 s.next, .slice A1 s.inodes.length c1, .slice A2 s.bads.length c2] 31)).heap.size = gR at *
  have hgR' : w.heap.size + 1 = gR := by rw [← hgR]; simp
  generalize (w.alloc (.cells #[.int .i64 s.next, .slice A1 s.inodes.length c1, .slice A2 s.bads.length c2] 31)).alloc (.cells #[.int .i64 0, .int .i64 0, .int .i64 0, .int .i64 0, .string ⟨#[]⟩, .slice none 0 0, .slice none 0 0] 37) = W2 at *
  have x1 : W2.cell? ⟨w.heap.size, 1, none⟩ = some (.slice A1 s.inodes.length c1) := Sits_at E2.sits hb1 rfl
  have HR := hid hR
  have HE2 := hid E2
  rw [hgR']
  clear hR E2 hh1 hgR hgR'
  go_wp2_with fail
  go_loopw [11] (fun i wr => ∃ k : Nat, k ≤ s.inodes.length ∧ i = .int .i64 k ∧ Hid (∀ i y, i < k → s.inodes[i]? = some y → isI no y = false) ∧ Hid (Ext h w h1 wr) ∧ Hid (wr.heap[gR]? = some (.cells #[.int .i64 0, .int .i64 0, .int .i64 0, .int .i64 0, .string ⟨#[]⟩, .slice none 0 0, .slice none 0 0] 37 (0, 0)))) (fun i _ => s.inodes.length - (intOf i).toNat)
  case atStart => exact ⟨0, Nat.zero_le _, rfl, hid (fun i y hi => by omega), HE2, HR⟩
  case round =>
    obtain ⟨k, hk, rfl, HN, E, HRr⟩ := hrel
    clear x1
    by_cases hlt : k < s.inodes.length
    · obtain ⟨x, hx⟩ : ∃ x, s.inodes[k]? = some x := ⟨s.inodes[k], by simp [hlt]⟩
      obtain ⟨b, off, A5, c5, A6, c6, rfl, d0, d1, d2, d3, d4, d5, d6, s0, s1, s2, s3, s4⟩ := (r1.mono E.out.le).inode hx E.out.sits
      have HX := hid hx
      have HFX := hid (HF.out x (List.mem_of_getElem? hx))
      have RX := hid (show repInode h1 [.int .i64 x.no, .int .i64 x.kind, .int .i64 x.links, .int .i64 x.size, .string x.target, .slice A5 x.entries.length c5, .slice A6 x.runs.length c6] x from ⟨A5, c5, A6, c6, rfl, s0, s1, s2, s3, s4⟩)
      clear hx
      go_upto_region 4 with (fail)
      have E1 := hid (E.out.alloc (.cells #[.int .i64 x.no, .int .i64 x.kind, .int .i64 x.links, .int .i64 x.size, .string x.target, .slice A5 x.entries.length c5, .slice A6 x.runs.length c6] 37))
      have HBX := hid (heap_new wr (.cells #[.int .i64 x.no, .int .i64 x.kind, .int .i64 x.links, .int .i64 x.size, .string x.target, .slice A5 x.entries.length c5, .slice A6 x.runs.length c6] 37))
      have HRb := hid (box_alloc HRr.out (.cells #[.int .i64 x.no, .int .i64 x.kind, .int .i64 x.links, .int .i64 x.size, .string x.target, .slice A5 x.entries.length c5, .slice A6 x.runs.length c6] 37))
      generalize hgb : wr.heap.size = gb at *
      generalize (wr.alloc (.cells #[.int .i64 x.no, .int .i64 x.kind, .int .i64 x.links, .int .i64 x.size, .string x.target, .slice A5 x.entries.length c5, .slice A6 x.runs.length c6] 37)) = W1 at *
      have e0 : W1.cell? ⟨gb, 0, none⟩ = some (.int .i64 x.no) := box_cell (j := 0) HBX.out rfl
      have e1 : W1.cell? ⟨gb, 1, none⟩ = some (.int .i64 x.kind) := box_cell (j := 1) HBX.out rfl
      have e2 : W1.cell? ⟨gb, 2, none⟩ = some (.int .i64 x.links) := box_cell (j := 2) HBX.out rfl
      have e3 : W1.cell? ⟨gb, 3, none⟩ = some (.int .i64 x.size) := box_cell (j := 3) HBX.out rfl
      have e4 : W1.cell? ⟨gb, 4, none⟩ = some (.string x.target) := box_cell (j := 4) HBX.out rfl
      have e5 : W1.cell? ⟨gb, 5, none⟩ = some (.slice A5 x.entries.length c5) := box_cell (j := 5) HBX.out rfl
      have e6 : W1.cell? ⟨gb, 6, none⟩ = some (.slice A6 x.runs.length c6) := box_cell (j := 6) HBX.out rfl
      have K := hid (state_own x _ HFX.out.1 HFX.out.2 h1 W1 E1.out.sits RX.out)
      obtain ⟨q, hq⟩ : ∃ q, isI no x = q := ⟨_, rfl⟩
      have HQ := hid hq
      have hq2 : (x.no == no) = q := hq
      clear hq d0 d1 d2 d3 d4 d5 d6
      cases q
      · have HN2 := hid (no_step HN.out HX.out HQ.out)
        go_wp2_with fail
        go_roundw
        case rel => exact ⟨k + 1, by omega, by go_num, HN2, E1, HRb⟩
        case measure => simp [intOf]; omega
      · have HVS := hid (show v = some x by rw [← HV.out]; exact find_at HN.out HX.out HQ.out)
        go_wp2_with (go_at_call 39; refine K.out.mono ?_; rintro e w2 ⟨cs2, h2, rfl, ⟨A7, c7, A8, c8, rfl, t0, t1, t2, t3, t4⟩, F2⟩; have RY := hid (show repInode h2 [.int .i64 x.no, .int .i64 x.kind, .int .i64 x.links, .int .i64 x.size, .string x.target, .slice A7 x.entries.length c7, .slice A8 x.runs.length c8] x from ⟨A7, c7, A8, c8, rfl, t0, t1, t2, t3, t4⟩); have hR2 := F2.row HRb.out; have F2 := hid F2; have u0 : w2.cell? ⟨gR, 0, none⟩ = some (.int .i64 0) := box_cell (j := 0) hR2 rfl; have f0 := box_free (j := 0) hR2; have u1 : w2.cell? ⟨gR, 1, none⟩ = some (.int .i64 0) := box_cell (j := 1) hR2 rfl; have f1 := box_free (j := 1) hR2; have u2 : w2.cell? ⟨gR, 2, none⟩ = some (.int .i64 0) := box_cell (j := 2) hR2 rfl; have f2 := box_free (j := 2) hR2; have u3 : w2.cell? ⟨gR, 3, none⟩ = some (.int .i64 0) := box_cell (j := 3) hR2 rfl; have f3 := box_free (j := 3) hR2; have u4 : w2.cell? ⟨gR, 4, none⟩ = some (.string ⟨#[]⟩) := box_cell (j := 4) hR2 rfl; have f4 := box_free (j := 4) hR2; have u5 : w2.cell? ⟨gR, 5, none⟩ = some (.slice none 0 0) := box_cell (j := 5) hR2 rfl; have f5 := box_free (j := 5) hR2; have u6 : w2.cell? ⟨gR, 6, none⟩ = some (.slice none 0 0) := box_cell (j := 6) hR2 rfl; have f6 := box_free (j := 6) hR2)
        have hRn := F2.out.none hR0 (Array.getElem?_eq_some_iff.1 HRb.out).1
        have E7 := Ext.setCells (g := gR) hRs hRn [.int .i64 x.no, .int .i64 x.kind, .int .i64 x.links, .int .i64 x.size, .string x.target, .slice A7 x.entries.length c7, .slice A8 x.runs.length c8] 0 _ (E1.out.trans F2.out)
        have R7 : ((((((((w2.setCell ⟨gR, 0, none⟩ (.int .i64 x.no)).setCell ⟨gR, 1, none⟩ (.int .i64 x.kind)).setCell ⟨gR, 2, none⟩ (.int .i64 x.links)).setCell ⟨gR, 3, none⟩ (.int .i64 x.size)).setCell ⟨gR, 4, none⟩ (.string x.target)).setCell ⟨gR, 5, none⟩ (.slice A7 x.entries.length c7)).setCell ⟨gR, 6, none⟩ (.slice A8 x.runs.length c8))).heap[gR]? = some (.cells #[.int .i64 x.no, .int .i64 x.kind, .int .i64 x.links, .int .i64 x.size, .string x.target, .slice A7 x.entries.length c7, .slice A8 x.runs.length c8] 37 (0, 0)) := setCells_row [.int .i64 x.no, .int .i64 x.kind, .int .i64 x.links, .int .i64 x.size, .string x.target, .slice A7 x.entries.length c7, .slice A8 x.runs.length c8] hR2 rfl
        have E7 : Ext h w h2 (((((((w2.setCell ⟨gR, 0, none⟩ (.int .i64 x.no)).setCell ⟨gR, 1, none⟩ (.int .i64 x.kind)).setCell ⟨gR, 2, none⟩ (.int .i64 x.links)).setCell ⟨gR, 3, none⟩ (.int .i64 x.size)).setCell ⟨gR, 4, none⟩ (.string x.target)).setCell ⟨gR, 5, none⟩ (.slice A7 x.entries.length c7)).setCell ⟨gR, 6, none⟩ (.slice A8 x.runs.length c8)) := E7
        with_reducible generalize (((((((w2.setCell ⟨gR, 0, none⟩ (.int .i64 x.no)).setCell ⟨gR, 1, none⟩ (.int .i64 x.kind)).setCell ⟨gR, 2, none⟩ (.int .i64 x.links)).setCell ⟨gR, 3, none⟩ (.int .i64 x.size)).setCell ⟨gR, 4, none⟩ (.string x.target)).setCell ⟨gR, 5, none⟩ (.slice A7 x.entries.length c7)).setCell ⟨gR, 6, none⟩ (.slice A8 x.runs.length c8)) = W9 at E7 R7 ⊢
        have y0 : W9.cell? ⟨gR, 0, none⟩ = some (.int .i64 x.no) := box_cell (j := 0) R7 rfl
        have y1 : W9.cell? ⟨gR, 1, none⟩ = some (.int .i64 x.kind) := box_cell (j := 1) R7 rfl
        have y2 : W9.cell? ⟨gR, 2, none⟩ = some (.int .i64 x.links) := box_cell (j := 2) R7 rfl
        have y3 : W9.cell? ⟨gR, 3, none⟩ = some (.int .i64 x.size) := box_cell (j := 3) R7 rfl
        have y4 : W9.cell? ⟨gR, 4, none⟩ = some (.string x.target) := box_cell (j := 4) R7 rfl
        have y5 : W9.cell? ⟨gR, 5, none⟩ = some (.slice A7 x.entries.length c7) := box_cell (j := 5) R7 rfl
        have y6 : W9.cell? ⟨gR, 6, none⟩ = some (.slice A8 x.runs.length c8) := box_cell (j := 6) R7 rfl
        refine bodyPost_ret (v := .tuple #[.agg #[.int .i64 x.no, .int .i64 x.kind, .int .i64 x.links, .int .i64 x.size, .string x.target, .slice A7 x.entries.length c7, .slice A8 x.runs.length c8], .bool true]) (by simp [results, Try.results14, go_sem, y0, y1, y2, y3, y4, y5, y6]) rfl ⟨_, h2, by rw [HVS.out]; rfl, by rw [HVS.out]; exact RY.out, E7⟩
    · have HVN := hid (show v = none by rw [← HV.out]; exact find_no (fun i y hi => HN.out i y (by omega)))
      have hR2 := HRr.out
      have u0 : wr.cell? ⟨gR, 0, none⟩ = some (.int .i64 0) := box_cell (j := 0) hR2 rfl
      have f0 := box_free (j := 0) hR2
      have u1 : wr.cell? ⟨gR, 1, none⟩ = some (.int .i64 0) := box_cell (j := 1) hR2 rfl
      have f1 := box_free (j := 1) hR2
      have u2 : wr.cell? ⟨gR, 2, none⟩ = some (.int .i64 0) := box_cell (j := 2) hR2 rfl
      have f2 := box_free (j := 2) hR2
      have u3 : wr.cell? ⟨gR, 3, none⟩ = some (.int .i64 0) := box_cell (j := 3) hR2 rfl
      have f3 := box_free (j := 3) hR2
      have u4 : wr.cell? ⟨gR, 4, none⟩ = some (.string ⟨#[]⟩) := box_cell (j := 4) hR2 rfl
      have f4 := box_free (j := 4) hR2
      have u5 : wr.cell? ⟨gR, 5, none⟩ = some (.slice none 0 0) := box_cell (j := 5) hR2 rfl
      have f5 := box_free (j := 5) hR2
      have u6 : wr.cell? ⟨gR, 6, none⟩ = some (.slice none 0 0) := box_cell (j := 6) hR2 rfl
      have f6 := box_free (j := 6) hR2
      clear hR2
      go_wp2_with fail
      have E7 : Ext h w h1 (((((((wr.setCell ⟨gR, 0, none⟩ (.int .i64 0)).setCell ⟨gR, 1, none⟩ (.int .i64 0)).setCell ⟨gR, 2, none⟩ (.int .i64 0)).setCell ⟨gR, 3, none⟩ (.int .i64 0)).setCell ⟨gR, 4, none⟩ (.string ⟨#[]⟩)).setCell ⟨gR, 5, none⟩ (.slice none 0 0)).setCell ⟨gR, 6, none⟩ (.slice none 0 0)) := Ext.setCells (g := gR) hRs hR0 [.int .i64 0, .int .i64 0, .int .i64 0, .int .i64 0, .string ⟨#[]⟩, .slice none 0 0, .slice none 0 0] 0 _ E.out
      have R7 : ((((((((wr.setCell ⟨gR, 0, none⟩ (.int .i64 0)).setCell ⟨gR, 1, none⟩ (.int .i64 0)).setCell ⟨gR, 2, none⟩ (.int .i64 0)).setCell ⟨gR, 3, none⟩ (.int .i64 0)).setCell ⟨gR, 4, none⟩ (.string ⟨#[]⟩)).setCell ⟨gR, 5, none⟩ (.slice none 0 0)).setCell ⟨gR, 6, none⟩ (.slice none 0 0))).heap[gR]? = some (.cells #[.int .i64 0, .int .i64 0, .int .i64 0, .int .i64 0, .string ⟨#[]⟩, .slice none 0 0, .slice none 0 0] 37 (0, 0)) := setCells_row [.int .i64 0, .int .i64 0, .int .i64 0, .int .i64 0, .string ⟨#[]⟩, .slice none 0 0, .slice none 0 0] HRr.out rfl
      with_reducible generalize (((((((wr.setCell ⟨gR, 0, none⟩ (.int .i64 0)).setCell ⟨gR, 1, none⟩ (.int .i64 0)).setCell ⟨gR, 2, none⟩ (.int .i64 0)).setCell ⟨gR, 3, none⟩ (.int .i64 0)).setCell ⟨gR, 4, none⟩ (.string ⟨#[]⟩)).setCell ⟨gR, 5, none⟩ (.slice none 0 0)).setCell ⟨gR, 6, none⟩ (.slice none 0 0)) = W9 at E7 R7 ⊢
      have y0 : W9.cell? ⟨gR, 0, none⟩ = some (.int .i64 0) := box_cell (j := 0) R7 rfl
      have y1 : W9.cell? ⟨gR, 1, none⟩ = some (.int .i64 0) := box_cell (j := 1) R7 rfl
      have y2 : W9.cell? ⟨gR, 2, none⟩ = some (.int .i64 0) := box_cell (j := 2) R7 rfl
      have y3 : W9.cell? ⟨gR, 3, none⟩ = some (.int .i64 0) := box_cell (j := 3) R7 rfl
      have y4 : W9.cell? ⟨gR, 4, none⟩ = some (.string ⟨#[]⟩) := box_cell (j := 4) R7 rfl
      have y5 : W9.cell? ⟨gR, 5, none⟩ = some (.slice none 0 0) := box_cell (j := 5) R7 rfl
      have y6 : W9.cell? ⟨gR, 6, none⟩ = some (.slice none 0 0) := box_cell (j := 6) R7 rfl
      refine bodyPost_ret (v := .tuple #[.agg #[.int .i64 0, .int .i64 0, .int .i64 0, .int .i64 0, .string ⟨#[]⟩, .slice none 0 0, .slice none 0 0], .bool false]) (by simp [results, Try.results14, go_sem, y0, y1, y2, y3, y4, y5, y6]) rfl ⟨_, h1, by rw [HVN.out]; rfl, by rw [HVN.out]; exact zeroI_rep _, E7⟩
end Go.Proofs.Yteolmamiblddjaa
