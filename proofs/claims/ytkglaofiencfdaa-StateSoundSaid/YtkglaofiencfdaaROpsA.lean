import Derived.Test.YtkglaofiencfdaaREnt
namespace Go.Proofs.Ytkglaofiencfdaa
open Go.RowKit Go.Sort
set_option linter.unusedVariables false
set_option maxHeartbeats 8000000 in
set_option maxRecDepth 100000 in
theorem ref_letGo (x : Inode) (A5 : Option Addr) (c5 : Nat) (A6 : Option Addr) (c6 : Nat) (os : List Int) (AO : Option Addr) (cO : Nat) (hl0 : -1000000 ≤ x.links) (hl1 : x.links ≤ 1000000) (h : FH) (w : World) (hs : Sits h w) (r : repInode h [.int .i64 x.no, .int .i64 x.kind, .int .i64 x.links, .int .i64 x.size, .string x.target, .slice A5 x.entries.length c5, .slice A6 x.runs.length c6] x) (ro : RowAt h AO os) :
    Calls Try.prog 96 #[.agg #[.int .i64 x.no, .int .i64 x.kind, .int .i64 x.links, .int .i64 x.size, .string x.target, .slice A5 x.entries.length c5, .slice A6 x.runs.length c6], .slice AO os.length cO] w fun e w' => RetDeed h w (letGoP x os) e w' := by
  obtain ⟨sz5, k5, row5, k6, row6⟩ := r.ent
  have E1 := (Ext.refl hs).alloc (.cells #[.int .i64 x.no, .int .i64 x.kind, .int .i64 x.links, .int .i64 x.size, .string x.target, .slice A5 x.entries.length c5, .slice A6 x.runs.length c6] 37)
  have BX := (BoxU.new (Ext.refl hs) #[.int .i64 x.no, .int .i64 x.kind, .int .i64 x.links, .int .i64 x.size, .string x.target, .slice A5 x.entries.length c5, .slice A6 x.runs.length c6] 37).alloc (.cells #[.int .i64 0, .int .i64 0, .int .i64 0, .int .i64 0, .int .i64 0, .int .i64 0, .string ⟨#[]⟩, .slice none 0 0, .slice none 0 0] 39)
  have BR := BoxU.new E1 #[.int .i64 0, .int .i64 0, .int .i64 0, .int .i64 0, .int .i64 0, .int .i64 0, .string ⟨#[]⟩, .slice none 0 0, .slice none 0 0] 39
  have E2 := E1.alloc (.cells #[.int .i64 0, .int .i64 0, .int .i64 0, .int .i64 0, .int .i64 0, .int .i64 0, .string ⟨#[]⟩, .slice none 0 0, .slice none 0 0] 39)
  have hszR : (w.alloc (.cells #[.int .i64 x.no, .int .i64 x.kind, .int .i64 x.links, .int .i64 x.size, .string x.target, .slice A5 x.entries.length c5, .slice A6 x.runs.length c6] 37)).heap.size = w.heap.size + 1 := by simp
  rw [hszR] at BR
  clear E1
  obtain ⟨q, hq⟩ : ∃ q, os.any (eqZ x.no) = q := ⟨_, rfl⟩
  obtain ⟨m, hm⟩ : ∃ m, max (x.links - 1) 0 = m := ⟨_, rfl⟩
  have HWP := hid (show letGoP x os = if x.links ≤ 1 ∧ q = false then ⟨3, x.no, zeroI⟩ else ⟨2, 0, { x with links := m }⟩ by unfold letGoP; rw [hq, hm])
  have HQ := hid hq
  have HM := hid hm
  have hwr : IntKind.i64.wrap (x.links - 1) = x.links - 1 := by rw [IntKind.wrap_i64]; omega
  clear hq
  go_enter Try.func96, Try.ntmps96
  go_upto_region 1 with (fail)
  obtain ⟨gx, hgx⟩ : ∃ gx, gx = w.heap.size := ⟨_, rfl⟩
  obtain ⟨gR, hgR⟩ : ∃ gR, gR = w.heap.size + 1 := ⟨_, rfl⟩
  have hne := hid (show gR ≠ gx by omega)
  rw [← hgx] at BX
  rw [← hgR] at BR
  rw [← hgR, ← hgx]
  with_reducible generalize (w.alloc (.cells #[.int .i64 x.no, .int .i64 x.kind, .int .i64 x.links, .int .i64 x.size, .string x.target, .slice A5 x.entries.length c5, .slice A6 x.runs.length c6] 37)).alloc (.cells #[.int .i64 0, .int .i64 0, .int .i64 0, .int .i64 0, .int .i64 0, .int .i64 0, .string ⟨#[]⟩, .slice none 0 0, .slice none 0 0] 39) = W2 at E2 BR BX ⊢
  clear hgx hgR hszR
  have E2 := hid E2
  have BR := hid BR
  have BX := hid BX
  have KC := hid (help_In os AO cO x.no q (by rw [← HQ.out, List.contains_eq_any_beq]; rfl) h W2 E2.out.sits ro)
  have m0 := BX.out.cell (j := 0) (v := .int .i64 x.no) rfl
  have m2 := BX.out.cell (j := 2) (v := .int .i64 x.links) rfl
  by_cases hle : x.links ≤ 1
  · cases q
    · have HW := hid (show letGoP x os = ⟨3, x.no, zeroI⟩ by rw [HWP.out, if_pos ⟨hle, rfl⟩])
      go_upto_region 2 with (go_at_call 62; refine KC.out.mono ?_; rintro e w3 ⟨rfl, F3⟩; have E3 := hid (E2.out.trans F3); have BX3 := hid (BX.out.ext F3); have BR3 := hid (BR.out.ext F3); clear F3 m0 m2)
      have y0 := BX3.out.cell (j := 0) (v := .int .i64 x.no) rfl
      have u0 := BR3.out.cell (j := 0) (v := .int .i64 0) rfl
      have u1 := BR3.out.cell (j := 1) (v := .int .i64 0) rfl
      have u2 := BR3.out.cell (j := 2) (v := .int .i64 0) rfl
      have u3 := BR3.out.cell (j := 3) (v := .int .i64 0) rfl
      have u4 := BR3.out.cell (j := 4) (v := .int .i64 0) rfl
      have u5 := BR3.out.cell (j := 5) (v := .int .i64 0) rfl
      have u6 := BR3.out.cell (j := 6) (v := .string ⟨#[]⟩) rfl
      have u7 := BR3.out.cell (j := 7) (v := .slice none 0 0) rfl
      have u8 := BR3.out.cell (j := 8) (v := .slice none 0 0) rfl
      have f0 := BR3.out.open_ 0
      have f1 := BR3.out.open_ 1
      have f2 := BR3.out.open_ 2
      have f3 := BR3.out.open_ 3
      have f4 := BR3.out.open_ 4
      have f5 := BR3.out.open_ 5
      have f6 := BR3.out.open_ 6
      have f7 := BR3.out.open_ 7
      have f8 := BR3.out.open_ 8
      go_wp2_with fail
      have BRz : BoxU w _ (((((((((w3.setCell ⟨gR, 0, none⟩ (.int .i64 3)).setCell ⟨gR, 1, none⟩ (.int .i64 x.no)).setCell ⟨gR, 2, none⟩ (.int .i64 0)).setCell ⟨gR, 3, none⟩ (.int .i64 0)).setCell ⟨gR, 4, none⟩ (.int .i64 0)).setCell ⟨gR, 5, none⟩ (.int .i64 0)).setCell ⟨gR, 6, none⟩ (.string ⟨#[]⟩)).setCell ⟨gR, 7, none⟩ (.slice none 0 0)).setCell ⟨gR, 8, none⟩ (.slice none 0 0)) gR #[.int .i64 3, .int .i64 x.no, .int .i64 0, .int .i64 0, .int .i64 0, .int .i64 0, .string ⟨#[]⟩, .slice none 0 0, .slice none 0 0] 39 := BR3.out.sets [.int .i64 3, .int .i64 x.no, .int .i64 0, .int .i64 0, .int .i64 0, .int .i64 0, .string ⟨#[]⟩, .slice none 0 0, .slice none 0 0] rfl
      have Ez : Ext h w _ (((((((((w3.setCell ⟨gR, 0, none⟩ (.int .i64 3)).setCell ⟨gR, 1, none⟩ (.int .i64 x.no)).setCell ⟨gR, 2, none⟩ (.int .i64 0)).setCell ⟨gR, 3, none⟩ (.int .i64 0)).setCell ⟨gR, 4, none⟩ (.int .i64 0)).setCell ⟨gR, 5, none⟩ (.int .i64 0)).setCell ⟨gR, 6, none⟩ (.string ⟨#[]⟩)).setCell ⟨gR, 7, none⟩ (.slice none 0 0)).setCell ⟨gR, 8, none⟩ (.slice none 0 0)) := BR3.out.wr E3.out 0 [.int .i64 3, .int .i64 x.no, .int .i64 0, .int .i64 0, .int .i64 0, .int .i64 0, .string ⟨#[]⟩, .slice none 0 0, .slice none 0 0]
      with_reducible generalize (((((((((w3.setCell ⟨gR, 0, none⟩ (.int .i64 3)).setCell ⟨gR, 1, none⟩ (.int .i64 x.no)).setCell ⟨gR, 2, none⟩ (.int .i64 0)).setCell ⟨gR, 3, none⟩ (.int .i64 0)).setCell ⟨gR, 4, none⟩ (.int .i64 0)).setCell ⟨gR, 5, none⟩ (.int .i64 0)).setCell ⟨gR, 6, none⟩ (.string ⟨#[]⟩)).setCell ⟨gR, 7, none⟩ (.slice none 0 0)).setCell ⟨gR, 8, none⟩ (.slice none 0 0)) = Wz at BRz Ez ⊢
      have BRz := hid BRz
      have Ez := hid Ez
      have r0 := BRz.out.cell (j := 0) (v := .int .i64 3) rfl
      have r1 := BRz.out.cell (j := 1) (v := .int .i64 x.no) rfl
      have r2 := BRz.out.cell (j := 2) (v := .int .i64 0) rfl
      have r3 := BRz.out.cell (j := 3) (v := .int .i64 0) rfl
      have r4 := BRz.out.cell (j := 4) (v := .int .i64 0) rfl
      have r5 := BRz.out.cell (j := 5) (v := .int .i64 0) rfl
      have r6 := BRz.out.cell (j := 6) (v := .string ⟨#[]⟩) rfl
      have r7 := BRz.out.cell (j := 7) (v := .slice none 0 0) rfl
      have r8 := BRz.out.cell (j := 8) (v := .slice none 0 0) rfl
      refine bodyPost_ret (v := .agg #[.int .i64 3, .int .i64 x.no, .int .i64 0, .int .i64 0, .int .i64 0, .int .i64 0, .string ⟨#[]⟩, .slice none 0 0, .slice none 0 0]) (by simp [results, Try.results96, go_sem, r0, r1, r2, r3, r4, r5, r6, r7, r8]) rfl ?_
      exact ⟨none, 0, none, 0, by rw [HW.out]; (first | done | rfl), by rw [HW.out]; exact zeroI_rep _, Ez.out⟩
    · have HW := hid (show letGoP x os = ⟨2, 0, { x with links := m }⟩ by rw [HWP.out, if_neg (by simp)])
      go_upto_region 3 with (go_at_call 62; refine KC.out.mono ?_; rintro e w3 ⟨rfl, F3⟩; have E3 := hid (E2.out.trans F3); have BX3 := hid (BX.out.ext F3); have BR3 := hid (BR.out.ext F3); clear F3 m0 m2)
      have hmax := fun ts t (w : World) => show (Builtin.max_ ts t #[.int .i64 0, .int .i64 (x.links - 1)]).run Try.prog w = .ok (.int .i64 m) w by rw [run_max_int2, ← HM.out]; congr 2; split <;> omega
      clear hm
      have q2 := BX3.out.cell (j := 2) (v := .int .i64 x.links) rfl
      have g2 := BX3.out.open_ 2
      go_upto_region 4 with (fail)
      have BX4 : BoxU w _ (w3.setCell ⟨gx, 2, none⟩ (.int .i64 m)) gx #[.int .i64 x.no, .int .i64 x.kind, .int .i64 m, .int .i64 x.size, .string x.target, .slice A5 x.entries.length c5, .slice A6 x.runs.length c6] 37 := BX3.out.part 2 [.int .i64 m] (Nat.le_of_ble_eq_true rfl)
      have E4 : Ext h w _ (w3.setCell ⟨gx, 2, none⟩ (.int .i64 m)) := BX3.out.wr E3.out 2 [.int .i64 m]
      have BR4 : BoxU w _ (w3.setCell ⟨gx, 2, none⟩ (.int .i64 m)) _ _ _ := BR3.out.other hne.out 2 [.int .i64 m]
      with_reducible generalize (w3.setCell ⟨gx, 2, none⟩ (.int .i64 m)) = W4 at BX4 E4 BR4 ⊢
      have BX4 := hid BX4
      have E4 := hid E4
      have BR4 := hid BR4
      clear q2 g2
      have y0 := BX4.out.cell (j := 0) (v := .int .i64 x.no) rfl
      have y1 := BX4.out.cell (j := 1) (v := .int .i64 x.kind) rfl
      have y2 := BX4.out.cell (j := 2) (v := .int .i64 m) rfl
      have y3 := BX4.out.cell (j := 3) (v := .int .i64 x.size) rfl
      have y4 := BX4.out.cell (j := 4) (v := .string x.target) rfl
      have y5 := BX4.out.cell (j := 5) (v := .slice A5 x.entries.length c5) rfl
      have y6 := BX4.out.cell (j := 6) (v := .slice A6 x.runs.length c6) rfl
      have KP := hid (show Calls Try.prog 91 #[.agg #[.int .i64 x.no, .int .i64 x.kind, .int .i64 m, .int .i64 x.size, .string x.target, .slice A5 x.entries.length c5, .slice A6 x.runs.length c6]] W4 fun e w' => e = .returned (.agg #[.int .i64 2, .int .i64 0, .int .i64 x.no, .int .i64 x.kind, .int .i64 m, .int .i64 x.size, .string x.target, .slice A5 x.entries.length c5, .slice A6 x.runs.length c6]) ∧ Ext h W4 h w' from ref_putDeed ⟨x.no, x.kind, m, x.size, x.target, x.entries, x.runs⟩ A5 c5 A6 c6 h W4 E4.out.sits)
      go_wp2_with (go_at_call 91; refine KP.out.mono ?_; rintro e w5 ⟨rfl, F5⟩; have E5 := hid (E4.out.trans F5); have BR5 := hid (BR4.out.ext F5); clear F5 y0 y1 y2 y3 y4 y5 y6; have u0 := BR5.out.cell (j := 0) (v := .int .i64 0) rfl; have u1 := BR5.out.cell (j := 1) (v := .int .i64 0) rfl; have u2 := BR5.out.cell (j := 2) (v := .int .i64 0) rfl; have u3 := BR5.out.cell (j := 3) (v := .int .i64 0) rfl; have u4 := BR5.out.cell (j := 4) (v := .int .i64 0) rfl; have u5 := BR5.out.cell (j := 5) (v := .int .i64 0) rfl; have u6 := BR5.out.cell (j := 6) (v := .string ⟨#[]⟩) rfl; have u7 := BR5.out.cell (j := 7) (v := .slice none 0 0) rfl; have u8 := BR5.out.cell (j := 8) (v := .slice none 0 0) rfl; have f0 := BR5.out.open_ 0; have f1 := BR5.out.open_ 1; have f2 := BR5.out.open_ 2; have f3 := BR5.out.open_ 3; have f4 := BR5.out.open_ 4; have f5 := BR5.out.open_ 5; have f6 := BR5.out.open_ 6; have f7 := BR5.out.open_ 7; have f8 := BR5.out.open_ 8)
      have BRz : BoxU w _ (((((((((w5.setCell ⟨gR, 0, none⟩ (.int .i64 2)).setCell ⟨gR, 1, none⟩ (.int .i64 0)).setCell ⟨gR, 2, none⟩ (.int .i64 x.no)).setCell ⟨gR, 3, none⟩ (.int .i64 x.kind)).setCell ⟨gR, 4, none⟩ (.int .i64 m)).setCell ⟨gR, 5, none⟩ (.int .i64 x.size)).setCell ⟨gR, 6, none⟩ (.string x.target)).setCell ⟨gR, 7, none⟩ (.slice A5 x.entries.length c5)).setCell ⟨gR, 8, none⟩ (.slice A6 x.runs.length c6)) gR #[.int .i64 2, .int .i64 0, .int .i64 x.no, .int .i64 x.kind, .int .i64 m, .int .i64 x.size, .string x.target, .slice A5 x.entries.length c5, .slice A6 x.runs.length c6] 39 := BR5.out.sets [.int .i64 2, .int .i64 0, .int .i64 x.no, .int .i64 x.kind, .int .i64 m, .int .i64 x.size, .string x.target, .slice A5 x.entries.length c5, .slice A6 x.runs.length c6] rfl
      have Ez : Ext h w _ (((((((((w5.setCell ⟨gR, 0, none⟩ (.int .i64 2)).setCell ⟨gR, 1, none⟩ (.int .i64 0)).setCell ⟨gR, 2, none⟩ (.int .i64 x.no)).setCell ⟨gR, 3, none⟩ (.int .i64 x.kind)).setCell ⟨gR, 4, none⟩ (.int .i64 m)).setCell ⟨gR, 5, none⟩ (.int .i64 x.size)).setCell ⟨gR, 6, none⟩ (.string x.target)).setCell ⟨gR, 7, none⟩ (.slice A5 x.entries.length c5)).setCell ⟨gR, 8, none⟩ (.slice A6 x.runs.length c6)) := BR5.out.wr E5.out 0 [.int .i64 2, .int .i64 0, .int .i64 x.no, .int .i64 x.kind, .int .i64 m, .int .i64 x.size, .string x.target, .slice A5 x.entries.length c5, .slice A6 x.runs.length c6]
      with_reducible generalize (((((((((w5.setCell ⟨gR, 0, none⟩ (.int .i64 2)).setCell ⟨gR, 1, none⟩ (.int .i64 0)).setCell ⟨gR, 2, none⟩ (.int .i64 x.no)).setCell ⟨gR, 3, none⟩ (.int .i64 x.kind)).setCell ⟨gR, 4, none⟩ (.int .i64 m)).setCell ⟨gR, 5, none⟩ (.int .i64 x.size)).setCell ⟨gR, 6, none⟩ (.string x.target)).setCell ⟨gR, 7, none⟩ (.slice A5 x.entries.length c5)).setCell ⟨gR, 8, none⟩ (.slice A6 x.runs.length c6)) = Wz at BRz Ez ⊢
      have BRz := hid BRz
      have Ez := hid Ez
      have r0 := BRz.out.cell (j := 0) (v := .int .i64 2) rfl
      have r1 := BRz.out.cell (j := 1) (v := .int .i64 0) rfl
      have r2 := BRz.out.cell (j := 2) (v := .int .i64 x.no) rfl
      have r3 := BRz.out.cell (j := 3) (v := .int .i64 x.kind) rfl
      have r4 := BRz.out.cell (j := 4) (v := .int .i64 m) rfl
      have r5 := BRz.out.cell (j := 5) (v := .int .i64 x.size) rfl
      have r6 := BRz.out.cell (j := 6) (v := .string x.target) rfl
      have r7 := BRz.out.cell (j := 7) (v := .slice A5 x.entries.length c5) rfl
      have r8 := BRz.out.cell (j := 8) (v := .slice A6 x.runs.length c6) rfl
      refine bodyPost_ret (v := .agg #[.int .i64 2, .int .i64 0, .int .i64 x.no, .int .i64 x.kind, .int .i64 m, .int .i64 x.size, .string x.target, .slice A5 x.entries.length c5, .slice A6 x.runs.length c6]) (by simp [results, Try.results96, go_sem, r0, r1, r2, r3, r4, r5, r6, r7, r8]) rfl ?_
      exact ⟨A5, c5, A6, c6, by rw [HW.out], by rw [HW.out]; exact ⟨A5, c5, A6, c6, rfl, sz5, k5, row5, k6, row6⟩, Ez.out⟩
  · have HW := hid (show letGoP x os = ⟨2, 0, { x with links := m }⟩ by rw [HWP.out, if_neg (by omega)])
    have hmax := fun ts t (w : World) => show (Builtin.max_ ts t #[.int .i64 0, .int .i64 (x.links - 1)]).run Try.prog w = .ok (.int .i64 m) w by rw [run_max_int2, ← HM.out]; congr 2; split <;> omega
    clear hm
    go_upto_region 3 with (fail)
    clear m0 m2
    have q2 := BX.out.cell (j := 2) (v := .int .i64 x.links) rfl
    have g2 := BX.out.open_ 2
    go_upto_region 4 with (fail)
    have BX4 : BoxU w _ (W2.setCell ⟨gx, 2, none⟩ (.int .i64 m)) gx #[.int .i64 x.no, .int .i64 x.kind, .int .i64 m, .int .i64 x.size, .string x.target, .slice A5 x.entries.length c5, .slice A6 x.runs.length c6] 37 := BX.out.part 2 [.int .i64 m] (Nat.le_of_ble_eq_true rfl)
    have E4 : Ext h w _ (W2.setCell ⟨gx, 2, none⟩ (.int .i64 m)) := BX.out.wr E2.out 2 [.int .i64 m]
    have BR4 : BoxU w _ (W2.setCell ⟨gx, 2, none⟩ (.int .i64 m)) _ _ _ := BR.out.other hne.out 2 [.int .i64 m]
    with_reducible generalize (W2.setCell ⟨gx, 2, none⟩ (.int .i64 m)) = W4 at BX4 E4 BR4 ⊢
    have BX4 := hid BX4
    have E4 := hid E4
    have BR4 := hid BR4
    clear q2 g2
    have y0 := BX4.out.cell (j := 0) (v := .int .i64 x.no) rfl
    have y1 := BX4.out.cell (j := 1) (v := .int .i64 x.kind) rfl
    have y2 := BX4.out.cell (j := 2) (v := .int .i64 m) rfl
    have y3 := BX4.out.cell (j := 3) (v := .int .i64 x.size) rfl
    have y4 := BX4.out.cell (j := 4) (v := .string x.target) rfl
    have y5 := BX4.out.cell (j := 5) (v := .slice A5 x.entries.length c5) rfl
    have y6 := BX4.out.cell (j := 6) (v := .slice A6 x.runs.length c6) rfl
    have KP := hid (show Calls Try.prog 91 #[.agg #[.int .i64 x.no, .int .i64 x.kind, .int .i64 m, .int .i64 x.size, .string x.target, .slice A5 x.entries.length c5, .slice A6 x.runs.length c6]] W4 fun e w' => e = .returned (.agg #[.int .i64 2, .int .i64 0, .int .i64 x.no, .int .i64 x.kind, .int .i64 m, .int .i64 x.size, .string x.target, .slice A5 x.entries.length c5, .slice A6 x.runs.length c6]) ∧ Ext h W4 h w' from ref_putDeed ⟨x.no, x.kind, m, x.size, x.target, x.entries, x.runs⟩ A5 c5 A6 c6 h W4 E4.out.sits)
    go_wp2_with (go_at_call 91; refine KP.out.mono ?_; rintro e w5 ⟨rfl, F5⟩; have E5 := hid (E4.out.trans F5); have BR5 := hid (BR4.out.ext F5); clear F5 y0 y1 y2 y3 y4 y5 y6; have u0 := BR5.out.cell (j := 0) (v := .int .i64 0) rfl; have u1 := BR5.out.cell (j := 1) (v := .int .i64 0) rfl; have u2 := BR5.out.cell (j := 2) (v := .int .i64 0) rfl; have u3 := BR5.out.cell (j := 3) (v := .int .i64 0) rfl; have u4 := BR5.out.cell (j := 4) (v := .int .i64 0) rfl; have u5 := BR5.out.cell (j := 5) (v := .int .i64 0) rfl; have u6 := BR5.out.cell (j := 6) (v := .string ⟨#[]⟩) rfl; have u7 := BR5.out.cell (j := 7) (v := .slice none 0 0) rfl; have u8 := BR5.out.cell (j := 8) (v := .slice none 0 0) rfl; have f0 := BR5.out.open_ 0; have f1 := BR5.out.open_ 1; have f2 := BR5.out.open_ 2; have f3 := BR5.out.open_ 3; have f4 := BR5.out.open_ 4; have f5 := BR5.out.open_ 5; have f6 := BR5.out.open_ 6; have f7 := BR5.out.open_ 7; have f8 := BR5.out.open_ 8)
    have BRz : BoxU w _ (((((((((w5.setCell ⟨gR, 0, none⟩ (.int .i64 2)).setCell ⟨gR, 1, none⟩ (.int .i64 0)).setCell ⟨gR, 2, none⟩ (.int .i64 x.no)).setCell ⟨gR, 3, none⟩ (.int .i64 x.kind)).setCell ⟨gR, 4, none⟩ (.int .i64 m)).setCell ⟨gR, 5, none⟩ (.int .i64 x.size)).setCell ⟨gR, 6, none⟩ (.string x.target)).setCell ⟨gR, 7, none⟩ (.slice A5 x.entries.length c5)).setCell ⟨gR, 8, none⟩ (.slice A6 x.runs.length c6)) gR #[.int .i64 2, .int .i64 0, .int .i64 x.no, .int .i64 x.kind, .int .i64 m, .int .i64 x.size, .string x.target, .slice A5 x.entries.length c5, .slice A6 x.runs.length c6] 39 := BR5.out.sets [.int .i64 2, .int .i64 0, .int .i64 x.no, .int .i64 x.kind, .int .i64 m, .int .i64 x.size, .string x.target, .slice A5 x.entries.length c5, .slice A6 x.runs.length c6] rfl
    have Ez : Ext h w _ (((((((((w5.setCell ⟨gR, 0, none⟩ (.int .i64 2)).setCell ⟨gR, 1, none⟩ (.int .i64 0)).setCell ⟨gR, 2, none⟩ (.int .i64 x.no)).setCell ⟨gR, 3, none⟩ (.int .i64 x.kind)).setCell ⟨gR, 4, none⟩ (.int .i64 m)).setCell ⟨gR, 5, none⟩ (.int .i64 x.size)).setCell ⟨gR, 6, none⟩ (.string x.target)).setCell ⟨gR, 7, none⟩ (.slice A5 x.entries.length c5)).setCell ⟨gR, 8, none⟩ (.slice A6 x.runs.length c6)) := BR5.out.wr E5.out 0 [.int .i64 2, .int .i64 0, .int .i64 x.no, .int .i64 x.kind, .int .i64 m, .int .i64 x.size, .string x.target, .slice A5 x.entries.length c5, .slice A6 x.runs.length c6]
    with_reducible generalize (((((((((w5.setCell ⟨gR, 0, none⟩ (.int .i64 2)).setCell ⟨gR, 1, none⟩ (.int .i64 0)).setCell ⟨gR, 2, none⟩ (.int .i64 x.no)).setCell ⟨gR, 3, none⟩ (.int .i64 x.kind)).setCell ⟨gR, 4, none⟩ (.int .i64 m)).setCell ⟨gR, 5, none⟩ (.int .i64 x.size)).setCell ⟨gR, 6, none⟩ (.string x.target)).setCell ⟨gR, 7, none⟩ (.slice A5 x.entries.length c5)).setCell ⟨gR, 8, none⟩ (.slice A6 x.runs.length c6)) = Wz at BRz Ez ⊢
    have BRz := hid BRz
    have Ez := hid Ez
    have r0 := BRz.out.cell (j := 0) (v := .int .i64 2) rfl
    have r1 := BRz.out.cell (j := 1) (v := .int .i64 0) rfl
    have r2 := BRz.out.cell (j := 2) (v := .int .i64 x.no) rfl
    have r3 := BRz.out.cell (j := 3) (v := .int .i64 x.kind) rfl
    have r4 := BRz.out.cell (j := 4) (v := .int .i64 m) rfl
    have r5 := BRz.out.cell (j := 5) (v := .int .i64 x.size) rfl
    have r6 := BRz.out.cell (j := 6) (v := .string x.target) rfl
    have r7 := BRz.out.cell (j := 7) (v := .slice A5 x.entries.length c5) rfl
    have r8 := BRz.out.cell (j := 8) (v := .slice A6 x.runs.length c6) rfl
    refine bodyPost_ret (v := .agg #[.int .i64 2, .int .i64 0, .int .i64 x.no, .int .i64 x.kind, .int .i64 m, .int .i64 x.size, .string x.target, .slice A5 x.entries.length c5, .slice A6 x.runs.length c6]) (by simp [results, Try.results96, go_sem, r0, r1, r2, r3, r4, r5, r6, r7, r8]) rfl ?_
    exact ⟨A5, c5, A6, c6, by rw [HW.out], by rw [HW.out]; exact ⟨A5, c5, A6, c6, rfl, sz5, k5, row5, k6, row6⟩, Ez.out⟩
def takenR (a b : Inode) : Int := if a.kind = 2 ∧ b.kind ≠ 2 then 13 else if a.kind ≠ 2 ∧ b.kind = 2 then 14 else if 0 < b.entries.length then 15 else 0
set_option maxHeartbeats 8000000 in
set_option maxRecDepth 100000 in
theorem ref_mayTake (a b : Inode) (ca cb : List Value) (h : FH) (w : World) (hs : Sits h w) (ra : repInode h ca a) (rb : repInode h cb b) :
    Calls Try.prog 94 #[.agg ca.toArray, .agg cb.toArray] w fun e w' => e = .returned (.int .i64 (takenR a b)) ∧ Ext h w h w' := by
  obtain ⟨h1, E1, hb1, le1, hh1⟩ := (Ext.refl hs).boxF ca.toArray 37
  obtain ⟨h2, E2, hb2, le2, hh2⟩ := E1.boxF cb.toArray 37
  have hszR : (w.alloc (.cells ca.toArray 37)).heap.size = w.heap.size + 1 := by simp
  rw [hszR] at hb2
  have hb1 := le2 _ _ hb1
  clear hh1 hh2
  obtain ⟨A5, c5, at5, -, -⟩ := rb.at5
  go_enter Try.func94, Try.ntmps94
  go_upto_region 1 with (fail)
  obtain ⟨ga, hga⟩ : ∃ ga, ga = w.heap.size := ⟨_, rfl⟩
  obtain ⟨gb, hgb⟩ : ∃ gb, gb = w.heap.size + 1 := ⟨_, rfl⟩
  rw [← hga] at hb1
  rw [← hgb] at hb2
  rw [← hgb, ← hga]
  with_reducible generalize (w.alloc (.cells ca.toArray 37)).alloc (.cells cb.toArray 37) = W2 at E2 ⊢
  clear hga hgb hszR E1
  have n1 := sits_cellL E2.sits hb1 ra.at1
  have n2 := sits_cellL E2.sits hb2 rb.at1
  have n5 := sits_cellL E2.sits hb2 at5
  have E2 := hid E2
  clear hb1 hb2 at5 le1 le2
  by_cases ka : a.kind = 2
  · have k1 : (a.kind == 2) = true := by simpa using ka
    have k1' : (a.kind != 2) = false := by simpa using ka
    by_cases kb : b.kind = 2
    · have k2 : (b.kind == 2) = true := by simpa using kb
      have k2' : (b.kind != 2) = false := by simpa using kb
      by_cases he : 0 < b.entries.length
      · have HT := hid (show takenR a b = 15 by unfold takenR; rw [if_neg (by simp [kb]), if_neg (by simp [ka]), if_pos he])
        have he2 : (0 : Int) < (b.entries.length : Int) := by omega
        clear ka kb he
        go_wp2_with fail
        go_ret
        exact ⟨by rw [HT.out]; rfl, E2.out.back⟩
      · have HT := hid (show takenR a b = 0 by unfold takenR; rw [if_neg (by simp [kb]), if_neg (by simp [ka]), if_neg he])
        have he2 : ¬ ((0 : Int) < (b.entries.length : Int)) := by omega
        clear ka kb he
        go_wp2_with fail
        go_ret
        exact ⟨by rw [HT.out]; rfl, E2.out.back⟩
    · have k2 : (b.kind == 2) = false := by simpa using kb
      have k2' : (b.kind != 2) = true := by simpa using kb
      have HT := hid (show takenR a b = 13 by unfold takenR; rw [if_pos ⟨ka, kb⟩])
      clear ka kb
      go_wp2_with fail
      go_ret
      exact ⟨by rw [HT.out]; rfl, E2.out.back⟩
  · have k1 : (a.kind == 2) = false := by simpa using ka
    have k1' : (a.kind != 2) = true := by simpa using ka
    by_cases kb : b.kind = 2
    · have k2 : (b.kind == 2) = true := by simpa using kb
      have k2' : (b.kind != 2) = false := by simpa using kb
      have HT := hid (show takenR a b = 14 by unfold takenR; rw [if_neg (by simp [kb]), if_pos ⟨ka, kb⟩])
      clear ka kb
      go_wp2_with fail
      go_ret
      exact ⟨by rw [HT.out]; rfl, E2.out.back⟩
    · have k2 : (b.kind == 2) = false := by simpa using kb
      have k2' : (b.kind != 2) = true := by simpa using kb
      by_cases he : 0 < b.entries.length
      · have HT := hid (show takenR a b = 15 by unfold takenR; rw [if_neg (by simp [ka]), if_neg (by simp [kb]), if_pos he])
        have he2 : (0 : Int) < (b.entries.length : Int) := by omega
        clear ka kb he
        go_wp2_with fail
        go_ret
        exact ⟨by rw [HT.out]; rfl, E2.out.back⟩
      · have HT := hid (show takenR a b = 0 by unfold takenR; rw [if_neg (by simp [ka]), if_neg (by simp [kb]), if_neg he])
        have he2 : ¬ ((0 : Int) < (b.entries.length : Int)) := by omega
        clear ka kb he
        go_wp2_with fail
        go_ret
        exact ⟨by rw [HT.out]; rfl, E2.out.back⟩
theorem thereS_found {xs : List Inode} {path : ByteArray} {p : Spot} (h : thereS xs path = (p, 0)) : (findE p.dir.entries p.name).isSome = true ∧ p.is = true := by
  unfold thereS at h
  by_cases h1 : (findS xs path).2 = 0 ∧ (findS xs path).1.is = false
  · rw [if_pos h1] at h; have q : (11 : Int) = 0 := congrArg Prod.snd h; exact absurd q (by decide)
  · rw [if_neg h1] at h
    rw [h] at h1
    have hi : p.is = true := by
      cases e : p.is with
      | true => rfl
      | false => exact absurd ⟨rfl, e⟩ h1
    unfold findS at h
    by_cases h2 : (parentP xs path).2.2 ≠ 0
    · rw [if_pos h2] at h; exact absurd (congrArg Prod.snd h) h2
    · rw [if_neg h2] at h
      have hp : atS xs (parentP xs path).1 (parentP xs path).2.1 = p := congrArg Prod.fst h
      rw [← hp]
      rw [(atS_dir _ _ _).1, (atS_dir _ _ _).2]
      refine ⟨?_, by rw [hp]; exact hi⟩
      cases hz : findE ((findI xs (parentP xs path).1).getD zeroI).entries (parentP xs path).2.1 with
      | some t => rfl
      | none =>
        exfalso
        have q := atS_miss rfl hz (.inl rfl)
        rw [hp] at q
        rw [q] at hi
        cases hi
theorem withoutP_found {d : Inode} {name : ByteArray} (h : (findE d.entries name).isSome = true) : withoutP d name = { d with entries := remE d.entries name } := by
  unfold withoutP remC
  rw [if_pos h, if_pos rfl]

set_option maxHeartbeats 16000000 in
set_option maxRecDepth 100000 in
theorem ref_Unlink (s : State) (cs : List Value) (path : ByteArray) (hsz : path.size ≤ 9223372036854775807) (os : List Int) (AO : Option Addr) (cO : Nat) (hent : ∀ x ∈ s.inodes, midI x) (h : FH) (w : World) (hs : Sits h w) (rS : repState h cs s) (ro : RowAt h AO os) :
    Calls Try.prog 55 #[.agg cs.toArray, .string path, .slice AO os.length cO] w fun e w' => RetDC h w (unlinkP s path os) e w' := by
  have HENT := hid hent
  have RS := hid rS
  clear rS hent
  obtain ⟨h1, E1, hb1, le1, hh1⟩ := (Ext.refl hs).boxF cs.toArray 31
  clear hh1
  obtain ⟨⟨p, code⟩, hf⟩ : ∃ fs, thereS s.inodes path = fs := ⟨_, rfl⟩
  have HP := hid hf
  have hpm := thereS_all midI_zero HENT.out path
  rw [hf] at hpm
  have HDM := hid hpm.1
  have HXM := hid hpm.2
  clear hpm hf
  go_enter Try.func55, Try.ntmps55
  go_upto_region 1 with (fail)
  generalize hgx : w.heap.size = gx at *
  with_reducible generalize w.alloc (.cells cs.toArray 31) = W2 at E1 ⊢
  clear hgx
  have E2 := hid E1
  have hb1 := hid hb1
  have le1 := hid le1
  clear E1
  have KT := hid (ref_entry s _ path hsz p code HP.out h1 W2 E2.out.sits (repState.mono le1.out RS.out))
  go_upto_region 2 with (first | (refine wpList_load_row rfl 31 _ rfl gx rfl 31 cs.toArray (0, 0) _ (E2.out.sits _ _ hb1.out) Try.underlying31 rfl (info_State RS.out.len) ?_) | (go_at_call 92; refine KT.out.mono ?_; rintro e w3 ⟨dl, xl, h3, rfl, rd, rx, hnz, F3⟩; have E3 := hid (E2.out.trans F3); have l3 := hid F3.le; have rd := hid rd; have rx := hid rx; have HNZ := hid hnz; clear F3 hnz; have hszT : (w3.alloc (.cells #[.int .i64 0, .int .i64 0, .int .i64 0, .int .i64 0, .string ⟨#[]⟩, .slice none 0 0, .slice none 0 0] 37)).heap.size = w3.heap.size + 1 := (by simp); have BF3 := hid ((BoxU.new E3.out #[.int .i64 0, .int .i64 0, .int .i64 0, .int .i64 0, .string ⟨#[]⟩, .slice none 0 0, .slice none 0 0] 37).alloc (.cells #[.int .i64 0, .int .i64 0, .int .i64 0, .int .i64 0, .string ⟨#[]⟩, .slice none 0 0, .slice none 0 0] 37)); have BT3 := BoxU.new (E3.out.alloc (.cells #[.int .i64 0, .int .i64 0, .int .i64 0, .int .i64 0, .string ⟨#[]⟩, .slice none 0 0, .slice none 0 0] 37)) #[.int .i64 0, .int .i64 0, .int .i64 0, .int .i64 0, .string ⟨#[]⟩, .slice none 0 0, .slice none 0 0] 37; (rw [hszT] at BT3); have BT3 := hid BT3; have hneT := hid (show w3.heap.size + 1 ≠ w3.heap.size by omega); have BT4 := hid (BT3.out.rowOther hneT.out dl.toArray); clear hszT) | (refine wpList_store_row rfl 37 _ _ rfl w3.heap.size dl.toArray rfl rfl 37 #[.int .i64 0, .int .i64 0, .int .i64 0, .int .i64 0, .string ⟨#[]⟩, .slice none 0 0, .slice none 0 0] BF3.out.row (info_Inode rd.out.len) (zi_sizeR rd.out) (one_arr rd.out.one) ?_) | (refine wpList_store_row rfl 37 _ _ rfl (w3.heap.size + 1) xl.toArray rfl rfl 37 #[.int .i64 0, .int .i64 0, .int .i64 0, .int .i64 0, .string ⟨#[]⟩, .slice none 0 0, .slice none 0 0] BT4.out.row (info_Inode rx.out.len) (zi_sizeR rx.out) (one_arr rx.out.one) ?_))
  have E4 := BF3.out.wrRow ((E3.out.alloc (.cells #[.int .i64 0, .int .i64 0, .int .i64 0, .int .i64 0, .string ⟨#[]⟩, .slice none 0 0, .slice none 0 0] 37)).alloc (.cells #[.int .i64 0, .int .i64 0, .int .i64 0, .int .i64 0, .string ⟨#[]⟩, .slice none 0 0, .slice none 0 0] 37)) dl.toArray
  have BF5 := (BF3.out.setRow dl.toArray).rowOther (fun e => hneT.out e.symm) xl.toArray
  have BT5 := BT4.out.setRow xl.toArray
  have E5 := BT4.out.wrRow E4 xl.toArray
  clear E4 BF3 BT3 BT4
  obtain ⟨gd, hgd⟩ : ∃ g, g = w3.heap.size := ⟨_, rfl⟩
  obtain ⟨gt, hgt⟩ : ∃ g, g = w3.heap.size + 1 := ⟨_, rfl⟩
  rw [← hgt, ← hgd] at BF5 BT5 E5 hneT
  rw [← hgt, ← hgd]
  with_reducible generalize ((((w3.alloc (.cells #[.int .i64 0, .int .i64 0, .int .i64 0, .int .i64 0, .string ⟨#[]⟩, .slice none 0 0, .slice none 0 0] 37)).alloc (.cells #[.int .i64 0, .int .i64 0, .int .i64 0, .int .i64 0, .string ⟨#[]⟩, .slice none 0 0, .slice none 0 0] 37)).setRow gd dl.toArray).setRow gt xl.toArray) = w5 at BF5 BT5 E5 ⊢
  clear hgd hgt E3
  have BF5 := hid BF5
  have BT5 := hid BT5
  have E5 := hid E5
  clear KT
  have m9 := BT5.out.cell (by rw [List.getElem?_toArray]; exact rx.out.at1)
  by_cases hc : code = 0
  · subst hc
    by_cases hk : p.x.kind = 2
    · have bk : (p.x.kind == 2) = true := by simpa using hk
      have HQ := hid (show unlinkP s path os = ([], 14) by unfold unlinkP; rw [HP.out, if_neg (by simp), if_pos hk])
      clear hk
      go_wp2_with fail
      go_ret2
      exact (by rw [HQ.out]; exact ⟨none, 0, h, rfl, ⟨Nat.zero_le _, fun _ => rfl, by decide⟩, RowAt.nil _ _, E5.out.back⟩)
    · have bk : (p.x.kind == 2) = false := by simpa using hk
      obtain ⟨A5, c5, at5, k5, row5⟩ := rd.out.at5
      have m5 := BF5.out.cell (by rw [List.getElem?_toArray]; exact at5)
      obtain ⟨al, hal⟩ : ∃ al, remE p.dir.entries p.name = al := ⟨_, rfl⟩
      have KR := ref_RemoveEntry p.dir.entries A5 c5 k5.le k5.mx HDM.out.1 p.name HNZ.out h3 w5 E5.out.sits row5
      rw [hal] at KR
      have KR := hid KR
      have hll : al.length ≤ 1000 := by rw [← hal]; exact Nat.le_trans (remE_lenT _ _) HDM.out.1
      have HAL := hid hal
      clear hal k5 row5
      obtain ⟨g, hg⟩ : ∃ g, letGoP p.x os = g := ⟨_, rfl⟩
      have HQ := hid (show unlinkP s path os = ([putD { p.dir with entries := al }, g], 0) by
        unfold unlinkP; rw [HP.out, if_neg (by simp), if_neg hk]; show ([putD (withoutP p.dir p.name), letGoP p.x os], (0 : Int)) = _; rw [withoutP_found (thereS_found HP.out).1, HAL.out, hg])
      have HG := hid hg
      clear hk hg
      go_upto_region 7 with (go_at_call 95; refine KR.out.mono ?_; rintro e w9 R; obtain ⟨A9, c9, h9, rfl, r9, F9, u0, u1, u2⟩ := R.stayX (by omega); have E9 := hid (E5.out.trans F9); have BF9 := hid (BF5.out.ext F9); have BT9 := hid (BT5.out.ext F9); have l9 := hid F9.le; have k9 := hid (show CapLe A9 al.length c9 from ⟨u1, u0, u2⟩); have r9 := hid r9; clear F9 u0 u1 u2 R m5 m9; have m5 := BF9.out.cell (by rw [List.getElem?_toArray]; exact at5); have f5 := BF9.out.open_ 5)
      have BF10 := BF9.out.set1 5 (.slice A9 al.length c9)
      have BT10 := BT9.out.other1 hneT.out 5 (.slice A9 al.length c9)
      have E10 := BF9.out.wr1 E9.out 5 (.slice A9 al.length c9)
      with_reducible generalize w9.setCell ⟨gd, 5, none⟩ (.slice A9 al.length c9) = w10 at BF10 BT10 E10 ⊢
      clear m5 f5
      obtain ⟨h11, E11, hbD, l11, k11⟩ := BF10.freeze E10
      obtain ⟨h12, E12, hbX, l12, -⟩ := (BT10.keep k11 hneT.out).freeze E11
      have hbD := l12 _ _ hbD
      have rxx := rx.out.mono (l9.out.trans (l11.trans l12))
      have rdd := ((rd.out.mono l9.out).setEnt k9.out r9.out).mono (l11.trans l12)
      obtain ⟨B5, d5, B6, d6, rfl⟩ := rxx.open
      obtain ⟨A9', c9', A6, c6, hys, sy, ky5, rwy5, ky6, rwy6⟩ := rdd
      have e5 : (Value.slice A9' al.length c9') = .slice A9 al.length c9 := by
        have q := congrArg (fun l : List Value => l[5]?) hys
        simp only [List.getElem?_set, rd.out.len] at q
        exact (Option.some.inj (by simpa using q)).symm
      injection e5 with ea eb ec
      subst ea; subst ec
      have KLG := hid (fun (w' : World) (hs' : Sits h12 w') => ref_letGo p.x B5 d5 B6 d6 os AO cO HXM.out.2.1 HXM.out.2.2 h12 w' hs' rxx (ro.mono (le1.out.trans (l3.out.trans (l9.out.trans (l11.trans l12))))))
      have KPU := hid (fun (w' : World) (hs' : Sits h12 w') => (ref_putDeed ⟨p.dir.no, p.dir.kind, p.dir.links, p.dir.size, p.dir.target, al, p.dir.runs⟩ A9' c9' A6 c6 h12 w' hs' : Calls Try.prog 91 #[.agg #[.int .i64 p.dir.no, .int .i64 p.dir.kind, .int .i64 p.dir.links, .int .i64 p.dir.size, .string p.dir.target, .slice A9' al.length c9', .slice A6 p.dir.runs.length c6]] w' fun e w2 => e = .returned (.agg #[.int .i64 2, .int .i64 0, .int .i64 p.dir.no, .int .i64 p.dir.kind, .int .i64 p.dir.links, .int .i64 p.dir.size, .string p.dir.target, .slice A9' al.length c9', .slice A6 p.dir.runs.length c6]) ∧ Ext h12 w' h12 w2))
      have hc0 : ∀ w' : World, Ext h w h12 w' → w'.cell? ⟨gd, 0, none⟩ = some (.int .i64 p.dir.no) := fun w' E => Sits_at E.sits hbD (by rw [hys]; rfl)
      have hx0 : ∀ w' : World, Ext h w h12 w' → w'.cell? ⟨gt, 0, none⟩ = some (.int .i64 p.x.no) := fun w' E => Sits_at E.sits hbX rfl
      have hc1 : ∀ w' : World, Ext h w h12 w' → w'.cell? ⟨gd, 1, none⟩ = some (.int .i64 p.dir.kind) := fun w' E => Sits_at E.sits hbD (by rw [hys]; rfl)
      have hx1 : ∀ w' : World, Ext h w h12 w' → w'.cell? ⟨gt, 1, none⟩ = some (.int .i64 p.x.kind) := fun w' E => Sits_at E.sits hbX rfl
      have hc2 : ∀ w' : World, Ext h w h12 w' → w'.cell? ⟨gd, 2, none⟩ = some (.int .i64 p.dir.links) := fun w' E => Sits_at E.sits hbD (by rw [hys]; rfl)
      have hx2 : ∀ w' : World, Ext h w h12 w' → w'.cell? ⟨gt, 2, none⟩ = some (.int .i64 p.x.links) := fun w' E => Sits_at E.sits hbX rfl
      have hc3 : ∀ w' : World, Ext h w h12 w' → w'.cell? ⟨gd, 3, none⟩ = some (.int .i64 p.dir.size) := fun w' E => Sits_at E.sits hbD (by rw [hys]; rfl)
      have hx3 : ∀ w' : World, Ext h w h12 w' → w'.cell? ⟨gt, 3, none⟩ = some (.int .i64 p.x.size) := fun w' E => Sits_at E.sits hbX rfl
      have hc4 : ∀ w' : World, Ext h w h12 w' → w'.cell? ⟨gd, 4, none⟩ = some (.string p.dir.target) := fun w' E => Sits_at E.sits hbD (by rw [hys]; rfl)
      have hx4 : ∀ w' : World, Ext h w h12 w' → w'.cell? ⟨gt, 4, none⟩ = some (.string p.x.target) := fun w' E => Sits_at E.sits hbX rfl
      have hc5 : ∀ w' : World, Ext h w h12 w' → w'.cell? ⟨gd, 5, none⟩ = some (.slice A9' al.length c9') := fun w' E => Sits_at E.sits hbD (by rw [hys]; rfl)
      have hx5 : ∀ w' : World, Ext h w h12 w' → w'.cell? ⟨gt, 5, none⟩ = some (.slice B5 p.x.entries.length d5) := fun w' E => Sits_at E.sits hbX rfl
      have hc6 : ∀ w' : World, Ext h w h12 w' → w'.cell? ⟨gd, 6, none⟩ = some (.slice A6 p.dir.runs.length c6) := fun w' E => Sits_at E.sits hbD (by rw [hys]; rfl)
      have hx6 : ∀ w' : World, Ext h w h12 w' → w'.cell? ⟨gt, 6, none⟩ = some (.slice B6 p.x.runs.length d6) := fun w' E => Sits_at E.sits hbX rfl
      have E13 := E12.drew
      have H1 := hid sy
      have H2 := hid ky5
      have H3 := hid rwy5
      have H4 := hid ky6
      have H5 := hid rwy6
      clear hys sy ky5 rwy5 ky6 rwy6 rxx BF10 BT10 E10 E11 E12 k11 hbD hbX at5
      go_region_held3 (fun w' => Ext h w h12 w') (first | with_reducible assumption | with_reducible exact Eg | with_reducible exact Ext.alloc Eg _) (first | (go_at_call 91; (with_reducible refine (KPU.out _ (Ext.sits (h := h) (h' := h12) (w := w) (by with_reducible assumption))).mono ?_); rintro e wf ⟨rfl, Fp⟩; have Eg := Ext.trans (h := h) (w := w) (h1 := h12) (by with_reducible assumption) Fp; clear Fp) | (go_at_call 96; (with_reducible refine (KLG.out _ (Ext.sits (h := h) (h' := h12) (w := w) (by with_reducible assumption))).mono ?_); rintro e wf ⟨G5, g5, G6, g6, rfl, rg, Fl⟩; rw [HG.out] at rg ⊢; have Eg := Ext.trans (h := h) (w := w) (h1 := h12) (by with_reducible assumption) Fl; have rg := hid rg; clear Fl))
      all_goals
        go_wp2_with fail
        obtain ⟨h15, E15, hb15, le15, hh15⟩ := Eg.boxF #[.int .i64 2, .int .i64 0, .int .i64 p.dir.no, .int .i64 p.dir.kind, .int .i64 p.dir.links, .int .i64 p.dir.size, .string p.dir.target, .slice A9' al.length c9', .slice A6 p.dir.runs.length c6, .int .i64 g.kind, .int .i64 g.no, .int .i64 g.inode.no, .int .i64 g.inode.kind, .int .i64 g.inode.links, .int .i64 g.inode.size, .string g.inode.target, .slice G5 g.inode.entries.length g5, .slice G6 g.inode.runs.length g6] 39
        go_ret2
        rw [HQ.out]
        have rg2 := rg.out.mono le15
        exact ⟨some ⟨wf.heap.size, 0, none⟩, 2, h15, rfl, ⟨Nat.le_refl _, (fun e => by cases e), by decide⟩, RowAt.of_block hb15 ⟨[.int .i64 2, .int .i64 0, .int .i64 p.dir.no, .int .i64 p.dir.kind, .int .i64 p.dir.links, .int .i64 p.dir.size, .string p.dir.target, .slice A9' al.length c9', .slice A6 p.dir.runs.length c6], _, rfl, ⟨A9', c9', A6, c6, rfl, H1.out, H2.out, H3.out.mono le15, H4.out, H5.out.mono le15⟩, [.int .i64 g.kind, .int .i64 g.no, .int .i64 g.inode.no, .int .i64 g.inode.kind, .int .i64 g.inode.links, .int .i64 g.inode.size, .string g.inode.target, .slice G5 g.inode.entries.length g5, .slice G6 g.inode.runs.length g6], [], rfl, deed_repT rg2, rfl⟩ (by show 2 ≤ 9223372036854775807; decide), E15⟩
  · have hb : (code == 0) = false := by simpa using hc
    have hb2 : (code != 0) = true := by simpa using hc
    have HQ := hid (show unlinkP s path os = ([], code) by unfold unlinkP; rw [HP.out, if_pos hc])
    clear hc
    go_wp2_with fail
    go_ret2
    exact (by rw [HQ.out]; exact ⟨none, 0, h, rfl, ⟨Nat.zero_le _, fun _ => rfl, by decide⟩, RowAt.nil _ _, E5.out.back⟩)

end Go.Proofs.Ytkglaofiencfdaa

namespace Go.Proofs.Ytkglaofiencfdaa
open Go.RowKit Go.Sort
set_option linter.unusedVariables false
set_option maxHeartbeats 16000000 in
set_option maxRecDepth 100000 in
theorem ref_Rmdir (s : State) (cs : List Value) (path : ByteArray) (hsz : path.size ≤ 9223372036854775807) (hent : ∀ x ∈ s.inodes, midI x) (h : FH) (w : World) (hs : Sits h w) (rS : repState h cs s) :
    Calls Try.prog 56 #[.agg cs.toArray, .string path] w fun e w' => RetDC h w (rmdirP s path) e w' := by
  have HENT := hid hent
  have RS := hid rS
  clear rS hent
  obtain ⟨h1, E1, hb1, le1, hh1⟩ := (Ext.refl hs).boxF cs.toArray 31
  clear hh1
  obtain ⟨⟨p, code⟩, hf⟩ : ∃ fs, thereS s.inodes path = fs := ⟨_, rfl⟩
  have HP := hid hf
  have hpm := thereS_all midI_zero HENT.out path
  rw [hf] at hpm
  have HDM := hid hpm.1
  have HXM := hid hpm.2
  clear hpm hf
  go_enter Try.func56, Try.ntmps56
  go_upto_region 1 with (fail)
  generalize hgx : w.heap.size = gx at *
  with_reducible generalize w.alloc (.cells cs.toArray 31) = W2 at E1 ⊢
  clear hgx
  have E2 := hid E1
  have hb1 := hid hb1
  have le1 := hid le1
  clear E1
  have KT := hid (ref_entry s _ path hsz p code HP.out h1 W2 E2.out.sits (repState.mono le1.out RS.out))
  go_upto_region 2 with (first | (refine wpList_load_row rfl 31 _ rfl gx rfl 31 cs.toArray (0, 0) _ (E2.out.sits _ _ hb1.out) Try.underlying31 rfl (info_State RS.out.len) ?_) | (go_at_call 92; refine KT.out.mono ?_; rintro e w3 ⟨dl, xl, h3, rfl, rd, rx, hnz, F3⟩; have E3 := hid (E2.out.trans F3); have l3 := hid F3.le; have rd := hid rd; have rx := hid rx; have HNZ := hid hnz; clear F3 hnz; have hszT : (w3.alloc (.cells #[.int .i64 0, .int .i64 0, .int .i64 0, .int .i64 0, .string ⟨#[]⟩, .slice none 0 0, .slice none 0 0] 37)).heap.size = w3.heap.size + 1 := (by simp); have BF3 := hid ((BoxU.new E3.out #[.int .i64 0, .int .i64 0, .int .i64 0, .int .i64 0, .string ⟨#[]⟩, .slice none 0 0, .slice none 0 0] 37).alloc (.cells #[.int .i64 0, .int .i64 0, .int .i64 0, .int .i64 0, .string ⟨#[]⟩, .slice none 0 0, .slice none 0 0] 37)); have BT3 := BoxU.new (E3.out.alloc (.cells #[.int .i64 0, .int .i64 0, .int .i64 0, .int .i64 0, .string ⟨#[]⟩, .slice none 0 0, .slice none 0 0] 37)) #[.int .i64 0, .int .i64 0, .int .i64 0, .int .i64 0, .string ⟨#[]⟩, .slice none 0 0, .slice none 0 0] 37; (rw [hszT] at BT3); have BT3 := hid BT3; have hneT := hid (show w3.heap.size + 1 ≠ w3.heap.size by omega); have BT4 := hid (BT3.out.rowOther hneT.out dl.toArray); clear hszT) | (refine wpList_store_row rfl 37 _ _ rfl w3.heap.size dl.toArray rfl rfl 37 #[.int .i64 0, .int .i64 0, .int .i64 0, .int .i64 0, .string ⟨#[]⟩, .slice none 0 0, .slice none 0 0] BF3.out.row (info_Inode rd.out.len) (zi_sizeR rd.out) (one_arr rd.out.one) ?_) | (refine wpList_store_row rfl 37 _ _ rfl (w3.heap.size + 1) xl.toArray rfl rfl 37 #[.int .i64 0, .int .i64 0, .int .i64 0, .int .i64 0, .string ⟨#[]⟩, .slice none 0 0, .slice none 0 0] BT4.out.row (info_Inode rx.out.len) (zi_sizeR rx.out) (one_arr rx.out.one) ?_))
  have E4 := BF3.out.wrRow ((E3.out.alloc (.cells #[.int .i64 0, .int .i64 0, .int .i64 0, .int .i64 0, .string ⟨#[]⟩, .slice none 0 0, .slice none 0 0] 37)).alloc (.cells #[.int .i64 0, .int .i64 0, .int .i64 0, .int .i64 0, .string ⟨#[]⟩, .slice none 0 0, .slice none 0 0] 37)) dl.toArray
  have BF5 := (BF3.out.setRow dl.toArray).rowOther (fun e => hneT.out e.symm) xl.toArray
  have BT5 := BT4.out.setRow xl.toArray
  have E5 := BT4.out.wrRow E4 xl.toArray
  clear E4 BF3 BT3 BT4
  obtain ⟨gd, hgd⟩ : ∃ g, g = w3.heap.size := ⟨_, rfl⟩
  obtain ⟨gt, hgt⟩ : ∃ g, g = w3.heap.size + 1 := ⟨_, rfl⟩
  rw [← hgt, ← hgd] at BF5 BT5 E5 hneT
  rw [← hgt, ← hgd]
  with_reducible generalize ((((w3.alloc (.cells #[.int .i64 0, .int .i64 0, .int .i64 0, .int .i64 0, .string ⟨#[]⟩, .slice none 0 0, .slice none 0 0] 37)).alloc (.cells #[.int .i64 0, .int .i64 0, .int .i64 0, .int .i64 0, .string ⟨#[]⟩, .slice none 0 0, .slice none 0 0] 37)).setRow gd dl.toArray).setRow gt xl.toArray) = w5 at BF5 BT5 E5 ⊢
  clear hgd hgt E3
  have BF5 := hid BF5
  have BT5 := hid BT5
  have E5 := hid E5
  clear KT
  have m9 := BT5.out.cell (by rw [List.getElem?_toArray]; exact rx.out.at1)
  by_cases hc : code = 0
  · subst hc
    by_cases hk : p.x.kind = 2
    · have bk : (p.x.kind == 2) = true := by simpa using hk
      have bk2 : (p.x.kind != 2) = false := by simpa using hk
      obtain ⟨B5, d5, atx, -, -⟩ := rx.out.at5
      have m13 := BT5.out.cell (by rw [List.getElem?_toArray]; exact atx)
      by_cases hl : 0 < p.x.entries.length
      · have HQ := hid (show rmdirP s path = ([], 15) by unfold rmdirP; rw [HP.out, if_neg (by simp), if_neg (by simpa using hk), if_pos hl])
        have hl2 : (0 : Int) < (p.x.entries.length : Int) := by omega
        clear hk hl
        go_wp2_with fail
        go_ret2
        exact (by rw [HQ.out]; exact ⟨none, 0, h, rfl, ⟨Nat.zero_le _, fun _ => rfl, by decide⟩, RowAt.nil _ _, E5.out.back⟩)
      · have hl2 : ¬ ((0 : Int) < (p.x.entries.length : Int)) := by omega
        obtain ⟨A5, c5, at5, k5, row5⟩ := rd.out.at5
        have m5 := BF5.out.cell (by rw [List.getElem?_toArray]; exact at5)
        obtain ⟨al, hal⟩ : ∃ al, remE p.dir.entries p.name = al := ⟨_, rfl⟩
        have KR := ref_RemoveEntry p.dir.entries A5 c5 k5.le k5.mx HDM.out.1 p.name HNZ.out h3 w5 E5.out.sits row5
        rw [hal] at KR
        have KR := hid KR
        have hll : al.length ≤ 1000 := by rw [← hal]; exact Nat.le_trans (remE_lenT _ _) HDM.out.1
        have HAL := hid hal
        clear hal k5 row5
        have HQ := hid (show rmdirP s path = ([putD { p.dir with entries := al, links := p.dir.links - 1 }, ⟨3, p.x.no, zeroI⟩], 0) by
          unfold rmdirP; rw [HP.out, if_neg (by simp), if_neg (by simpa using hk), if_neg hl]; show ([putD { withoutP p.dir p.name with links := (withoutP p.dir p.name).links - 1 }, (⟨3, p.x.no, zeroI⟩ : Deed)], (0 : Int)) = _; rw [withoutP_found (thereS_found HP.out).1, HAL.out])
        clear hk hl
        go_upto_region 9 with (go_at_call 95; refine KR.out.mono ?_; rintro e w9 R; obtain ⟨A9, c9, h9, rfl, r9, F9, u0, u1, u2⟩ := R.stayX (by omega); have E9 := hid (E5.out.trans F9); have BF9 := hid (BF5.out.ext F9); have BT9 := hid (BT5.out.ext F9); have l9 := hid F9.le; have k9 := hid (show CapLe A9 al.length c9 from ⟨u1, u0, u2⟩); have r9 := hid r9; clear F9 u0 u1 u2 R m5 m9 m13; have m5 := BF9.out.cell (by rw [List.getElem?_toArray]; exact at5); have f5 := BF9.out.open_ 5)
        have BF10 := BF9.out.set1 5 (.slice A9 al.length c9)
        have BT10 := BT9.out.other1 hneT.out 5 (.slice A9 al.length c9)
        have E10 := BF9.out.wr1 E9.out 5 (.slice A9 al.length c9)
        with_reducible generalize w9.setCell ⟨gd, 5, none⟩ (.slice A9 al.length c9) = w10 at BF10 BT10 E10 ⊢
        clear m5 f5
        have r10 := hid ((rd.out.mono l9.out).setEnt k9.out r9.out)
        have m2 := BF10.cell (by rw [List.getElem?_toArray]; exact r10.out.at2)
        have f2 := BF10.open_ 2
        have hwr : IntKind.i64.wrap (p.dir.links - 1) = p.dir.links - 1 := by have := HDM.out; unfold midI at this; rw [IntKind.wrap_i64]; omega
        have BF10 := hid BF10
        have BT10 := hid BT10
        have E10 := hid E10
        go_upto_region 10 with (fail)
        have BF11 := BF10.out.set1 2 (.int .i64 (p.dir.links - 1))
        have BT11 := BT10.out.other1 hneT.out 2 (.int .i64 (p.dir.links - 1))
        have E11a := BF10.out.wr1 E10.out 2 (.int .i64 (p.dir.links - 1))
        clear m2 f2 hwr
        with_reducible generalize w10.setCell ⟨gd, 2, none⟩ (.int .i64 (p.dir.links - 1)) = w11 at BF11 BT11 E11a ⊢
        obtain ⟨h11, E11, hbD, l11, k11⟩ := BF11.freeze E11a
        obtain ⟨h12, E12, hbX, l12, -⟩ := (BT11.keep k11 hneT.out).freeze E11
        have hbD := l12 _ _ hbD
        have rdd := (r10.out.setLinks (p.dir.links - 1)).mono (l11.trans l12)
        obtain ⟨A9', c9', A6, c6, hys, sy, ky5, rwy5, ky6, rwy6⟩ := rdd
        have KPU := hid (fun (w' : World) (hs' : Sits h12 w') => (ref_putDeed ⟨p.dir.no, p.dir.kind, p.dir.links - 1, p.dir.size, p.dir.target, al, p.dir.runs⟩ A9' c9' A6 c6 h12 w' hs' : Calls Try.prog 91 #[.agg #[.int .i64 p.dir.no, .int .i64 p.dir.kind, .int .i64 (p.dir.links - 1), .int .i64 p.dir.size, .string p.dir.target, .slice A9' al.length c9', .slice A6 p.dir.runs.length c6]] w' fun e w2 => e = .returned (.agg #[.int .i64 2, .int .i64 0, .int .i64 p.dir.no, .int .i64 p.dir.kind, .int .i64 (p.dir.links - 1), .int .i64 p.dir.size, .string p.dir.target, .slice A9' al.length c9', .slice A6 p.dir.runs.length c6]) ∧ Ext h12 w' h12 w2))
        have hc0 : ∀ w' : World, Ext h w h12 w' → w'.cell? ⟨gd, 0, none⟩ = some (.int .i64 p.dir.no) := fun w' E => Sits_at E.sits hbD (by rw [hys]; rfl)
        have hc1 : ∀ w' : World, Ext h w h12 w' → w'.cell? ⟨gd, 1, none⟩ = some (.int .i64 p.dir.kind) := fun w' E => Sits_at E.sits hbD (by rw [hys]; rfl)
        have hc2 : ∀ w' : World, Ext h w h12 w' → w'.cell? ⟨gd, 2, none⟩ = some (.int .i64 (p.dir.links - 1)) := fun w' E => Sits_at E.sits hbD (by rw [hys]; rfl)
        have hc3 : ∀ w' : World, Ext h w h12 w' → w'.cell? ⟨gd, 3, none⟩ = some (.int .i64 p.dir.size) := fun w' E => Sits_at E.sits hbD (by rw [hys]; rfl)
        have hc4 : ∀ w' : World, Ext h w h12 w' → w'.cell? ⟨gd, 4, none⟩ = some (.string p.dir.target) := fun w' E => Sits_at E.sits hbD (by rw [hys]; rfl)
        have hc5 : ∀ w' : World, Ext h w h12 w' → w'.cell? ⟨gd, 5, none⟩ = some (.slice A9' al.length c9') := fun w' E => Sits_at E.sits hbD (by rw [hys]; rfl)
        have hc6 : ∀ w' : World, Ext h w h12 w' → w'.cell? ⟨gd, 6, none⟩ = some (.slice A6 p.dir.runs.length c6) := fun w' E => Sits_at E.sits hbD (by rw [hys]; rfl)
        have hx0 : ∀ w' : World, Ext h w h12 w' → w'.cell? ⟨gt, 0, none⟩ = some (.int .i64 p.x.no) := fun w' E => sits_cellL E.sits hbX rx.out.at0
        have E13 := E12.drew
        have H1 := hid sy
        have H2 := hid ky5
        have H3 := hid rwy5
        have H4 := hid ky6
        have H5 := hid rwy6
        clear hys sy ky5 rwy5 ky6 rwy6 BF10 BT10 E10 E11 E12 k11 hbD hbX at5 BF11 BT11 E11a
        go_region_held3 (fun w' => Ext h w h12 w') (first | with_reducible assumption | with_reducible exact Eg | with_reducible exact Ext.alloc Eg _) (first | (go_at_call 91; (with_reducible refine (KPU.out _ (Ext.sits (h := h) (h' := h12) (w := w) (by with_reducible assumption))).mono ?_); rintro e wf ⟨rfl, Fp⟩; have Eg := Ext.trans (h := h) (w := w) (h1 := h12) (by with_reducible assumption) Fp; clear Fp))
        all_goals
          go_wp2_with fail
          obtain ⟨h15, E15, hb15, le15, hh15⟩ := Eg.boxF #[.int .i64 2, .int .i64 0, .int .i64 p.dir.no, .int .i64 p.dir.kind, .int .i64 (p.dir.links - 1), .int .i64 p.dir.size, .string p.dir.target, .slice A9' al.length c9', .slice A6 p.dir.runs.length c6, .int .i64 3, .int .i64 p.x.no, .int .i64 0, .int .i64 0, .int .i64 0, .int .i64 0, .string ⟨#[]⟩, .slice none 0 0, .slice none 0 0] 39
          go_ret2
          rw [HQ.out]
          exact ⟨some ⟨wf.heap.size, 0, none⟩, 2, h15, rfl, ⟨Nat.le_refl _, (fun e => by cases e), by decide⟩, RowAt.of_block hb15 ⟨[.int .i64 2, .int .i64 0, .int .i64 p.dir.no, .int .i64 p.dir.kind, .int .i64 (p.dir.links - 1), .int .i64 p.dir.size, .string p.dir.target, .slice A9' al.length c9', .slice A6 p.dir.runs.length c6], _, rfl, ⟨A9', c9', A6, c6, rfl, H1.out, H2.out, H3.out.mono le15, H4.out, H5.out.mono le15⟩, [.int .i64 3, .int .i64 p.x.no, .int .i64 0, .int .i64 0, .int .i64 0, .int .i64 0, .string ⟨#[]⟩, .slice none 0 0, .slice none 0 0], [], rfl, ⟨none, 0, none, 0, rfl, Nat.zero_le _, ⟨Nat.le_refl _, fun _ => rfl, by decide⟩, RowAt.nil _ _, ⟨Nat.le_refl _, fun _ => rfl, by decide⟩, RowAt.nil _ _⟩, rfl⟩ (by show 2 ≤ 9223372036854775807; decide), E15⟩
    · have bk : (p.x.kind == 2) = false := by simpa using hk
      have bk2 : (p.x.kind != 2) = true := by simpa using hk
      have HQ := hid (show rmdirP s path = ([], 13) by unfold rmdirP; rw [HP.out, if_neg (by simp), if_pos hk])
      clear hk
      go_wp2_with fail
      go_ret2
      exact (by rw [HQ.out]; exact ⟨none, 0, h, rfl, ⟨Nat.zero_le _, fun _ => rfl, by decide⟩, RowAt.nil _ _, E5.out.back⟩)
  · have hb : (code == 0) = false := by simpa using hc
    have hb2 : (code != 0) = true := by simpa using hc
    have HQ := hid (show rmdirP s path = ([], code) by unfold rmdirP; rw [HP.out, if_pos hc])
    clear hc
    go_wp2_with fail
    go_ret2
    exact (by rw [HQ.out]; exact ⟨none, 0, h, rfl, ⟨Nat.zero_le _, fun _ => rfl, by decide⟩, RowAt.nil _ _, E5.out.back⟩)

end Go.Proofs.Ytkglaofiencfdaa
