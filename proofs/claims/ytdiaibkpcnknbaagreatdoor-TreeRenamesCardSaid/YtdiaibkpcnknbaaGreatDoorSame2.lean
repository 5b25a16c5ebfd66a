import Derived.Test.YtdiaibkpcnknbaaGreatDoorSameI
import Derived.Test.YtdiaibkpcnknbaaGreatDoorCore
import Derived.Test.YtdiaibkpcnknbaaGreatDoorStAll
namespace Go.Proofs.YtdiaibkpcnknbaaGreatDoor
open Go.RowKit Go.Sort
set_option linter.unusedVariables false
set_option maxHeartbeats 8000000 in
set_option maxRecDepth 100000 in
theorem alike_LInode (xs : List Inode) (A B : Option Addr) (c d : Nat) (h : FH) (w : World) (hs : Sits h w) (r : RowAt h A xs) (r' : RowAt h B xs) :
    Calls Tryz.prog 40 #[.slice A xs.length c, .slice B xs.length d, .func (.func 41) #[] #[]] w fun e w' => e = .returned (.bool true) ∧ Ext h w h w' := by
  have hl := r.1
  have hl' := r'.1
  have E0 := Ext.refl hs
  go_enter Tryz.func40, Tryz.ntmps40
  go_wp2_with fail
  go_loopw [7] (fun i wr => ∃ k : Nat, k ≤ xs.length ∧ i = .int .i64 k ∧ Hid (Ext h w h wr)) (fun i _ => xs.length - (intOf i).toNat)
  case atStart => exact ⟨0, Nat.zero_le _, rfl, hid E0⟩
  case round =>
    obtain ⟨k, hk, rfl, E⟩ := hrel
    by_cases hlt : k < xs.length
    · obtain ⟨x, hx⟩ : ∃ x, xs[k]? = some x := ⟨xs[k], by simp [hlt]⟩
      obtain ⟨b, off, A5_, c5_, A6_, c6_, rfl, d0, d1, d2, d3, d4, d5, d6, s0, s1, s2, s3, s4⟩ := r.inode hx E.out.sits
      obtain ⟨b', off', B1_, e1_, B2_, e2_, rfl, f0, f1, f2, f3, f4, f5, f6, p0, p1, p2, p3, p4⟩ := r'.inode hx E.out.sits
      have RX := hid (show repInode h [.int .i64 x.no, .int .i64 x.kind, .int .i64 x.links, .int .i64 x.size, .string x.target, .slice A5_ x.entries.length c5_, .slice A6_ x.runs.length c6_] x from ⟨A5_, c5_, A6_, c6_, rfl, s0, s1, s2, s3, s4⟩)
      have RY := hid (show repInode h [.int .i64 x.no, .int .i64 x.kind, .int .i64 x.links, .int .i64 x.size, .string x.target, .slice B1_ x.entries.length e1_, .slice B2_ x.runs.length e2_] x from ⟨B1_, e1_, B2_, e2_, rfl, p0, p1, p2, p3, p4⟩)
      clear hx
      have u0 := fun d os => cell_regrown d0 d os
      have v0 := fun d os => cell_regrown f0 d os
      have u1 := fun d os => cell_regrown d1 d os
      have v1 := fun d os => cell_regrown f1 d os
      have u2 := fun d os => cell_regrown d2 d os
      have v2 := fun d os => cell_regrown f2 d os
      have u3 := fun d os => cell_regrown d3 d os
      have v3 := fun d os => cell_regrown f3 d os
      have u4 := fun d os => cell_regrown d4 d os
      have v4 := fun d os => cell_regrown f4 d os
      have u5 := fun d os => cell_regrown d5 d os
      have v5 := fun d os => cell_regrown f5 d os
      have u6 := fun d os => cell_regrown d6 d os
      have v6 := fun d os => cell_regrown f6 d os
      clear d0 d1 d2 d3 d4 d5 d6 f0 f1 f2 f3 f4 f5 f6
      go_upto_region 6 with (fail)
      refine wp_region_quiet_below (by kernel_rfl) (by kernel_rfl) ?_
      repeat (go_big_quiet_step (exact quietCall (same_Inode x x _ _ true (eqI_refl x) h _ (Ext.quiet E.out.sits _ _).sits RX.out RY.out)))
      refine wpQuiet_nil ?_
      intro _ hw'
      obtain ⟨⟨dq, osq⟩, hw''⟩ := hw'
      subst hw''
      go_wp2
      go_roundw
      case rel => exact ⟨k + 1, by omega, by go_num, hid (E.out.trans (Ext.quiet E.out.sits _ _))⟩
      case measure => simp [intOf]; omega
    · go_wp2
      go_ret
      exact ⟨rfl, E.out⟩
set_option maxHeartbeats 4000000 in
set_option maxRecDepth 100000 in
theorem alike_State (s : State) (cs ds : List Value) (h : FH) (w : World) (hs : Sits h w) (r : repState h cs s) (r' : repState h ds s) :
    Calls Tryz.prog 12 #[.agg cs.toArray, .agg ds.toArray] w fun e w' => e = .returned (.bool true) ∧ Ext h w h w' := by
  obtain ⟨A1, c1, A2, c2, rfl, l1, r1, l2, r2⟩ := r
  obtain ⟨B1, d1, B2, d2, rfl, m1, q1, m2, q2⟩ := r'
  obtain ⟨h1, E1, hb1, le1, hh1⟩ := (Ext.refl hs).boxF #[.int .i64 s.next, .slice A1 s.inodes.length c1, .slice A2 s.bads.length c2] 28
  obtain ⟨h2, E2, hb2, le2, hh2⟩ := E1.boxF #[.int .i64 s.next, .slice B1 s.inodes.length d1, .slice B2 s.bads.length d2] 28
  rw [show (w.alloc (.cells #[.int .i64 s.next, .slice A1 s.inodes.length c1, .slice A2 s.bads.length c2] 28)).heap.size = w.heap.size + 1 by simp] at hb2
  have hb1 := le2 _ _ hb1
  have le := le1.trans le2
  have K1 := hid (fun w' hs' => alike_LInode s.inodes A1 B1 c1 d1 h2 w' hs' (r1.mono le) (q1.mono le))
  have K2 := hid (fun w' hs' => plain_Int s.bads s.bads A2 B2 c2 d2 true (by simp) h2 w' hs' (r2.mono le) (q2.mono le))
  clear hh1 hh2 E1
  go_enter Tryz.func12, Tryz.ntmps12
  go_upto_region 1 with (fail)
  with_reducible generalize (w.alloc (.cells #[.int .i64 s.next, .slice A1 s.inodes.length c1, .slice A2 s.bads.length c2] 28)).alloc (.cells #[.int .i64 s.next, .slice B1 s.inodes.length d1, .slice B2 s.bads.length d2] 28) = W2 at E2 ⊢
  obtain ⟨g1, hg1⟩ : ∃ g, g = w.heap.size := ⟨_, rfl⟩
  obtain ⟨g2, hg2⟩ : ∃ g, g = w.heap.size + 1 := ⟨_, rfl⟩
  rw [← hg2] at hb2 ⊢
  rw [← hg1] at hb1 ⊢
  clear hg1 hg2
  have a0W2 : W2.cell? ⟨g1, 0, none⟩ = some (.int .i64 s.next) := Sits_at E2.sits hb1 rfl; have b0W2 : W2.cell? ⟨g2, 0, none⟩ = some (.int .i64 s.next) := Sits_at E2.sits hb2 rfl; have a1W2 : W2.cell? ⟨g1, 1, none⟩ = some (.slice A1 s.inodes.length c1) := Sits_at E2.sits hb1 rfl; have b1W2 : W2.cell? ⟨g2, 1, none⟩ = some (.slice B1 s.inodes.length d1) := Sits_at E2.sits hb2 rfl; have a2W2 : W2.cell? ⟨g1, 2, none⟩ = some (.slice A2 s.bads.length c2) := Sits_at E2.sits hb1 rfl; have b2W2 : W2.cell? ⟨g2, 2, none⟩ = some (.slice B2 s.bads.length d2) := Sits_at E2.sits hb2 rfl
  have E2 := hid E2
  go_wp2_with (first | (go_at_call 40; refine (K1.out W2 E2.out.sits).mono ?_; rintro e w3 ⟨rfl, F3⟩; have E3 := E2.out.trans F3; have a0w3 : w3.cell? ⟨g1, 0, none⟩ = some (.int .i64 s.next) := Sits_at E3.sits hb1 rfl; have b0w3 : w3.cell? ⟨g2, 0, none⟩ = some (.int .i64 s.next) := Sits_at E3.sits hb2 rfl; have a1w3 : w3.cell? ⟨g1, 1, none⟩ = some (.slice A1 s.inodes.length c1) := Sits_at E3.sits hb1 rfl; have b1w3 : w3.cell? ⟨g2, 1, none⟩ = some (.slice B1 s.inodes.length d1) := Sits_at E3.sits hb2 rfl; have a2w3 : w3.cell? ⟨g1, 2, none⟩ = some (.slice A2 s.bads.length c2) := Sits_at E3.sits hb1 rfl; have b2w3 : w3.cell? ⟨g2, 2, none⟩ = some (.slice B2 s.bads.length d2) := Sits_at E3.sits hb2 rfl; have E3 := hid E3) | (go_at_call 42; refine (K2.out w3 E3.out.sits).mono ?_; rintro e w4 ⟨rfl, F4⟩; have E4 := hid (E3.out.trans F4)))
  go_ret
  exact ⟨rfl, E4.out.back⟩
end Go.Proofs.YtdiaibkpcnknbaaGreatDoor
