import Derived.Test.YtkglaofiencfdaaGrP
import Derived.Test.YtkglaofiencfdaaRRen
namespace Go.Proofs.Ytkglaofiencfdaa
open Go.RowKit Go.Sort
set_option linter.unusedVariables false
set_option maxHeartbeats 2000000 in
theorem play_mod8 (v : Int) (h : FH) (w : World) (hs : Sits h w) :
    Calls Try.prog 24 #[.int .i64 v, .int .i64 8] w fun e w' => e = .returned (.int .i64 (modP v 8)) ∧ Ext h w h w' := by
  have E0 := Ext.refl hs
  have hr := modP_range v (n := 8) (by decide)
  obtain ⟨m, hm⟩ : ∃ m, modP v 8 = m := ⟨_, rfl⟩
  rw [hm] at hr
  have hw1 : wrap64 m = m := IntWalk.wrap64_in _ (by omega)
  have hm1 : (IntKind.u64.wrap v).tmod 8 = m := hm
  have hu : IntKind.u64.wrap 8 = 8 := by decide
  rw [hm]
  go_enter Try.func24, Try.ntmps24
  go_wp2
  go_ret
  exact ⟨rfl, E0⟩

set_option maxHeartbeats 2000000 in
theorem play_mod14 (v : Int) (h : FH) (w : World) (hs : Sits h w) :
    Calls Try.prog 24 #[.int .i64 v, .int .i64 14] w fun e w' => e = .returned (.int .i64 (modP v 14)) ∧ Ext h w h w' := by
  have E0 := Ext.refl hs
  have hr := modP_range v (n := 14) (by decide)
  obtain ⟨m, hm⟩ : ∃ m, modP v 14 = m := ⟨_, rfl⟩
  rw [hm] at hr
  have hw1 : wrap64 m = m := IntWalk.wrap64_in _ (by omega)
  have hm1 : (IntKind.u64.wrap v).tmod 14 = m := hm
  have hu : IntKind.u64.wrap 14 = 14 := by decide
  rw [hm]
  go_enter Try.func24, Try.ntmps24
  go_wp2
  go_ret
  exact ⟨rfl, E0⟩

set_option maxHeartbeats 16000000 in
set_option maxRecDepth 100000 in
theorem play_deeds (s : State) (cs : List Value) (o : POp) (hsp : o.path.size ≤ 9223372036854775807) (hso : o.other.size ≤ 9223372036854775807) (os : List Int) (AO : Option Addr) (cO : Nat) (hn0 : 0 ≤ s.next) (hn1 : s.next ≤ 1000000) (hent : ∀ x ∈ s.inodes, midI x) (h : FH) (w : World) (hs : Sits h w) (rS : repState h cs s) (ro : RowAt h AO os) :
    Calls Try.prog 25 #[.agg cs.toArray, .agg #[.int .i64 o.kind, .string o.path, .string o.other, .int .i64 o.n], .slice AO os.length cO] w fun e w' => RetRow h w (opD s o os) e w' := by
  have HENT := hid hent
  have RS := hid rS
  have RO := hid ro
  clear rS hent ro
  obtain ⟨h1, E1, hb1, le1, -⟩ := (Ext.refl hs).boxF cs.toArray 31
  obtain ⟨h2, E2, hb2, le2, -⟩ := E1.boxF #[.int .i64 o.kind, .string o.path, .string o.other, .int .i64 o.n] 59
  have hbS := hid (le2 _ _ hb1)
  have hbO := hid hb2
  have L2 := hid (le1.trans le2)
  clear E1 hb1 le1 le2 hb2
  go_enter Try.func25, Try.ntmps25
  go_upto_region 1 with (fail)
  have hsz : (w.alloc (.cells cs.toArray 31)).heap.size = w.heap.size + 1 := by simp
  rw [hsz] at hbO
  obtain ⟨gS, hgS⟩ : ∃ g, g = w.heap.size := ⟨_, rfl⟩
  obtain ⟨gO, hgO⟩ : ∃ g, g = w.heap.size + 1 := ⟨_, rfl⟩
  rw [← hgO] at hbO ⊢
  rw [← hgS] at hbS ⊢
  with_reducible generalize (w.alloc (.cells cs.toArray 31)).alloc (.cells #[.int .i64 o.kind, .string o.path, .string o.other, .int .i64 o.n] 59) = w2 at E2 ⊢
  clear hgS hgO hsz
  have E2 := hid E2
  obtain ⟨m, hm⟩ : ∃ m, modP o.kind 8 = m := ⟨_, rfl⟩
  have hr := modP_range o.kind (n := 8) (by decide)
  rw [hm] at hr
  have KM := hid (play_mod8 o.kind h2 w2 E2.out.sits)
  rw [hm] at KM
  have HM := hid hm
  clear hm
  have c0 := sits_cellG (j := 0) (v := .int .i64 o.kind) E2.out.sits hbO.out rfl
  go_upto_region 3 with (go_at_call 24; refine KM.out.mono ?_; rintro e w5 ⟨rfl, F5⟩; have E5 := hid (E2.out.trans F5); clear F5 c0)
  have c1 := sits_cellG (j := 1) (v := .string o.path) E5.out.sits hbO.out rfl
  have c2 := sits_cellG (j := 2) (v := .string o.other) E5.out.sits hbO.out rfl
  clear KM E2
  obtain rfl | rfl | rfl | rfl | rfl | rfl | rfl | rfl : m = 0 ∨ m = 1 ∨ m = 2 ∨ m = 3 ∨ m = 4 ∨ m = 5 ∨ m = 6 ∨ m = 7 := by omega
  all_goals clear hr
  · have HQ := hid (show opD s o os = (makeP s o.path 1 ⟨#[]⟩).1 by unfold opD; rw [HM.out]; rfl)
    have K := hid (ref_Make s cs o.path hsp 1 ⟨#[]⟩ (by decide) hn0 hn1 HENT.out h2 w5 E5.out.sits (repState.mono L2.out RS.out))
    go_wp2_with (first | (refine wpList_load_row rfl 31 _ rfl gS rfl 31 cs.toArray (0, 0) _ (E5.out.sits _ _ hbS.out) Try.underlying31 rfl (info_State RS.out.len) ?_) | (go_at_call 52; refine K.out.mono ?_; rintro e w9 ⟨A, c, h9, rfl, kc, r9, F9⟩; have E9 := hid (E5.out.trans F9); have kc := hid kc; have r9 := hid r9; clear F9))
    go_ret
    rw [HQ.out]
    exact ⟨A, c, h9, rfl, kc.out, r9.out, E9.out⟩
  · have HQ := hid (show opD s o os = (makeP s o.path 2 ⟨#[]⟩).1 by unfold opD; rw [HM.out]; rfl)
    have K := hid (ref_Make s cs o.path hsp 2 ⟨#[]⟩ (by decide) hn0 hn1 HENT.out h2 w5 E5.out.sits (repState.mono L2.out RS.out))
    go_wp2_with (first | (refine wpList_load_row rfl 31 _ rfl gS rfl 31 cs.toArray (0, 0) _ (E5.out.sits _ _ hbS.out) Try.underlying31 rfl (info_State RS.out.len) ?_) | (go_at_call 52; refine K.out.mono ?_; rintro e w9 ⟨A, c, h9, rfl, kc, r9, F9⟩; have E9 := hid (E5.out.trans F9); have kc := hid kc; have r9 := hid r9; clear F9))
    go_ret
    rw [HQ.out]
    exact ⟨A, c, h9, rfl, kc.out, r9.out, E9.out⟩
  · have HQ := hid (show opD s o os = (makeP s o.path 3 o.other).1 by unfold opD; rw [HM.out]; rfl)
    have K := hid (ref_Make s cs o.path hsp 3 o.other hso hn0 hn1 HENT.out h2 w5 E5.out.sits (repState.mono L2.out RS.out))
    go_wp2_with (first | (refine wpList_load_row rfl 31 _ rfl gS rfl 31 cs.toArray (0, 0) _ (E5.out.sits _ _ hbS.out) Try.underlying31 rfl (info_State RS.out.len) ?_) | (go_at_call 52; refine K.out.mono ?_; rintro e w9 ⟨A, c, h9, rfl, kc, r9, F9⟩; have E9 := hid (E5.out.trans F9); have kc := hid kc; have r9 := hid r9; clear F9))
    go_ret
    rw [HQ.out]
    exact ⟨A, c, h9, rfl, kc.out, r9.out, E9.out⟩
  · have HQ := hid (show opD s o os = (hardP s o.path o.other).1 by unfold opD; rw [HM.out]; rfl)
    have K := hid (ref_Hard s cs o.path o.other hsp hso HENT.out h2 w5 E5.out.sits (repState.mono L2.out RS.out))
    go_wp2_with (first | (refine wpList_load_row rfl 31 _ rfl gS rfl 31 cs.toArray (0, 0) _ (E5.out.sits _ _ hbS.out) Try.underlying31 rfl (info_State RS.out.len) ?_) | (go_at_call 53; refine K.out.mono ?_; rintro e w9 ⟨A, c, h9, rfl, kc, r9, F9⟩; have E9 := hid (E5.out.trans F9); have kc := hid kc; have r9 := hid r9; clear F9))
    go_ret
    rw [HQ.out]
    exact ⟨A, c, h9, rfl, kc.out, r9.out, E9.out⟩
  · have HQ := hid (show opD s o os = (rrenameP s o.path o.other os).1 by unfold opD; rw [HM.out]; rfl)
    have K := hid (ref_Rename s cs o.path o.other hsp hso os AO cO HENT.out h2 w5 E5.out.sits (repState.mono L2.out RS.out) (RO.out.mono L2.out))
    go_wp2_with (first | (refine wpList_load_row rfl 31 _ rfl gS rfl 31 cs.toArray (0, 0) _ (E5.out.sits _ _ hbS.out) Try.underlying31 rfl (info_State RS.out.len) ?_) | (go_at_call 54; refine K.out.mono ?_; rintro e w9 ⟨A, c, h9, rfl, kc, r9, F9⟩; have E9 := hid (E5.out.trans F9); have kc := hid kc; have r9 := hid r9; clear F9))
    go_ret
    rw [HQ.out]
    exact ⟨A, c, h9, rfl, kc.out, r9.out, E9.out⟩
  · have HQ := hid (show opD s o os = (unlinkP s o.path os).1 by unfold opD; rw [HM.out]; rfl)
    have K := hid (ref_Unlink s cs o.path hsp os AO cO HENT.out h2 w5 E5.out.sits (repState.mono L2.out RS.out) (RO.out.mono L2.out))
    go_wp2_with (first | (refine wpList_load_row rfl 31 _ rfl gS rfl 31 cs.toArray (0, 0) _ (E5.out.sits _ _ hbS.out) Try.underlying31 rfl (info_State RS.out.len) ?_) | (go_at_call 55; refine K.out.mono ?_; rintro e w9 ⟨A, c, h9, rfl, kc, r9, F9⟩; have E9 := hid (E5.out.trans F9); have kc := hid kc; have r9 := hid r9; clear F9))
    go_ret
    rw [HQ.out]
    exact ⟨A, c, h9, rfl, kc.out, r9.out, E9.out⟩
  · have HQ := hid (show opD s o os = (rmdirP s o.path).1 by unfold opD; rw [HM.out]; rfl)
    have K := hid (ref_Rmdir s cs o.path hsp HENT.out h2 w5 E5.out.sits (repState.mono L2.out RS.out))
    go_wp2_with (first | (refine wpList_load_row rfl 31 _ rfl gS rfl 31 cs.toArray (0, 0) _ (E5.out.sits _ _ hbS.out) Try.underlying31 rfl (info_State RS.out.len) ?_) | (go_at_call 56; refine K.out.mono ?_; rintro e w9 ⟨A, c, h9, rfl, kc, r9, F9⟩; have E9 := hid (E5.out.trans F9); have kc := hid kc; have r9 := hid r9; clear F9))
    go_ret
    rw [HQ.out]
    exact ⟨A, c, h9, rfl, kc.out, r9.out, E9.out⟩
  · have HQ := hid (show opD s o os = [] by unfold opD; rw [HM.out]; rfl)
    go_wp2_with fail
    go_ret
    rw [HQ.out]
    exact ⟨none, 0, h2, rfl, ⟨Nat.zero_le _, fun _ => rfl, by decide⟩, RowAt.nil _ _, E5.out⟩

end Go.Proofs.Ytkglaofiencfdaa
