/- The walk of the law TreeTells: it returns true, and writes nothing that was there. -/
import Derived.Test.YtdiaibkpcnknbaaGreatDoorSn6
import Derived.Test.YtdiaibkpcnknbaaGreatDoorSnA
import Derived.Test.YtdiaibkpcnknbaaGreatDoorPths
import Derived.Test.YtdiaibkpcnknbaaGreatDoorSame2
import Derived.Test.YtdiaibkpcnknbaaGreatDoorFullP
namespace Go.Proofs.YtdiaibkpcnknbaaGreatDoor
open Go.RowKit Go.Sort
set_option linter.unusedVariables false
theorem pathP_size {s : ByteArray} {k : Int} (h : s.size ≤ 9223372036854775807) : (pathP s k).size ≤ 9223372036854775807 := by
  unfold pathP; split
  · exact h
  · rw [List.getD_eq_getElem?_getD]
    cases e : pathsP[(modP k 14).toNat]? with
    | none => decide
    | some y => exact Nat.le_trans (paths_small y (List.mem_of_getElem? e)) (by decide)
set_option maxHeartbeats 16000000 in
set_option maxRecDepth 100000 in
theorem TreeTells_walk (ops : List POp) (A : Option Addr) (c : Nat) (os : List Int) (AO : Option Addr) (cO : Nat) (wa wb : ByteArray) (k0 m0 kd : Int) (W : World) (ra : RowAt (fhOf W) A ops) (ro : RowAt (fhOf W) AO os) (hwa : wa.size ≤ 9223372036854775807) (hwb : wb.size ≤ 9223372036854775807) :
    Calls Tryz.prog 4 #[.slice A ops.length c, .slice AO os.length cO, .string wa, .string wb, .int .i64 k0, .int .i64 m0, .int .i64 kd] W fun e w' => e = .returned (.bool true) ∧ Ext (fhOf W) W (fhOf W) w' := by
  have hs := Sits.all W
  have KS := hid (play_Small ops A c (fhOf W) W hs ra)
  have RA := hid ra
  have RO := hid ro
  have HWA := hid hwa
  have HWB := hid hwb
  have hlo := ro.1
  clear ra ro
  go_enter Tryz.func4, Tryz.ntmps4
  go_upto_region 1 with (fail)
  go_cut [42] (fun s42 wx => ∃ z : Bool, s42 = .bool z ∧ Hid (Ext (fhOf W) W (fhOf W) wx))
  case first =>
    by_cases hz : (500 : Int) < (wa.size : Int)
    all_goals by_cases hy : (500 : Int) < (wb.size : Int)
    all_goals by_cases hx : (20 : Int) < (os.length : Int)
    all_goals
      go_wp2_with (go_at_call 5; refine KS.out.mono ?_; rintro e w1 ⟨b, rfl, F1⟩; have E1 := hid F1; clear F1; cases b)
      all_goals
        go_meet
        exact ⟨_, rfl, E1⟩
  case rest =>
  obtain ⟨z, rfl, E1⟩ := hcut
  (try go_at_K)
  cases z
  case true =>
    go_wp2_with (go_at_call 6; refine (law16_awake _ _ E1.out.sits).mono ?_; rintro e w2 ⟨rfl, F2⟩; have E2 := hid (E1.out.trans F2))
    go_ret
    exact ⟨rfl, E2.out⟩
  case false =>
  have KG := hid (play_Grown ops A c os AO cO (fhOf W) wc E1.out.sits RA.out RO.out)
  go_upto_region 4 with (first | (go_at_call 7; refine KG.out.mono ?_; rintro e w2 ⟨cs, h2, rfl, R2, F2⟩; have R2 := hid R2; have E2 := hid (E1.out.trans F2); clear F2) | (refine wpList_store_row rfl 28 _ _ rfl w2.heap.size cs.toArray rfl rfl 28 #[.int .i64 0, .slice none 0 0, .slice none 0 0] (heap_new w2 _) (info_State R2.out.len) (szG3 R2.out.len) (one_arr R2.out.one) ?_))
  rw [World.setRow_alloc_new]
  obtain ⟨s, hs'⟩ : ∃ s, grownP os ops = s := ⟨_, rfl⟩
  have HSN := hid (grown_snd os ops)
  have HMD := hid (show MidS 40 40 (grownP os ops) from grown_mid os ops 40 (Nat.le_refl _))
  rw [hs'] at R2 HSN HMD
  clear hs'
  obtain ⟨h3, E3, hb3, le3, -⟩ := E2.out.boxF cs.toArray 28
  have RS := hid (repState.mono le3 R2.out)
  have RO := hid (RO.out.mono E3.le)
  with_reducible generalize w2.alloc (.cells cs.toArray 28) = w3 at E3 ⊢
  generalize w2.heap.size = gS at *
  have E3 := hid E3
  have B3 := hid hb3
  clear hb3 le3 KG KS E1 E2 R2 RA
  have KP1 := hid (fun w' (hs' : Sits h3 w') => play_Path wa k0 HWA.out h3 w' hs')
  have KP2 := hid (fun w' (hs' : Sits h3 w') => play_Path wb m0 HWB.out h3 w' hs')
  obtain ⟨px, hpx⟩ : ∃ p, pathP wa k0 = p := ⟨_, rfl⟩
  obtain ⟨py, hpy⟩ : ∃ p, pathP wb m0 = p := ⟨_, rfl⟩
  have HPX := hid (show px.size ≤ 9223372036854775807 by rw [← hpx]; exact pathP_size HWA.out)
  have HPY := hid (show py.size ≤ 9223372036854775807 by rw [← hpy]; exact pathP_size HWB.out)
  rw [hpx] at KP1
  rw [hpy] at KP2
  clear hpx hpy
  go_upto_region 5 with (first | (go_at_call 13; refine (KP2.out _ EP.out.sits).mono ?_; rintro e w4 ⟨rfl, F⟩; have E5 := hid (EP.out.trans F); clear F) | (go_at_call 13; refine (KP1.out _ E3.out.sits).mono ?_; rintro e wp ⟨rfl, F⟩; have EP := hid (E3.out.trans F); clear F))
  clear KP1 KP2
  obtain ⟨mk, hmk⟩ : ∃ r, makeP s px kd wb = r := ⟨_, rfl⟩
  have HMK := hid hmk
  obtain ⟨ul, hul⟩ : ∃ r, unlinkP s px os = r := ⟨_, rfl⟩
  have HUL := hid hul
  obtain ⟨rm, hrm⟩ : ∃ r, rmdirP s px = r := ⟨_, rfl⟩
  have HRM := hid hrm
  obtain ⟨lk, hlk⟩ : ∃ r, linkP s px py = r := ⟨_, rfl⟩
  have HLK1 := hid hlk
  have HLK2 := hid (show hardP s px py = lk by rw [← hard_eq HSN.out]; exact hlk)
  obtain ⟨rn, hrn⟩ : ∃ r, renameP s px py os = r := ⟨_, rfl⟩
  have HRN1 := hid hrn
  have HRN2 := hid (show rrenameP s px py os = rn by rw [← rename_eq HSN.out (by have := HMD.out.len; omega)]; exact hrn)
  clear hmk hul hrm hlk hrn E3 EP
  obtain ⟨h4, rfl⟩ : ∃ h4, h4 = h3 := ⟨_, rfl⟩
  have E4 := E5
  have B4 := B3
  have L4 := hid (FLe.refl h4)
  clear E5 B3
  have KX4 := hid ((by have q := tree_Make s cs px HPX.out kd wb HWB.out HMD.out.n0 (by have := HMD.out.n1; omega) (HMD.out.midI (by decide)) (HMD.out.fitI (by decide)) h4 w4 E4.out.sits (repState.mono L4.out RS.out); rw [HMK.out] at q; exact q : Calls Tryz.prog 14 #[.agg cs.toArray, .string px, .int .i64 kd, .string wb] w4 fun e w' => RetMake h4 w4 mk e w'))
  go_upto_region 6 with (first | (refine wpList_load_row rfl 28 _ rfl gS rfl 28 cs.toArray (0, 0) _ (E4.out.sits _ _ B4.out) Tryz.underlying28 rfl (info_State RS.out.len) ?_) | (go_at_call 14; refine KX4.out.mono ?_; rintro e w5 ⟨A5, c5, h5, rfl, kc5, rd5, F⟩; have E5 := hid (E4.out.trans F); have B5 := hid (F.le _ _ B4.out); have L5 := hid (L4.out.trans F.le); have M5 := hid F.le; have rd5 := hid rd5; clear F))
  clear KX4
  have KX5 := hid ((by have q := ref_Make s cs px HPX.out kd wb HWB.out HMD.out.n0 (by have := HMD.out.n1; omega) (HMD.out.midI (by decide)) h5 w5 E5.out.sits (repState.mono L5.out RS.out); rw [HMK.out] at q; exact q : Calls Tryz.prog 15 #[.agg cs.toArray, .string px, .int .i64 kd, .string wb] w5 fun e w' => RetMake h5 w5 mk e w'))
  go_upto_region 7 with (first | (refine wpList_load_row rfl 28 _ rfl gS rfl 28 cs.toArray (0, 0) _ (E5.out.sits _ _ B5.out) Tryz.underlying28 rfl (info_State RS.out.len) ?_) | (go_at_call 15; refine KX5.out.mono ?_; rintro e w6 ⟨A6, c6, h6, rfl, kc6, rd6, F⟩; have E6 := hid (E5.out.trans F); have B6 := hid (F.le _ _ B5.out); have L6 := hid (L5.out.trans F.le); have M6 := hid F.le; have rd6 := hid rd6; have rf5 := hid (rd5.out.mono F.le); clear F))
  clear KX5
  have hmk1 : (mk.2.1 != mk.2.1) = false := by simp
  have hmk2 : (mk.2.2 != mk.2.2) = false := by simp
  have KA6 := hid (fun w' (hs' : Sits h6 w') => alike_LDeed mk.1 A5 A6 c5 c6 h6 w' hs' rf5.out rd6.out)
  go_upto_region 9 with ((go_at_call 16; refine (KA6.out _ E6.out.sits).mono ?_; rintro e w7 ⟨rfl, F⟩; have E7 := hid (E6.out.trans F); have B7 := B6; have L7 := L6; clear F))
  clear KA6 rd5 rd6 rf5
  obtain ⟨h7, rfl⟩ : ∃ h, h = h6 := ⟨_, rfl⟩
  have KX7 := hid ((by have q := tree_Unlink s cs px HPX.out os AO cO (HMD.out.midI (by decide)) (HMD.out.fitI (by decide)) h7 w7 E7.out.sits (repState.mono L7.out RS.out) (RO.out.mono L7.out); rw [HUL.out] at q; exact q : Calls Tryz.prog 18 #[.agg cs.toArray, .string px, .slice AO os.length cO] w7 fun e w' => RetDC h7 w7 ul e w'))
  go_upto_region 10 with (first | (refine wpList_load_row rfl 28 _ rfl gS rfl 28 cs.toArray (0, 0) _ (E7.out.sits _ _ B7.out) Tryz.underlying28 rfl (info_State RS.out.len) ?_) | (go_at_call 18; refine KX7.out.mono ?_; rintro e w8 ⟨A8, c8, h8, rfl, kc8, rd8, F⟩; have E8 := hid (E7.out.trans F); have B8 := hid (F.le _ _ B7.out); have L8 := hid (L7.out.trans F.le); have M8 := hid F.le; have rd8 := hid rd8; clear F))
  clear KX7
  have KX8 := hid ((by have q := ref_Unlink s cs px HPX.out os AO cO (HMD.out.midI (by decide)) h8 w8 E8.out.sits (repState.mono L8.out RS.out) (RO.out.mono L8.out); rw [HUL.out] at q; exact q : Calls Tryz.prog 19 #[.agg cs.toArray, .string px, .slice AO os.length cO] w8 fun e w' => RetDC h8 w8 ul e w'))
  go_upto_region 11 with (first | (refine wpList_load_row rfl 28 _ rfl gS rfl 28 cs.toArray (0, 0) _ (E8.out.sits _ _ B8.out) Tryz.underlying28 rfl (info_State RS.out.len) ?_) | (go_at_call 19; refine KX8.out.mono ?_; rintro e w9 ⟨A9, c9, h9, rfl, kc9, rd9, F⟩; have E9 := hid (E8.out.trans F); have B9 := hid (F.le _ _ B8.out); have L9 := hid (L8.out.trans F.le); have M9 := hid F.le; have rd9 := hid rd9; have rf8 := hid (rd8.out.mono F.le); clear F))
  clear KX8
  have KA9 := hid (fun w' (hs' : Sits h9 w') => alike_LDeed ul.1 A8 A9 c8 c9 h9 w' hs' rf8.out rd9.out)
  go_upto_region 12 with ((go_at_call 16; refine (KA9.out _ E9.out.sits).mono ?_; rintro e w10 ⟨rfl, F⟩; have E10 := hid (E9.out.trans F); have B10 := B9; have L10 := L9; clear F))
  clear KA9 rd8 rd9 rf8
  obtain ⟨h10, rfl⟩ : ∃ h, h = h9 := ⟨_, rfl⟩
  have KX10 := hid ((by have q := tree_Rmdir s cs px HPX.out (HMD.out.midI (by decide)) (HMD.out.fitI (by decide)) h10 w10 E10.out.sits (repState.mono L10.out RS.out); rw [HRM.out] at q; exact q : Calls Tryz.prog 20 #[.agg cs.toArray, .string px] w10 fun e w' => RetDC h10 w10 rm e w'))
  go_upto_region 13 with (first | (refine wpList_load_row rfl 28 _ rfl gS rfl 28 cs.toArray (0, 0) _ (E10.out.sits _ _ B10.out) Tryz.underlying28 rfl (info_State RS.out.len) ?_) | (go_at_call 20; refine KX10.out.mono ?_; rintro e w11 ⟨A11, c11, h11, rfl, kc11, rd11, F⟩; have E11 := hid (E10.out.trans F); have B11 := hid (F.le _ _ B10.out); have L11 := hid (L10.out.trans F.le); have M11 := hid F.le; have rd11 := hid rd11; clear F))
  clear KX10
  have KX11 := hid ((by have q := ref_Rmdir s cs px HPX.out (HMD.out.midI (by decide)) h11 w11 E11.out.sits (repState.mono L11.out RS.out); rw [HRM.out] at q; exact q : Calls Tryz.prog 21 #[.agg cs.toArray, .string px] w11 fun e w' => RetDC h11 w11 rm e w'))
  go_upto_region 14 with (first | (refine wpList_load_row rfl 28 _ rfl gS rfl 28 cs.toArray (0, 0) _ (E11.out.sits _ _ B11.out) Tryz.underlying28 rfl (info_State RS.out.len) ?_) | (go_at_call 21; refine KX11.out.mono ?_; rintro e w12 ⟨A12, c12, h12, rfl, kc12, rd12, F⟩; have E12 := hid (E11.out.trans F); have B12 := hid (F.le _ _ B11.out); have L12 := hid (L11.out.trans F.le); have M12 := hid F.le; have rd12 := hid rd12; have rf11 := hid (rd11.out.mono F.le); clear F))
  clear KX11
  have KA12 := hid (fun w' (hs' : Sits h12 w') => alike_LDeed rm.1 A11 A12 c11 c12 h12 w' hs' rf11.out rd12.out)
  go_upto_region 15 with ((go_at_call 16; refine (KA12.out _ E12.out.sits).mono ?_; rintro e w13 ⟨rfl, F⟩; have E13 := hid (E12.out.trans F); have B13 := B12; have L13 := L12; clear F))
  clear KA12 rd11 rd12 rf11
  obtain ⟨h13, rfl⟩ : ∃ h, h = h12 := ⟨_, rfl⟩
  have KX13 := hid ((by have q := tree_Link s cs px py HPX.out HPY.out (HMD.out.midI (by decide)) (HMD.out.fitI (by decide)) h13 w13 E13.out.sits (repState.mono L13.out RS.out); rw [HLK1.out] at q; exact q : Calls Tryz.prog 22 #[.agg cs.toArray, .string px, .string py] w13 fun e w' => RetDC h13 w13 lk e w'))
  go_upto_region 16 with (first | (refine wpList_load_row rfl 28 _ rfl gS rfl 28 cs.toArray (0, 0) _ (E13.out.sits _ _ B13.out) Tryz.underlying28 rfl (info_State RS.out.len) ?_) | (go_at_call 22; refine KX13.out.mono ?_; rintro e w14 ⟨A14, c14, h14, rfl, kc14, rd14, F⟩; have E14 := hid (E13.out.trans F); have B14 := hid (F.le _ _ B13.out); have L14 := hid (L13.out.trans F.le); have M14 := hid F.le; have rd14 := hid rd14; clear F))
  clear KX13
  have KX14 := hid ((by have q := ref_Hard s cs px py HPX.out HPY.out (HMD.out.midI (by decide)) h14 w14 E14.out.sits (repState.mono L14.out RS.out); rw [HLK2.out] at q; exact q : Calls Tryz.prog 23 #[.agg cs.toArray, .string px, .string py] w14 fun e w' => RetDC h14 w14 lk e w'))
  go_upto_region 17 with (first | (refine wpList_load_row rfl 28 _ rfl gS rfl 28 cs.toArray (0, 0) _ (E14.out.sits _ _ B14.out) Tryz.underlying28 rfl (info_State RS.out.len) ?_) | (go_at_call 23; refine KX14.out.mono ?_; rintro e w15 ⟨A15, c15, h15, rfl, kc15, rd15, F⟩; have E15 := hid (E14.out.trans F); have B15 := hid (F.le _ _ B14.out); have L15 := hid (L14.out.trans F.le); have M15 := hid F.le; have rd15 := hid rd15; have rf14 := hid (rd14.out.mono F.le); clear F))
  clear KX14
  have KA15 := hid (fun w' (hs' : Sits h15 w') => alike_LDeed lk.1 A14 A15 c14 c15 h15 w' hs' rf14.out rd15.out)
  go_upto_region 18 with ((go_at_call 16; refine (KA15.out _ E15.out.sits).mono ?_; rintro e w16 ⟨rfl, F⟩; have E16 := hid (E15.out.trans F); have B16 := B15; have L16 := L15; clear F))
  clear KA15 rd14 rd15 rf14
  obtain ⟨h16, rfl⟩ : ∃ h, h = h15 := ⟨_, rfl⟩
  have KX16 := hid ((by have q := tree_Rename s cs px py HPX.out HPY.out os AO cO (by have := HMD.out.len; omega) (HMD.out.midI (by decide)) (HMD.out.fitI (by decide)) h16 w16 E16.out.sits (repState.mono L16.out RS.out) (RO.out.mono L16.out); rw [HRN1.out] at q; exact q : Calls Tryz.prog 10 #[.agg cs.toArray, .string px, .string py, .slice AO os.length cO] w16 fun e w' => RetDC h16 w16 rn e w'))
  go_upto_region 19 with (first | (refine wpList_load_row rfl 28 _ rfl gS rfl 28 cs.toArray (0, 0) _ (E16.out.sits _ _ B16.out) Tryz.underlying28 rfl (info_State RS.out.len) ?_) | (go_at_call 10; refine KX16.out.mono ?_; rintro e w17 ⟨A17, c17, h17, rfl, kc17, rd17, F⟩; have E17 := hid (E16.out.trans F); have B17 := hid (F.le _ _ B16.out); have L17 := hid (L16.out.trans F.le); have M17 := hid F.le; have rd17 := hid rd17; clear F))
  clear KX16
  have KX17 := hid ((by have q := ref_Rename s cs px py HPX.out HPY.out os AO cO (HMD.out.midI (by decide)) h17 w17 E17.out.sits (repState.mono L17.out RS.out) (RO.out.mono L17.out); rw [HRN2.out] at q; exact q : Calls Tryz.prog 24 #[.agg cs.toArray, .string px, .string py, .slice AO os.length cO] w17 fun e w' => RetDC h17 w17 rn e w'))
  go_upto_region 20 with (first | (refine wpList_load_row rfl 28 _ rfl gS rfl 28 cs.toArray (0, 0) _ (E17.out.sits _ _ B17.out) Tryz.underlying28 rfl (info_State RS.out.len) ?_) | (go_at_call 24; refine KX17.out.mono ?_; rintro e w18 ⟨A18, c18, h18, rfl, kc18, rd18, F⟩; have E18 := hid (E17.out.trans F); have B18 := hid (F.le _ _ B17.out); have L18 := hid (L17.out.trans F.le); have M18 := hid F.le; have rd18 := hid rd18; have rf17 := hid (rd17.out.mono F.le); clear F))
  clear KX17
  have KA18 := hid (fun w' (hs' : Sits h18 w') => alike_LDeed rn.1 A17 A18 c17 c18 h18 w' hs' rf17.out rd18.out)
  go_wp2_with (first | (go_at_call 6; refine (law16_awake h18 _ E18.out.sits).mono ?_; rintro e wA ⟨rfl, FA⟩; have EA := hid (E18.out.trans FA); clear FA) | (go_at_call 16; refine (KA18.out _ EA.out.sits).mono ?_; rintro e w19 ⟨rfl, F⟩; have E19 := hid (EA.out.trans F); have B19 := B18; have L19 := L18; clear F))
  clear KA18 rd17 rd18 rf17
  obtain ⟨h19, rfl⟩ : ∃ h, h = h18 := ⟨_, rfl⟩
  go_ret
  exact ⟨by first | rfl | simp, E19.out.back⟩

end Go.Proofs.YtdiaibkpcnknbaaGreatDoor
