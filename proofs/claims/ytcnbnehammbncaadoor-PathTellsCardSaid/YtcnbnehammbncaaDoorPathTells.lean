/- The walk of the law PathTells: it returns true, and writes nothing that was there. -/
import Derived.Test.YtcnbnehammbncaaDoorBare
import Derived.Test.YtcnbnehammbncaaDoorPths
import Derived.Test.YtcnbnehammbncaaDoorPkN
import Derived.Test.YtcnbnehammbncaaDoorPkI
namespace Go.Proofs.YtcnbnehammbncaaDoor
open Go.RowKit Go.Sort
set_option linter.unusedVariables false
set_option maxHeartbeats 16000000 in
set_option maxRecDepth 100000 in
theorem PathTells_walk (ops : List POp) (A : Option Addr) (c : Nat) (way : ByteArray) (k0 : Int) (fl : Bool) (a0 b0 : Int) (W : World) (ra : RowAt (fhOf W) A ops) (hwz : way.size ≤ 9223372036854775807) :
    Calls Tryd.prog 3 #[.slice A ops.length c, .string way, .int .i64 k0, .bool fl, .int .i64 a0, .int .i64 b0] W fun e w' => e = .returned (.bool true) ∧ Ext (fhOf W) W (fhOf W) w' := by
  have hs := Sits.all W
  have KS := hid (play_Small ops A c (fhOf W) W hs ra)
  have RA := hid ra
  have HWZ := hid hwz
  clear ra
  go_enter Tryd.func3, Tryd.ntmps3
  go_upto_region 1 with (fail)
  obtain ⟨zz, hzz⟩ : ∃ z : Bool, z = z ∧ True := ⟨true, rfl, trivial⟩
  clear hzz zz
  go_cut [33] (fun s33 wx => ∃ z : Bool, s33 = .bool z ∧ Hid (Ext (fhOf W) W (fhOf W) wx))
  case first =>
    by_cases hz : (1000 : Int) < (way.size : Int)
    · go_wp2_with (go_at_call 8; refine KS.out.mono ?_; rintro e w1 ⟨b, rfl, F1⟩; have E1 := hid F1; clear F1; cases b)
      all_goals
        go_meet
        exact ⟨_, rfl, E1⟩
    · go_wp2_with (go_at_call 8; refine KS.out.mono ?_; rintro e w1 ⟨b, rfl, F1⟩; have E1 := hid F1; clear F1; cases b)
      all_goals
        go_meet
        exact ⟨_, rfl, E1⟩
  case rest =>
  obtain ⟨z, rfl, E1⟩ := hcut
  (try go_at_K)
  cases z
  case true =>
    go_wp2_with (go_at_call 9; refine (law15_awake _ _ E1.out.sits).mono ?_; rintro e w2 ⟨rfl, F2⟩; have E2 := hid (E1.out.trans F2))
    go_ret
    exact ⟨rfl, E2.out⟩
  case false =>
  have KG := hid (play_Grown ops A c [] none 0 (fhOf W) wc E1.out.sits RA.out (RowAt.nil _ _))
  go_upto_region 4 with (first | (go_at_call 10; refine KG.out.mono ?_; rintro e w2 ⟨cs, h2, rfl, R2, F2⟩; have R2 := hid R2; have E2 := hid (E1.out.trans F2); clear F2) | (refine wpList_store_row rfl 28 _ _ rfl w2.heap.size cs.toArray rfl rfl 28 #[.int .i64 0, .slice none 0 0, .slice none 0 0] (heap_new w2 _) (info_State R2.out.len) (szG3 R2.out.len) (one_arr R2.out.one) ?_))
  rw [World.setRow_alloc_new]
  obtain ⟨s, hs'⟩ : ∃ s, grownP [] ops = s := ⟨_, rfl⟩
  have HIN := hid (fun no dir => grown_inside [] ops no dir)
  have HMD := hid (show MidS 40 40 (grownP [] ops) from grown_mid [] ops 40 (Nat.le_refl _))
  rw [hs'] at R2 HIN HMD
  clear hs'
  obtain ⟨h4, E4, hb4, le4, -⟩ := E2.out.boxF cs.toArray 28
  have RS := hid (repState.mono le4 R2.out)
  obtain ⟨A1, c1, A2, c2, rfl, -⟩ := id RS.out
  have hbS := hid hb4
  with_reducible generalize w2.alloc (.cells #[.int .i64 s.next, .slice A1 s.inodes.length c1, .slice A2 s.bads.length c2] 28) = w4 at E4 ⊢
  generalize w2.heap.size = gS at *
  have E4 := hid E4
  clear hb4 le4 KG KS E1 E2 R2 RA
  have KP := hid (play_Paths h4 w4 E4.out.sits)
  have KQ := hid (fun (w' : World) (hs' : Sits h4 w') => play_Path way k0 hwz h4 w' hs')
  obtain ⟨pq, hpq⟩ : ∃ p, pathP way k0 = p := ⟨_, rfl⟩
  have HPQ := hid (show pq.size ≤ 9223372036854775807 by
    rw [← hpq]; unfold pathP; split
    · exact hwz
    · rw [List.getD_eq_getElem?_getD]
      cases e : pathsP[(modP k0 14).toNat]? with
      | none => decide
      | some y => exact Nat.le_trans (paths_small y (List.mem_of_getElem? e)) (by decide))
  rw [hpq] at KQ
  clear hpq
  go_upto_region 5 with (first
    | (go_at_call 11; refine KP.out.mono ?_; rintro e w5 ⟨v, rfl, O5, F5⟩; have O5 := hid O5; have F5 := hid F5; have E5 := hid (E4.out.trans F5.out))
    | (go_at_call 12; refine (KQ.out _ E5.out.sits).mono ?_; rintro e w6 ⟨rfl, F6⟩; have E6 := hid (E5.out.trans F6); have O6 := hid (O5.out.ext F6); have F56 := hid (F5.out.trans F6); clear F6)
    | (at_builtin; refine wpList_append1At rfl _ _ 30 rfl w4.heap.size 9 16 ty_Str _ _ rfl (O6.out.alloc _) (E6.out.sits.alloc _) _ rfl [.string pq] (pq : ByteArray) ⟨rfl, HPQ.out⟩ (cells_of_box (heap_new _ _)) (by decide) (by decide) (F56.out.alloc _).size ?_; intro v3 w7 O7 hg7; have O7 := hid O7; have E7 := hid ((E6.out.alloc _).grown hg7 (fun k hk => ⟨Nat.le_trans E4.out.size (O6.out.lt k hk).1, O6.out.free k hk⟩)); clear hg7))
  obtain ⟨h5, A7, c7, rfl, R7, le7, E8, -⟩ := O7.out.stayX E7.out E4.out.size (by show 15 ≤ 9223372036854775807; decide)
  have hbS := hid (le7 _ _ hbS.out)
  have RS := hid (repState.mono le7 RS.out)
  have R7 := hid R7
  have E8 := hid E8
  clear O5 F5 E5 E6 O6 F56 O7 E7 le7 KP KQ E4
  obtain ⟨a, ha⟩ : ∃ a : Nat, (IntKind.u64.wrap a0).tmod 20 = a ∧ a < 20 := by
    have h0 : 0 ≤ IntKind.u64.wrap a0 := by rw [IntKind.wrap_u64]; omega
    rw [Int.tmod_eq_emod_of_nonneg h0]
    exact ⟨(IntKind.u64.wrap a0 % 20).toNat, by omega, by omega⟩
  obtain ⟨b, hb⟩ : ∃ b : Nat, (IntKind.u64.wrap b0).tmod 20 = b ∧ b < 20 := by
    have h0 : 0 ≤ IntKind.u64.wrap b0 := by rw [IntKind.wrap_u64]; omega
    rw [Int.tmod_eq_emod_of_nonneg h0]
    exact ⟨(IntKind.u64.wrap b0 % 20).toNat, by omega, by omega⟩
  obtain ⟨ha, ha2⟩ := ha
  obtain ⟨hb, hb2⟩ := hb
  have hw1 : wrap64 (a : Int) = a := IntWalk.wrap64_in _ (by omega)
  have hw2 : wrap64 (b : Int) = b := IntWalk.wrap64_in _ (by omega)
  go_upto_region 6 with (fail)
  clear ha hb hw1 hw2 ha2 hb2
  go_wp2_with fail
  go_loopw [15] (fun i wr => ∃ k : Nat, k ≤ 15 ∧ i = .int .i64 (k : Int) ∧ Hid (Ext (fhOf W) W h5 wr)) (fun i _ => 16 - (intOf i).toNat)
  case atStart => exact ⟨0, by omega, rfl, E8⟩
  case round =>
    obtain ⟨k, hk, rfl, I⟩ := hrel
    by_cases hk5 : k < 15
    · have hk5' : (k : Int) < 15 := by omega
      obtain ⟨x, hx⟩ : ∃ x, (pathsP ++ [pq])[k]? = some x := ⟨_, List.getElem?_eq_getElem (show k < 15 from hk5)⟩
      obtain ⟨b1, off, hix, d0, hxz⟩ := R7.out.ixStr hx I.out.sits c7 (k : Int) rfl
      obtain ⟨res, hres⟩ : ∃ r, resolveP s.inodes x fl = r := ⟨_, rfl⟩
      have HRES := hid hres
      obtain ⟨par, hpar⟩ : ∃ r, parentP s.inodes x = r := ⟨_, rfl⟩
      have HPAR := hid hpar
      have HXZ := hid hxz
      have d0 := hid d0
      clear hx hres hpar hxz
      have hlk : (pathsP ++ [pq]).length = 15 := rfl
      rw [hlk] at hix
      go_upto_region 9 with (fail)
      go_cut [16, 17] (fun s16 s17 wx => s16 = .int .i64 res.1 ∧ s17 = .int .i64 res.2 ∧ Hid (Ext (fhOf W) W h5 wx))
      case first =>
        have q0 := sits_cellG (j := 0) (v := .int .i64 s.next) I.out.sits hbS.out rfl
        have q1 := sits_cellG (j := 1) (v := .slice A1 s.inodes.length c1) I.out.sits hbS.out rfl
        have q2 := sits_cellG (j := 2) (v := .slice A2 s.bads.length c2) I.out.sits hbS.out rfl
        have q3 := I.out.sits.cell d0.out
        have z0 := fun d os => cell_regrown q0 d os
        have z1 := fun d os => cell_regrown q1 d os
        have z2 := fun d os => cell_regrown q2 d os
        have z3 := fun d os => cell_regrown q3 d os
        refine wp_region_quiet_below (by kernel_rfl) (by kernel_rfl) ?_
        repeat (go_big_quiet_step (exact quietCall (path_Resolve s [.int .i64 s.next, .slice A1 s.inodes.length c1, .slice A2 s.bads.length c2] x HXZ.out fl res HRES.out h5 _ (Ext.quiet I.out.sits _ _).sits RS.out)))
        refine wpQuiet_nil ?_
        intro _ hw'
        obtain ⟨⟨dq, osq⟩, hw''⟩ := hw'
        subst hw''
        clear q0 q1 q2 q3 z0 z1 z2 z3
        go_wp2
        go_meet
        exact ⟨rfl, rfl, hid (I.out.trans (Ext.quiet I.out.sits _ _))⟩
      case rest =>
      obtain ⟨rfl, rfl, E9⟩ := hcut
      clear I
      (try go_at_K)
      go_upto_region 10 with (fail)
      go_cut [18, 19] (fun s18 s19 wx => s18 = .int .i64 res.1 ∧ s19 = .int .i64 res.2 ∧ Hid (Ext (fhOf W) W h5 wx))
      case first =>
        have q0 := sits_cellG (j := 0) (v := .int .i64 s.next) E9.out.sits hbS.out rfl
        have q1 := sits_cellG (j := 1) (v := .slice A1 s.inodes.length c1) E9.out.sits hbS.out rfl
        have q2 := sits_cellG (j := 2) (v := .slice A2 s.bads.length c2) E9.out.sits hbS.out rfl
        have q3 := E9.out.sits.cell d0.out
        have z0 := fun d os => cell_regrown q0 d os
        have z1 := fun d os => cell_regrown q1 d os
        have z2 := fun d os => cell_regrown q2 d os
        have z3 := fun d os => cell_regrown q3 d os
        refine wp_region_quiet_below (by kernel_rfl) (by kernel_rfl) ?_
        repeat (go_big_quiet_step (exact quietCall (ref_Resolve s [.int .i64 s.next, .slice A1 s.inodes.length c1, .slice A2 s.bads.length c2] x HXZ.out fl res HRES.out h5 _ (Ext.quiet E9.out.sits _ _).sits RS.out)))
        refine wpQuiet_nil ?_
        intro _ hw'
        obtain ⟨⟨dq, osq⟩, hw''⟩ := hw'
        subst hw''
        clear q0 q1 q2 q3 z0 z1 z2 z3
        go_wp2
        go_meet
        exact ⟨rfl, rfl, hid (E9.out.trans (Ext.quiet E9.out.sits _ _))⟩
      case rest =>
      obtain ⟨rfl, rfl, E10⟩ := hcut
      clear E9
      (try go_at_K)
      go_upto_region 11 with (fail)
      go_cut [20, 21, 22] (fun s20 s21 s22 wx => s20 = .int .i64 par.1 ∧ s21 = .string par.2.1 ∧ s22 = .int .i64 par.2.2 ∧ Hid (Ext (fhOf W) W h5 wx))
      case first =>
        have q0 := sits_cellG (j := 0) (v := .int .i64 s.next) E10.out.sits hbS.out rfl
        have q1 := sits_cellG (j := 1) (v := .slice A1 s.inodes.length c1) E10.out.sits hbS.out rfl
        have q2 := sits_cellG (j := 2) (v := .slice A2 s.bads.length c2) E10.out.sits hbS.out rfl
        have q3 := E10.out.sits.cell d0.out
        have z0 := fun d os => cell_regrown q0 d os
        have z1 := fun d os => cell_regrown q1 d os
        have z2 := fun d os => cell_regrown q2 d os
        have z3 := fun d os => cell_regrown q3 d os
        refine wp_region_quiet_below (by kernel_rfl) (by kernel_rfl) ?_
        repeat (go_big_quiet_step (exact quietCall ((path_Parent s [.int .i64 s.next, .slice A1 s.inodes.length c1, .slice A2 s.bads.length c2] x HXZ.out par HPAR.out h5 _ (Ext.quiet E10.out.sits _ _).sits RS.out).mono (fun e w' ⟨a, b, _⟩ => ⟨a, b⟩))))
        refine wpQuiet_nil ?_
        intro _ hw'
        obtain ⟨⟨dq, osq⟩, hw''⟩ := hw'
        subst hw''
        clear q0 q1 q2 q3 z0 z1 z2 z3
        go_wp2
        go_meet
        exact ⟨rfl, rfl, rfl, hid (E10.out.trans (Ext.quiet E10.out.sits _ _))⟩
      case rest =>
      obtain ⟨rfl, rfl, rfl, E11⟩ := hcut
      clear E10
      (try go_at_K)
      go_upto_region 12 with (fail)
      go_cut [23, 24, 25] (fun s23 s24 s25 wx => s23 = .int .i64 par.1 ∧ s24 = .string par.2.1 ∧ s25 = .int .i64 par.2.2 ∧ Hid (Ext (fhOf W) W h5 wx))
      case first =>
        have q0 := sits_cellG (j := 0) (v := .int .i64 s.next) E11.out.sits hbS.out rfl
        have q1 := sits_cellG (j := 1) (v := .slice A1 s.inodes.length c1) E11.out.sits hbS.out rfl
        have q2 := sits_cellG (j := 2) (v := .slice A2 s.bads.length c2) E11.out.sits hbS.out rfl
        have q3 := E11.out.sits.cell d0.out
        have z0 := fun d os => cell_regrown q0 d os
        have z1 := fun d os => cell_regrown q1 d os
        have z2 := fun d os => cell_regrown q2 d os
        have z3 := fun d os => cell_regrown q3 d os
        refine wp_region_quiet_below (by kernel_rfl) (by kernel_rfl) ?_
        repeat (go_big_quiet_step (exact quietCall ((ref_Parent s [.int .i64 s.next, .slice A1 s.inodes.length c1, .slice A2 s.bads.length c2] x HXZ.out par HPAR.out h5 _ (Ext.quiet E11.out.sits _ _).sits RS.out).mono (fun e w' ⟨a, b, _⟩ => ⟨a, b⟩))))
        refine wpQuiet_nil ?_
        intro _ hw'
        obtain ⟨⟨dq, osq⟩, hw''⟩ := hw'
        subst hw''
        clear q0 q1 q2 q3 z0 z1 z2 z3
        go_wp2
        go_meet
        exact ⟨rfl, rfl, rfl, hid (E11.out.trans (Ext.quiet E11.out.sits _ _))⟩
      case rest =>
      obtain ⟨rfl, rfl, rfl, E12⟩ := hcut
      clear E11
      (try go_at_K)
      have hs1 : (par.2.1.toList == par.2.1.toList) = true := beq_self_eq_true _
      have hs2 : (par.2.1.toList != par.2.1.toList) = false := by simp
      go_wp2_with fail
      go_roundw
      case rel => exact ⟨k + 1, by omega, by go_num, E12⟩
      case measure => simp [intOf]; omega
    · have hk5' : ¬ ((k : Int) < 15) := by omega
      obtain ⟨t, ht⟩ : ∃ t, insideP s.inodes (a : Int) (b : Int) = t := ⟨_, rfl⟩
      have HT := hid ht
      have HT2 := hid (show insideR s.inodes (a : Int) (b : Int) = t by rw [← HIN.out]; exact ht)
      clear ht
      have hq : ∀ w, (binOp .eql 4 (.bool t) (.bool t)).run Tryd.prog w = .ok (.bool true) w := by cases t <;> (intro w; kernel_rfl)
      go_upto_region 15 with (fail)
      have q0 := sits_cellG (j := 0) (v := .int .i64 s.next) I.out.sits hbS.out rfl
      have q1 := sits_cellG (j := 1) (v := .slice A1 s.inodes.length c1) I.out.sits hbS.out rfl
      have q2 := sits_cellG (j := 2) (v := .slice A2 s.bads.length c2) I.out.sits hbS.out rfl
      have z0 := fun d os => cell_regrown q0 d os
      have z1 := fun d os => cell_regrown q1 d os
      have z2 := fun d os => cell_regrown q2 d os
      refine wp_region_quiet_below (by kernel_rfl) (by kernel_rfl) ?_
      repeat (go_big_quiet_step (first | exact quietCall (law15_awake h5 _ (Ext.quiet I.out.sits _ _).sits) | exact quietCall (path_Inside s [.int .i64 s.next, .slice A1 s.inodes.length c1, .slice A2 s.bads.length c2] a b t HT.out (by have := HMD.out.len; omega) h5 _ (Ext.quiet I.out.sits _ _).sits RS.out) | exact quietCall (ref_Inside s [.int .i64 s.next, .slice A1 s.inodes.length c1, .slice A2 s.bads.length c2] a b t HT2.out (fun x hx => Nat.le_trans (HMD.out.ent x hx).1 (by decide)) h5 _ (Ext.quiet I.out.sits _ _).sits RS.out)))
      refine wpQuiet_nil ?_
      intro _ hw'
      obtain ⟨⟨dq, osq⟩, hw''⟩ := hw'
      subst hw''
      clear q0 q1 q2 z0 z1 z2
      go_wp2
      go_ret
      exact ⟨rfl, (I.out.trans (Ext.quiet I.out.sits _ _)).back⟩

end Go.Proofs.YtcnbnehammbncaaDoor
