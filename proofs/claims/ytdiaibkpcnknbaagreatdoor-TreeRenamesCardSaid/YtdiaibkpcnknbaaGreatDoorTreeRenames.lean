/- The walk of the law TreeRenames: it returns true, and writes nothing that was there. -/
import Derived.Test.YtdiaibkpcnknbaaGreatDoorRenA
import Derived.Test.YtdiaibkpcnknbaaGreatDoorPths
import Derived.Test.YtdiaibkpcnknbaaGreatDoorSame2
import Derived.Test.YtdiaibkpcnknbaaGreatDoorFullP
namespace Go.Proofs.YtdiaibkpcnknbaaGreatDoor
open Go.RowKit Go.Sort
set_option linter.unusedVariables false
theorem ren_len {n k : Nat} {s : State} (S : Snd s) (M : MidS n k s) (hn : n ≤ 60) (old path : ByteArray) (os : List Int) : (renameP s old path os).1.length ≤ 3 := by
  rw [rename_eq S (by have := M.len; omega)]
  exact (rename_mid M old path os).1
theorem seven_at {j : Nat} (h : j < 7) : ∃ x, pathsP[j]? = some x ∧ Seven x ∧ x.size ≤ 20 := by
  have h1 : j < pathsP.length := Nat.lt_of_lt_of_le h (by decide)
  refine ⟨pathsP[j], List.getElem?_eq_getElem h1, seven_all _ ?_, paths_small _ (List.getElem_mem h1)⟩
  have e : sevenW = pathsP.take 7 := by decide +kernel
  rw [e]
  exact List.mem_take_iff_getElem.2 ⟨j, by omega, rfl⟩
set_option maxHeartbeats 16000000 in
set_option maxRecDepth 100000 in
theorem TreeRenames_walk (ops : List POp) (A : Option Addr) (c : Nat) (k0 m0 : Int) (W : World) (ra : RowAt (fhOf W) A ops) :
    Calls Tryz.prog 3 #[.slice A ops.length c, .int .i64 k0, .int .i64 m0] W fun e w' => e = .returned (.bool true) ∧ Ext (fhOf W) W (fhOf W) w' := by
  have hs := Sits.all W
  have KS := hid (play_Small ops A c (fhOf W) W hs ra)
  have RA := hid ra
  clear ra
  go_enter Tryz.func3, Tryz.ntmps3
  go_upto_if 27 with (go_at_call 5; refine KS.out.mono ?_; rintro e w1 ⟨b, rfl, F1⟩; have E1 := hid F1; clear F1; cases b)
  · go_wp2_with (go_at_call 6; refine (law16_awake _ _ E1.out.sits).mono ?_; rintro e w2 ⟨rfl, F2⟩; have E2 := hid (E1.out.trans F2))
    go_ret
    exact ⟨rfl, E2.out⟩
  · have KG := hid (play_Grown ops A c [] none 0 (fhOf W) w1 E1.out.sits RA.out (RowAt.nil _ _))
    go_upto_region 4 with (first | (go_at_call 7; refine KG.out.mono ?_; rintro e w2 ⟨cs, h2, rfl, R2, F2⟩; have R2 := hid R2; have E2 := hid (E1.out.trans F2); clear F2) | (refine wpList_store_row rfl 28 _ _ rfl w2.heap.size cs.toArray rfl rfl 28 #[.int .i64 0, .slice none 0 0, .slice none 0 0] (heap_new w2 _) (info_State R2.out.len) (szG3 R2.out.len) (one_arr R2.out.one) ?_))
    rw [World.setRow_alloc_new]
    obtain ⟨s, hs'⟩ : ∃ s, grownP [] ops = s := ⟨_, rfl⟩
    have HSN := hid (grown_snd [] ops)
    have HMD := hid (show MidS 40 40 (grownP [] ops) from grown_mid [] ops 40 (Nat.le_refl _))
    rw [hs'] at R2 HSN HMD
    clear hs'
    obtain ⟨h4, E4, hb4, le4, -⟩ := E2.out.boxF cs.toArray 28
    have B4 := hid hb4
    have RS := hid (repState.mono le4 R2.out)
    with_reducible generalize w2.alloc (.cells cs.toArray 28) = w4 at E4 ⊢
    generalize w2.heap.size = gS at *
    have E4 := hid E4
    clear hb4 le4 KG KS E1 E2 R2 RA
    obtain ⟨A1, c1, A2, c2, hcs, l1, r1, l2, r2⟩ := RS.out
    have C1 := hid (show ∀ wr, Ext (fhOf W) W h4 wr → wr.cell? ⟨gS, 1, none⟩ = some (.slice A1 s.inodes.length c1) from fun wr E => Sits_at E.sits B4.out (by rw [hcs]; rfl))
    have R1 := hid r1
    have hlN := r1.1
    clear hcs l1 r1 l2 r2
    go_wp2_with fail
    go_loopw [8] (fun i wr => ∃ k : Nat, k ≤ s.inodes.length ∧ i = .int .i64 k ∧ Hid (∀ i y, i < k → s.inodes[i]? = some y → y.kind ≠ 3) ∧ Hid (Ext (fhOf W) W h4 wr)) (fun i _ => s.inodes.length - (intOf i).toNat)
    case atStart => exact ⟨0, Nat.zero_le _, rfl, hid (fun i y hi => by omega), E4⟩
    case round =>
      obtain ⟨k, hk, rfl, HN, E⟩ := hrel
      have x1 := C1.out _ E.out
      by_cases hlt : k < s.inodes.length
      · obtain ⟨x, hx⟩ : ∃ x, s.inodes[k]? = some x := ⟨s.inodes[k], by simp [hlt]⟩
        obtain ⟨b, off, A5, c5, A6, c6, rfl, d0, d1, d2, d3, d4, d5, d6, s0, s1, s2, s3, s4⟩ := R1.out.inode hx E.out.sits
        have HX := hid hx
        clear hx
        obtain ⟨q, hq⟩ : ∃ q, (x.kind == 3) = q := ⟨_, rfl⟩
        cases q
        · have HN2 := hid (show ∀ i y, i < k + 1 → s.inodes[i]? = some y → y.kind ≠ 3 from fun i y hi hy => by
            by_cases e : i = k
            · subst e; have := HX.out; rw [hy] at this; obtain rfl : y = x := by simpa using this
              exact fun h => by rw [h] at hq; exact absurd hq (by decide)
            · exact HN.out i y (by omega) hy)
          go_wp2_with fail
          go_roundw
          case rel => exact ⟨k + 1, by omega, by go_num, HN2, E⟩
          case measure => simp [intOf]; omega
        · go_wp2_with (go_at_call 6; refine (law16_awake _ _ E.out.sits).mono ?_; rintro e w5 ⟨rfl, F5⟩; have E5 := hid (E.out.trans F5))
          go_ret
          exact ⟨rfl, E5.out.back⟩
      · obtain rfl : k = s.inodes.length := by omega
        have HB := hid (show bareL s.inodes from fun n y hy => by
          obtain ⟨i, hi⟩ := List.mem_iff_getElem?.1 (mem_of_findI hy)
          obtain ⟨hi2, _⟩ := List.getElem?_eq_some_iff.1 hi
          exact HN.out i y hi2 hi)
        clear HN hlt hk
        go_upto_region 9 with (fail)
        have KP := hid (play_Paths h4 wr E.out.sits)
        clear C1 R1 x1 hlN
        go_upto_region 10 with (go_at_call 8; refine KP.out.mono ?_; rintro e w5 ⟨v, rfl, O1, F1⟩; have O1 := hid O1; have F1 := hid F1)
        obtain ⟨h9, A9, c9, rfl, R9, -, EX, -⟩ := O1.out.stayX F1.out (Nat.le_refl _) (by decide)
        have E9 := hid (E.out.trans EX)
        have B9 := hid (EX.le _ _ B4.out)
        have RS9 := hid (repState.mono EX.le RS.out)
        have hmd : ∀ (x : Int), ∃ n : Nat, (IntKind.u64.wrap x).tmod 7 = n ∧ n < 7 := fun x => by
          have h0' : 0 ≤ IntKind.u64.wrap x := by rw [IntKind.wrap_u64]; omega
          rw [Int.tmod_eq_emod_of_nonneg h0']
          exact ⟨(IntKind.u64.wrap x % 7).toNat, by omega, by omega⟩
        obtain ⟨ja, hja, ja7⟩ := hmd k0
        obtain ⟨jb, hjb, jb7⟩ := hmd m0
        have hwa : wrap64 (ja : Int) = ja := IntWalk.wrap64_in _ (by omega)
        have hwb : wrap64 (jb : Int) = jb := IntWalk.wrap64_in _ (by omega)
        obtain ⟨px, hpx, H7A, hsza⟩ := seven_at ja7
        obtain ⟨py, hpy, H7B, hszb⟩ := seven_at jb7
        obtain ⟨ba, offa, hixa, da, -⟩ := R9.ixStr hpx E9.out.sits c9 (ja : Int) rfl
        obtain ⟨bb, offb, hixb, db, -⟩ := R9.ixStr hpy E9.out.sits c9 (jb : Int) rfl
        have HPX := hid (show px.size ≤ 9223372036854775807 from Nat.le_trans hsza (by decide))
        have HPY := hid (show py.size ≤ 9223372036854775807 from Nat.le_trans hszb (by decide))
        have H7A := hid H7A
        have H7B := hid H7B
        clear hmd ja7 jb7 hpx hpy hsza hszb O1 F1 R9 EX KP
        have qa := fun (d : Nat) (os : Array Obj) => (Ext.quiet E9.out.sits d os).sits.cell da
        have qb := fun (d : Nat) (os : Array Obj) => (Ext.quiet E9.out.sits d os).sits.cell db
        refine wp_region_quiet_below (by kernel_rfl) (by kernel_rfl) ?_
        repeat (go_big_quiet_step (fail))
        refine wpQuiet_nil ?_
        intro _ hw'
        obtain ⟨⟨dq, osq⟩, hw''⟩ := hw'
        subst hw''
        have E9 := hid (E9.out.trans (Ext.quiet E9.out.sits dq osq))
        with_reducible generalize grow (redrawn w5 dq) osq = w10 at E9 ⊢
        have HTX := hid (trivial : True)
        clear hja hjb hwa hwb hixa hixb qa qb da db
        have LAW := hid (ren_law HSN.out HMD.out (by decide) HB.out H7A.out H7B.out)
        have LEN := hid (ren_len HSN.out HMD.out (by decide) px py [])
        have MT := hid (ren_midS HSN.out HMD.out (by decide) px py [])
        have ST := hid (ren_snd HSN.out HMD.out (by decide) px py [])
        obtain ⟨ra, hra⟩ : ∃ r, resolveP s.inodes px false = r := ⟨_, rfl⟩
        obtain ⟨rb, hrb⟩ : ∃ r, resolveP s.inodes py false = r := ⟨_, rfl⟩
        obtain ⟨rn, hrn⟩ : ∃ r, renameP s px py [] = r := ⟨_, rfl⟩
        rw [hra, hrb, hrn] at LAW
        rw [hrn] at LEN MT ST
        have HRA := hid hra
        have HRB := hid hrb
        have HRN := hid hrn
        clear hra hrb hrn E4 E B4 RS
        have K11 := hid (ref_Resolve s cs px HPX.out false ra HRA.out h9 w10 E9.out.sits RS9.out)
        go_upto_region 12 with (first | (refine wpList_load_row rfl 28 _ rfl gS rfl 28 cs.toArray (0, 0) _ (E9.out.sits _ _ B9.out) Tryz.underlying28 rfl (info_State RS9.out.len) ?_) | (go_at_call 9; refine K11.out.mono ?_; rintro e w11 ⟨rfl, F⟩; have E11 := hid (E9.out.trans F); clear F))
        have K12 := hid (ref_Resolve s cs py HPY.out false rb HRB.out h9 w11 E11.out.sits RS9.out)
        go_upto_region 13 with (first | (refine wpList_load_row rfl 28 _ rfl gS rfl 28 cs.toArray (0, 0) _ (E11.out.sits _ _ B9.out) Tryz.underlying28 rfl (info_State RS9.out.len) ?_) | (go_at_call 9; refine K12.out.mono ?_; rintro e w12 ⟨rfl, F⟩; have E12 := hid (E11.out.trans F); clear F))
        clear K11 K12
        have K13 := hid (by have q := tree_Rename s cs px py HPX.out HPY.out [] none 0 (by have := HMD.out.len; omega) (HMD.out.midI (by decide)) (HMD.out.fitI (by decide)) h9 w12 E12.out.sits RS9.out (RowAt.nil _ _); rw [HRN.out] at q; exact q : Calls Tryz.prog 10 #[.agg cs.toArray, .string px, .string py, .slice none 0 0] w12 fun e w' => RetDC h9 w12 rn e w')
        go_upto_region 14 with (first | (refine wpList_load_row rfl 28 _ rfl gS rfl 28 cs.toArray (0, 0) _ (E12.out.sits _ _ B9.out) Tryz.underlying28 rfl (info_State RS9.out.len) ?_) | (go_at_call 10; refine K13.out.mono ?_; rintro e w13 ⟨A13, c13, h13, rfl, kc13, rd13, F⟩; have E13 := hid (E12.out.trans F); have B13 := hid (F.le _ _ B9.out); have L13 := hid F.le; have rd13 := hid rd13; clear F))
        have RS13 := hid (repState.mono L13.out RS9.out)
        clear K13 RS9 B9 L13
        obtain ⟨dl, f⟩ := rn
        obtain ⟨no, e0⟩ := ra
        obtain ⟨nb0, tk⟩ := rb
        have HTT := hid (trivial : True)
        by_cases hf : f = 0
        all_goals by_cases he : e0 = 0
        rotate_left
        all_goals try
          have hdl : dl = [] := LAW.out.1 (by first | exact .inl hf | exact .inr he)
          subst hdl
          have hf2 : (f != 0) = !decide (f = 0) := by by_cases h : f = 0 <;> simp [h]
          have he2 : (e0 != 0) = !decide (e0 = 0) := by by_cases h : e0 = 0 <;> simp [h]
          simp only [hf, he, decide_true, decide_false, Bool.not_true, Bool.not_false] at hf2 he2
          go_wp2_with (go_at_call 6; first | (refine (law16_awake h13 _ EAW.out.sits).mono ?_; rintro e wB ⟨rfl, FB⟩; have EBW := hid (EAW.out.trans FB)) | (refine (law16_awake h13 _ E13.out.sits).mono ?_; rintro e wA ⟨rfl, FA⟩; have EAW := hid (E13.out.trans FA)))
          go_ret
          exact ⟨by first | rfl | simp, EBW.out.back⟩
        subst hf he
        go_upto_region 16 with (go_at_call 6; refine (law16_awake h13 _ E13.out.sits).mono ?_; rintro e wA ⟨rfl, FA⟩; have EA := hid (E13.out.trans FA); clear FA)
        have LAW2 := hid LAW.out.2
        have hdl3 : dl.length ≤ 3 := LEN.out
        have K16 := hid (ref_Apply s cs dl A13 c13 (by have := HMD.out.len; omega) (by rw [HMD.out.bad]; simp; omega) h13 wA EA.out.sits RS13.out rd13.out)
        obtain ⟨t, ht⟩ : ∃ t, applyS s dl = t := ⟨_, rfl⟩
        have LAW3 := hid (show dl ≠ [] → resolveP t.inodes py false = (no, 0) ∧ (resolveP t.inodes px false).2 ≠ 0 ∧ (tk = 11 → (renameP t py px []).2 = 0 ∧ applyS t (renameP t py px []).1 = s) by rw [← ht]; exact LAW2.out)
        have MT := hid (show MidS 41 41 t by rw [← ht]; exact MT.out)
        have ST := hid (show Snd t by rw [← ht]; exact ST.out)
        rw [ht] at K16
        have HT := hid ht
        clear ht LAW LAW2 LEN E13
        go_upto_region 17 with (first | (refine wpList_load_row rfl 28 _ rfl gS rfl 28 cs.toArray (0, 0) _ (EA.out.sits _ _ B13.out) Tryz.underlying28 rfl (info_State RS13.out.len) ?_) | (go_at_call 11; refine K16.out.mono ?_; rintro e w16 ⟨ct, h16, rfl, rt, F⟩; have E16 := hid (EA.out.trans F); have RT6 := hid rt; have L16 := hid F.le; clear F rt) | (refine wpList_store_row rfl 28 _ _ rfl w16.heap.size ct.toArray rfl rfl 28 #[.int .i64 0, .slice none 0 0, .slice none 0 0] (heap_new w16 _) (info_State RT6.out.len) (szG3 RT6.out.len) (one_arr RT6.out.one) ?_))
        rw [World.setRow_alloc_new]
        obtain ⟨h17, E17, bT, l17, -⟩ := E16.out.boxF ct.toArray 28
        with_reducible generalize w16.alloc (.cells ct.toArray 28) = w17 at E17 ⊢
        generalize w16.heap.size = gT at *
        have E17 := hid E17
        have BT := hid bT
        have B17 := hid (l17 _ _ (L16.out _ _ B13.out))
        have RS17 := hid (repState.mono (L16.out.trans l17) RS13.out)
        have RT17 := hid (repState.mono l17 RT6.out)
        clear K16 E16 EA B13 RS13 RT6 bT l17 rd13
        obtain ⟨ub, hub⟩ : ∃ r, resolveP t.inodes py false = r := ⟨_, rfl⟩
        obtain ⟨ua, hua⟩ : ∃ r, resolveP t.inodes px false = r := ⟨_, rfl⟩
        have HUB := hid hub
        have HUA := hid hua
        rw [hub, hua] at LAW3
        clear hub hua
        have K17 := hid (ref_Resolve t ct py HPY.out false ub HUB.out h17 w17 E17.out.sits RT17.out)
        go_upto_region 18 with (first | (refine wpList_load_row rfl 28 _ rfl gT rfl 28 ct.toArray (0, 0) _ (E17.out.sits _ _ BT.out) Tryz.underlying28 rfl (info_State RT17.out.len) ?_) | (go_at_call 9; refine K17.out.mono ?_; rintro e w18 ⟨rfl, F⟩; have E18 := hid (E17.out.trans F); clear F))
        have K18 := hid (ref_Resolve t ct px HPX.out false ua HUA.out h17 w18 E18.out.sits RT17.out)
        go_upto_region 19 with (first | (refine wpList_load_row rfl 28 _ rfl gT rfl 28 ct.toArray (0, 0) _ (E18.out.sits _ _ BT.out) Tryz.underlying28 rfl (info_State RT17.out.len) ?_) | (go_at_call 9; refine K18.out.mono ?_; rintro e w19 ⟨rfl, F⟩; have E19 := hid (E18.out.trans F); clear F))
        clear K17 K18 E17 E18
        by_cases hd : dl = []
        · have HTS := hid (show t = s by rw [← HT.out, hd]; rfl)
          subst hd
          have RT19 := hid (show repState h17 ct s by have q := RT17.out; rw [HTS.out] at q; exact q)
          have KS := hid (alike_State s cs ct h17 w19 E19.out.sits RS17.out RT19.out)
          have hz : (([] : List Deed).length : Int) = 0 := rfl
          clear HTS HUA HUB LAW3 MT ST HT
          go_wp2_with (first | (refine wpList_load_row rfl 28 _ rfl gS rfl 28 cs.toArray (0, 0) _ (E19.out.sits _ _ B17.out) Tryz.underlying28 rfl (info_State RS17.out.len) ?_) | (refine wpList_load_row rfl 28 _ rfl gT rfl 28 ct.toArray (0, 0) _ (E19.out.sits _ _ BT.out) Tryz.underlying28 rfl (info_State RT17.out.len) ?_) | (go_at_call 12; refine KS.out.mono ?_; rintro e w20 ⟨rfl, F⟩; have E20 := hid (E19.out.trans F); clear F))
          go_ret
          exact ⟨rfl, E20.out.back⟩
        · obtain ⟨hub, hua2, hback⟩ := LAW3.out hd
          have hlen1 : ¬ ((dl.length : Int) = 0) := by
            intro q
            exact hd (List.eq_nil_of_length_eq_zero (by omega))
          have hlen2 : ((dl.length : Int) == 0) = false := by simpa using hlen1
          subst hub
          obtain ⟨ua1, ua2⟩ := ua
          have hua3 : (ua2 == 0) = false := by simpa using hua2
          have hua4 : (ua2 != 0) = true := by simpa using hua2
          have HBK := hid hback
          have n1 : (no != no) = false := by simp
          have n2 : (no == no) = true := by simp
          clear hd hua2 hback hlen1 LAW3
          by_cases ht11 : tk = 11
          · have b1 : (tk != 11) = false := by simpa using ht11
            have b2 : (tk == 11) = true := by simpa using ht11
            obtain ⟨hb0, hbs⟩ := HBK.out ht11
            obtain ⟨rc, hrc⟩ : ∃ r, renameP t py px [] = r := ⟨_, rfl⟩
            have LEN2 := hid (ren_len ST.out MT.out (by decide) py px [])
            rw [hrc] at hb0 hbs LEN2
            have K25 := hid (fun (w' : World) (hs' : Sits h17 w') => (by have q := tree_Rename t ct py px HPY.out HPX.out [] none 0 (by have := MT.out.len; omega) (MT.out.midI (by decide)) (MT.out.fitI (by decide)) h17 w' hs' RT17.out (RowAt.nil _ _); rw [hrc] at q; exact q : Calls Tryz.prog 10 #[.agg ct.toArray, .string py, .string px, .slice none 0 0] w' fun e w'' => RetDC h17 w' rc e w''))
            obtain ⟨dc, fc⟩ := rc
            have hb0 : fc = 0 := hb0
            subst hb0
            have HBS := hid (show applyS t dc = s from hbs)
            have hdc3 : dc.length ≤ 3 := LEN2.out
            clear hbs hrc ht11 HBK LEN2
            go_upto_region 26 with (first | (refine wpList_load_row rfl 28 _ rfl gT rfl 28 ct.toArray (0, 0) _ (E19.out.sits _ _ BT.out) Tryz.underlying28 rfl (info_State RT17.out.len) ?_) | (go_at_call 10; refine (K25.out _ E19.out.sits).mono ?_; rintro e w25 ⟨A25, c25, h25, rfl, kc25, rd25, F⟩; have E25 := hid (E19.out.trans F); have B25 := hid (F.le _ _ B17.out); have T25 := hid (F.le _ _ BT.out); have RS25 := hid (repState.mono F.le RS17.out); have RT25 := hid (repState.mono F.le RT17.out); have rd25 := hid rd25; clear F))
            clear K25 E19 B17 BT RS17 RT17 HUA HUB HT
            have KA := hid (fun (w' : World) (hs' : Sits h25 w') => ref_Apply t ct dc A25 c25 (by have := MT.out.len; omega) (by rw [MT.out.bad]; simp; omega) h25 w' hs' RT25.out rd25.out)
            rw [HBS.out] at KA
            obtain ⟨A1, c1, A2, c2, rfl, -⟩ := id RS25.out
            obtain ⟨B1, d1, B2, d2, rfl, -⟩ := id RT25.out
            have s0 := sits_cellG (j := 0) (v := .int .i64 s.next) E25.out.sits B25.out rfl
            have s1 := sits_cellG (j := 1) (v := .slice A1 s.inodes.length c1) E25.out.sits B25.out rfl
            have s2 := sits_cellG (j := 2) (v := .slice A2 s.bads.length c2) E25.out.sits B25.out rfl
            have t0 := sits_cellG (j := 0) (v := .int .i64 t.next) E25.out.sits T25.out rfl
            have t1 := sits_cellG (j := 1) (v := .slice B1 t.inodes.length d1) E25.out.sits T25.out rfl
            have t2 := sits_cellG (j := 2) (v := .slice B2 t.bads.length d2) E25.out.sits T25.out rfl
            have E25d := hid E25.out.drew
            go_region_with (first
              | (go_at_call 12; refine (alike_State s _ _ h26 _ E26.out.sits R26.out RS26.out).mono ?_; rintro e w27 ⟨rfl, F⟩; have E27 := hid (E26.out.trans F); clear F)
              | (go_at_call 11; refine (KA.out _ E25d.out.sits).mono ?_; rintro e w26 ⟨cs6, h26, rfl, r6, F6⟩; have R26 := hid r6; obtain ⟨G1, e1, G2, e2, rfl, -⟩ := r6; have E26 := hid (E25d.out.trans F6); have RS26 := hid (repState.mono F6.le RS25.out); have p0 := sits_cellG (j := 0) (v := .int .i64 s.next) E26.out.sits (F6.le _ _ B25.out) rfl; have p1 := sits_cellG (j := 1) (v := .slice A1 s.inodes.length c1) E26.out.sits (F6.le _ _ B25.out) rfl; have p2 := sits_cellG (j := 2) (v := .slice A2 s.bads.length c2) E26.out.sits (F6.le _ _ B25.out) rfl; clear F6))
            all_goals
              go_wp2_with fail
              go_ret
              exact ⟨rfl, E27.out.back⟩
          · have b1 : (tk != 11) = true := by simpa using ht11
            have b2 : (tk == 11) = false := by simpa using ht11
            go_wp2_with fail
            go_ret
            exact ⟨rfl, E19.out.back⟩

end Go.Proofs.YtdiaibkpcnknbaaGreatDoor
