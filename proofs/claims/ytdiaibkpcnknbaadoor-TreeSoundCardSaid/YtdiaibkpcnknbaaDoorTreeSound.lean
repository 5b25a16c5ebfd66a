/- The walk of the law TreeSound: it returns true, and writes nothing that was there. -/
import Derived.Test.YtdiaibkpcnknbaaDoorPlSn9
import Derived.Test.YtdiaibkpcnknbaaDoorGrw
import Derived.Test.YtdiaibkpcnknbaaDoorFullP
import Derived.Test.YtdiaibkpcnknbaaDoorPWide
import Derived.Test.YtdiaibkpcnknbaaDoorTrRen
namespace Go.Proofs.YtdiaibkpcnknbaaDoor
open Go.RowKit Go.Sort
set_option linter.unusedVariables false
theorem szS {h h' : FH} {cs cs' : List Value} {s s' : State} (a : repState h cs s) (b : repState h' cs' s') : cs.toArray.size = cs'.toArray.size := by
  rw [List.size_toArray, List.size_toArray, a.len, b.len]
set_option maxHeartbeats 32000000 in
set_option maxRecDepth 100000 in
theorem TreeSound_walk (ops : List POp) (A : Option Addr) (c : Nat) (os : List Int) (AO : Option Addr) (cO : Nat) (W : World) (ra : RowAt (fhOf W) A ops) (ro : RowAt (fhOf W) AO os) :
    Calls Tryd.prog 3 #[.slice A ops.length c, .slice AO os.length cO] W fun e w' => e = .returned (.bool true) ∧ Ext (fhOf W) W (fhOf W) w' := by
  have hs := Sits.all W
  have KS := hid (play_Small ops A c (fhOf W) W hs ra)
  have RA := hid ra
  have RO := hid ro
  have hlo := ro.1
  have hal := ra.1
  clear ra ro
  go_enter Tryd.func3, Tryd.ntmps3
  go_upto_region 1 with (fail)
  go_cut [18] (fun s18 wx => ∃ z : Bool, s18 = .bool z ∧ Hid (Ext (fhOf W) W (fhOf W) wx))
  case first =>
    by_cases hx : (20 : Int) < (os.length : Int)
    all_goals
      go_wp2_with (go_at_call 4; refine KS.out.mono ?_; rintro e w1 ⟨b, rfl, F1⟩; have E1 := hid F1; clear F1; cases b)
      all_goals
        go_meet
        exact ⟨_, rfl, E1⟩
  case rest =>
  obtain ⟨z, rfl, E1⟩ := hcut
  (try go_at_K)
  cases z
  case true =>
    go_wp2_with (go_at_call 5; refine (law16_awake _ _ E1.out.sits).mono ?_; rintro e w2 ⟨rfl, F2⟩; have E2 := hid (E1.out.trans F2))
    go_ret
    exact ⟨rfl, E2.out⟩
  case false =>
  have KW := hid (play_Wide (fhOf W) wc E1.out.sits)
  go_upto_region 4 with (first | (go_at_call 6; refine KW.out.mono ?_; rintro e w2 ⟨rfl, F2⟩; have E2 := hid (E1.out.trans F2); clear F2) | (refine wpList_store_row rfl 27 _ _ rfl w2.heap.size #[.int .i64 8, .int .i64 2048, .int .i64 12, .int .i64 8, .int .i64 32] rfl rfl 27 #[.int .i64 0, .int .i64 0, .int .i64 0, .int .i64 0, .int .i64 0] (heap_new w2 _) (by kernel_rfl) rfl rfl ?_))
  (try rw [World.setRow_alloc_new])
  obtain ⟨h3, E3, hbG, le3, -⟩ := E2.out.boxF #[.int .i64 8, .int .i64 2048, .int .i64 12, .int .i64 8, .int .i64 32] 27
  with_reducible generalize w2.alloc (.cells #[.int .i64 8, .int .i64 2048, .int .i64 12, .int .i64 8, .int .i64 32] 27) = w3 at E3 ⊢
  generalize w2.heap.size = gG at *
  have E3 := hid E3
  have hbG := hid hbG
  clear le3 KW KS E1 E2
  have KN := hid (ref_NewState h3 w3 E3.out.sits)
  go_upto_region 5 with (first | (go_at_call 7; refine KN.out.mono ?_; rintro e w4 ⟨cs0, h4, rfl, rs, F4⟩; have E4 := hid (E3.out.trans F4); have RN := hid rs; have L4 := hid F4.le; clear F4 rs) | (refine wpList_store_row rfl 31 _ _ rfl w4.heap.size cs0.toArray rfl rfl 31 #[.int .i64 0, .slice none 0 0, .slice none 0 0] (heap_new w4 _) (info_State RN.out.len) (szG3 RN.out.len) (one_arr RN.out.one) ?_))
  rw [World.setRow_alloc_new]
  have BS5 := BoxU.new E4.out cs0.toArray 31
  have E5 := E4.out.alloc (.cells cs0.toArray 31)
  with_reducible generalize w4.alloc (.cells cs0.toArray 31) = w5 at BS5 E5 ⊢
  generalize w4.heap.size = gS at *
  have BS5 := hid BS5
  have E5 := hid E5
  clear KN E3 E4
  go_wp2_with fail
  go_loopw [7] (fun i wr => ∃ (k : Nat) (cs : List Value) (h' : FH), k ≤ ops.length ∧ k ≤ 30 ∧ i = .int .i64 (k : Int) ∧ Hid (Ext (fhOf W) W h' wr) ∧ Hid (FLe h3 h') ∧ Hid (BoxU W h' wr gS cs.toArray 31) ∧ Hid (repState h' cs (treeK os ops k))) (fun i _ => 31 - (intOf i).toNat)
  case atStart => exact ⟨0, cs0, h4, Nat.zero_le _, by omega, rfl, E5, L4, BS5, RN⟩
  case round =>
    obtain ⟨k, cs, h', hk, hk4, rfl, I, LE, BS, R⟩ := hrel
    by_cases hkl : k < ops.length
    · have hkl' : (k : Int) < (ops.length : Int) := by omega
      by_cases hk5 : k < 30
      · have hk5' : (k : Int) < 30 := by omega
        obtain ⟨o, ho⟩ : ∃ o, ops[k]? = some o := ⟨_, List.getElem?_eq_getElem hkl⟩
        have HG := hid (show treeK os ops (k + 1) = applyS (treeK os ops k) (treeP (treeK os ops k) o os).1 by simp only [treeK, ho])
        obtain ⟨b, off, hix, e0, e1, e2, e3, sp, so⟩ := (RA.out.mono I.out.le).ixPOp ho I.out.sits c
        obtain ⟨hmid, hsnd⟩ := treeK_ok os ops k (by omega)
        obtain ⟨s, hsK⟩ : ∃ s, treeK os ops k = s := ⟨_, rfl⟩
        rw [hsK] at R HG hmid hsnd
        obtain ⟨r, hr⟩ : ∃ r, treeP s o os = r := ⟨_, rfl⟩
        have HTR := hid (treeP_ok hmid hsnd (by have := hmid.len; omega) o os)
        rw [hr] at HTR HG
        have HR := hid hr
        obtain ⟨t, ht⟩ : ∃ t, applyS s r.1 = t := ⟨_, rfl⟩
        have HMT := hid (hmid.all HTR.out.len HTR.out.ok)
        have HST := hid HTR.out.snd
        rw [ht] at HMT HST HG
        have HAT := hid ht
        have HMID := hid hmid
        have HSND := hid hsnd
        have SP := hid sp
        have SO := hid so
        clear ho sp so hr ht hmid hsnd hsK
        go_upto_region 9 with (first | (refine wpList_store_row rfl 34 _ _ rfl wr.heap.size #[.int .i64 o.kind, .string o.path, .string o.other, .int .i64 o.n] rfl rfl 34 #[.int .i64 0, .string ⟨#[]⟩, .string ⟨#[]⟩, .int .i64 0] (heap_new wr _) (by kernel_rfl) rfl rfl ?_))
        (try rw [World.setRow_alloc_new])
        have BO3 := BoxU.new I.out #[.int .i64 o.kind, .string o.path, .string o.other, .int .i64 o.n] 34
        have BS3 := BS.out.alloc (.cells #[.int .i64 o.kind, .string o.path, .string o.other, .int .i64 o.n] 34)
        have I3 := I.out.alloc (.cells #[.int .i64 o.kind, .string o.path, .string o.other, .int .i64 o.n] 34)
        with_reducible generalize wr.alloc (.cells #[.int .i64 o.kind, .string o.path, .string o.other, .int .i64 o.n] 34) = w3 at BO3 BS3 I3 ⊢
        generalize wr.heap.size = gO at *
        have BO3 := hid BO3
        have BS3 := hid BS3
        have I3 := hid I3
        clear hix e0 e1 e2 e3 I BS
        obtain ⟨m, hm⟩ : ∃ m, (IntKind.u64.wrap o.kind).tmod 7 = m := ⟨_, rfl⟩
        have hmr : 0 ≤ m ∧ m < 7 := by
          rw [← hm, Int.tmod_eq_emod_of_nonneg (by rw [IntKind.wrap_u64]; omega)]
          omega
        have HM := hid (show modP o.kind 7 = m from hm)
        have o0 := BO3.out.cell (j := 0) (v := .int .i64 o.kind) rfl
        have o1 := BO3.out.cell (j := 1) (v := .string o.path) rfl
        have o2 := BO3.out.cell (j := 2) (v := .string o.other) rfl
        have hmw : IntKind.u64.wrap m = m := by rw [IntKind.wrap_u64]; omega
        obtain rfl | rfl | rfl | rfl | rfl | rfl | rfl : m = 0 ∨ m = 1 ∨ m = 2 ∨ m = 3 ∨ m = 4 ∨ m = 5 ∨ m = 6 := by omega
        all_goals clear hmr
        · have HQ := hid (show r = ((makeP s o.path 1 ⟨#[]⟩).1, (makeP s o.path 1 ⟨#[]⟩).2.2) by rw [← HR.out]; unfold treeP; rw [HM.out]; rfl)
          have K := hid ((tree_Make s cs o.path SP.out 1 ⟨#[]⟩ (by decide) HMID.out.n0 (by have := HMID.out.n1; omega) (HMID.out.midI (by omega)) (HMID.out.fitI (by omega)) h' w3 I3.out.sits R.out).mono (R' := fun e w' => ∃ (A : Option Addr) (c : Nat) (h1 : FH) (n2 : Int), e = .returned (.tuple #[.slice A r.1.length c, .int .i64 n2, .int .i64 r.2]) ∧ CapLe A r.1.length c ∧ RowAt h1 A r.1 ∧ Ext h' w3 h1 w') fun e w' ⟨A, c, h1, he, k1, k2, F⟩ => ⟨A, c, h1, (makeP s o.path 1 ⟨#[]⟩).2.1, by rw [HQ.out]; exact he, by rw [HQ.out]; exact k1, by rw [HQ.out]; exact k2, F⟩)
          go_upto_region 25 with (first | (refine wpList_load_row rfl 31 _ rfl gS rfl 31 cs.toArray (0, 0) _ BS3.out.row Tryd.underlying31 rfl (info_State R.out.len) ?_) | (go_at_call 8; refine K.out.mono ?_; rintro e w4 ⟨A4, c4, h5, n2, rfl, kD, rD, F9⟩; have I4 := hid (I3.out.trans F9); have BS4 := hid (BS3.out.ext F9); have kD := hid kD; have rD := hid rD; have L4 := hid F9.le; clear F9))
          clear HQ K HM
          have R4 := hid (repState.mono L4.out R.out)
          clear I3 BS3 BO3 o0 o1 o2 hm hmw
          go_cut [118] (fun z wx => z = .bool false ∧ wx = w4)
          case first =>
            by_cases hr0 : r.2 = 0
            · have b1 : (r.2 != 0) = false := by simpa using hr0
              have b2 : (r.2 == 0) = true := by simpa using hr0
              clear hr0
              go_wp2_with fail
              go_meet
              exact ⟨rfl, rfl⟩
            · have b1 : (r.2 != 0) = true := by simpa using hr0
              have b2 : (r.2 == 0) = false := by simpa using hr0
              have b3 : (r.1.length : Int) = 0 := by rw [HTR.out.none_ hr0]; rfl
              clear hr0
              go_wp2_with fail
              go_meet
              exact ⟨rfl, rfl⟩
          case rest =>
          obtain ⟨rfl, rfl⟩ := hcut
          have KA := hid (ref_Apply s cs r.1 A4 c4 (by have := HMID.out.len; have := HTR.out.len; omega) (by rw [HMID.out.bad]; have := HTR.out.len; simp; omega) h5 wc I4.out.sits R4.out rD.out)
          rw [HAT.out] at KA
          (try go_at_K)
          go_upto_region 28 with (first | (refine wpList_load_row rfl 31 _ rfl gS rfl 31 cs.toArray (0, 0) _ BS4.out.row Tryd.underlying31 rfl (info_State R4.out.len) ?_) | (go_at_call 13; refine KA.out.mono ?_; rintro e w6 ⟨cs6, h6, rfl, r6, F6⟩; have R6 := hid r6; have I6 := hid (I4.out.trans F6); have BS6 := hid (BS4.out.ext F6); have L6 := hid F6.le; clear F6 r6) | (refine wpList_store_row rfl 31 _ _ rfl gS cs6.toArray rfl rfl 31 cs.toArray BS6.out.row (info_State R6.out.len) (szS R4.out R6.out) (one_arr R6.out.one) ?_))
          have BS7 := BS6.out.setRow cs6.toArray
          have I7 := BS6.out.wrRow I6.out cs6.toArray
          with_reducible generalize w6.setRow gS cs6.toArray = w7 at BS7 I7 ⊢
          have BS7 := hid BS7
          have I7 := hid I7
          have LG := hid (LE.out.trans (L4.out.trans L6.out))
          clear KA I4 I6 BS4 BS6 rD kD
          have g0 := sits_cellG (j := 0) (v := .int .i64 8) I7.out.sits (LG.out _ _ hbG.out) rfl
          have g1 := sits_cellG (j := 1) (v := .int .i64 2048) I7.out.sits (LG.out _ _ hbG.out) rfl
          have g2 := sits_cellG (j := 2) (v := .int .i64 12) I7.out.sits (LG.out _ _ hbG.out) rfl
          have g3 := sits_cellG (j := 3) (v := .int .i64 8) I7.out.sits (LG.out _ _ hbG.out) rfl
          have g4 := sits_cellG (j := 4) (v := .int .i64 32) I7.out.sits (LG.out _ _ hbG.out) rfl
          have KD := hid (ref_Sound t wideG cs6 [.int .i64 8, .int .i64 2048, .int .i64 12, .int .i64 8, .int .i64 32] true (HST.out.soundW HMT.out.bad (fun x hx => (HMT.out.ent x hx).2.2.2) (by have := HMT.out.n1; omega)) (by have := HMT.out.len; omega) (fun x hx => Nat.le_trans (HMT.out.ent x hx).1 (by omega)) h6 w7 I7.out.sits R6.out (rfl : _ = _))
          go_wp2_with (first | (refine wpList_load_row rfl 31 _ rfl gS rfl 31 cs6.toArray (0, 0) _ BS7.out.row Tryd.underlying31 rfl (info_State R6.out.len) ?_) | (go_at_call 14; refine KD.out.mono ?_; rintro e w8 ⟨rfl, F8⟩; have I8 := hid (I7.out.trans F8); have BS8 := hid (BS7.out.ext F8); clear F8))
          go_roundw
          case rel => exact ⟨k + 1, cs6, h6, by omega, by omega, by go_num, I8, hid (LE.out.trans (L4.out.trans L6.out)), BS8, by rw [HG.out]; exact R6⟩
          case measure => simp [intOf]; omega
        · have HQ := hid (show r = ((makeP s o.path 2 ⟨#[]⟩).1, (makeP s o.path 2 ⟨#[]⟩).2.2) by rw [← HR.out]; unfold treeP; rw [HM.out]; rfl)
          have K := hid ((tree_Make s cs o.path SP.out 2 ⟨#[]⟩ (by decide) HMID.out.n0 (by have := HMID.out.n1; omega) (HMID.out.midI (by omega)) (HMID.out.fitI (by omega)) h' w3 I3.out.sits R.out).mono (R' := fun e w' => ∃ (A : Option Addr) (c : Nat) (h1 : FH) (n2 : Int), e = .returned (.tuple #[.slice A r.1.length c, .int .i64 n2, .int .i64 r.2]) ∧ CapLe A r.1.length c ∧ RowAt h1 A r.1 ∧ Ext h' w3 h1 w') fun e w' ⟨A, c, h1, he, k1, k2, F⟩ => ⟨A, c, h1, (makeP s o.path 2 ⟨#[]⟩).2.1, by rw [HQ.out]; exact he, by rw [HQ.out]; exact k1, by rw [HQ.out]; exact k2, F⟩)
          go_upto_region 25 with (first | (refine wpList_load_row rfl 31 _ rfl gS rfl 31 cs.toArray (0, 0) _ BS3.out.row Tryd.underlying31 rfl (info_State R.out.len) ?_) | (go_at_call 8; refine K.out.mono ?_; rintro e w4 ⟨A4, c4, h5, n2, rfl, kD, rD, F9⟩; have I4 := hid (I3.out.trans F9); have BS4 := hid (BS3.out.ext F9); have kD := hid kD; have rD := hid rD; have L4 := hid F9.le; clear F9))
          clear HQ K HM
          have R4 := hid (repState.mono L4.out R.out)
          clear I3 BS3 BO3 o0 o1 o2 hm hmw
          go_cut [118] (fun z wx => z = .bool false ∧ wx = w4)
          case first =>
            by_cases hr0 : r.2 = 0
            · have b1 : (r.2 != 0) = false := by simpa using hr0
              have b2 : (r.2 == 0) = true := by simpa using hr0
              clear hr0
              go_wp2_with fail
              go_meet
              exact ⟨rfl, rfl⟩
            · have b1 : (r.2 != 0) = true := by simpa using hr0
              have b2 : (r.2 == 0) = false := by simpa using hr0
              have b3 : (r.1.length : Int) = 0 := by rw [HTR.out.none_ hr0]; rfl
              clear hr0
              go_wp2_with fail
              go_meet
              exact ⟨rfl, rfl⟩
          case rest =>
          obtain ⟨rfl, rfl⟩ := hcut
          have KA := hid (ref_Apply s cs r.1 A4 c4 (by have := HMID.out.len; have := HTR.out.len; omega) (by rw [HMID.out.bad]; have := HTR.out.len; simp; omega) h5 wc I4.out.sits R4.out rD.out)
          rw [HAT.out] at KA
          (try go_at_K)
          go_upto_region 28 with (first | (refine wpList_load_row rfl 31 _ rfl gS rfl 31 cs.toArray (0, 0) _ BS4.out.row Tryd.underlying31 rfl (info_State R4.out.len) ?_) | (go_at_call 13; refine KA.out.mono ?_; rintro e w6 ⟨cs6, h6, rfl, r6, F6⟩; have R6 := hid r6; have I6 := hid (I4.out.trans F6); have BS6 := hid (BS4.out.ext F6); have L6 := hid F6.le; clear F6 r6) | (refine wpList_store_row rfl 31 _ _ rfl gS cs6.toArray rfl rfl 31 cs.toArray BS6.out.row (info_State R6.out.len) (szS R4.out R6.out) (one_arr R6.out.one) ?_))
          have BS7 := BS6.out.setRow cs6.toArray
          have I7 := BS6.out.wrRow I6.out cs6.toArray
          with_reducible generalize w6.setRow gS cs6.toArray = w7 at BS7 I7 ⊢
          have BS7 := hid BS7
          have I7 := hid I7
          have LG := hid (LE.out.trans (L4.out.trans L6.out))
          clear KA I4 I6 BS4 BS6 rD kD
          have g0 := sits_cellG (j := 0) (v := .int .i64 8) I7.out.sits (LG.out _ _ hbG.out) rfl
          have g1 := sits_cellG (j := 1) (v := .int .i64 2048) I7.out.sits (LG.out _ _ hbG.out) rfl
          have g2 := sits_cellG (j := 2) (v := .int .i64 12) I7.out.sits (LG.out _ _ hbG.out) rfl
          have g3 := sits_cellG (j := 3) (v := .int .i64 8) I7.out.sits (LG.out _ _ hbG.out) rfl
          have g4 := sits_cellG (j := 4) (v := .int .i64 32) I7.out.sits (LG.out _ _ hbG.out) rfl
          have KD := hid (ref_Sound t wideG cs6 [.int .i64 8, .int .i64 2048, .int .i64 12, .int .i64 8, .int .i64 32] true (HST.out.soundW HMT.out.bad (fun x hx => (HMT.out.ent x hx).2.2.2) (by have := HMT.out.n1; omega)) (by have := HMT.out.len; omega) (fun x hx => Nat.le_trans (HMT.out.ent x hx).1 (by omega)) h6 w7 I7.out.sits R6.out (rfl : _ = _))
          go_wp2_with (first | (refine wpList_load_row rfl 31 _ rfl gS rfl 31 cs6.toArray (0, 0) _ BS7.out.row Tryd.underlying31 rfl (info_State R6.out.len) ?_) | (go_at_call 14; refine KD.out.mono ?_; rintro e w8 ⟨rfl, F8⟩; have I8 := hid (I7.out.trans F8); have BS8 := hid (BS7.out.ext F8); clear F8))
          go_roundw
          case rel => exact ⟨k + 1, cs6, h6, by omega, by omega, by go_num, I8, hid (LE.out.trans (L4.out.trans L6.out)), BS8, by rw [HG.out]; exact R6⟩
          case measure => simp [intOf]; omega
        · have HQ := hid (show r = ((makeP s o.path 3 o.other).1, (makeP s o.path 3 o.other).2.2) by rw [← HR.out]; unfold treeP; rw [HM.out]; rfl)
          have K := hid ((tree_Make s cs o.path SP.out 3 o.other SO.out HMID.out.n0 (by have := HMID.out.n1; omega) (HMID.out.midI (by omega)) (HMID.out.fitI (by omega)) h' w3 I3.out.sits R.out).mono (R' := fun e w' => ∃ (A : Option Addr) (c : Nat) (h1 : FH) (n2 : Int), e = .returned (.tuple #[.slice A r.1.length c, .int .i64 n2, .int .i64 r.2]) ∧ CapLe A r.1.length c ∧ RowAt h1 A r.1 ∧ Ext h' w3 h1 w') fun e w' ⟨A, c, h1, he, k1, k2, F⟩ => ⟨A, c, h1, (makeP s o.path 3 o.other).2.1, by rw [HQ.out]; exact he, by rw [HQ.out]; exact k1, by rw [HQ.out]; exact k2, F⟩)
          go_upto_region 25 with (first | (refine wpList_load_row rfl 31 _ rfl gS rfl 31 cs.toArray (0, 0) _ BS3.out.row Tryd.underlying31 rfl (info_State R.out.len) ?_) | (go_at_call 8; refine K.out.mono ?_; rintro e w4 ⟨A4, c4, h5, n2, rfl, kD, rD, F9⟩; have I4 := hid (I3.out.trans F9); have BS4 := hid (BS3.out.ext F9); have kD := hid kD; have rD := hid rD; have L4 := hid F9.le; clear F9))
          clear HQ K HM
          have R4 := hid (repState.mono L4.out R.out)
          clear I3 BS3 BO3 o0 o1 o2 hm hmw
          go_cut [118] (fun z wx => z = .bool false ∧ wx = w4)
          case first =>
            by_cases hr0 : r.2 = 0
            · have b1 : (r.2 != 0) = false := by simpa using hr0
              have b2 : (r.2 == 0) = true := by simpa using hr0
              clear hr0
              go_wp2_with fail
              go_meet
              exact ⟨rfl, rfl⟩
            · have b1 : (r.2 != 0) = true := by simpa using hr0
              have b2 : (r.2 == 0) = false := by simpa using hr0
              have b3 : (r.1.length : Int) = 0 := by rw [HTR.out.none_ hr0]; rfl
              clear hr0
              go_wp2_with fail
              go_meet
              exact ⟨rfl, rfl⟩
          case rest =>
          obtain ⟨rfl, rfl⟩ := hcut
          have KA := hid (ref_Apply s cs r.1 A4 c4 (by have := HMID.out.len; have := HTR.out.len; omega) (by rw [HMID.out.bad]; have := HTR.out.len; simp; omega) h5 wc I4.out.sits R4.out rD.out)
          rw [HAT.out] at KA
          (try go_at_K)
          go_upto_region 28 with (first | (refine wpList_load_row rfl 31 _ rfl gS rfl 31 cs.toArray (0, 0) _ BS4.out.row Tryd.underlying31 rfl (info_State R4.out.len) ?_) | (go_at_call 13; refine KA.out.mono ?_; rintro e w6 ⟨cs6, h6, rfl, r6, F6⟩; have R6 := hid r6; have I6 := hid (I4.out.trans F6); have BS6 := hid (BS4.out.ext F6); have L6 := hid F6.le; clear F6 r6) | (refine wpList_store_row rfl 31 _ _ rfl gS cs6.toArray rfl rfl 31 cs.toArray BS6.out.row (info_State R6.out.len) (szS R4.out R6.out) (one_arr R6.out.one) ?_))
          have BS7 := BS6.out.setRow cs6.toArray
          have I7 := BS6.out.wrRow I6.out cs6.toArray
          with_reducible generalize w6.setRow gS cs6.toArray = w7 at BS7 I7 ⊢
          have BS7 := hid BS7
          have I7 := hid I7
          have LG := hid (LE.out.trans (L4.out.trans L6.out))
          clear KA I4 I6 BS4 BS6 rD kD
          have g0 := sits_cellG (j := 0) (v := .int .i64 8) I7.out.sits (LG.out _ _ hbG.out) rfl
          have g1 := sits_cellG (j := 1) (v := .int .i64 2048) I7.out.sits (LG.out _ _ hbG.out) rfl
          have g2 := sits_cellG (j := 2) (v := .int .i64 12) I7.out.sits (LG.out _ _ hbG.out) rfl
          have g3 := sits_cellG (j := 3) (v := .int .i64 8) I7.out.sits (LG.out _ _ hbG.out) rfl
          have g4 := sits_cellG (j := 4) (v := .int .i64 32) I7.out.sits (LG.out _ _ hbG.out) rfl
          have KD := hid (ref_Sound t wideG cs6 [.int .i64 8, .int .i64 2048, .int .i64 12, .int .i64 8, .int .i64 32] true (HST.out.soundW HMT.out.bad (fun x hx => (HMT.out.ent x hx).2.2.2) (by have := HMT.out.n1; omega)) (by have := HMT.out.len; omega) (fun x hx => Nat.le_trans (HMT.out.ent x hx).1 (by omega)) h6 w7 I7.out.sits R6.out (rfl : _ = _))
          go_wp2_with (first | (refine wpList_load_row rfl 31 _ rfl gS rfl 31 cs6.toArray (0, 0) _ BS7.out.row Tryd.underlying31 rfl (info_State R6.out.len) ?_) | (go_at_call 14; refine KD.out.mono ?_; rintro e w8 ⟨rfl, F8⟩; have I8 := hid (I7.out.trans F8); have BS8 := hid (BS7.out.ext F8); clear F8))
          go_roundw
          case rel => exact ⟨k + 1, cs6, h6, by omega, by omega, by go_num, I8, hid (LE.out.trans (L4.out.trans L6.out)), BS8, by rw [HG.out]; exact R6⟩
          case measure => simp [intOf]; omega
        · have HQ := hid (show r = ((linkP s o.path o.other).1, (linkP s o.path o.other).2) by rw [← HR.out]; unfold treeP; rw [HM.out]; rfl)
          have K := hid ((tree_Link s cs o.path o.other SP.out SO.out (HMID.out.midI (by omega)) (HMID.out.fitI (by omega)) h' w3 I3.out.sits R.out).mono (R' := fun e w' => ∃ (A : Option Addr) (c : Nat) (h1 : FH) (n2 : Int), e = .returned (.tuple #[.slice A r.1.length c, .int .i64 r.2]) ∧ CapLe A r.1.length c ∧ RowAt h1 A r.1 ∧ Ext h' w3 h1 w') fun e w' ⟨A, c, h1, he, k1, k2, F⟩ => ⟨A, c, h1, 0, by rw [HQ.out]; exact he, by rw [HQ.out]; exact k1, by rw [HQ.out]; exact k2, F⟩)
          go_upto_region 25 with (first | (refine wpList_load_row rfl 31 _ rfl gS rfl 31 cs.toArray (0, 0) _ BS3.out.row Tryd.underlying31 rfl (info_State R.out.len) ?_) | (go_at_call 9; refine K.out.mono ?_; rintro e w4 ⟨A4, c4, h5, n2, rfl, kD, rD, F9⟩; have I4 := hid (I3.out.trans F9); have BS4 := hid (BS3.out.ext F9); have kD := hid kD; have rD := hid rD; have L4 := hid F9.le; clear F9))
          clear HQ K HM
          have R4 := hid (repState.mono L4.out R.out)
          clear I3 BS3 BO3 o0 o1 o2 hm hmw
          go_cut [118] (fun z wx => z = .bool false ∧ wx = w4)
          case first =>
            by_cases hr0 : r.2 = 0
            · have b1 : (r.2 != 0) = false := by simpa using hr0
              have b2 : (r.2 == 0) = true := by simpa using hr0
              clear hr0
              go_wp2_with fail
              go_meet
              exact ⟨rfl, rfl⟩
            · have b1 : (r.2 != 0) = true := by simpa using hr0
              have b2 : (r.2 == 0) = false := by simpa using hr0
              have b3 : (r.1.length : Int) = 0 := by rw [HTR.out.none_ hr0]; rfl
              clear hr0
              go_wp2_with fail
              go_meet
              exact ⟨rfl, rfl⟩
          case rest =>
          obtain ⟨rfl, rfl⟩ := hcut
          have KA := hid (ref_Apply s cs r.1 A4 c4 (by have := HMID.out.len; have := HTR.out.len; omega) (by rw [HMID.out.bad]; have := HTR.out.len; simp; omega) h5 wc I4.out.sits R4.out rD.out)
          rw [HAT.out] at KA
          (try go_at_K)
          go_upto_region 28 with (first | (refine wpList_load_row rfl 31 _ rfl gS rfl 31 cs.toArray (0, 0) _ BS4.out.row Tryd.underlying31 rfl (info_State R4.out.len) ?_) | (go_at_call 13; refine KA.out.mono ?_; rintro e w6 ⟨cs6, h6, rfl, r6, F6⟩; have R6 := hid r6; have I6 := hid (I4.out.trans F6); have BS6 := hid (BS4.out.ext F6); have L6 := hid F6.le; clear F6 r6) | (refine wpList_store_row rfl 31 _ _ rfl gS cs6.toArray rfl rfl 31 cs.toArray BS6.out.row (info_State R6.out.len) (szS R4.out R6.out) (one_arr R6.out.one) ?_))
          have BS7 := BS6.out.setRow cs6.toArray
          have I7 := BS6.out.wrRow I6.out cs6.toArray
          with_reducible generalize w6.setRow gS cs6.toArray = w7 at BS7 I7 ⊢
          have BS7 := hid BS7
          have I7 := hid I7
          have LG := hid (LE.out.trans (L4.out.trans L6.out))
          clear KA I4 I6 BS4 BS6 rD kD
          have g0 := sits_cellG (j := 0) (v := .int .i64 8) I7.out.sits (LG.out _ _ hbG.out) rfl
          have g1 := sits_cellG (j := 1) (v := .int .i64 2048) I7.out.sits (LG.out _ _ hbG.out) rfl
          have g2 := sits_cellG (j := 2) (v := .int .i64 12) I7.out.sits (LG.out _ _ hbG.out) rfl
          have g3 := sits_cellG (j := 3) (v := .int .i64 8) I7.out.sits (LG.out _ _ hbG.out) rfl
          have g4 := sits_cellG (j := 4) (v := .int .i64 32) I7.out.sits (LG.out _ _ hbG.out) rfl
          have KD := hid (ref_Sound t wideG cs6 [.int .i64 8, .int .i64 2048, .int .i64 12, .int .i64 8, .int .i64 32] true (HST.out.soundW HMT.out.bad (fun x hx => (HMT.out.ent x hx).2.2.2) (by have := HMT.out.n1; omega)) (by have := HMT.out.len; omega) (fun x hx => Nat.le_trans (HMT.out.ent x hx).1 (by omega)) h6 w7 I7.out.sits R6.out (rfl : _ = _))
          go_wp2_with (first | (refine wpList_load_row rfl 31 _ rfl gS rfl 31 cs6.toArray (0, 0) _ BS7.out.row Tryd.underlying31 rfl (info_State R6.out.len) ?_) | (go_at_call 14; refine KD.out.mono ?_; rintro e w8 ⟨rfl, F8⟩; have I8 := hid (I7.out.trans F8); have BS8 := hid (BS7.out.ext F8); clear F8))
          go_roundw
          case rel => exact ⟨k + 1, cs6, h6, by omega, by omega, by go_num, I8, hid (LE.out.trans (L4.out.trans L6.out)), BS8, by rw [HG.out]; exact R6⟩
          case measure => simp [intOf]; omega
        · have HQ := hid (show r = ((renameP s o.path o.other os).1, (renameP s o.path o.other os).2) by rw [← HR.out]; unfold treeP; rw [HM.out]; rfl)
          have K := hid ((tree_Rename s cs o.path o.other SP.out SO.out os AO cO (by have := HMID.out.len; omega) (HMID.out.midI (by omega)) (HMID.out.fitI (by omega)) h' w3 I3.out.sits R.out (RO.out.mono I3.out.le)).mono (R' := fun e w' => ∃ (A : Option Addr) (c : Nat) (h1 : FH) (n2 : Int), e = .returned (.tuple #[.slice A r.1.length c, .int .i64 r.2]) ∧ CapLe A r.1.length c ∧ RowAt h1 A r.1 ∧ Ext h' w3 h1 w') fun e w' ⟨A, c, h1, he, k1, k2, F⟩ => ⟨A, c, h1, 0, by rw [HQ.out]; exact he, by rw [HQ.out]; exact k1, by rw [HQ.out]; exact k2, F⟩)
          go_upto_region 25 with (first | (refine wpList_load_row rfl 31 _ rfl gS rfl 31 cs.toArray (0, 0) _ BS3.out.row Tryd.underlying31 rfl (info_State R.out.len) ?_) | (go_at_call 10; refine K.out.mono ?_; rintro e w4 ⟨A4, c4, h5, n2, rfl, kD, rD, F9⟩; have I4 := hid (I3.out.trans F9); have BS4 := hid (BS3.out.ext F9); have kD := hid kD; have rD := hid rD; have L4 := hid F9.le; clear F9))
          clear HQ K HM
          have R4 := hid (repState.mono L4.out R.out)
          clear I3 BS3 BO3 o0 o1 o2 hm hmw
          go_cut [118] (fun z wx => z = .bool false ∧ wx = w4)
          case first =>
            by_cases hr0 : r.2 = 0
            · have b1 : (r.2 != 0) = false := by simpa using hr0
              have b2 : (r.2 == 0) = true := by simpa using hr0
              clear hr0
              go_wp2_with fail
              go_meet
              exact ⟨rfl, rfl⟩
            · have b1 : (r.2 != 0) = true := by simpa using hr0
              have b2 : (r.2 == 0) = false := by simpa using hr0
              have b3 : (r.1.length : Int) = 0 := by rw [HTR.out.none_ hr0]; rfl
              clear hr0
              go_wp2_with fail
              go_meet
              exact ⟨rfl, rfl⟩
          case rest =>
          obtain ⟨rfl, rfl⟩ := hcut
          have KA := hid (ref_Apply s cs r.1 A4 c4 (by have := HMID.out.len; have := HTR.out.len; omega) (by rw [HMID.out.bad]; have := HTR.out.len; simp; omega) h5 wc I4.out.sits R4.out rD.out)
          rw [HAT.out] at KA
          (try go_at_K)
          go_upto_region 28 with (first | (refine wpList_load_row rfl 31 _ rfl gS rfl 31 cs.toArray (0, 0) _ BS4.out.row Tryd.underlying31 rfl (info_State R4.out.len) ?_) | (go_at_call 13; refine KA.out.mono ?_; rintro e w6 ⟨cs6, h6, rfl, r6, F6⟩; have R6 := hid r6; have I6 := hid (I4.out.trans F6); have BS6 := hid (BS4.out.ext F6); have L6 := hid F6.le; clear F6 r6) | (refine wpList_store_row rfl 31 _ _ rfl gS cs6.toArray rfl rfl 31 cs.toArray BS6.out.row (info_State R6.out.len) (szS R4.out R6.out) (one_arr R6.out.one) ?_))
          have BS7 := BS6.out.setRow cs6.toArray
          have I7 := BS6.out.wrRow I6.out cs6.toArray
          with_reducible generalize w6.setRow gS cs6.toArray = w7 at BS7 I7 ⊢
          have BS7 := hid BS7
          have I7 := hid I7
          have LG := hid (LE.out.trans (L4.out.trans L6.out))
          clear KA I4 I6 BS4 BS6 rD kD
          have g0 := sits_cellG (j := 0) (v := .int .i64 8) I7.out.sits (LG.out _ _ hbG.out) rfl
          have g1 := sits_cellG (j := 1) (v := .int .i64 2048) I7.out.sits (LG.out _ _ hbG.out) rfl
          have g2 := sits_cellG (j := 2) (v := .int .i64 12) I7.out.sits (LG.out _ _ hbG.out) rfl
          have g3 := sits_cellG (j := 3) (v := .int .i64 8) I7.out.sits (LG.out _ _ hbG.out) rfl
          have g4 := sits_cellG (j := 4) (v := .int .i64 32) I7.out.sits (LG.out _ _ hbG.out) rfl
          have KD := hid (ref_Sound t wideG cs6 [.int .i64 8, .int .i64 2048, .int .i64 12, .int .i64 8, .int .i64 32] true (HST.out.soundW HMT.out.bad (fun x hx => (HMT.out.ent x hx).2.2.2) (by have := HMT.out.n1; omega)) (by have := HMT.out.len; omega) (fun x hx => Nat.le_trans (HMT.out.ent x hx).1 (by omega)) h6 w7 I7.out.sits R6.out (rfl : _ = _))
          go_wp2_with (first | (refine wpList_load_row rfl 31 _ rfl gS rfl 31 cs6.toArray (0, 0) _ BS7.out.row Tryd.underlying31 rfl (info_State R6.out.len) ?_) | (go_at_call 14; refine KD.out.mono ?_; rintro e w8 ⟨rfl, F8⟩; have I8 := hid (I7.out.trans F8); have BS8 := hid (BS7.out.ext F8); clear F8))
          go_roundw
          case rel => exact ⟨k + 1, cs6, h6, by omega, by omega, by go_num, I8, hid (LE.out.trans (L4.out.trans L6.out)), BS8, by rw [HG.out]; exact R6⟩
          case measure => simp [intOf]; omega
        · have HQ := hid (show r = ((unlinkP s o.path os).1, (unlinkP s o.path os).2) by rw [← HR.out]; unfold treeP; rw [HM.out]; rfl)
          have K := hid ((tree_Unlink s cs o.path SP.out os AO cO (HMID.out.midI (by omega)) (HMID.out.fitI (by omega)) h' w3 I3.out.sits R.out (RO.out.mono I3.out.le)).mono (R' := fun e w' => ∃ (A : Option Addr) (c : Nat) (h1 : FH) (n2 : Int), e = .returned (.tuple #[.slice A r.1.length c, .int .i64 r.2]) ∧ CapLe A r.1.length c ∧ RowAt h1 A r.1 ∧ Ext h' w3 h1 w') fun e w' ⟨A, c, h1, he, k1, k2, F⟩ => ⟨A, c, h1, 0, by rw [HQ.out]; exact he, by rw [HQ.out]; exact k1, by rw [HQ.out]; exact k2, F⟩)
          go_upto_region 25 with (first | (refine wpList_load_row rfl 31 _ rfl gS rfl 31 cs.toArray (0, 0) _ BS3.out.row Tryd.underlying31 rfl (info_State R.out.len) ?_) | (go_at_call 11; refine K.out.mono ?_; rintro e w4 ⟨A4, c4, h5, n2, rfl, kD, rD, F9⟩; have I4 := hid (I3.out.trans F9); have BS4 := hid (BS3.out.ext F9); have kD := hid kD; have rD := hid rD; have L4 := hid F9.le; clear F9))
          clear HQ K HM
          have R4 := hid (repState.mono L4.out R.out)
          clear I3 BS3 BO3 o0 o1 o2 hm hmw
          go_cut [118] (fun z wx => z = .bool false ∧ wx = w4)
          case first =>
            by_cases hr0 : r.2 = 0
            · have b1 : (r.2 != 0) = false := by simpa using hr0
              have b2 : (r.2 == 0) = true := by simpa using hr0
              clear hr0
              go_wp2_with fail
              go_meet
              exact ⟨rfl, rfl⟩
            · have b1 : (r.2 != 0) = true := by simpa using hr0
              have b2 : (r.2 == 0) = false := by simpa using hr0
              have b3 : (r.1.length : Int) = 0 := by rw [HTR.out.none_ hr0]; rfl
              clear hr0
              go_wp2_with fail
              go_meet
              exact ⟨rfl, rfl⟩
          case rest =>
          obtain ⟨rfl, rfl⟩ := hcut
          have KA := hid (ref_Apply s cs r.1 A4 c4 (by have := HMID.out.len; have := HTR.out.len; omega) (by rw [HMID.out.bad]; have := HTR.out.len; simp; omega) h5 wc I4.out.sits R4.out rD.out)
          rw [HAT.out] at KA
          (try go_at_K)
          go_upto_region 28 with (first | (refine wpList_load_row rfl 31 _ rfl gS rfl 31 cs.toArray (0, 0) _ BS4.out.row Tryd.underlying31 rfl (info_State R4.out.len) ?_) | (go_at_call 13; refine KA.out.mono ?_; rintro e w6 ⟨cs6, h6, rfl, r6, F6⟩; have R6 := hid r6; have I6 := hid (I4.out.trans F6); have BS6 := hid (BS4.out.ext F6); have L6 := hid F6.le; clear F6 r6) | (refine wpList_store_row rfl 31 _ _ rfl gS cs6.toArray rfl rfl 31 cs.toArray BS6.out.row (info_State R6.out.len) (szS R4.out R6.out) (one_arr R6.out.one) ?_))
          have BS7 := BS6.out.setRow cs6.toArray
          have I7 := BS6.out.wrRow I6.out cs6.toArray
          with_reducible generalize w6.setRow gS cs6.toArray = w7 at BS7 I7 ⊢
          have BS7 := hid BS7
          have I7 := hid I7
          have LG := hid (LE.out.trans (L4.out.trans L6.out))
          clear KA I4 I6 BS4 BS6 rD kD
          have g0 := sits_cellG (j := 0) (v := .int .i64 8) I7.out.sits (LG.out _ _ hbG.out) rfl
          have g1 := sits_cellG (j := 1) (v := .int .i64 2048) I7.out.sits (LG.out _ _ hbG.out) rfl
          have g2 := sits_cellG (j := 2) (v := .int .i64 12) I7.out.sits (LG.out _ _ hbG.out) rfl
          have g3 := sits_cellG (j := 3) (v := .int .i64 8) I7.out.sits (LG.out _ _ hbG.out) rfl
          have g4 := sits_cellG (j := 4) (v := .int .i64 32) I7.out.sits (LG.out _ _ hbG.out) rfl
          have KD := hid (ref_Sound t wideG cs6 [.int .i64 8, .int .i64 2048, .int .i64 12, .int .i64 8, .int .i64 32] true (HST.out.soundW HMT.out.bad (fun x hx => (HMT.out.ent x hx).2.2.2) (by have := HMT.out.n1; omega)) (by have := HMT.out.len; omega) (fun x hx => Nat.le_trans (HMT.out.ent x hx).1 (by omega)) h6 w7 I7.out.sits R6.out (rfl : _ = _))
          go_wp2_with (first | (refine wpList_load_row rfl 31 _ rfl gS rfl 31 cs6.toArray (0, 0) _ BS7.out.row Tryd.underlying31 rfl (info_State R6.out.len) ?_) | (go_at_call 14; refine KD.out.mono ?_; rintro e w8 ⟨rfl, F8⟩; have I8 := hid (I7.out.trans F8); have BS8 := hid (BS7.out.ext F8); clear F8))
          go_roundw
          case rel => exact ⟨k + 1, cs6, h6, by omega, by omega, by go_num, I8, hid (LE.out.trans (L4.out.trans L6.out)), BS8, by rw [HG.out]; exact R6⟩
          case measure => simp [intOf]; omega
        · have HQ := hid (show r = ((rmdirP s o.path).1, (rmdirP s o.path).2) by rw [← HR.out]; unfold treeP; rw [HM.out]; rfl)
          have K := hid ((tree_Rmdir s cs o.path SP.out (HMID.out.midI (by omega)) (HMID.out.fitI (by omega)) h' w3 I3.out.sits R.out).mono (R' := fun e w' => ∃ (A : Option Addr) (c : Nat) (h1 : FH) (n2 : Int), e = .returned (.tuple #[.slice A r.1.length c, .int .i64 r.2]) ∧ CapLe A r.1.length c ∧ RowAt h1 A r.1 ∧ Ext h' w3 h1 w') fun e w' ⟨A, c, h1, he, k1, k2, F⟩ => ⟨A, c, h1, 0, by rw [HQ.out]; exact he, by rw [HQ.out]; exact k1, by rw [HQ.out]; exact k2, F⟩)
          go_upto_region 25 with (first | (refine wpList_load_row rfl 31 _ rfl gS rfl 31 cs.toArray (0, 0) _ BS3.out.row Tryd.underlying31 rfl (info_State R.out.len) ?_) | (go_at_call 12; refine K.out.mono ?_; rintro e w4 ⟨A4, c4, h5, n2, rfl, kD, rD, F9⟩; have I4 := hid (I3.out.trans F9); have BS4 := hid (BS3.out.ext F9); have kD := hid kD; have rD := hid rD; have L4 := hid F9.le; clear F9))
          clear HQ K HM
          have R4 := hid (repState.mono L4.out R.out)
          clear I3 BS3 BO3 o0 o1 o2 hm hmw
          go_cut [118] (fun z wx => z = .bool false ∧ wx = w4)
          case first =>
            by_cases hr0 : r.2 = 0
            · have b1 : (r.2 != 0) = false := by simpa using hr0
              have b2 : (r.2 == 0) = true := by simpa using hr0
              clear hr0
              go_wp2_with fail
              go_meet
              exact ⟨rfl, rfl⟩
            · have b1 : (r.2 != 0) = true := by simpa using hr0
              have b2 : (r.2 == 0) = false := by simpa using hr0
              have b3 : (r.1.length : Int) = 0 := by rw [HTR.out.none_ hr0]; rfl
              clear hr0
              go_wp2_with fail
              go_meet
              exact ⟨rfl, rfl⟩
          case rest =>
          obtain ⟨rfl, rfl⟩ := hcut
          have KA := hid (ref_Apply s cs r.1 A4 c4 (by have := HMID.out.len; have := HTR.out.len; omega) (by rw [HMID.out.bad]; have := HTR.out.len; simp; omega) h5 wc I4.out.sits R4.out rD.out)
          rw [HAT.out] at KA
          (try go_at_K)
          go_upto_region 28 with (first | (refine wpList_load_row rfl 31 _ rfl gS rfl 31 cs.toArray (0, 0) _ BS4.out.row Tryd.underlying31 rfl (info_State R4.out.len) ?_) | (go_at_call 13; refine KA.out.mono ?_; rintro e w6 ⟨cs6, h6, rfl, r6, F6⟩; have R6 := hid r6; have I6 := hid (I4.out.trans F6); have BS6 := hid (BS4.out.ext F6); have L6 := hid F6.le; clear F6 r6) | (refine wpList_store_row rfl 31 _ _ rfl gS cs6.toArray rfl rfl 31 cs.toArray BS6.out.row (info_State R6.out.len) (szS R4.out R6.out) (one_arr R6.out.one) ?_))
          have BS7 := BS6.out.setRow cs6.toArray
          have I7 := BS6.out.wrRow I6.out cs6.toArray
          with_reducible generalize w6.setRow gS cs6.toArray = w7 at BS7 I7 ⊢
          have BS7 := hid BS7
          have I7 := hid I7
          have LG := hid (LE.out.trans (L4.out.trans L6.out))
          clear KA I4 I6 BS4 BS6 rD kD
          have g0 := sits_cellG (j := 0) (v := .int .i64 8) I7.out.sits (LG.out _ _ hbG.out) rfl
          have g1 := sits_cellG (j := 1) (v := .int .i64 2048) I7.out.sits (LG.out _ _ hbG.out) rfl
          have g2 := sits_cellG (j := 2) (v := .int .i64 12) I7.out.sits (LG.out _ _ hbG.out) rfl
          have g3 := sits_cellG (j := 3) (v := .int .i64 8) I7.out.sits (LG.out _ _ hbG.out) rfl
          have g4 := sits_cellG (j := 4) (v := .int .i64 32) I7.out.sits (LG.out _ _ hbG.out) rfl
          have KD := hid (ref_Sound t wideG cs6 [.int .i64 8, .int .i64 2048, .int .i64 12, .int .i64 8, .int .i64 32] true (HST.out.soundW HMT.out.bad (fun x hx => (HMT.out.ent x hx).2.2.2) (by have := HMT.out.n1; omega)) (by have := HMT.out.len; omega) (fun x hx => Nat.le_trans (HMT.out.ent x hx).1 (by omega)) h6 w7 I7.out.sits R6.out (rfl : _ = _))
          go_wp2_with (first | (refine wpList_load_row rfl 31 _ rfl gS rfl 31 cs6.toArray (0, 0) _ BS7.out.row Tryd.underlying31 rfl (info_State R6.out.len) ?_) | (go_at_call 14; refine KD.out.mono ?_; rintro e w8 ⟨rfl, F8⟩; have I8 := hid (I7.out.trans F8); have BS8 := hid (BS7.out.ext F8); clear F8))
          go_roundw
          case rel => exact ⟨k + 1, cs6, h6, by omega, by omega, by go_num, I8, hid (LE.out.trans (L4.out.trans L6.out)), BS8, by rw [HG.out]; exact R6⟩
          case measure => simp [intOf]; omega
      · have hk5' : ¬ ((k : Int) < 30) := by omega
        go_wp2_with (go_at_call 5; refine (law16_awake _ _ I.out.sits).mono ?_; rintro e w2 ⟨rfl, F2⟩; have E2 := hid (I.out.trans F2))
        go_ret
        exact ⟨rfl, E2.out.back⟩
    · have hkl' : ¬ ((k : Int) < (ops.length : Int)) := by omega
      go_wp2_with (go_at_call 5; refine (law16_awake _ _ I.out.sits).mono ?_; rintro e w2 ⟨rfl, F2⟩; have E2 := hid (I.out.trans F2))
      go_ret
      exact ⟨rfl, E2.out.back⟩

end Go.Proofs.YtdiaibkpcnknbaaDoor
