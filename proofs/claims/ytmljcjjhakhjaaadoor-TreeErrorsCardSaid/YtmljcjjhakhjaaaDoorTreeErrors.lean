/- The walk of the law TreeErrors: it returns true, and writes nothing that was there. -/
import Derived.Test.YtmljcjjhakhjaaaDoorFullP
import Derived.Test.YtmljcjjhakhjaaaDoorTrRen
namespace Go.Proofs.YtmljcjjhakhjaaaDoor
open Go.RowKit Go.Sort
set_option linter.unusedVariables false
def wordE : Nat → ByteArray
  | 0 => ⟨#[47, 100]⟩
  | 1 => ⟨#[47, 101]⟩
  | _ => ⟨#[47, 100, 47, 120]⟩
def eS : Nat → State
  | 0 => newS
  | k + 1 => applyS (eS k) (makeP (eS k) (wordE k) 2 ⟨#[]⟩).1
def eF : State := applyS (eS 3) (makeP (eS 3) ⟨#[47, 102]⟩ 1 ⟨#[]⟩).1
theorem es_ok : ∀ k, k < 3 → okSt (eS k) = true ∧ (makeP (eS k) (wordE k) 2 ⟨#[]⟩).2.2 = 0 ∧ (makeP (eS k) (wordE k) 2 ⟨#[]⟩).1.length ≤ 10 ∧ (wordE k).size ≤ 10 := by decide +kernel
theorem es_3 : okSt (eS 3) = true ∧ (makeP (eS 3) ⟨#[47, 102]⟩ 1 ⟨#[]⟩).2.2 = 0 ∧ (makeP (eS 3) ⟨#[47, 102]⟩ 1 ⟨#[]⟩).1.length ≤ 10 ∧ okSt eF = true := by decide +kernel
theorem err_0 : (makeP eF ⟨#[47, 102]⟩ 1 ⟨#[]⟩).2.2 = 12 := by decide +kernel
theorem err_1 : (makeP eF ⟨#[47, 122, 47, 97]⟩ 1 ⟨#[]⟩).2.2 = 11 := by decide +kernel
theorem err_2 : (makeP eF ⟨#[47, 102, 47, 97]⟩ 1 ⟨#[]⟩).2.2 = 13 := by decide +kernel
theorem err_3 : (makeP eF ⟨#[47, 97]⟩ 4 ⟨#[]⟩).2.2 = 1 := by decide +kernel
theorem err_4 : (makeP eF ⟨#[47, 97]⟩ 3 ⟨#[]⟩).2.2 = 17 := by decide +kernel
theorem err_5 : (unlinkP eF ⟨#[47, 100]⟩ []).2 = 14 := by decide +kernel
theorem err_6 : (unlinkP eF ⟨#[47, 122]⟩ []).2 = 11 := by decide +kernel
theorem err_7 : (rmdirP eF ⟨#[47, 100]⟩).2 = 15 := by decide +kernel
theorem err_8 : (rmdirP eF ⟨#[47, 102]⟩).2 = 13 := by decide +kernel
theorem err_9 : (rmdirP eF ⟨#[47]⟩).2 = 24 := by decide +kernel
theorem err_10 : (linkP eF ⟨#[47, 100]⟩ ⟨#[47, 97]⟩).2 = 14 := by decide +kernel
theorem err_11 : (linkP eF ⟨#[47, 102]⟩ ⟨#[47, 101]⟩).2 = 12 := by decide +kernel
theorem err_12 : (renameP eF ⟨#[47, 100]⟩ ⟨#[47, 100, 47, 120, 47, 121]⟩ []).2 = 22 := by decide +kernel
theorem err_13 : (renameP eF ⟨#[47, 102]⟩ ⟨#[47, 101]⟩ []).2 = 14 := by decide +kernel
theorem err_14 : (renameP eF ⟨#[47, 101]⟩ ⟨#[47, 102]⟩ []).2 = 13 := by decide +kernel
theorem err_15 : (renameP eF ⟨#[47, 101]⟩ ⟨#[47, 100]⟩ []).2 = 15 := by decide +kernel
theorem err_16 : (renameP eF ⟨#[47, 100]⟩ ⟨#[47, 101]⟩ []).2 = 0 := by decide +kernel
theorem sze3 {cs : List Value} (h : cs.length = 3) : (#[.int .i64 0, .slice none 0 0, .slice none 0 0] : Array Value).size = cs.toArray.size := by refine Eq.trans (b := 3) rfl ?_; rw [List.size_toArray, h]
theorem sze_State {cs ds : List Value} (h : cs.length = 3) (h2 : ds.length = 3) : cs.toArray.size = ds.toArray.size := by rw [List.size_toArray, List.size_toArray, h, h2]
theorem RetMake.codeE {h : FH} {w w' : World} {r : List Deed × Int × Int} {e : Ending} (R : RetMake h w r e w') {c : Int} (hc : r.2.2 = c) : ∃ A n k o, e = .returned (.tuple #[.slice A n k, .int .i64 o, .int .i64 c]) ∧ Ext h w h w' := by
  obtain ⟨A, k, h1, rfl, _, r1, E⟩ := R
  exact ⟨A, _, k, _, by rw [hc], E.back⟩
theorem RetDC.codeE {h : FH} {w w' : World} {r : List Deed × Int} {e : Ending} (R : RetDC h w r e w') {c : Int} (hc : r.2 = c) : ∃ A n k, e = .returned (.tuple #[.slice A n k, .int .i64 c]) ∧ Ext h w h w' := by
  obtain ⟨A, k, h1, rfl, _, r1, E⟩ := R
  exact ⟨A, _, k, by rw [hc], E.back⟩
theorem RetMake.ok {h : FH} {w w' : World} {r : List Deed × Int × Int} {e : Ending} (R : RetMake h w r e w') {c : Int} (hc : r.2.2 = c) : ∃ A k o h1, e = .returned (.tuple #[.slice A r.1.length k, .int .i64 o, .int .i64 c]) ∧ RowAt h1 A r.1 ∧ Ext h w h1 w' := by
  obtain ⟨A, k, h1, rfl, _, r1, E⟩ := R
  exact ⟨A, k, _, h1, by rw [hc], r1, E⟩
set_option maxHeartbeats 32000000 in
set_option maxRecDepth 100000 in
theorem TreeErrors_walk (n0 : Int) (W : World) :
    Calls Tryd.prog 6 #[.int .i64 n0] W fun e w' => e = .returned (.bool true) ∧ Ext (fhOf W) W (fhOf W) w' := by
  have hs := Sits.all W
  obtain ⟨m, hm, hm17⟩ : ∃ m : Nat, (IntKind.u64.wrap n0).tmod 17 = m ∧ m < 17 := by
    have h0 : 0 ≤ IntKind.u64.wrap n0 := by rw [IntKind.wrap_u64]; omega
    rw [Int.tmod_eq_emod_of_nonneg h0]
    exact ⟨(IntKind.u64.wrap n0 % 17).toNat, by omega, by omega⟩
  have HM := hid hm
  have KN := hid (ref_NewState (fhOf W) W hs)
  clear hm
  go_enter Tryd.func6, Tryd.ntmps6
  go_upto_region 2 with (first | (go_at_call 7; refine KN.out.mono ?_; rintro e w1 ⟨cs, h1, rfl, rs, F1⟩; have E1 := hid F1; have R2 := hid rs; clear F1 rs) | (refine wpList_store_row rfl 26 _ _ rfl w1.heap.size cs.toArray rfl rfl 26 #[.int .i64 0, .slice none 0 0, .slice none 0 0] (heap_new w1 _) (info_State R2.out.len) (sze3 R2.out.len) (one_arr R2.out.one) ?_))
  rw [World.setRow_alloc_new]
  have B2 := BoxU.new E1.out cs.toArray 26
  have E2 := E1.out.alloc (.cells cs.toArray 26)
  with_reducible generalize w1.alloc (.cells cs.toArray 26) = w2 at B2 E2 ⊢
  generalize w1.heap.size = gS at *
  obtain ⟨h3, E3, hbw, le3, hh3⟩ := E2.boxF #[.string ⟨#[47, 100]⟩, .string ⟨#[47, 101]⟩, .string ⟨#[47, 100, 47, 120]⟩] 9
  have B3 : BoxU W h3 (w2.alloc (.cells #[.string ⟨#[47, 100]⟩, .string ⟨#[47, 101]⟩, .string ⟨#[47, 100, 47, 120]⟩] 9)) gS cs.toArray 26 := ⟨box_alloc B2.row _, by rw [hh3, FH.add_other _ _ (Nat.ne_of_lt B2.lt)]; exact B2.free, B2.base⟩
  have R3 := hid (show repState h3 cs (eS 0) from repState.mono le3 R2.out)
  go_upto_region 3 with (fail)
  generalize w2.heap.size = gw at *
  with_reducible generalize w2.alloc (.cells #[.string ⟨#[47, 100]⟩, .string ⟨#[47, 101]⟩, .string ⟨#[47, 100, 47, 120]⟩] 9) = w3 at B3 E3 ⊢
  have B3 := hid B3
  have E3 := hid E3
  have hbw := hid hbw
  clear hh3 le3 B2 E2 E1 R2 KN
  go_wp2_with fail
  go_loopw [17] (fun i wr => ∃ (k : Nat) (cs : List Value) (h' : FH), k ≤ 3 ∧ i = .int .i64 k ∧ Hid (Ext (fhOf W) W h' wr) ∧ Hid (BoxU W h' wr gS cs.toArray 26) ∧ Hid (repState h' cs (eS k)) ∧ Hid (h' gw = some (.cells #[.string ⟨#[47, 100]⟩, .string ⟨#[47, 101]⟩, .string ⟨#[47, 100, 47, 120]⟩] 9 (0, 0)))) (fun i _ => 3 - (intOf i).toNat)
  case atStart => exact ⟨0, cs, h3, by omega, rfl, E3, B3, R3, hbw⟩
  case round =>
    obtain ⟨k, cs, h', hk, rfl, I, B, R, HW⟩ := hrel
    by_cases hk3 : k < 3
    · obtain ⟨hq1, hq2, hq3, hq4⟩ := es_ok k hk3
      have OKS := hid (okSt_out hq1)
      have HML := hid hq3
      have HMC := hid hq2
      have hk3' : (k : Int) < 3 := by omega
      have hcw : wr.cell? ⟨gw, k, none⟩ = some (.string (wordE k)) := Sits_at I.out.sits HW.out (by
        obtain rfl | rfl | rfl : k = 0 ∨ k = 1 ∨ k = 2 := by omega
        all_goals rfl)
      have KM := hid (tree_Make (eS k) cs (wordE k) (by omega) 2 ⟨#[]⟩ (by decide) OKS.out.1.1 OKS.out.1.2.1 OKS.out.2.1 OKS.out.2.2 h' wr I.out.sits R.out)
      clear hq1 hq2 hq3 hq4
      go_upto_region 6 with (first | (refine wpList_load_row rfl 26 _ rfl gS rfl 26 cs.toArray (0, 0) _ B.out.row Tryd.underlying26 rfl (info_State R.out.len) ?_) | (go_at_call 8; refine KM.out.mono ?_; rintro e wM Q; obtain ⟨Ad, cd, oM, hM, rfl, rd, FM⟩ := Q.ok HMC.out; have EM := hid (I.out.trans FM); have BM := hid (B.out.ext FM); have RM := hid (repState.mono FM.le R.out); have rd := hid rd; have lM := hid FM.le; clear FM Q hcw))
      have KAP := hid (ref_Apply (eS k) cs _ Ad cd (by have := OKS.out.1; have := HML.out; omega) (by have := OKS.out.1; have := HML.out; omega) hM wM EM.out.sits RM.out rd.out)
      go_wp2_with (first | (refine wpList_load_row rfl 26 _ rfl gS rfl 26 cs.toArray (0, 0) _ BM.out.row Tryd.underlying26 rfl (info_State RM.out.len) ?_) | (go_at_call 9; refine KAP.out.mono ?_; rintro e wP ⟨csP, hP, rfl, RP, FP⟩; have EPa := hid (EM.out.trans FP); have BPa := hid (BM.out.ext FP); have lP := hid FP.le; have RP := hid RP; clear FP) | (refine wpList_store_row rfl 26 _ _ rfl gS csP.toArray rfl rfl 26 cs.toArray BPa.out.row (info_State RP.out.len) (sze_State RM.out.len RP.out.len) (one_arr RP.out.one) ?_))
      have BP := BPa.out.setRow csP.toArray
      have EP := BPa.out.wrRow EPa.out csP.toArray
      with_reducible generalize wP.setRow gS csP.toArray = xP at BP EP ⊢
      have BP := hid BP
      have EP := hid EP
      clear KAP EPa BPa
      go_roundw
      case rel => exact ⟨k + 1, csP, hP, by omega, by go_num, EP, BP, RP, hid (lP.out _ _ (lM.out _ _ HW.out))⟩
      case measure => simp [intOf]; omega
    · obtain rfl : k = 3 := by omega
      have OK3 := hid (okSt_out es_3.1)
      have HM3 := hid es_3.2.2.1
      have OKF := hid (okSt_out es_3.2.2.2)
      have KM := hid (tree_Make (eS 3) cs ⟨#[47, 102]⟩ (by decide) 1 ⟨#[]⟩ (by decide) OK3.out.1.1 OK3.out.1.2.1 OK3.out.2.1 OK3.out.2.2 h' wr I.out.sits R.out)
      go_upto_region 11 with (first | (refine wpList_load_row rfl 26 _ rfl gS rfl 26 cs.toArray (0, 0) _ B.out.row Tryd.underlying26 rfl (info_State R.out.len) ?_) | (go_at_call 8; refine KM.out.mono ?_; rintro e wM Q; obtain ⟨Ad, cd, oM, hM, rfl, rd, FM⟩ := Q.ok es_3.2.1; have EM := hid (I.out.trans FM); have BM := hid (B.out.ext FM); have RM := hid (repState.mono FM.le R.out); have rd := hid rd; clear FM Q))
      go_upto_region 13 with (go_at_call 13; refine (law16_awake hM wM EM.out.sits).mono ?_; rintro e wA ⟨rfl, FA⟩; have EA := hid (EM.out.trans FA); have BA := hid (BM.out.ext FA); have RA := RM; clear FA)
      have KAQ := hid (ref_Apply (eS 3) cs _ Ad cd (by have := OK3.out.1; have := HM3.out; omega) (by have := OK3.out.1; have := HM3.out; omega) hM wA EA.out.sits RA.out rd.out)
      go_upto_region 14 with (first | (refine wpList_load_row rfl 26 _ rfl gS rfl 26 cs.toArray (0, 0) _ BA.out.row Tryd.underlying26 rfl (info_State RA.out.len) ?_) | (go_at_call 9; refine KAQ.out.mono ?_; rintro e wQ ⟨csQ, hQ, rfl, RQ, FQ⟩; have EQa := hid (EA.out.trans FQ); have BQa := hid (BA.out.ext FQ); have lQ := hid FQ.le; have RQ := hid RQ; clear FQ) | (refine wpList_store_row rfl 26 _ _ rfl gS csQ.toArray rfl rfl 26 cs.toArray BQa.out.row (info_State RQ.out.len) (sze_State RA.out.len RQ.out.len) (one_arr RQ.out.one) ?_))
      have BQ := BQa.out.setRow csQ.toArray
      have EQ := BQa.out.wrRow EQa.out csQ.toArray
      with_reducible generalize wQ.setRow gS csQ.toArray = xQ at BQ EQ ⊢
      have BQ := hid BQ
      have EQ := hid EQ
      clear KAQ EQa BQa
      have RQ := hid (show repState hQ csQ eF from RQ.out)
      clear I B R KM EM BM EA BA E3 B3 R3 RM RA
      have hm2 := HM.out
      obtain rfl | rfl | rfl | rfl | rfl | rfl | rfl | rfl | rfl | rfl | rfl | rfl | rfl | rfl | rfl | rfl | rfl : m = 0 ∨ m = 1 ∨ m = 2 ∨ m = 3 ∨ m = 4 ∨ m = 5 ∨ m = 6 ∨ m = 7 ∨ m = 8 ∨ m = 9 ∨ m = 10 ∨ m = 11 ∨ m = 12 ∨ m = 13 ∨ m = 14 ∨ m = 15 ∨ m = 16 := by omega
      · have KC := hid (tree_Make eF csQ ⟨#[47, 102]⟩ (by decide) 1 ⟨#[]⟩ (by decide) OKF.out.1.1 OKF.out.1.2.1 OKF.out.2.1 OKF.out.2.2 hQ xQ EQ.out.sits RQ.out)
        go_wp2_with (first | (refine wpList_load_row rfl 26 _ rfl gS rfl 26 csQ.toArray (0, 0) _ BQ.out.row Tryd.underlying26 rfl (info_State RQ.out.len) ?_) | (go_at_call 8; refine KC.out.mono ?_; rintro e wZ R; obtain ⟨AZ, nZ, cZ, oZ, rfl, FZ⟩ := R.codeE err_0; have EZ := hid (EQ.out.trans FZ); clear FZ R))
        go_ret
        exact ⟨rfl, EZ.out.back⟩
      · have KC := hid (tree_Make eF csQ ⟨#[47, 122, 47, 97]⟩ (by decide) 1 ⟨#[]⟩ (by decide) OKF.out.1.1 OKF.out.1.2.1 OKF.out.2.1 OKF.out.2.2 hQ xQ EQ.out.sits RQ.out)
        go_wp2_with (first | (refine wpList_load_row rfl 26 _ rfl gS rfl 26 csQ.toArray (0, 0) _ BQ.out.row Tryd.underlying26 rfl (info_State RQ.out.len) ?_) | (go_at_call 8; refine KC.out.mono ?_; rintro e wZ R; obtain ⟨AZ, nZ, cZ, oZ, rfl, FZ⟩ := R.codeE err_1; have EZ := hid (EQ.out.trans FZ); clear FZ R))
        go_ret
        exact ⟨rfl, EZ.out.back⟩
      · have KC := hid (tree_Make eF csQ ⟨#[47, 102, 47, 97]⟩ (by decide) 1 ⟨#[]⟩ (by decide) OKF.out.1.1 OKF.out.1.2.1 OKF.out.2.1 OKF.out.2.2 hQ xQ EQ.out.sits RQ.out)
        go_wp2_with (first | (refine wpList_load_row rfl 26 _ rfl gS rfl 26 csQ.toArray (0, 0) _ BQ.out.row Tryd.underlying26 rfl (info_State RQ.out.len) ?_) | (go_at_call 8; refine KC.out.mono ?_; rintro e wZ R; obtain ⟨AZ, nZ, cZ, oZ, rfl, FZ⟩ := R.codeE err_2; have EZ := hid (EQ.out.trans FZ); clear FZ R))
        go_ret
        exact ⟨rfl, EZ.out.back⟩
      · have KC := hid (tree_Make eF csQ ⟨#[47, 97]⟩ (by decide) 4 ⟨#[]⟩ (by decide) OKF.out.1.1 OKF.out.1.2.1 OKF.out.2.1 OKF.out.2.2 hQ xQ EQ.out.sits RQ.out)
        go_wp2_with (first | (refine wpList_load_row rfl 26 _ rfl gS rfl 26 csQ.toArray (0, 0) _ BQ.out.row Tryd.underlying26 rfl (info_State RQ.out.len) ?_) | (go_at_call 8; refine KC.out.mono ?_; rintro e wZ R; obtain ⟨AZ, nZ, cZ, oZ, rfl, FZ⟩ := R.codeE err_3; have EZ := hid (EQ.out.trans FZ); clear FZ R))
        go_ret
        exact ⟨rfl, EZ.out.back⟩
      · have KC := hid (tree_Make eF csQ ⟨#[47, 97]⟩ (by decide) 3 ⟨#[]⟩ (by decide) OKF.out.1.1 OKF.out.1.2.1 OKF.out.2.1 OKF.out.2.2 hQ xQ EQ.out.sits RQ.out)
        go_wp2_with (first | (refine wpList_load_row rfl 26 _ rfl gS rfl 26 csQ.toArray (0, 0) _ BQ.out.row Tryd.underlying26 rfl (info_State RQ.out.len) ?_) | (go_at_call 8; refine KC.out.mono ?_; rintro e wZ R; obtain ⟨AZ, nZ, cZ, oZ, rfl, FZ⟩ := R.codeE err_4; have EZ := hid (EQ.out.trans FZ); clear FZ R))
        go_ret
        exact ⟨rfl, EZ.out.back⟩
      · have KC := hid (tree_Unlink eF csQ ⟨#[47, 100]⟩ (by decide) [] none 0 OKF.out.2.1 OKF.out.2.2 hQ xQ EQ.out.sits RQ.out (RowAt.nil _ _))
        go_wp2_with (first | (refine wpList_load_row rfl 26 _ rfl gS rfl 26 csQ.toArray (0, 0) _ BQ.out.row Tryd.underlying26 rfl (info_State RQ.out.len) ?_) | (go_at_call 14; refine KC.out.mono ?_; rintro e wZ R; obtain ⟨AZ, nZ, cZ, rfl, FZ⟩ := R.codeE err_5; have EZ := hid (EQ.out.trans FZ); clear FZ R))
        go_ret
        exact ⟨rfl, EZ.out.back⟩
      · have KC := hid (tree_Unlink eF csQ ⟨#[47, 122]⟩ (by decide) [] none 0 OKF.out.2.1 OKF.out.2.2 hQ xQ EQ.out.sits RQ.out (RowAt.nil _ _))
        go_wp2_with (first | (refine wpList_load_row rfl 26 _ rfl gS rfl 26 csQ.toArray (0, 0) _ BQ.out.row Tryd.underlying26 rfl (info_State RQ.out.len) ?_) | (go_at_call 14; refine KC.out.mono ?_; rintro e wZ R; obtain ⟨AZ, nZ, cZ, rfl, FZ⟩ := R.codeE err_6; have EZ := hid (EQ.out.trans FZ); clear FZ R))
        go_ret
        exact ⟨rfl, EZ.out.back⟩
      · have KC := hid (tree_Rmdir eF csQ ⟨#[47, 100]⟩ (by decide) OKF.out.2.1 OKF.out.2.2 hQ xQ EQ.out.sits RQ.out)
        go_wp2_with (first | (refine wpList_load_row rfl 26 _ rfl gS rfl 26 csQ.toArray (0, 0) _ BQ.out.row Tryd.underlying26 rfl (info_State RQ.out.len) ?_) | (go_at_call 18; refine KC.out.mono ?_; rintro e wZ R; obtain ⟨AZ, nZ, cZ, rfl, FZ⟩ := R.codeE err_7; have EZ := hid (EQ.out.trans FZ); clear FZ R))
        go_ret
        exact ⟨rfl, EZ.out.back⟩
      · have KC := hid (tree_Rmdir eF csQ ⟨#[47, 102]⟩ (by decide) OKF.out.2.1 OKF.out.2.2 hQ xQ EQ.out.sits RQ.out)
        go_wp2_with (first | (refine wpList_load_row rfl 26 _ rfl gS rfl 26 csQ.toArray (0, 0) _ BQ.out.row Tryd.underlying26 rfl (info_State RQ.out.len) ?_) | (go_at_call 18; refine KC.out.mono ?_; rintro e wZ R; obtain ⟨AZ, nZ, cZ, rfl, FZ⟩ := R.codeE err_8; have EZ := hid (EQ.out.trans FZ); clear FZ R))
        go_ret
        exact ⟨rfl, EZ.out.back⟩
      · have KC := hid (tree_Rmdir eF csQ ⟨#[47]⟩ (by decide) OKF.out.2.1 OKF.out.2.2 hQ xQ EQ.out.sits RQ.out)
        go_wp2_with (first | (refine wpList_load_row rfl 26 _ rfl gS rfl 26 csQ.toArray (0, 0) _ BQ.out.row Tryd.underlying26 rfl (info_State RQ.out.len) ?_) | (go_at_call 18; refine KC.out.mono ?_; rintro e wZ R; obtain ⟨AZ, nZ, cZ, rfl, FZ⟩ := R.codeE err_9; have EZ := hid (EQ.out.trans FZ); clear FZ R))
        go_ret
        exact ⟨rfl, EZ.out.back⟩
      · have KC := hid (tree_Link eF csQ ⟨#[47, 100]⟩ ⟨#[47, 97]⟩ (by decide) (by decide) OKF.out.2.1 OKF.out.2.2 hQ xQ EQ.out.sits RQ.out)
        go_wp2_with (first | (refine wpList_load_row rfl 26 _ rfl gS rfl 26 csQ.toArray (0, 0) _ BQ.out.row Tryd.underlying26 rfl (info_State RQ.out.len) ?_) | (go_at_call 11; refine KC.out.mono ?_; rintro e wZ R; obtain ⟨AZ, nZ, cZ, rfl, FZ⟩ := R.codeE err_10; have EZ := hid (EQ.out.trans FZ); clear FZ R))
        go_ret
        exact ⟨rfl, EZ.out.back⟩
      · have KC := hid (tree_Link eF csQ ⟨#[47, 102]⟩ ⟨#[47, 101]⟩ (by decide) (by decide) OKF.out.2.1 OKF.out.2.2 hQ xQ EQ.out.sits RQ.out)
        go_wp2_with (first | (refine wpList_load_row rfl 26 _ rfl gS rfl 26 csQ.toArray (0, 0) _ BQ.out.row Tryd.underlying26 rfl (info_State RQ.out.len) ?_) | (go_at_call 11; refine KC.out.mono ?_; rintro e wZ R; obtain ⟨AZ, nZ, cZ, rfl, FZ⟩ := R.codeE err_11; have EZ := hid (EQ.out.trans FZ); clear FZ R))
        go_ret
        exact ⟨rfl, EZ.out.back⟩
      · have KC := hid (tree_Rename eF csQ ⟨#[47, 100]⟩ ⟨#[47, 100, 47, 120, 47, 121]⟩ (by decide) (by decide) [] none 0 (by have := OKF.out.1; omega) OKF.out.2.1 OKF.out.2.2 hQ xQ EQ.out.sits RQ.out (RowAt.nil _ _))
        go_wp2_with (first | (refine wpList_load_row rfl 26 _ rfl gS rfl 26 csQ.toArray (0, 0) _ BQ.out.row Tryd.underlying26 rfl (info_State RQ.out.len) ?_) | (go_at_call 17; refine KC.out.mono ?_; rintro e wZ R; obtain ⟨AZ, nZ, cZ, rfl, FZ⟩ := R.codeE err_12; have EZ := hid (EQ.out.trans FZ); clear FZ R))
        go_ret
        exact ⟨rfl, EZ.out.back⟩
      · have KC := hid (tree_Rename eF csQ ⟨#[47, 102]⟩ ⟨#[47, 101]⟩ (by decide) (by decide) [] none 0 (by have := OKF.out.1; omega) OKF.out.2.1 OKF.out.2.2 hQ xQ EQ.out.sits RQ.out (RowAt.nil _ _))
        go_wp2_with (first | (refine wpList_load_row rfl 26 _ rfl gS rfl 26 csQ.toArray (0, 0) _ BQ.out.row Tryd.underlying26 rfl (info_State RQ.out.len) ?_) | (go_at_call 17; refine KC.out.mono ?_; rintro e wZ R; obtain ⟨AZ, nZ, cZ, rfl, FZ⟩ := R.codeE err_13; have EZ := hid (EQ.out.trans FZ); clear FZ R))
        go_ret
        exact ⟨rfl, EZ.out.back⟩
      · have KC := hid (tree_Rename eF csQ ⟨#[47, 101]⟩ ⟨#[47, 102]⟩ (by decide) (by decide) [] none 0 (by have := OKF.out.1; omega) OKF.out.2.1 OKF.out.2.2 hQ xQ EQ.out.sits RQ.out (RowAt.nil _ _))
        go_wp2_with (first | (refine wpList_load_row rfl 26 _ rfl gS rfl 26 csQ.toArray (0, 0) _ BQ.out.row Tryd.underlying26 rfl (info_State RQ.out.len) ?_) | (go_at_call 17; refine KC.out.mono ?_; rintro e wZ R; obtain ⟨AZ, nZ, cZ, rfl, FZ⟩ := R.codeE err_14; have EZ := hid (EQ.out.trans FZ); clear FZ R))
        go_ret
        exact ⟨rfl, EZ.out.back⟩
      · have KC := hid (tree_Rename eF csQ ⟨#[47, 101]⟩ ⟨#[47, 100]⟩ (by decide) (by decide) [] none 0 (by have := OKF.out.1; omega) OKF.out.2.1 OKF.out.2.2 hQ xQ EQ.out.sits RQ.out (RowAt.nil _ _))
        go_wp2_with (first | (refine wpList_load_row rfl 26 _ rfl gS rfl 26 csQ.toArray (0, 0) _ BQ.out.row Tryd.underlying26 rfl (info_State RQ.out.len) ?_) | (go_at_call 17; refine KC.out.mono ?_; rintro e wZ R; obtain ⟨AZ, nZ, cZ, rfl, FZ⟩ := R.codeE err_15; have EZ := hid (EQ.out.trans FZ); clear FZ R))
        go_ret
        exact ⟨rfl, EZ.out.back⟩
      · have KC := hid (tree_Rename eF csQ ⟨#[47, 100]⟩ ⟨#[47, 101]⟩ (by decide) (by decide) [] none 0 (by have := OKF.out.1; omega) OKF.out.2.1 OKF.out.2.2 hQ xQ EQ.out.sits RQ.out (RowAt.nil _ _))
        go_wp2_with (first | (refine wpList_load_row rfl 26 _ rfl gS rfl 26 csQ.toArray (0, 0) _ BQ.out.row Tryd.underlying26 rfl (info_State RQ.out.len) ?_) | (go_at_call 17; refine KC.out.mono ?_; rintro e wZ R; obtain ⟨AZ, nZ, cZ, rfl, FZ⟩ := R.codeE err_16; have EZ := hid (EQ.out.trans FZ); clear FZ R))
        go_ret
        exact ⟨rfl, EZ.out.back⟩
end Go.Proofs.YtmljcjjhakhjaaaDoor
