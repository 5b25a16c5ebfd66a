/- The walk of the law TreeFull: it returns true, and writes nothing that was there. -/
import Derived.Test.YtmljcjjhakhjaaaDoorFullP
import Derived.Test.YtmljcjjhakhjaaaDoorConv
namespace Go.Proofs.YtmljcjjhakhjaaaDoor
open Go.RowKit Go.Sort
set_option linter.unusedVariables false
theorem sz3 {cs : List Value} (h : cs.length = 3) : (#[.int .i64 0, .slice none 0 0, .slice none 0 0] : Array Value).size = cs.toArray.size := by refine Eq.trans (b := 3) rfl ?_; rw [List.size_toArray, h]
theorem sz_State {cs ds : List Value} (h : cs.length = 3) (h2 : ds.length = 3) : cs.toArray.size = ds.toArray.size := by rw [List.size_toArray, List.size_toArray, h, h2]
/-- How many names, and directories. -/
def lnF (k : Nat) : Int := if k < 99 then (k : Int) + 1 else 100
def mdF (k : Nat) : Int := if k < 97 then (k : Int) else 97
set_option maxHeartbeats 16000000 in
set_option maxRecDepth 100000 in
theorem TreeFull_walk (n0 : Int) (W : World) :
    Calls Tryd.prog 3 #[.int .i64 n0] W fun e w' => e = .returned (.bool true) ∧ Ext (fhOf W) W (fhOf W) w' := by
  have hs := Sits.all W
  obtain ⟨r, hr, hr5⟩ : ∃ r : Nat, (IntKind.u64.wrap n0).tmod 5 = r ∧ r < 5 := by
    have h0 : 0 ≤ IntKind.u64.wrap n0 := by rw [IntKind.wrap_u64]; omega
    rw [Int.tmod_eq_emod_of_nonneg h0]
    exact ⟨(IntKind.u64.wrap n0 % 5).toNat, by omega, by omega⟩
  have hw1 : wrap64 (r : Int) = r := IntWalk.wrap64_in _ (by omega)
  obtain ⟨n, hn⟩ : ∃ n : Nat, n = 97 + r := ⟨_, rfl⟩
  have hn102 : n < 102 := by omega
  have hn97 : 97 ≤ n := by omega
  have hwn : IntKind.i64.wrap (97 + (r : Int)) = (n : Int) := by rw [IntKind.wrap_i64]; omega
  have KN := hid (ref_NewState (fhOf W) W hs)
  clear hn
  go_enter Tryd.func3, Tryd.ntmps3
  go_upto_region 2 with (fail)
  clear hr hw1 hwn hr5
  go_upto_region 3 with (first | (go_at_call 7; refine KN.out.mono ?_; rintro e w1 ⟨cs, h1, rfl, rs, F1⟩; have E1 := hid F1; have R2 := hid rs; clear F1 rs) | (refine wpList_store_row rfl 26 _ _ rfl w1.heap.size cs.toArray rfl rfl 26 #[.int .i64 0, .slice none 0 0, .slice none 0 0] (heap_new w1 _) (info_State R2.out.len) (sz3 R2.out.len) (one_arr R2.out.one) ?_))
  rw [World.setRow_alloc_new]
  have B2 := BoxU.new E1.out cs.toArray 26
  have E2 := E1.out.alloc (.cells cs.toArray 26)
  with_reducible generalize w1.alloc (.cells cs.toArray 26) = w2 at B2 E2 ⊢
  generalize w1.heap.size = gS at *
  have B2 := hid B2
  have E2 := hid E2
  have KM := hid (tree_Make newS cs ⟨#[47, 102]⟩ (by decide) 1 ⟨#[]⟩ (by decide) (by decide) (by decide) (okSt_out new_ok.1).2.1 (okSt_out new_ok.1).2.2 h1 w2 E2.out.sits R2.out)
  go_upto_region 4 with (first | (refine wpList_load_row rfl 26 _ rfl gS rfl 26 cs.toArray (0, 0) _ B2.out.row Tryd.underlying26 rfl (info_State R2.out.len) ?_) | (go_at_call 8; refine KM.out.mono ?_; rintro e w3 R; obtain ⟨Ad, cd, h3, rfl, rd, F3⟩ := R.lit rfl file_made.1; have E3 := hid (E2.out.trans F3); have B3 := hid (B2.out.ext F3); have R3 := hid (repState.mono F3.le R2.out); have rd := hid rd; clear F3 R))
  clear KM KN E1 E2 B2 R2
  have KA4 := hid (ref_Apply newS cs _ Ad cd (by rw [show (makeP newS ⟨#[47, 102]⟩ 1 ⟨#[]⟩).1.length = 3 from file_made.2]; decide) (by rw [show (makeP newS ⟨#[47, 102]⟩ 1 ⟨#[]⟩).1.length = 3 from file_made.2]; decide) h3 w3 E3.out.sits R3.out rd.out)
  go_upto_region 7 with (first | (refine wpList_load_row rfl 26 _ rfl gS rfl 26 cs.toArray (0, 0) _ B3.out.row Tryd.underlying26 rfl (info_State R3.out.len) ?_) | (go_at_call 9; refine KA4.out.mono ?_; rintro e w4 ⟨cs4, h4, rfl, R4, F4⟩; have E4a := hid (E3.out.trans F4); have B4a := hid (B3.out.ext F4); have R4 := hid R4; clear F4) | (refine wpList_store_row rfl 26 _ _ rfl gS cs4.toArray rfl rfl 26 cs.toArray B4a.out.row (info_State R4.out.len) (sz_State R3.out.len R4.out.len) (one_arr R4.out.one) ?_))
  have B4 := B4a.out.setRow cs4.toArray
  have E4 := B4a.out.wrRow E4a.out cs4.toArray
  with_reducible generalize w4.setRow gS cs4.toArray = x4 at B4 E4 ⊢
  have B4 := hid B4
  have E4 := hid E4
  clear KA4 E4a B4a
  have R4 := hid (show repState h4 cs4 fileF from R4.out)
  have KM := hid (ref_Make fileF cs4 ⟨#[47, 100]⟩ (by decide) 2 ⟨#[]⟩ (by decide) (okSt_out new_ok.2).1.1 (okSt_out new_ok.2).1.2.1 (okSt_out new_ok.2).2.1 h4 x4 E4.out.sits R4.out)
  go_upto_region 8 with (first | (refine wpList_load_row rfl 26 _ rfl gS rfl 26 cs4.toArray (0, 0) _ B4.out.row Tryd.underlying26 rfl (info_State R4.out.len) ?_) | (go_at_call 10; refine KM.out.mono ?_; rintro e w5 ⟨Af, cf, h5, rfl, kf, rf, F5⟩; have E5 := hid (E4.out.trans F5); have B5 := hid (B4.out.ext F5); have R5 := hid (repState.mono F5.le R4.out); have rf := hid rf; clear F5 kf))
  clear KM E3 B3 R3
  have KA6 := hid (ref_Apply fileF cs4 _ Af cf (by have q := (okSt_out new_ok.2).1; rw [show (makeP fileF ⟨#[47, 100]⟩ 2 ⟨#[]⟩).1.length = 3 from dir_made]; omega) (by have q := (okSt_out new_ok.2).1; rw [show (makeP fileF ⟨#[47, 100]⟩ 2 ⟨#[]⟩).1.length = 3 from dir_made]; omega) h5 w5 E5.out.sits R5.out rf.out)
  go_upto_region 9 with (first | (refine wpList_load_row rfl 26 _ rfl gS rfl 26 cs4.toArray (0, 0) _ B5.out.row Tryd.underlying26 rfl (info_State R5.out.len) ?_) | (go_at_call 9; refine KA6.out.mono ?_; rintro e w6 ⟨cs6, h6, rfl, R6, F6⟩; have E6a := hid (E5.out.trans F6); have B6a := hid (B5.out.ext F6); have R6 := hid R6; clear F6) | (refine wpList_store_row rfl 26 _ _ rfl gS cs6.toArray rfl rfl 26 cs4.toArray B6a.out.row (info_State R6.out.len) (sz_State R5.out.len R6.out.len) (one_arr R6.out.one) ?_))
  have B6 := B6a.out.setRow cs6.toArray
  have E6 := B6a.out.wrRow E6a.out cs6.toArray
  with_reducible generalize w6.setRow gS cs6.toArray = x6 at B6 E6 ⊢
  have B6 := hid B6
  have E6 := hid E6
  clear KA6 E6a B6a
  have R6 := hid (show repState h6 cs6 (seqF 0) from R6.out)
  clear E4 B4 R4 E5 B5 R5 rd rf
  go_wp2_with fail
  go_loopw [10, 11, 12] (fun md ln i wr => ∃ (k : Nat) (cs : List Value) (h' : FH), k ≤ n ∧ md = .int .i64 (mdF k) ∧ ln = .int .i64 (lnF k) ∧ i = .int .i64 k ∧ Hid (Ext (fhOf W) W h' wr) ∧ Hid (BoxU W h' wr gS cs.toArray 26) ∧ Hid (repState h' cs (seqF k))) (fun _ _ i _ => n - (intOf i).toNat)
  case atStart => exact ⟨0, cs6, h6, Nat.zero_le _, rfl, rfl, rfl, E6, B6, R6⟩
  case round =>
    obtain ⟨k, cs, h', hk, rfl, rfl, rfl, I, B, R⟩ := hrel
    have hrk := rndF_out (rnd_at k (by omega))
    obtain ⟨S, hS⟩ : ∃ S, seqF k = S := ⟨_, rfl⟩
    rw [hS] at R hrk
    obtain ⟨hq1, hq2, hq3, hq4, hq5, hq6, hq7⟩ := hrk
    have OKS := hid (okSt_out hq1)
    by_cases hkn : k < n
    · obtain ⟨⟨ld, lc⟩, hlk⟩ : ∃ r, lkF k S = r := ⟨_, rfl⟩
      obtain ⟨⟨md, mn, mc⟩, hmk⟩ : ∃ r, mkF k S = r := ⟨_, rfl⟩
      have HLK := hid hlk
      have HMK := hid hmk
      rw [hlk] at hq2 hq3
      rw [hmk] at hq5 hq6
      dsimp only at hq2 hq3 hq5 hq6
      obtain ⟨a, ha⟩ : ∃ a, k / 26 = a := ⟨_, rfl⟩
      obtain ⟨b, hb⟩ : ∃ b, k % 26 = b := ⟨_, rfl⟩
      have hta : (k : Int).tdiv 26 = (a : Int) := by rw [Int.tdiv_eq_ediv_of_nonneg (by omega)]; omega
      have htb : (k : Int).tmod 26 = (b : Int) := by rw [Int.tmod_eq_emod_of_nonneg (by omega)]; omega
      have ha4 : a ≤ 3 := by omega
      have hb26 : b < 26 := by omega
      have HA := hid ha
      have HB := hid hb
      have HLN := hid (show linkP S ⟨#[47, 102]⟩ (⟨#[47, 100, 47]⟩ ++ sufF a b) = (ld, lc) by rw [← hlk]; unfold lkF nmF; rw [ha, hb])
      have HLL := hid hq3
      have HML := hid hq6
      clear hq1 hq3 hq6 hq7 hlk hmk ha hb
      by_cases h97 : k < 97
      · have h99 : k < 99 := by omega
        have hlc : lc = 0 := by rw [hq2]; rw [if_pos (by omega)]
        have hmc : mc = 0 := by rw [hq5]; rw [if_pos (by omega)]
        subst hlc
        subst hmc
        have HL1 := hid (show lnF (k + 1) = (k : Int) + 1 + 1 by unfold lnF; split <;> omega)
        have HL0 := hid (show lnF k = (k : Int) + 1 by unfold lnF; split <;> omega)
        have HM1 := hid (show mdF (k + 1) = (k : Int) + 1 by unfold mdF; split <;> omega)
        have HM0 := hid (show mdF k = (k : Int) by unfold mdF; split <;> omega)
        have HS1 := hid (show s1F k S = applyS S ld by unfold s1F; rw [HLK.out]; rfl)
        have HS2 := hid (show seqF (k + 1) = applyS (applyS S ld) md by show s2F k (seqF k) = _; rw [hS]; unfold s2F; rw [HMK.out, HS1.out]; rfl)
        have OKS1 := hid (okSt_out (show okSt (applyS S ld) = true by rw [← HS1.out]; exact hq4))
        have HMN := hid (show makeP (applyS S ld) (⟨#[47]⟩ ++ sufF a b) 2 ⟨#[]⟩ = (md, mn, 0) by have q := HMK.out; unfold mkF nmF at q; rw [HS1.out, HA.out, HB.out] at q; exact q)
        rw [HL0.out, HM0.out]
        clear hq2 hq4 hq5 hS
        have hcv1 := fun w => conv2 w (97 + (a : Int)) (97 + (b : Int)) 2 (sufF a b) (by unfold sufF; congr 3 <;> omega)
        have IA := hid (I.out.alloc (.cells #[.int .u8 (97 + (a : Int)), .int .u8 (97 + (b : Int))] 5))
        have BA := hid (B.out.alloc (.cells #[.int .u8 (97 + (a : Int)), .int .u8 (97 + (b : Int))] 5))
        have hzs : (sufF a b).size ≤ 2 := Nat.le_refl 2
        go_upto_region 14 with (fail)
        with_reducible generalize wr.alloc (.cells #[.int .u8 (97 + (a : Int)), .int .u8 (97 + (b : Int))] 5) = wA at IA BA ⊢
        have KL := hid (show Calls Tryd.prog 11 #[.agg cs.toArray, .string ⟨#[47, 102]⟩, .string (⟨#[47, 100, 47]⟩ ++ sufF a b)] wA fun e w' => RetDC h' wA (ld, 0) e w' by have q := tree_Link S cs ⟨#[47, 102]⟩ (⟨#[47, 100, 47]⟩ ++ sufF a b) (by decide) (by rw [ByteArray.size_append]; show 3 + 2 ≤ 9223372036854775807; decide) OKS.out.2.1 OKS.out.2.2 h' wA IA.out.sits R.out; rw [HLN.out] at q; exact q)
        clear I B
        go_upto_region 15 with (first | (refine wpList_load_row rfl 26 _ rfl gS rfl 26 cs.toArray (0, 0) _ BA.out.row Tryd.underlying26 rfl (info_State R.out.len) ?_) | (go_at_call 11; refine KL.out.mono ?_; rintro e wL ⟨AL, cL, hL, rfl, kL, rL, FL⟩; have IL := hid (IA.out.trans FL); have BL := hid (BA.out.ext FL); have RL := hid (repState.mono FL.le R.out); have rL := hid rL; clear FL kL))
        have KAP := hid (ref_Apply S cs ld AL cL (by have := OKS.out.1; have := HLL.out; omega) (by have := OKS.out.1; have := HLL.out; omega) hL wL IL.out.sits RL.out rL.out)
        go_upto_region 19 with (first | (refine wpList_load_row rfl 26 _ rfl gS rfl 26 cs.toArray (0, 0) _ BL.out.row Tryd.underlying26 rfl (info_State RL.out.len) ?_) | (go_at_call 9; refine KAP.out.mono ?_; rintro e wP ⟨csP, hP, rfl, RP, FP⟩; have EPa := hid (IL.out.trans FP); have BPa := hid (BL.out.ext FP); have RP := hid RP; clear FP) | (refine wpList_store_row rfl 26 _ _ rfl gS csP.toArray rfl rfl 26 cs.toArray BPa.out.row (info_State RP.out.len) (sz_State RL.out.len RP.out.len) (one_arr RP.out.one) ?_))
        have BP := BPa.out.setRow csP.toArray
        have EP := BPa.out.wrRow EPa.out csP.toArray
        with_reducible generalize wP.setRow gS csP.toArray = xP at BP EP ⊢
        have BP := hid BP
        have EP := hid EP
        clear KAP EPa BPa
        have IB := hid (EP.out.alloc (.cells #[.int .u8 (97 + (a : Int)), .int .u8 (97 + (b : Int))] 5))
        have BB := hid (BP.out.alloc (.cells #[.int .u8 (97 + (a : Int)), .int .u8 (97 + (b : Int))] 5))
        go_upto_region 20 with (fail)
        with_reducible generalize xP.alloc (.cells #[.int .u8 (97 + (a : Int)), .int .u8 (97 + (b : Int))] 5) = wB at IB BB ⊢
        have KM := hid (show Calls Tryd.prog 8 #[.agg csP.toArray, .string (⟨#[47]⟩ ++ sufF a b), .int .i64 2, .string ⟨#[]⟩] wB fun e w' => RetMake hP wB (md, mn, 0) e w' by have q := tree_Make (applyS S ld) csP (⟨#[47]⟩ ++ sufF a b) (by rw [ByteArray.size_append]; show 1 + 2 ≤ 9223372036854775807; decide) 2 ⟨#[]⟩ (by decide) OKS1.out.1.1 OKS1.out.1.2.1 OKS1.out.2.1 OKS1.out.2.2 hP wB IB.out.sits RP.out; rw [HMN.out] at q; exact q)
        go_upto_region 21 with (first | (refine wpList_load_row rfl 26 _ rfl gS rfl 26 csP.toArray (0, 0) _ BB.out.row Tryd.underlying26 rfl (info_State RP.out.len) ?_) | (go_at_call 8; refine KM.out.mono ?_; rintro e wM ⟨AM, cM, hM, rfl, kM, rM, FM⟩; have IM := hid (IB.out.trans FM); have BM := hid (BB.out.ext FM); have RM := hid (repState.mono FM.le RP.out); have rM := hid rM; clear FM kM))
        have KAQ := hid (ref_Apply (applyS S ld) csP md AM cM (by have := OKS1.out.1; have := HML.out; omega) (by have := OKS1.out.1; have := HML.out; omega) hM wM IM.out.sits RM.out rM.out)
        go_wp2_with (first | (refine wpList_load_row rfl 26 _ rfl gS rfl 26 csP.toArray (0, 0) _ BM.out.row Tryd.underlying26 rfl (info_State RM.out.len) ?_) | (go_at_call 9; refine KAQ.out.mono ?_; rintro e wQ ⟨csQ, hQ, rfl, RQ, FQ⟩; have EQa := hid (IM.out.trans FQ); have BQa := hid (BM.out.ext FQ); have RQ := hid RQ; clear FQ) | (refine wpList_store_row rfl 26 _ _ rfl gS csQ.toArray rfl rfl 26 csP.toArray BQa.out.row (info_State RQ.out.len) (sz_State RM.out.len RQ.out.len) (one_arr RQ.out.one) ?_))
        have BQ := BQa.out.setRow csQ.toArray
        have EQ := BQa.out.wrRow EQa.out csQ.toArray
        with_reducible generalize wQ.setRow gS csQ.toArray = xQ at BQ EQ ⊢
        have BQ := hid BQ
        have EQ := hid EQ
        clear KAQ EQa BQa
        go_roundw
        case rel => exact ⟨k + 1, csQ, hQ, by omega, by rw [HM1.out], by rw [HL1.out], by go_num, EQ, BQ, hid (by rw [HS2.out]; exact RQ.out)⟩
        case measure => simp [intOf]; omega
      · by_cases h99 : k < 99
        ·
          have hlc : lc = 0 := by rw [hq2]; rw [if_pos (by omega)]
          have hmc : mc = 18 := by rw [hq5]; rw [if_neg (by omega)]
          subst hlc
          subst hmc
          have HL1 := hid (show lnF (k + 1) = (k : Int) + 1 + 1 by unfold lnF; split <;> omega)
          have HL0 := hid (show lnF k = (k : Int) + 1 by unfold lnF; split <;> omega)
          have HM1 := hid (show mdF (k + 1) = 97 by unfold mdF; split <;> omega)
          have HM0 := hid (show mdF k = 97 by unfold mdF; split <;> omega)
          have HS1 := hid (show s1F k S = applyS S ld by unfold s1F; rw [HLK.out]; rfl)
          have HS2 := hid (show seqF (k + 1) = applyS S ld by show s2F k (seqF k) = _; rw [hS]; unfold s2F; rw [HMK.out, HS1.out]; rfl)
          have OKS1 := hid (okSt_out (show okSt (applyS S ld) = true by rw [← HS1.out]; exact hq4))
          have HMN := hid (show makeP (applyS S ld) (⟨#[47]⟩ ++ sufF a b) 2 ⟨#[]⟩ = (md, mn, 18) by have q := HMK.out; unfold mkF nmF at q; rw [HS1.out, HA.out, HB.out] at q; exact q)
          rw [HL0.out, HM0.out]
          clear hq2 hq4 hq5 hS
          have hcv1 := fun w => conv2 w (97 + (a : Int)) (97 + (b : Int)) 2 (sufF a b) (by unfold sufF; congr 3 <;> omega)
          have IA := hid (I.out.alloc (.cells #[.int .u8 (97 + (a : Int)), .int .u8 (97 + (b : Int))] 5))
          have BA := hid (B.out.alloc (.cells #[.int .u8 (97 + (a : Int)), .int .u8 (97 + (b : Int))] 5))
          have hzs : (sufF a b).size ≤ 2 := Nat.le_refl 2
          go_upto_region 14 with (fail)
          with_reducible generalize wr.alloc (.cells #[.int .u8 (97 + (a : Int)), .int .u8 (97 + (b : Int))] 5) = wA at IA BA ⊢
          have KL := hid (show Calls Tryd.prog 11 #[.agg cs.toArray, .string ⟨#[47, 102]⟩, .string (⟨#[47, 100, 47]⟩ ++ sufF a b)] wA fun e w' => RetDC h' wA (ld, 0) e w' by have q := tree_Link S cs ⟨#[47, 102]⟩ (⟨#[47, 100, 47]⟩ ++ sufF a b) (by decide) (by rw [ByteArray.size_append]; show 3 + 2 ≤ 9223372036854775807; decide) OKS.out.2.1 OKS.out.2.2 h' wA IA.out.sits R.out; rw [HLN.out] at q; exact q)
          clear I B
          go_upto_region 15 with (first | (refine wpList_load_row rfl 26 _ rfl gS rfl 26 cs.toArray (0, 0) _ BA.out.row Tryd.underlying26 rfl (info_State R.out.len) ?_) | (go_at_call 11; refine KL.out.mono ?_; rintro e wL ⟨AL, cL, hL, rfl, kL, rL, FL⟩; have IL := hid (IA.out.trans FL); have BL := hid (BA.out.ext FL); have RL := hid (repState.mono FL.le R.out); have rL := hid rL; clear FL kL))
          have KAP := hid (ref_Apply S cs ld AL cL (by have := OKS.out.1; have := HLL.out; omega) (by have := OKS.out.1; have := HLL.out; omega) hL wL IL.out.sits RL.out rL.out)
          go_upto_region 19 with (first | (refine wpList_load_row rfl 26 _ rfl gS rfl 26 cs.toArray (0, 0) _ BL.out.row Tryd.underlying26 rfl (info_State RL.out.len) ?_) | (go_at_call 9; refine KAP.out.mono ?_; rintro e wP ⟨csP, hP, rfl, RP, FP⟩; have EPa := hid (IL.out.trans FP); have BPa := hid (BL.out.ext FP); have RP := hid RP; clear FP) | (refine wpList_store_row rfl 26 _ _ rfl gS csP.toArray rfl rfl 26 cs.toArray BPa.out.row (info_State RP.out.len) (sz_State RL.out.len RP.out.len) (one_arr RP.out.one) ?_))
          have BP := BPa.out.setRow csP.toArray
          have EP := BPa.out.wrRow EPa.out csP.toArray
          with_reducible generalize wP.setRow gS csP.toArray = xP at BP EP ⊢
          have BP := hid BP
          have EP := hid EP
          clear KAP EPa BPa
          have IB := hid (EP.out.alloc (.cells #[.int .u8 (97 + (a : Int)), .int .u8 (97 + (b : Int))] 5))
          have BB := hid (BP.out.alloc (.cells #[.int .u8 (97 + (a : Int)), .int .u8 (97 + (b : Int))] 5))
          go_upto_region 20 with (fail)
          with_reducible generalize xP.alloc (.cells #[.int .u8 (97 + (a : Int)), .int .u8 (97 + (b : Int))] 5) = wB at IB BB ⊢
          have KM := hid (show Calls Tryd.prog 8 #[.agg csP.toArray, .string (⟨#[47]⟩ ++ sufF a b), .int .i64 2, .string ⟨#[]⟩] wB fun e w' => RetMake hP wB (md, mn, 18) e w' by have q := tree_Make (applyS S ld) csP (⟨#[47]⟩ ++ sufF a b) (by rw [ByteArray.size_append]; show 1 + 2 ≤ 9223372036854775807; decide) 2 ⟨#[]⟩ (by decide) OKS1.out.1.1 OKS1.out.1.2.1 OKS1.out.2.1 OKS1.out.2.2 hP wB IB.out.sits RP.out; rw [HMN.out] at q; exact q)
          go_upto_region 21 with (first | (refine wpList_load_row rfl 26 _ rfl gS rfl 26 csP.toArray (0, 0) _ BB.out.row Tryd.underlying26 rfl (info_State RP.out.len) ?_) | (go_at_call 8; refine KM.out.mono ?_; rintro e wM ⟨AM, cM, hM, rfl, kM, rM, FM⟩; have IM := hid (IB.out.trans FM); have BM := hid (BB.out.ext FM); have RM := hid (repState.mono FM.le RP.out); have rM := hid rM; clear FM kM))
          go_wp2_with fail
          go_roundw
          case rel => exact ⟨k + 1, csP, hM, by omega, by rw [HM1.out], by rw [HL1.out], by go_num, IM, BM, hid (by rw [HS2.out]; exact RM.out)⟩
          case measure => simp [intOf]; omega
        ·
          have hlc : lc = 18 := by rw [hq2]; rw [if_neg (by omega)]
          have hmc : mc = 18 := by rw [hq5]; rw [if_neg (by omega)]
          subst hlc
          subst hmc
          have HL1 := hid (show lnF (k + 1) = 100 by unfold lnF; split <;> omega)
          have HL0 := hid (show lnF k = 100 by unfold lnF; split <;> omega)
          have HM1 := hid (show mdF (k + 1) = 97 by unfold mdF; split <;> omega)
          have HM0 := hid (show mdF k = 97 by unfold mdF; split <;> omega)
          have HS1 := hid (show s1F k S = S by unfold s1F; rw [HLK.out]; rfl)
          have HS2 := hid (show seqF (k + 1) = S by show s2F k (seqF k) = _; rw [hS]; unfold s2F; rw [HMK.out, HS1.out]; rfl)
          have OKS1 := hid (okSt_out (show okSt (S) = true by rw [← HS1.out]; exact hq4))
          have HMN := hid (show makeP (S) (⟨#[47]⟩ ++ sufF a b) 2 ⟨#[]⟩ = (md, mn, 18) by have q := HMK.out; unfold mkF nmF at q; rw [HS1.out, HA.out, HB.out] at q; exact q)
          rw [HL0.out, HM0.out]
          clear hq2 hq4 hq5 hS
          have hcv1 := fun w => conv2 w (97 + (a : Int)) (97 + (b : Int)) 2 (sufF a b) (by unfold sufF; congr 3 <;> omega)
          have IA := hid (I.out.alloc (.cells #[.int .u8 (97 + (a : Int)), .int .u8 (97 + (b : Int))] 5))
          have BA := hid (B.out.alloc (.cells #[.int .u8 (97 + (a : Int)), .int .u8 (97 + (b : Int))] 5))
          have hzs : (sufF a b).size ≤ 2 := Nat.le_refl 2
          go_upto_region 14 with (fail)
          with_reducible generalize wr.alloc (.cells #[.int .u8 (97 + (a : Int)), .int .u8 (97 + (b : Int))] 5) = wA at IA BA ⊢
          have KL := hid (show Calls Tryd.prog 11 #[.agg cs.toArray, .string ⟨#[47, 102]⟩, .string (⟨#[47, 100, 47]⟩ ++ sufF a b)] wA fun e w' => RetDC h' wA (ld, 18) e w' by have q := tree_Link S cs ⟨#[47, 102]⟩ (⟨#[47, 100, 47]⟩ ++ sufF a b) (by decide) (by rw [ByteArray.size_append]; show 3 + 2 ≤ 9223372036854775807; decide) OKS.out.2.1 OKS.out.2.2 h' wA IA.out.sits R.out; rw [HLN.out] at q; exact q)
          clear I B
          go_upto_region 15 with (first | (refine wpList_load_row rfl 26 _ rfl gS rfl 26 cs.toArray (0, 0) _ BA.out.row Tryd.underlying26 rfl (info_State R.out.len) ?_) | (go_at_call 11; refine KL.out.mono ?_; rintro e wL ⟨AL, cL, hL, rfl, kL, rL, FL⟩; have IL := hid (IA.out.trans FL); have BL := hid (BA.out.ext FL); have RL := hid (repState.mono FL.le R.out); have rL := hid rL; clear FL kL))
          go_upto_region 19 with (fail)
          have IB := hid (IL.out.alloc (.cells #[.int .u8 (97 + (a : Int)), .int .u8 (97 + (b : Int))] 5))
          have BB := hid (BL.out.alloc (.cells #[.int .u8 (97 + (a : Int)), .int .u8 (97 + (b : Int))] 5))
          go_upto_region 20 with (fail)
          with_reducible generalize wL.alloc (.cells #[.int .u8 (97 + (a : Int)), .int .u8 (97 + (b : Int))] 5) = wB at IB BB ⊢
          have KM := hid (show Calls Tryd.prog 8 #[.agg cs.toArray, .string (⟨#[47]⟩ ++ sufF a b), .int .i64 2, .string ⟨#[]⟩] wB fun e w' => RetMake hL wB (md, mn, 18) e w' by have q := tree_Make S cs (⟨#[47]⟩ ++ sufF a b) (by rw [ByteArray.size_append]; show 1 + 2 ≤ 9223372036854775807; decide) 2 ⟨#[]⟩ (by decide) OKS1.out.1.1 OKS1.out.1.2.1 OKS1.out.2.1 OKS1.out.2.2 hL wB IB.out.sits RL.out; rw [HMN.out] at q; exact q)
          go_upto_region 21 with (first | (refine wpList_load_row rfl 26 _ rfl gS rfl 26 cs.toArray (0, 0) _ BB.out.row Tryd.underlying26 rfl (info_State RL.out.len) ?_) | (go_at_call 8; refine KM.out.mono ?_; rintro e wM ⟨AM, cM, hM, rfl, kM, rM, FM⟩; have IM := hid (IB.out.trans FM); have BM := hid (BB.out.ext FM); have RM := hid (repState.mono FM.le RL.out); have rM := hid rM; clear FM kM))
          go_wp2_with fail
          go_roundw
          case rel => exact ⟨k + 1, cs, hM, by omega, by rw [HM1.out], by rw [HL1.out], by go_num, IM, BM, hid (by rw [HS2.out]; exact RM.out)⟩
          case measure => simp [intOf]; omega
    · obtain rfl : k = n := by omega
      obtain ⟨x, hx, hxl⟩ : ∃ x, findI S.inodes 2 = some x ∧ x.links = lnF k := by
        cases hf : findI S.inodes 2 with
        | none => rw [hf] at hq7; cases hq7
        | some x => rw [hf] at hq7; exact ⟨x, rfl, by simpa [lnF] using hq7⟩
      have KF := hid (ref_FindInode S cs 2 _ hx h' wr I.out.sits R.out)
      have hmin1 := fun ts t (w : World) => show (Builtin.min_ ts t #[.int .i64 ((k : Int) + 1), .int .i64 100]).run Tryd.prog w = .ok (.int .i64 (lnF k)) w by rw [run_min_int2]; congr 2; unfold lnF; split <;> split <;> omega
      have hmin2 := fun ts t (w : World) => show (Builtin.min_ ts t #[.int .i64 (k : Int), .int .i64 97]).run Tryd.prog w = .ok (.int .i64 (mdF k)) w by rw [run_min_int2]; congr 2; unfold mdF; split <;> split <;> omega
      obtain ⟨L, hL⟩ : ∃ L, lnF k = L := ⟨_, rfl⟩
      obtain ⟨M, hM⟩ : ∃ M, mdF k = M := ⟨_, rfl⟩
      rw [hL] at hmin1 hxl ⊢
      rw [hM] at hmin2 ⊢
      have HX := hid hxl
      clear hq1 hq2 hq3 hq4 hq5 hq6 hq7 hx hL hM hxl hS
      go_upto_region 26 with (first | (refine wpList_load_row rfl 26 _ rfl gS rfl 26 cs.toArray (0, 0) _ B.out.row Tryd.underlying26 rfl (info_State R.out.len) ?_) | (go_at_call 12; refine KF.out.mono ?_; rintro e w7 ⟨xl, h7, rfl, rx, F7⟩; have E7 := hid (I.out.trans F7); have rx := hid (show repInode h7 xl x from rx); clear F7) | (refine wpList_store_row rfl 39 _ _ rfl w7.heap.size xl.toArray rfl rfl 39 #[.int .i64 0, .int .i64 0, .int .i64 0, .int .i64 0, .string ⟨#[]⟩, .slice none 0 0, .slice none 0 0] (heap_new w7 _) (info_Inode rx.out.len) (zi_size rx.out) (one_arr rx.out.one) ?_))
      rw [World.setRow_alloc_new]
      have BX8 := BoxU.new E7.out xl.toArray 39
      have E8 := E7.out.alloc (.cells xl.toArray 39)
      with_reducible generalize (w7.alloc (.cells xl.toArray 39)) = W8 at BX8 E8 ⊢
      have BX8 := hid BX8
      have E8 := hid E8
      generalize w7.heap.size = gi at *
      have hat2 := rx.out.at2
      rw [HX.out] at hat2
      go_wp2_with (go_at_call 13; refine (law16_awake h7 W8 E8.out.sits).mono ?_; rintro e w9 ⟨rfl, F9⟩; have E9 := hid (E8.out.trans F9); have m2 := (BX8.out.ext F9).cell (by rw [List.getElem?_toArray]; exact hat2); clear F9)
      go_ret
      exact ⟨by first | rfl | simp, E9.out.back⟩
end Go.Proofs.YtmljcjjhakhjaaaDoor
