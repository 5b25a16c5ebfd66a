/- The walk of the law TreeLets: it returns true, and writes nothing that was there. -/
import Derived.Test.YtmljcjjhakhjaaaDoorFullP
import Derived.Test.YtmljcjjhakhjaaaDoorTrUn
import Derived.Test.YtmljcjjhakhjaaaDoorConv
namespace Go.Proofs.YtmljcjjhakhjaaaDoor
open Go.RowKit Go.Sort
set_option linter.unusedVariables false
theorem szl3 {cs : List Value} (h : cs.length = 3) : (#[.int .i64 0, .slice none 0 0, .slice none 0 0] : Array Value).size = cs.toArray.size := by refine Eq.trans (b := 3) rfl ?_; rw [List.size_toArray, h]
theorem szl_State {cs ds : List Value} (h : cs.length = 3) (h2 : ds.length = 3) : cs.toArray.size = ds.toArray.size := by rw [List.size_toArray, List.size_toArray, h, h2]
def sufL (i : Nat) : ByteArray := ⟨#[UInt8.ofNat (97 + i)]⟩
def lnm (i : Nat) : ByteArray := ⟨#[47]⟩ ++ sufL i
def llF : Nat → State
  | 0 => applyS newS (makeP newS ⟨#[47, 97]⟩ 1 ⟨#[]⟩).1
  | k + 1 => applyS (llF k) (linkP (llF k) ⟨#[47, 97]⟩ (lnm (k + 1))).1
def whoF (op : Bool) : List Int := if op = true then [2] else []
def unF (n : Nat) (op : Bool) : Nat → State
  | 0 => llF (n - 1)
  | j + 1 => applyS (unF n op j) (unlinkP (unF n op j) (lnm j) (whoF op)).1
theorem ll_ok : ∀ k, k < 5 → okSt (llF k) = true ∧ (linkP (llF k) ⟨#[47, 97]⟩ (lnm (k + 1))).2 = 0 ∧ (linkP (llF k) ⟨#[47, 97]⟩ (lnm (k + 1))).1.length ≤ 10 := by decide +kernel
theorem un_ok : ∀ n, n < 6 → 1 ≤ n → ∀ op, ∀ j, j < n → okSt (unF n op j) = true ∧ (unlinkP (unF n op j) (lnm j) (whoF op)).2 = 0 ∧ (unlinkP (unF n op j) (lnm j) (whoF op)).1.length ≤ 10 ∧ (findI (unF n op j).inodes 2).map (·.links) = some ((n : Int) - j) := by decide +kernel
theorem un_end : ∀ n, n < 6 → 1 ≤ n → ∀ op, (findI (unF n op n).inodes 2).map (·.links) = if op = true then some 0 else none := by decide +kernel
set_option maxHeartbeats 16000000 in
set_option maxRecDepth 100000 in
theorem TreeLets_walk (n0 : Int) (op : Bool) (W : World) :
    Calls Tryd.prog 4 #[.int .i64 n0, .bool op] W fun e w' => e = .returned (.bool true) ∧ Ext (fhOf W) W (fhOf W) w' := by
  have hs := Sits.all W
  obtain ⟨r, hr, hr5⟩ : ∃ r : Nat, (IntKind.u64.wrap n0).tmod 5 = r ∧ r < 5 := by
    have h0 : 0 ≤ IntKind.u64.wrap n0 := by rw [IntKind.wrap_u64]; omega
    rw [Int.tmod_eq_emod_of_nonneg h0]
    exact ⟨(IntKind.u64.wrap n0 % 5).toNat, by omega, by omega⟩
  have hw1 : wrap64 (r : Int) = r := IntWalk.wrap64_in _ (by omega)
  obtain ⟨n, hn⟩ : ∃ n : Nat, n = 1 + r := ⟨_, rfl⟩
  have hn6 : n < 6 := by omega
  have hn1 : 1 ≤ n := by omega
  have hwn : IntKind.i64.wrap (1 + (r : Int)) = (n : Int) := by rw [IntKind.wrap_i64]; omega
  have KN := hid (ref_NewState (fhOf W) W hs)
  clear hn
  go_enter Tryd.func4, Tryd.ntmps4
  go_upto_region 2 with (fail)
  clear hr hw1 hwn hr5
  go_upto_region 3 with (first | (go_at_call 7; refine KN.out.mono ?_; rintro e w1 ⟨cs, h1, rfl, rs, F1⟩; have E1 := hid F1; have R2 := hid rs; clear F1 rs) | (refine wpList_store_row rfl 26 _ _ rfl w1.heap.size cs.toArray rfl rfl 26 #[.int .i64 0, .slice none 0 0, .slice none 0 0] (heap_new w1 _) (info_State R2.out.len) (szl3 R2.out.len) (one_arr R2.out.one) ?_))
  rw [World.setRow_alloc_new]
  have B2 := BoxU.new E1.out cs.toArray 26
  have E2 := E1.out.alloc (.cells cs.toArray 26)
  with_reducible generalize w1.alloc (.cells cs.toArray 26) = w2 at B2 E2 ⊢
  generalize w1.heap.size = gS at *
  have B2 := hid B2
  have E2 := hid E2
  have KM := hid (ref_Make newS cs ⟨#[47, 97]⟩ (by decide) 1 ⟨#[]⟩ (by decide) (by decide) (by decide) (okSt_out new_ok.1).2.1 h1 w2 E2.out.sits R2.out)
  go_upto_region 4 with (first | (refine wpList_load_row rfl 26 _ rfl gS rfl 26 cs.toArray (0, 0) _ B2.out.row Tryd.underlying26 rfl (info_State R2.out.len) ?_) | (go_at_call 10; refine KM.out.mono ?_; rintro e w3 R; obtain ⟨Ad, cd, h3, rfl, rd, F3⟩ := R.lit rfl a_made.1; have E3 := hid (E2.out.trans F3); have B3 := hid (B2.out.ext F3); have R3 := hid (repState.mono F3.le R2.out); have rd := hid rd; clear F3 R))
  clear KM KN E1 E2 B2 R2
  have KA4 := hid (ref_Apply newS cs _ Ad cd (by rw [show (makeP newS ⟨#[47, 97]⟩ 1 ⟨#[]⟩).1.length = 3 from a_made.2]; decide) (by rw [show (makeP newS ⟨#[47, 97]⟩ 1 ⟨#[]⟩).1.length = 3 from a_made.2]; decide) h3 w3 E3.out.sits R3.out rd.out)
  go_upto_region 5 with (first | (refine wpList_load_row rfl 26 _ rfl gS rfl 26 cs.toArray (0, 0) _ B3.out.row Tryd.underlying26 rfl (info_State R3.out.len) ?_) | (go_at_call 9; refine KA4.out.mono ?_; rintro e w4 ⟨cs4, h4, rfl, R4, F4⟩; have E4a := hid (E3.out.trans F4); have B4a := hid (B3.out.ext F4); have l4 := hid F4.le; have R4 := hid R4; clear F4) | (refine wpList_store_row rfl 26 _ _ rfl gS cs4.toArray rfl rfl 26 cs.toArray B4a.out.row (info_State R4.out.len) (szl_State R3.out.len R4.out.len) (one_arr R4.out.one) ?_))
  have B4 := B4a.out.setRow cs4.toArray
  have E4 := B4a.out.wrRow E4a.out cs4.toArray
  with_reducible generalize w4.setRow gS cs4.toArray = x4 at B4 E4 ⊢
  have B4 := hid B4
  have E4 := hid E4
  clear KA4 E4a B4a
  have R4 := hid (show repState h4 cs4 (llF 0) from R4.out)
  clear E3 B3 R3 rd
  go_wp2_with fail
  go_loopw [9] (fun i wr => ∃ (k : Nat) (cs : List Value) (h' : FH), k < n ∧ i = .int .i64 ((k : Int) + 1) ∧ Hid (Ext (fhOf W) W h' wr) ∧ Hid (BoxU W h' wr gS cs.toArray 26) ∧ Hid (repState h' cs (llF k))) (fun i _ => n - (intOf i).toNat)
  case atStart => exact ⟨0, cs4, h4, by omega, rfl, E4, B4, R4⟩
  case round =>
    obtain ⟨k, cs, h', hk, rfl, I, B, R⟩ := hrel
    by_cases hkn : k + 1 < n
    · have hll := ll_ok k (by omega)
      obtain ⟨⟨ld, lc⟩, hlk⟩ : ∃ r, linkP (llF k) ⟨#[47, 97]⟩ (lnm (k + 1)) = r := ⟨_, rfl⟩
      rw [hlk] at hll
      obtain ⟨hq1, hq2, hq3⟩ := hll
      have hlc : lc = 0 := hq2
      subst hlc
      have OKS := hid (okSt_out hq1)
      have HLL := hid (show ld.length ≤ 10 from hq3)
      have HS2 := hid (show llF (k + 1) = applyS (llF k) ld by show applyS (llF k) (linkP (llF k) ⟨#[47, 97]⟩ (lnm (k + 1))).1 = _; rw [hlk])
      have HLK := hid hlk
      have hkn' : (k : Int) + 1 < (n : Int) := by omega
      have hcv := fun w => conv1 w (97 + ((k : Int) + 1)) 1 (sufL (k + 1)) (by unfold sufL; congr 3 <;> omega)
      have hzs : (sufL (k + 1)).size ≤ 1 := Nat.le_refl 1
      have IA := hid (I.out.alloc (.cells #[.int .u8 (97 + ((k : Int) + 1))] 5))
      have BA := hid (B.out.alloc (.cells #[.int .u8 (97 + ((k : Int) + 1))] 5))
      have KL := hid (fun (w : World) (hs : Sits h' w) => (by have q := tree_Link (llF k) cs ⟨#[47, 97]⟩ (lnm (k + 1)) (by decide) (by unfold lnm; rw [ByteArray.size_append]; show 1 + 1 ≤ 9223372036854775807; decide) OKS.out.2.1 OKS.out.2.2 h' w hs R.out; rw [HLK.out] at q; exact q : Calls Tryd.prog 11 #[.agg cs.toArray, .string ⟨#[47, 97]⟩, .string (lnm (k + 1))] w fun e w' => RetDC h' w (ld, 0) e w'))
      clear hq1 hq2 hq3 hlk hkn
      go_upto_region 9 with (first | (refine wpList_load_row rfl 26 _ rfl gS rfl 26 cs.toArray (0, 0) _ B.out.row Tryd.underlying26 rfl (info_State R.out.len) ?_) | (go_at_call 11; refine (KL.out _ IA.out.sits).mono ?_; rintro e wL ⟨AL, cL, hL, rfl, kL, rL, FL⟩; have IL := hid (IA.out.trans FL); have BL := hid (BA.out.ext FL); have RL := hid (repState.mono FL.le R.out); have rL := hid rL; clear FL kL))
      clear I B IA BA
      have KAP := hid (ref_Apply (llF k) cs ld AL cL (by have := OKS.out.1; have := HLL.out; omega) (by have := OKS.out.1; have := HLL.out; omega) hL wL IL.out.sits RL.out rL.out)
      go_wp2_with (first | (refine wpList_load_row rfl 26 _ rfl gS rfl 26 cs.toArray (0, 0) _ BL.out.row Tryd.underlying26 rfl (info_State RL.out.len) ?_) | (go_at_call 9; refine KAP.out.mono ?_; rintro e wP ⟨csP, hP, rfl, RP, FP⟩; have EPa := hid (IL.out.trans FP); have BPa := hid (BL.out.ext FP); have lP := hid FP.le; have RP := hid RP; clear FP) | (refine wpList_store_row rfl 26 _ _ rfl gS csP.toArray rfl rfl 26 cs.toArray BPa.out.row (info_State RP.out.len) (szl_State RL.out.len RP.out.len) (one_arr RP.out.one) ?_))
      have BP := BPa.out.setRow csP.toArray
      have EP := BPa.out.wrRow EPa.out csP.toArray
      with_reducible generalize wP.setRow gS csP.toArray = xP at BP EP ⊢
      have BP := hid BP
      have EP := hid EP
      clear KAP EPa BPa
      go_roundw
      case rel => exact ⟨k + 1, csP, hP, by omega, by go_num, EP, BP, hid (by rw [HS2.out]; exact RP.out)⟩
      case measure => simp [intOf]; omega
    · have hkn' : ¬ ((k : Int) + 1 < (n : Int)) := by omega
      have R2 := hid (show repState h' cs (unF n op 0) by have e : n - 1 = k := by omega
                                                          show repState h' cs (llF (n - 1)); rw [e]; exact R.out)
      clear R hk
      go_upto_if 56 with (fail)
      go_cut [12] (fun s12 wx => ∃ (AO : Option Addr) (cO : Nat) (h2 : FH), s12 = .slice AO (whoF op).length cO ∧ Hid (RowAt h2 AO (whoF op)) ∧ Hid (Ext (fhOf W) W h2 wx) ∧ Hid (BoxU W h2 wx gS cs.toArray 26) ∧ Hid (repState h2 cs (unF n op 0)))
      case first =>
        cases op
        · go_wp2_with fail
          go_meet
          exact ⟨none, 0, h', rfl, RowAt.nil _ _, I, B, R2⟩
        · obtain ⟨h2, E2, hb2, le2, hh2⟩ := I.out.boxF #[.int .i64 2] 3
          have BB : BoxU W h2 (wr.alloc (.cells #[.int .i64 2] 3)) gS cs.toArray 26 := ⟨box_alloc B.out.row _, by rw [hh2, FH.add_other _ _ (Nat.ne_of_lt B.out.lt)]; exact B.out.free, B.out.base⟩
          have HB2 := hid hb2
          have E2 := hid E2
          have BB := hid BB
          have le2 := hid le2
          clear hb2 hh2
          go_wp2_with fail
          go_meet
          exact ⟨_, 1, h2, rfl, RowAt.of_block HB2.out (Reps.single rfl) (by decide), E2, BB, hid (repState.mono le2.out R2.out)⟩
      case rest =>
      obtain ⟨AO, cO, h2, rfl, RO, I2, B2, R3⟩ := hcut
      clear I B R2
      go_wp2_with fail
      go_loopw [13] (fun i wr => ∃ (j : Nat) (cs2 : List Value) (h7 : FH), j ≤ n ∧ i = .int .i64 j ∧ Hid (RowAt h7 AO (whoF op)) ∧ Hid (Ext (fhOf W) W h7 wr) ∧ Hid (BoxU W h7 wr gS cs2.toArray 26) ∧ Hid (repState h7 cs2 (unF n op j))) (fun i _ => n - (intOf i).toNat)
      case atStart => exact ⟨0, cs, h2, Nat.zero_le _, rfl, RO, I2, B2, R3⟩
      case round =>
      obtain ⟨j, cs2, h6, hj, rfl, RO6, I6, B6, R6⟩ := hrel
      clear RO I2 B2 R3
      by_cases hjn : j < n
      · obtain ⟨hq1, hq2, hq3, hq4⟩ := un_ok n hn6 hn1 op j hjn
        obtain ⟨⟨ud, uc⟩, hun⟩ : ∃ r, unlinkP (unF n op j) (lnm j) (whoF op) = r := ⟨_, rfl⟩
        rw [hun] at hq2 hq3
        have huc : uc = 0 := hq2
        subst huc
        have OKU := hid (okSt_out hq1)
        have HUL := hid (show ud.length ≤ 10 from hq3)
        have HUN := hid hun
        have HS3 := hid (show unF n op (j + 1) = applyS (unF n op j) ud by show applyS (unF n op j) (unlinkP (unF n op j) (lnm j) (whoF op)).1 = _; rw [hun])
        obtain ⟨x, hx, hxl⟩ : ∃ x, findI (unF n op j).inodes 2 = some x ∧ x.links = (n : Int) - j := by
          cases hf : findI (unF n op j).inodes 2 with
          | none => rw [hf] at hq4; cases hq4
          | some x => rw [hf] at hq4; exact ⟨x, rfl, by simpa using hq4⟩
        have KF := hid (ref_FindInode (unF n op j) cs2 2 _ hx h6 wr I6.out.sits R6.out)
        have HX := hid hxl
        have hjn' : (j : Int) < (n : Int) := by omega
        clear hq1 hq2 hq3 hq4 hun hx hxl hjn
        go_upto_region 19 with (first | (refine wpList_load_row rfl 26 _ rfl gS rfl 26 cs2.toArray (0, 0) _ B6.out.row Tryd.underlying26 rfl (info_State R6.out.len) ?_) | (go_at_call 12; refine KF.out.mono ?_; rintro e w7 ⟨xl, h7, rfl, rx, F7⟩; have E7 := hid (I6.out.trans F7); have B7 := hid (B6.out.ext F7); have l7 := hid F7.le; have rx := hid (show repInode h7 xl x from rx); clear F7) | (refine wpList_store_row rfl 39 _ _ rfl w7.heap.size xl.toArray rfl rfl 39 #[.int .i64 0, .int .i64 0, .int .i64 0, .int .i64 0, .string ⟨#[]⟩, .slice none 0 0, .slice none 0 0] (heap_new w7 _) (info_Inode rx.out.len) (zi_size rx.out) (one_arr rx.out.one) ?_))
        rw [World.setRow_alloc_new]
        have BX8 := BoxU.new E7.out xl.toArray 39
        have E8 := E7.out.alloc (.cells xl.toArray 39)
        have B8 := B7.out.alloc (.cells xl.toArray 39)
        have hne8 := hid (Nat.ne_of_lt B7.out.lt)
        with_reducible generalize (w7.alloc (.cells xl.toArray 39)) = W8 at BX8 E8 B8 ⊢
        have BX8 := hid BX8
        have E8 := hid E8
        have B8 := hid B8
        generalize w7.heap.size = gi at *
        have R7 := hid (repState.mono l7.out R6.out)
        have RO7 := hid (RO6.out.mono l7.out)
        have hat2 := rx.out.at2
        rw [HX.out] at hat2
        have m2 := BX8.out.cell (by rw [List.getElem?_toArray]; exact hat2)
        have hwr : IntKind.i64.wrap ((n : Int) - (j : Int)) = (n : Int) - (j : Int) := by rw [IntKind.wrap_i64]; omega
        go_upto_region 21 with (fail)
        clear m2 hwr hat2
        have hcv := fun w => conv1 w (97 + (j : Int)) 1 (sufL j) (by unfold sufL; congr 3 <;> omega)
        have hzs : (sufL j).size ≤ 1 := Nat.le_refl 1
        have IA := hid (E8.out.alloc (.cells #[.int .u8 (97 + (j : Int))] 5))
        have BA := hid (B8.out.alloc (.cells #[.int .u8 (97 + (j : Int))] 5))
        have KL := hid (fun (w : World) (hs : Sits h7 w) => (by have q := tree_Unlink (unF n op j) cs2 (lnm j) (by unfold lnm; rw [ByteArray.size_append]; show 1 + 1 ≤ 9223372036854775807; decide) (whoF op) AO cO OKU.out.2.1 OKU.out.2.2 h7 w hs R7.out RO7.out; rw [HUN.out] at q; exact q : Calls Tryd.prog 14 #[.agg cs2.toArray, .string (lnm j), .slice AO (whoF op).length cO] w fun e w' => RetDC h7 w (ud, 0) e w'))
        go_upto_region 22 with (first | (refine wpList_load_row rfl 26 _ rfl gS rfl 26 cs2.toArray (0, 0) _ B8.out.row Tryd.underlying26 rfl (info_State R7.out.len) ?_) | (go_at_call 14; refine (KL.out _ IA.out.sits).mono ?_; rintro e wL ⟨AL, cL, hL, rfl, kL, rL, FL⟩; have IL := hid (IA.out.trans FL); have BL := hid (BA.out.ext FL); have lL := hid FL.le; have RL := hid (repState.mono FL.le R7.out); have rL := hid rL; clear FL kL))
        clear I6 B6 E7 B7 E8 B8 IA BA BX8
        have KAQ := hid (ref_Apply (unF n op j) cs2 ud AL cL (by have := OKU.out.1; have := HUL.out; omega) (by have := OKU.out.1; have := HUL.out; omega) hL wL IL.out.sits RL.out rL.out)
        go_wp2_with (first | (refine wpList_load_row rfl 26 _ rfl gS rfl 26 cs2.toArray (0, 0) _ BL.out.row Tryd.underlying26 rfl (info_State RL.out.len) ?_) | (go_at_call 9; refine KAQ.out.mono ?_; rintro e wQ ⟨csQ, hQ, rfl, RQ, FQ⟩; have EQa := hid (IL.out.trans FQ); have BQa := hid (BL.out.ext FQ); have lQ := hid FQ.le; have RQ := hid RQ; clear FQ) | (refine wpList_store_row rfl 26 _ _ rfl gS csQ.toArray rfl rfl 26 cs2.toArray BQa.out.row (info_State RQ.out.len) (szl_State RL.out.len RQ.out.len) (one_arr RQ.out.one) ?_))
        have BQ := BQa.out.setRow csQ.toArray
        have EQ := BQa.out.wrRow EQa.out csQ.toArray
        with_reducible generalize wQ.setRow gS csQ.toArray = xQ at BQ EQ ⊢
        have BQ := hid BQ
        have EQ := hid EQ
        clear KAQ EQa BQa
        go_roundw
        case rel => exact ⟨j + 1, csQ, hQ, by omega, by go_num, hid (RO7.out.mono (lL.out.trans lQ.out)), EQ, BQ, hid (by rw [HS3.out]; exact RQ.out)⟩
        case measure => simp [intOf]; omega
      · obtain rfl : j = n := by omega
        have hend := un_end j hn6 hn1 op
        obtain ⟨v, hv⟩ : ∃ v, findI (unF j op j).inodes 2 = v := ⟨_, rfl⟩
        rw [hv] at hend
        have KF := hid (ref_FindInode (unF j op j) cs2 2 v hv h6 wr I6.out.sits R6.out)
        clear hv
        cases op
        · have hvn : v = none := by
            cases v with
            | none => rfl
            | some x => cases hend
          subst hvn
          go_upto_region 26 with (first | (refine wpList_load_row rfl 26 _ rfl gS rfl 26 cs2.toArray (0, 0) _ B6.out.row Tryd.underlying26 rfl (info_State R6.out.len) ?_) | (go_at_call 12; refine KF.out.mono ?_; rintro e w7 ⟨xl, h7, rfl, rx, F7⟩; have E7 := hid (I6.out.trans F7); have rx := hid rx; clear F7) | (refine wpList_store_row rfl 39 _ _ rfl w7.heap.size xl.toArray rfl rfl 39 #[.int .i64 0, .int .i64 0, .int .i64 0, .int .i64 0, .string ⟨#[]⟩, .slice none 0 0, .slice none 0 0] (heap_new w7 _) (info_Inode rx.out.len) (zi_size rx.out) (one_arr rx.out.one) ?_))
          rw [World.setRow_alloc_new]
          have BX8 := BoxU.new E7.out xl.toArray 39
          have E8 := E7.out.alloc (.cells xl.toArray 39)
          with_reducible generalize (w7.alloc (.cells xl.toArray 39)) = W8 at BX8 E8 ⊢
          have BX8 := hid BX8
          have E8 := hid E8
          generalize w7.heap.size = gi at *
          go_wp2_with (go_at_call 13; refine (law16_awake h7 W8 E8.out.sits).mono ?_; rintro e w9 ⟨rfl, F9⟩; have E9 := hid (E8.out.trans F9); clear F9)
          go_ret
          exact ⟨by first | rfl | simp, E9.out.back⟩
        · obtain ⟨x, rfl, hx0⟩ : ∃ x, v = some x ∧ x.links = 0 := by
            cases v with
            | none => cases hend
            | some x => exact ⟨x, rfl, by simpa using hend⟩
          have HX := hid hx0
          clear hx0 hend
          go_upto_region 26 with (first | (refine wpList_load_row rfl 26 _ rfl gS rfl 26 cs2.toArray (0, 0) _ B6.out.row Tryd.underlying26 rfl (info_State R6.out.len) ?_) | (go_at_call 12; refine KF.out.mono ?_; rintro e w7 ⟨xl, h7, rfl, rx, F7⟩; have E7 := hid (I6.out.trans F7); have rx := hid (show repInode h7 xl x from rx); clear F7) | (refine wpList_store_row rfl 39 _ _ rfl w7.heap.size xl.toArray rfl rfl 39 #[.int .i64 0, .int .i64 0, .int .i64 0, .int .i64 0, .string ⟨#[]⟩, .slice none 0 0, .slice none 0 0] (heap_new w7 _) (info_Inode rx.out.len) (zi_size rx.out) (one_arr rx.out.one) ?_))
          rw [World.setRow_alloc_new]
          have BX8 := BoxU.new E7.out xl.toArray 39
          have E8 := E7.out.alloc (.cells xl.toArray 39)
          with_reducible generalize (w7.alloc (.cells xl.toArray 39)) = W8 at BX8 E8 ⊢
          have BX8 := hid BX8
          have E8 := hid E8
          generalize w7.heap.size = gi at *
          have hat2 := rx.out.at2
          rw [HX.out] at hat2
          go_wp2_with (go_at_call 13; refine (law16_awake h7 W8 E8.out.sits).mono ?_; rintro e w9 ⟨rfl, F9⟩; have E9 := hid (E8.out.trans F9); have m2 := (BX8.out.ext F9).cell (by rw [List.getElem?_toArray]; exact hat2); clear F9)
          go_ret
          exact ⟨by first | rfl | simp, E9.out.back⟩
end Go.Proofs.YtmljcjjhakhjaaaDoor
