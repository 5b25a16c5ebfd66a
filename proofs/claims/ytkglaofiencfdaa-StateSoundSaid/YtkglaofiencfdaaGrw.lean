import Derived.Test.YtkglaofiencfdaaDds
namespace Go.Proofs.Ytkglaofiencfdaa
open Go.RowKit Go.Sort
set_option linter.unusedVariables false
theorem szG3 {cs : List Value} (h : cs.length = 3) : (#[.int .i64 0, .slice none 0 0, .slice none 0 0] : Array Value).size = cs.toArray.size := by refine Eq.trans (b := 3) rfl ?_; rw [List.size_toArray, h]
/-- So many calls. -/
def growK (os : List Int) (ops : List POp) (k : Nat) : State := (ops.take k).foldl (growS os) newS
theorem growK_succ (os : List Int) {ops : List POp} {k : Nat} {o : POp} (h : ops[k]? = some o) : growK os ops (k + 1) = growS os (growK os ops k) o := by
  unfold growK
  rw [List.take_add_one, h, List.foldl_append]; rfl
theorem growK_end {os : List Int} {ops : List POp} {k : Nat} (h : (k = ops.length ∧ k ≤ 40) ∨ k = 40) : growK os ops k = grownP os ops := by
  unfold growK grownP
  rcases h with ⟨h, h2⟩ | h
  · rw [List.take_of_length_le (by omega), List.take_of_length_le (by omega)]
  · rw [h]
set_option maxRecDepth 100000 in
theorem RowAt.ixPOp {h : FH} {A : Option Addr} {xs : List POp} (r : RowAt h A xs) {k : Nat} {x : POp} (hx : xs[k]? = some x) {w : World} (hs : Sits h w) (c : Nat) :
    ∃ b off, (∀ w', (Instr.indexAt 22 (.slice A xs.length c) (.int .i64 (k : Int))).run Try.prog w' = .ok (.pointer (some ⟨b, off + k * 4, none⟩)) w') ∧ w.cell? ⟨b, off + k * 4, none⟩ = some (.int .i64 x.kind) ∧ w.cell? ⟨b, off + k * 4 + 1, none⟩ = some (.string x.path) ∧ w.cell? ⟨b, off + k * 4 + 2, none⟩ = some (.string x.other) ∧ w.cell? ⟨b, off + k * 4 + 3, none⟩ = some (.int .i64 x.n) ∧ x.path.size ≤ 9223372036854775807 ∧ x.other.size ≤ 9223372036854775807 := by
  obtain ⟨b, off, rfl, d0, d1, d2, d3, s0, s1⟩ := r.pop hx hs
  have hlt := (List.getElem?_eq_some_iff.1 hx).1
  refine ⟨b, off, fun w' => ?_, d0, d1, d2, d3, s0, s1⟩
  rw [run_indexAt_slice (h := Try.underlying22), if_pos (by omega)]
  rw [show (sizeOf (Try.prog.elem 22)).run Try.prog w' = .ok 4 w' from by kernel_rfl]
  simp [Result.andThen, Addr.add]
set_option maxHeartbeats 32000000 in
set_option maxRecDepth 100000 in
theorem play_Grown (ops : List POp) (A : Option Addr) (c : Nat) (os : List Int) (AO : Option Addr) (cO : Nat) (h : FH) (w : World) (hs : Sits h w) (ra : RowAt h A ops) (ro : RowAt h AO os) :
    Calls Try.prog 8 #[.slice A ops.length c, .slice AO os.length cO, .int .i64 0] w fun e w' => RetState h w (grownP os ops) e w' := by
  have RA := hid ra
  have RO := hid ro
  have hal := ra.1
  clear ra ro
  have B0 := BoxU.new (Ext.refl hs) #[.int .i64 0, .slice none 0 0, .slice none 0 0] 31
  have E0 := (Ext.refl hs).alloc (.cells #[.int .i64 0, .slice none 0 0, .slice none 0 0] 31)
  go_enter Try.func8, Try.ntmps8
  go_upto_region 1 with (fail)
  obtain ⟨gR, hgR⟩ : ∃ g, g = w.heap.size := ⟨_, rfl⟩
  rw [← hgR] at B0 ⊢
  with_reducible generalize w.alloc (.cells #[.int .i64 0, .slice none 0 0, .slice none 0 0] 31) = w0 at B0 E0 ⊢
  clear hgR
  have KN := hid (ref_NewState h w0 E0.sits)
  have B0 := hid B0
  have E0 := hid E0
  go_upto_region 2 with (first | (go_at_call 23; refine KN.out.mono ?_; rintro e w1 ⟨cs0, h1, rfl, rs, F1⟩; have E1 := hid (E0.out.trans F1); have B1 := hid (B0.out.ext F1); have RN := hid rs; clear F1 rs) | (refine wpList_store_row rfl 31 _ _ rfl w1.heap.size cs0.toArray rfl rfl 31 #[.int .i64 0, .slice none 0 0, .slice none 0 0] (heap_new w1 _) (info_State RN.out.len) (szG3 RN.out.len) (one_arr RN.out.one) ?_))
  rw [World.setRow_alloc_new]
  have B2 := B1.out.alloc (.cells cs0.toArray 31)
  have S2 := BoxU.new E1.out cs0.toArray 31
  have E2 := E1.out.alloc (.cells cs0.toArray 31)
  have hne := hid (Nat.ne_of_lt B1.out.lt)
  with_reducible generalize w1.alloc (.cells cs0.toArray 31) = w2 at B2 S2 E2 ⊢
  generalize w1.heap.size = gS at *
  have B2 := hid B2
  have S2 := hid S2
  have E2 := hid E2
  clear KN E1 B1 E0 B0
  go_wp2_with fail
  go_loopw [8, 9] (fun s8 i wr => s8 = .int .i64 0 ∧ ∃ (k : Nat) (cs : List Value) (h' : FH), k ≤ ops.length ∧ k ≤ 40 ∧ i = .int .i64 (k : Int) ∧ Hid (Ext h w h' wr) ∧ Hid (BoxU w h' wr gR #[.int .i64 0, .slice none 0 0, .slice none 0 0] 31) ∧ Hid (BoxU w h' wr gS cs.toArray 31) ∧ Hid (repState h' cs (growK os ops k))) (fun _ i _ => 41 - (intOf i).toNat)
  case atStart => exact ⟨rfl, 0, cs0, h1, Nat.zero_le _, by omega, rfl, E2, B2, S2, RN⟩
  case round =>
    obtain ⟨rfl, k, cs, h', hk, hk4, rfl, I, BR, BS, R⟩ := hrel
    by_cases hkl : k < ops.length
    · have hkl' : (k : Int) < (ops.length : Int) := by omega
      by_cases hk5 : k < 40
      · have hk5' : (k : Int) < 40 := by omega
        obtain ⟨o, ho⟩ : ∃ o, ops[k]? = some o := ⟨_, List.getElem?_eq_getElem hkl⟩
        have HG := hid (growK_succ os ho)
        obtain ⟨b, off, hix, e0, e1, e2, e3, sp, so⟩ := (RA.out.mono I.out.le).ixPOp ho I.out.sits c
        have HMID := hid (grown_mid os ops k hk4)
        have SP := hid sp
        have SO := hid so
        clear ho sp so
        go_upto_region 7 with (first | (refine wpList_store_row rfl 59 _ _ rfl wr.heap.size #[.int .i64 o.kind, .string o.path, .string o.other, .int .i64 o.n] rfl rfl 59 #[.int .i64 0, .string ⟨#[]⟩, .string ⟨#[]⟩, .int .i64 0] (heap_new wr _) (by kernel_rfl) rfl rfl ?_))
        (try rw [World.setRow_alloc_new])
        have BO3 := BoxU.new I.out #[.int .i64 o.kind, .string o.path, .string o.other, .int .i64 o.n] 59
        have BR3 := BR.out.alloc (.cells #[.int .i64 o.kind, .string o.path, .string o.other, .int .i64 o.n] 59)
        have BS3 := BS.out.alloc (.cells #[.int .i64 o.kind, .string o.path, .string o.other, .int .i64 o.n] 59)
        have I3 := I.out.alloc (.cells #[.int .i64 o.kind, .string o.path, .string o.other, .int .i64 o.n] 59)
        have neO := hid (Nat.ne_of_lt BS.out.lt)
        with_reducible generalize wr.alloc (.cells #[.int .i64 o.kind, .string o.path, .string o.other, .int .i64 o.n] 59) = w3 at BO3 BR3 BS3 I3 ⊢
        generalize wr.heap.size = gO at *
        have BO3 := hid BO3
        have BR3 := hid BR3
        have BS3 := hid BS3
        have I3 := hid I3
        clear hix e0 e1 e2 e3 I BR BS
        obtain ⟨s, hsK⟩ : ∃ s, growK os ops k = s := ⟨_, rfl⟩
        rw [show (ops.take k).foldl (growS os) newS = s from hsK] at HMID
        rw [hsK] at R HG
        have HG := hid (show growK os ops (k + 1) = applyS s (opD s o os) from HG.out)
        clear hsK
        obtain ⟨m, hm⟩ : ∃ m, modP o.kind 8 = m := ⟨_, rfl⟩
        have KM := hid (play_mod8 o.kind h' w3 I3.out.sits)
        rw [hm] at KM
        have HM := hid hm
        clear hm
        have o0 := BO3.out.cell (j := 0) (v := .int .i64 o.kind) rfl
        by_cases hm7 : m = 7
        · subst hm7
          go_upto_region 9 with (go_at_call 24; refine KM.out.mono ?_; rintro e w4 ⟨rfl, F4⟩; have I4 := hid (I3.out.trans F4); have BR4 := hid (BR3.out.ext F4); have BS4 := hid (BS3.out.ext F4); have BO4 := hid (BO3.out.ext F4); clear F4 o0)
          clear I3 BR3 BS3 BO3 KM
          have HG := hid (show growK os ops (k + 1) = s by rw [HG.out, show opD s o os = [] by unfold opD; rw [HM.out]; rfl]; rfl)
          have R4 := R
          have o1 := BO4.out.cell (j := 1) (v := .string o.path) rfl
          obtain ⟨res, hres⟩ : ∃ r, resolveP s.inodes o.path true = r := ⟨_, rfl⟩
          have KR := hid (ref_Resolve s cs o.path SP.out true res hres h' w4 I4.out.sits R.out)
          clear hres
          go_upto_region 10 with (first | (refine wpList_load_row rfl 31 _ rfl gS rfl 31 cs.toArray (0, 0) _ BS4.out.row Try.underlying31 rfl (info_State R4.out.len) ?_) | (go_at_call 26; refine KR.out.mono ?_; rintro e w5 ⟨rfl, F5⟩; have I5 := hid (I4.out.trans F5); have BR5 := hid (BR4.out.ext F5); have BS5 := hid (BS4.out.ext F5); clear F5 o1))
          have R5 := R
          obtain ⟨v, hv⟩ : ∃ v, findI s.inodes res.1 = v := ⟨_, rfl⟩
          have KF := hid (ref_FindInode s cs res.1 v hv h' w5 I5.out.sits R.out)
          clear hv KR I4 BR4 BS4 BO4
          go_upto_region 11 with (first | (refine wpList_load_row rfl 31 _ rfl gS rfl 31 cs.toArray (0, 0) _ BS5.out.row Try.underlying31 rfl (info_State R5.out.len) ?_) | (go_at_call 14; refine KF.out.mono ?_; rintro e w6 ⟨xl, h8, rfl, rx, F6⟩; have rx := hid rx; have I6 := hid (I5.out.trans F6); have BR6 := hid (BR5.out.ext F6); have BS6 := hid (BS5.out.ext F6); have R8 := hid (repState.mono F6.le R.out); clear F6) | (refine wpList_store_row rfl 37 _ _ rfl w6.heap.size xl.toArray rfl rfl 37 #[.int .i64 0, .int .i64 0, .int .i64 0, .int .i64 0, .string ⟨#[]⟩, .slice none 0 0, .slice none 0 0] (heap_new w6 _) (info_Inode rx.out.len) (zi_size rx.out) (one_arr rx.out.one) ?_))
          rw [World.setRow_alloc_new]
          have BX8 := BoxU.new I6.out xl.toArray 37
          have BR8 := BR6.out.alloc (.cells xl.toArray 37)
          have BS8 := BS6.out.alloc (.cells xl.toArray 37)
          have I8 := I6.out.alloc (.cells xl.toArray 37)
          with_reducible generalize w6.alloc (.cells xl.toArray 37) = w8 at BX8 BR8 BS8 I8 ⊢
          generalize w6.heap.size = gX at *
          have m1 := BX8.cell (by rw [List.getElem?_toArray]; exact rx.out.at1)
          have BR8 := hid BR8
          have BS8 := hid BS8
          have I8 := hid I8
          clear BX8 I6 BR6 BS6 I5 BR5 BS5 KF
          by_cases he : res.2 = 0
          · have he1 : (res.2 == 0) = true := by simpa using he
            have he2 : (res.2 != 0) = false := by simpa using he
            by_cases hx : (v.getD zeroI).kind = 1
            · have hx1 : ((v.getD zeroI).kind == 1) = true := by simpa using hx
              have hx2 : ((v.getD zeroI).kind != 1) = false := by simpa using hx
              go_wp2_with fail
              go_roundw
              case rel => exact ⟨rfl, k + 1, cs, h8, by omega, by omega, by go_num, I8, BR8, BS8, hid (by rw [HG.out]; exact R8.out)⟩
              case measure => simp [intOf]; omega
            · have hx1 : ((v.getD zeroI).kind == 1) = false := by simpa using hx
              have hx2 : ((v.getD zeroI).kind != 1) = true := by simpa using hx
              go_wp2_with fail
              go_roundw
              case rel => exact ⟨rfl, k + 1, cs, h8, by omega, by omega, by go_num, I8, BR8, BS8, hid (by rw [HG.out]; exact R8.out)⟩
              case measure => simp [intOf]; omega
          · have he1 : (res.2 == 0) = false := by simpa using he
            have he2 : (res.2 != 0) = true := by simpa using he
            go_wp2_with fail
            go_roundw
            case rel => exact ⟨rfl, k + 1, cs, h8, by omega, by omega, by go_num, I8, BR8, BS8, hid (by rw [HG.out]; exact R8.out)⟩
            case measure => simp [intOf]; omega
        · have hm1 : (m == 7) = false := by simpa using hm7
          have hm2 : (m != 7) = true := by simpa using hm7
          go_upto_region 8 with (go_at_call 24; refine KM.out.mono ?_; rintro e w4 ⟨rfl, F4⟩; have I4 := hid (I3.out.trans F4); have BR4 := hid (BR3.out.ext F4); have BS4 := hid (BS3.out.ext F4); have BO4 := hid (BO3.out.ext F4); clear F4 o0)
          clear I3 BR3 BS3 BO3 KM hm1 hm2 hm7
          obtain ⟨A1, c1, A2, c2, rfl, -⟩ := id R.out
          have s0 := BS4.out.cell (j := 0) (v := .int .i64 s.next) rfl; have s1 := BS4.out.cell (j := 1) (v := .slice A1 s.inodes.length c1) rfl; have s2 := BS4.out.cell (j := 2) (v := .slice A2 s.bads.length c2) rfl
          have o0 := BO4.out.cell (j := 0) (v := .int .i64 o.kind) rfl; have o1 := BO4.out.cell (j := 1) (v := .string o.path) rfl; have o2 := BO4.out.cell (j := 2) (v := .string o.other) rfl; have o3 := BO4.out.cell (j := 3) (v := .int .i64 o.n) rfl
          have I4d := hid I4.out.drew
          have KD := hid (fun (w' : World) (hs' : Sits h' w') => play_deeds s [.int .i64 s.next, .slice A1 s.inodes.length c1, .slice A2 s.bads.length c2] o SP.out SO.out os AO cO HMID.out.n0 (by have := HMID.out.n1; omega) (HMID.out.midI (by decide)) h' w' hs' R.out (RO.out.mono I4.out.le))
          have HL3 := hid (opD_mid HMID.out o os).1
          have KA := hid (fun (h5 : FH) (Ad : Option Addr) (cd : Nat) (w' : World) (hs' : Sits h5 w') (r : repState h5 [.int .i64 s.next, .slice A1 s.inodes.length c1, .slice A2 s.bads.length c2] s) (rd : RowAt h5 Ad (opD s o os)) => ref_Apply s [.int .i64 s.next, .slice A1 s.inodes.length c1, .slice A2 s.bads.length c2] (opD s o os) Ad cd (by have := HMID.out.len; have := HL3.out; omega) (by rw [HMID.out.bad]; have := HL3.out; simp; omega) h5 w' hs' r rd)
          obtain ⟨t, ht⟩ : ∃ t, applyS s (opD s o os) = t := ⟨_, rfl⟩
          rw [ht] at KA HG
          clear ht HMID HL3
          go_region_with (first
            | (go_at_call 25; refine (KD.out _ I4d.out.sits).mono ?_; rintro e w5 ⟨Ad, cd, h5, rfl, kd, rd, F5⟩; have rd := hid rd; have I5 := hid (I4d.out.trans F5); have BR5 := hid (BR4.out.drew.ext F5); have BS5 := hid (BS4.out.drew.ext F5); have R5 := hid (repState.mono F5.le R.out); have t0 := BS5.out.cell (j := 0) (v := .int .i64 s.next) rfl; have t1 := BS5.out.cell (j := 1) (v := .slice A1 s.inodes.length c1) rfl; have t2 := BS5.out.cell (j := 2) (v := .slice A2 s.bads.length c2) rfl; clear F5)
            | (go_at_call 9; refine (KA.out h5 Ad cd _ I5.out.sits R5.out rd.out).mono ?_; rintro e w6 ⟨cs6, h6, rfl, r6, F6⟩; have R6 := hid r6; obtain ⟨A3, c3, A4, c4, rfl, -⟩ := r6; have I6 := hid (I5.out.trans F6); have BR6 := hid (BR5.out.ext F6); have BS6 := hid (BS5.out.ext F6); have u0 := BS6.out.cell (j := 0) (v := .int .i64 s.next) rfl; have u1 := BS6.out.cell (j := 1) (v := .slice A1 s.inodes.length c1) rfl; have u2 := BS6.out.cell (j := 2) (v := .slice A2 s.bads.length c2) rfl; have f0 := BS6.out.open_ 0; have f1 := BS6.out.open_ 1; have f2 := BS6.out.open_ 2; clear F6))
          all_goals
            have BS7 : BoxU w h6 (((w6.setCell ⟨gS, 0, none⟩ (.int .i64 t.next)).setCell ⟨gS, 1, none⟩ (.slice A3 t.inodes.length c3)).setCell ⟨gS, 2, none⟩ (.slice A4 t.bads.length c4)) gS #[.int .i64 t.next, .slice A3 t.inodes.length c3, .slice A4 t.bads.length c4] 31 := BS6.out.sets [.int .i64 t.next, .slice A3 t.inodes.length c3, .slice A4 t.bads.length c4] rfl
            have I7 : Ext h w h6 (((w6.setCell ⟨gS, 0, none⟩ (.int .i64 t.next)).setCell ⟨gS, 1, none⟩ (.slice A3 t.inodes.length c3)).setCell ⟨gS, 2, none⟩ (.slice A4 t.bads.length c4)) := BS6.out.wr I6.out 0 [.int .i64 t.next, .slice A3 t.inodes.length c3, .slice A4 t.bads.length c4]
            have BR7 : BoxU w h6 (((w6.setCell ⟨gS, 0, none⟩ (.int .i64 t.next)).setCell ⟨gS, 1, none⟩ (.slice A3 t.inodes.length c3)).setCell ⟨gS, 2, none⟩ (.slice A4 t.bads.length c4)) gR #[.int .i64 0, .slice none 0 0, .slice none 0 0] 31 := BR6.out.other hne.out 0 [.int .i64 t.next, .slice A3 t.inodes.length c3, .slice A4 t.bads.length c4]
            with_reducible generalize (((w6.setCell ⟨gS, 0, none⟩ (.int .i64 t.next)).setCell ⟨gS, 1, none⟩ (.slice A3 t.inodes.length c3)).setCell ⟨gS, 2, none⟩ (.slice A4 t.bads.length c4)) = w7 at BS7 I7 BR7 ⊢
            have BS7 := hid BS7
            have I7 := hid I7
            have BR7 := hid BR7
            go_wp2_with fail
            go_roundw
            case rel => exact ⟨rfl, k + 1, _, h6, by omega, by omega, by go_num, I7, BR7, BS7, hid (by rw [HG.out]; exact R6.out)⟩
            case measure => simp [intOf]; omega
      · have hk5' : ¬ ((k : Int) < 40) := by omega
        clear hkl'
        have HG := hid (show growK os ops k = grownP os ops from growK_end (.inr (by omega)))
        go_wp2_with (first | (refine wpList_load_row rfl 31 _ rfl gS rfl 31 cs.toArray (0, 0) _ BS.out.row Try.underlying31 rfl (info_State R.out.len) ?_) | (refine wpList_store_row rfl 31 _ _ rfl gR cs.toArray rfl rfl 31 #[.int .i64 0, .slice none 0 0, .slice none 0 0] BR.out.row (info_State R.out.len) (szG3 R.out.len) (one_arr R.out.one) ?_))
        have E9 := BR.out.wrRow I.out cs.toArray
        refine bodyPost_ret (v := .agg cs.toArray) ?_ rfl ⟨cs, h', rfl, (by rw [← HG.out]; exact R.out), E9⟩
        exact results_cell_row (p := 6) (ty := 31) (by kernel_rfl) _ _ gR 31 cs.toArray (0, 0) _ (by simp) (BR.out.setRow cs.toArray).row Try.underlying31 rfl (info_State R.out.len)
    · have hkl' : ¬ ((k : Int) < (ops.length : Int)) := by omega
      have HG := hid (show growK os ops k = grownP os ops from growK_end (.inl (by omega)))
      go_wp2_with (first | (refine wpList_load_row rfl 31 _ rfl gS rfl 31 cs.toArray (0, 0) _ BS.out.row Try.underlying31 rfl (info_State R.out.len) ?_) | (refine wpList_store_row rfl 31 _ _ rfl gR cs.toArray rfl rfl 31 #[.int .i64 0, .slice none 0 0, .slice none 0 0] BR.out.row (info_State R.out.len) (szG3 R.out.len) (one_arr R.out.one) ?_))
      have E9 := BR.out.wrRow I.out cs.toArray
      refine bodyPost_ret (v := .agg cs.toArray) ?_ rfl ⟨cs, h', rfl, (by rw [← HG.out]; exact R.out), E9⟩
      exact results_cell_row (p := 6) (ty := 31) (by kernel_rfl) _ _ gR 31 cs.toArray (0, 0) _ (by simp) (BR.out.setRow cs.toArray).row Try.underlying31 rfl (info_State R.out.len)

set_option maxHeartbeats 8000000 in
set_option maxRecDepth 100000 in
theorem play_Small (ops : List POp) (A : Option Addr) (c : Nat) (h : FH) (w : World) (hs : Sits h w) (ra : RowAt h A ops) :
    Calls Try.prog 5 #[.slice A ops.length c] w fun e w' => ∃ b, e = .returned (.bool b) ∧ Ext h w h w' := by
  have RA := hid ra
  have hal := ra.1
  have E0 := hid (Ext.refl hs)
  clear ra
  go_enter Try.func5, Try.ntmps5
  go_wp2_with fail
  go_loopw [3, 4] (fun n i wr => ∃ (k : Nat) (z : Int), k ≤ ops.length ∧ n = .int .i64 z ∧ i = .int .i64 (k : Int) ∧ Hid (Ext h w h wr)) (fun _ i _ => ops.length - (intOf i).toNat)
  case atStart => exact ⟨0, 0, Nat.zero_le _, rfl, rfl, E0⟩
  case round =>
    obtain ⟨k, z, hk, rfl, rfl, I⟩ := hrel
    by_cases hkl : k < ops.length
    · have hkl' : (k : Int) < (ops.length : Int) := by omega
      obtain ⟨o, ho⟩ : ∃ o, ops[k]? = some o := ⟨_, List.getElem?_eq_getElem hkl⟩
      obtain ⟨b, off, hix, e0, e1, e2, e3, sp, so⟩ := RA.out.ixPOp ho I.out.sits c
      clear ho e0 e3
      go_upto_region 5 with (fail)
      go_region
      go_wp2_with fail
      go_roundw
      case rel => exact ⟨k + 1, _, by omega, rfl, by go_num, hid I.out.drew⟩
      case measure => simp [intOf]; omega
    · have hkl' : ¬ ((k : Int) < (ops.length : Int)) := by omega
      by_cases hz : z ≤ 20000
      · go_wp2
        exact bodyPost_ret (v := .bool true) (by simp [results, Try.results5, go_sem]) rfl ⟨.inr rfl, I.out⟩
      · go_wp2
        exact bodyPost_ret (v := .bool false) (by simp [results, Try.results5, go_sem]) rfl ⟨.inl rfl, I.out⟩

end Go.Proofs.Ytkglaofiencfdaa
