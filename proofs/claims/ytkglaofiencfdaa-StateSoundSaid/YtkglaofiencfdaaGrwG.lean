import Derived.Test.YtkglaofiencfdaaGrw
import Derived.Test.YtkglaofiencfdaaGrG
import Derived.Test.YtkglaofiencfdaaRunsOf
import Derived.Test.YtkglaofiencfdaaBxA
import Derived.Test.YtkglaofiencfdaaBox
namespace Go.Proofs.Ytkglaofiencfdaa
open Go.RowKit Go.Sort
set_option linter.unusedVariables false
theorem growX_end {p : Int} {os : List Int} {ops : List POp} {k : Nat} (h : (k = ops.length ∧ k ≤ 40) ∨ k = 40) : growX p os ops k = growX p os ops 40 := by
  unfold growX
  rcases h with ⟨h, h2⟩ | h
  · rw [List.take_of_length_le (by omega), List.take_of_length_le (by omega)]
  · rw [h]
set_option maxHeartbeats 32000000 in
set_option maxRecDepth 100000 in
theorem play_GrownG (p : Int) (hp0 : 0 ≤ p) (hp1 : p ≤ 1000000) (ops : List POp) (A : Option Addr) (c : Nat) (os : List Int) (AO : Option Addr) (cO : Nat) (h : FH) (w : World) (hs : Sits h w) (ra : RowAt h A ops) (ro : RowAt h AO os) :
    Calls Try.prog 8 #[.slice A ops.length c, .slice AO os.length cO, .int .i64 p] w fun e w' => RetState h w (growX p os ops 40).1 e w' := by
  have RA := hid ra
  have RO := hid ro
  have hal := ra.1
  clear ra ro
  have B0 := BoxU.new (Ext.refl hs) #[.int .i64 0, .slice none 0 0, .slice none 0 0] 31
  have E0 := (Ext.refl hs).alloc (.cells #[.int .i64 0, .slice none 0 0, .slice none 0 0] 31)
  go_enter Try.func8, Try.ntmps8
  go_upto_region 1 with (fail)
  obtain ⟨gR, hgR⟩ : ∃ g, g = w.heap.size := ⟨_, rfl⟩
  rw [← hgR] at B0 ⊢
  with_reducible generalize w.alloc (.cells #[.int .i64 0, .slice none 0 0, .slice none 0 0] 31) = w0 at B0 E0 ⊢
  clear hgR
  have KN := hid (ref_NewState h w0 E0.sits)
  have B0 := hid B0
  have E0 := hid E0
  go_upto_region 2 with (first | (go_at_call 23; refine KN.out.mono ?_; rintro e w1 ⟨cs0, h1, rfl, rs, F1⟩; have E1 := hid (E0.out.trans F1); have B1 := hid (B0.out.ext F1); have RN := hid rs; clear F1 rs) | (refine wpList_store_row rfl 31 _ _ rfl w1.heap.size cs0.toArray rfl rfl 31 #[.int .i64 0, .slice none 0 0, .slice none 0 0] (heap_new w1 _) (info_State RN.out.len) (szG3 RN.out.len) (one_arr RN.out.one) ?_))
  rw [World.setRow_alloc_new]
  have B2 := B1.out.alloc (.cells cs0.toArray 31)
  have S2 := BoxU.new E1.out cs0.toArray 31
  have E2 := E1.out.alloc (.cells cs0.toArray 31)
  have hne := hid (Nat.ne_of_lt B1.out.lt)
  with_reducible generalize w1.alloc (.cells cs0.toArray 31) = w2 at B2 S2 E2 ⊢
  generalize w1.heap.size = gS at *
  have B2 := hid B2
  have S2 := hid S2
  have E2 := hid E2
  clear KN E1 B1 E0 B0
  go_wp2_with fail
  go_loopw [8, 9] (fun s8 i wr => ∃ (nx : Int) (s : State) (k : Nat) (cs : List Value) (h' : FH), s8 = .int .i64 nx ∧ Hid (growX p os ops k = (s, nx)) ∧ k ≤ ops.length ∧ k ≤ 40 ∧ i = .int .i64 (k : Int) ∧ Hid (Ext h w h' wr) ∧ Hid (BoxU w h' wr gR #[.int .i64 0, .slice none 0 0, .slice none 0 0] 31) ∧ Hid (BoxU w h' wr gS cs.toArray 31) ∧ Hid (repState h' cs s)) (fun _ i _ => 41 - (intOf i).toNat)
  case atStart => exact ⟨0, newS, 0, cs0, h1, rfl, hid rfl, Nat.zero_le _, by omega, rfl, E2, B2, S2, RN⟩
  case round =>
    obtain ⟨nx, s, k, cs, h', rfl, HQ, hk, hk4, rfl, I, BR, BS, R⟩ := hrel
    by_cases hkl : k < ops.length
    · have hkl' : (k : Int) < (ops.length : Int) := by omega
      by_cases hk5 : k < 40
      · have hk5' : (k : Int) < 40 := by omega
        obtain ⟨o, ho⟩ : ∃ o, ops[k]? = some o := ⟨_, List.getElem?_eq_getElem hkl⟩
        have HG := hid (show growX p os ops (k + 1) = growW p os (s, nx) o by rw [growX_succ p os ho, HQ.out])
        obtain ⟨b, off, hix, e0, e1, e2, e3, sp, so⟩ := (RA.out.mono I.out.le).ixPOp ho I.out.sits c
        have hgi := growX_ok p os ops k hk4
        rw [HQ.out] at hgi
        have HSND := hid (show Snd s from hgi.snd)
        have HMID := hid (show MidG (fun _ _ => True) k k s from hgi.mid)
        have HPL := hid (show PlF s.inodes nx from hgi.pl)
        have hn0 : 0 ≤ nx := hgi.n0
        have hn1 : nx ≤ (k : Int) := hgi.n1
        have SP := hid sp
        have SO := hid so
        clear ho sp so hgi
        go_upto_region 7 with (first | (refine wpList_store_row rfl 59 _ _ rfl wr.heap.size #[.int .i64 o.kind, .string o.path, .string o.other, .int .i64 o.n] rfl rfl 59 #[.int .i64 0, .string ⟨#[]⟩, .string ⟨#[]⟩, .int .i64 0] (heap_new wr _) (by kernel_rfl) rfl rfl ?_))
        (try rw [World.setRow_alloc_new])
        have BO3 := BoxU.new I.out #[.int .i64 o.kind, .string o.path, .string o.other, .int .i64 o.n] 59
        have BR3 := BR.out.alloc (.cells #[.int .i64 o.kind, .string o.path, .string o.other, .int .i64 o.n] 59)
        have BS3 := BS.out.alloc (.cells #[.int .i64 o.kind, .string o.path, .string o.other, .int .i64 o.n] 59)
        have I3 := I.out.alloc (.cells #[.int .i64 o.kind, .string o.path, .string o.other, .int .i64 o.n] 59)
        with_reducible generalize wr.alloc (.cells #[.int .i64 o.kind, .string o.path, .string o.other, .int .i64 o.n] 59) = w3 at BO3 BR3 BS3 I3 ⊢
        generalize wr.heap.size = gO at *
        have BO3 := hid BO3
        have BR3 := hid BR3
        have BS3 := hid BS3
        have I3 := hid I3
        clear hix e0 e1 e2 e3 I BS BR
        obtain ⟨m, hm⟩ : ∃ m, modP o.kind 8 = m := ⟨_, rfl⟩
        have KM := hid (play_mod8 o.kind h' w3 I3.out.sits)
        rw [hm] at KM
        have HM := hid hm
        clear hm
        have o0 := BO3.out.cell (j := 0) (v := .int .i64 o.kind) rfl
        by_cases hm7 : m = 7
        · subst hm7
          go_upto_region 9 with (go_at_call 24; refine KM.out.mono ?_; rintro e w4 ⟨rfl, F4⟩; have I4 := hid (I3.out.trans F4); have BR4 := hid (BR3.out.ext F4); have BS4 := hid (BS3.out.ext F4); have BO4 := hid (BO3.out.ext F4); clear F4 o0)
          clear I3 BR3 BS3 BO3 KM
          have R4 := R
          have o1 := BO4.out.cell (j := 1) (v := .string o.path) rfl
          obtain ⟨res, hres⟩ : ∃ r, resolveP s.inodes o.path true = r := ⟨_, rfl⟩
          have KR := hid (ref_Resolve s cs o.path SP.out true res hres h' w4 I4.out.sits R.out)
          have HRES := hid hres
          clear hres
          go_upto_region 10 with (first | (refine wpList_load_row rfl 31 _ rfl gS rfl 31 cs.toArray (0, 0) _ BS4.out.row Try.underlying31 rfl (info_State R4.out.len) ?_) | (go_at_call 26; refine KR.out.mono ?_; rintro e w5 ⟨rfl, F5⟩; have I5 := hid (I4.out.trans F5); have BR5 := hid (BR4.out.ext F5); have BS5 := hid (BS4.out.ext F5); have BO5 := hid (BO4.out.ext F5); clear F5 o1))
          have R5 := R
          obtain ⟨v, hv⟩ : ∃ v, findI s.inodes res.1 = v := ⟨_, rfl⟩
          have KF := hid (ref_FindInode s cs res.1 v hv h' w5 I5.out.sits R.out)
          have HV := hid hv
          clear hv KR I4 BR4 BS4 BO4
          go_upto_region 11 with (first | (refine wpList_load_row rfl 31 _ rfl gS rfl 31 cs.toArray (0, 0) _ BS5.out.row Try.underlying31 rfl (info_State R5.out.len) ?_) | (go_at_call 14; refine KF.out.mono ?_; rintro e w6 ⟨xl, h8, rfl, rx, F6⟩; have rx := hid rx; have I6 := hid (I5.out.trans F6); have BR6 := hid (BR5.out.ext F6); have BS6 := hid (BS5.out.ext F6); have BO6 := hid (BO5.out.ext F6); have R8 := hid (repState.mono F6.le R.out); clear F6) | (refine wpList_store_row rfl 37 _ _ rfl w6.heap.size xl.toArray rfl rfl 37 #[.int .i64 0, .int .i64 0, .int .i64 0, .int .i64 0, .string ⟨#[]⟩, .slice none 0 0, .slice none 0 0] (heap_new w6 _) (info_Inode rx.out.len) (zi_size rx.out) (one_arr rx.out.one) ?_))
          rw [World.setRow_alloc_new]
          have BX8 := BoxU.new I6.out xl.toArray 37
          have BR8 := BR6.out.alloc (.cells xl.toArray 37)
          have BS8 := BS6.out.alloc (.cells xl.toArray 37)
          have BO8 := BO6.out.alloc (.cells xl.toArray 37)
          have I8 := I6.out.alloc (.cells xl.toArray 37)
          have hneR := hid (Nat.ne_of_lt BR6.out.lt)
          have hneS := hid (Nat.ne_of_lt BS6.out.lt)
          have hneO := hid (Nat.ne_of_lt BO6.out.lt)
          with_reducible generalize w6.alloc (.cells xl.toArray 37) = w8 at BX8 BR8 BS8 BO8 I8 ⊢
          generalize w6.heap.size = gX at *
          have BR8 := hid BR8
          have BS8 := hid BS8
          have BO8 := hid BO8
          have I8 := hid I8
          obtain ⟨x, hxv⟩ : ∃ x, v.getD zeroI = x := ⟨_, rfl⟩
          rw [hxv] at rx
          have HPX := hid (show pageX s o = x by unfold pageX; rw [HRES.out, HV.out]; exact hxv)
          have rx0 := rx.out
          obtain ⟨B5, d5, B6, d6, rfl, t0, t1, t2, t3, t4⟩ := rx0
          have m1 := BX8.cell (j := 1) (v := .int .i64 x.kind) rfl
          have BX8 := hid BX8
          clear I6 BR6 BS6 BO6 I5 BR5 BS5 BO5 KF
          by_cases he : res.2 = 0
          · have he1 : (res.2 == 0) = true := by simpa using he
            have he2 : (res.2 != 0) = false := by simpa using he
            by_cases hx : x.kind = 1
            · have hx1 : (x.kind == 1) = true := by simpa using hx
              have hx2 : (x.kind != 1) = false := by simpa using hx
              by_cases hpn : p ≤ nx
              · have HC := hid (show (resolveP s.inodes o.path true).2 ≠ 0 ∨ (pageX s o).kind ≠ 1 ∨ p ≤ nx from .inr (.inr hpn))
                have HX2 := hid (show growX p os ops (k + 1) = (s, nx) from HG.out.trans (by unfold growW; rw [if_pos HM.out]; show pageS p s nx o = _; unfold pageS; rw [if_pos HC.out]))
                go_wp2_with fail
                go_roundw
                case rel => exact ⟨nx, s, k + 1, cs, h8, rfl, HX2, by omega, by omega, by go_num, I8, BR8, BS8, R8⟩
                case measure => simp [intOf]; omega
              have HX2 := hid (show growX p os ops (k + 1) = (applyS s [putD (pageI x (modP o.n 8) nx)], nx + 1) from HG.out.trans (by
                unfold growW
                rw [if_pos HM.out]
                show pageS p s nx o = _
                unfold pageS
                rw [if_neg (by rw [HRES.out, HPX.out]; simp [he, hx, hpn]), HPX.out]))
              have hmem : x ∈ s.inodes := by
                have h1 := pageX_of (s := s) (o := o) (by rw [HPX.out]; exact hx)
                rw [HPX.out] at h1
                exact mem_of_findI h1
              have hrt := HPL.out.rt x hmem
              obtain ⟨hm0, hm8⟩ := modP_range o.n (n := 8) (by decide)
              obtain ⟨m8, hm8e⟩ : ∃ m, modP o.n 8 = m := ⟨_, rfl⟩
              have KM8 := hid (play_mod8 o.n h8 w8 I8.out.sits)
              rw [hm8e] at KM8 HX2 hm0 hm8
              clear he hx hmem hm8e HRES HPX HV
              have o3 := BO8.out.cell (j := 3) (v := .int .i64 o.n) rfl
              go_upto_region 13 with (go_at_call 24; refine KM8.out.mono ?_; rintro e w9 ⟨rfl, F9⟩; have I9 := hid (I8.out.trans F9); have BR9 := hid (BR8.out.ext F9); have BS9 := hid (BS8.out.ext F9); have BO9 := hid (BO8.out.ext F9); have BX9 := hid (BX8.out.ext F9); clear F9 o3)
              clear KM8 m1 I8 BR8 BS8 BO8 BX8
              have x6 := BX9.out.cell (j := 6) (v := .slice B6 x.runs.length d6) rfl
              have KS := hid (ref_SetRun x.runs B6 d6 hrt m8 nx hm0 (by omega) hn0 (by omega) h8 w9 I9.out.sits t4)
              have hset := right_len (set_right x.runs hrt (i := m8) (a := nx) hm0 (by omega) hn0 (by omega)).1
              have HSET := hid hset
              clear hset
              go_upto_region 14 with (go_at_call 27; refine KS.out.mono ?_; rintro e w10 ⟨vr, rfl, OR, FR⟩; obtain ⟨h10, A9, c9, rfl, rR, lR, ER, hcR, hmR, hnR, -⟩ := OR.stayX FR (Nat.le_refl _) (by have := HSET.out; omega); have I10 := hid (I9.out.trans ER); have BR10 := hid (BR9.out.ext ER); have BS10 := hid (BS9.out.ext ER); have BO10 := hid (BO9.out.ext ER); have BX10 := hid (BX9.out.ext ER); have rR := hid rR; have lR := hid lR; have kR := hid (⟨hcR, hnR, hmR⟩ : CapLe A9 (setR x.runs m8 nx).length c9); have f6 := BX10.out.open_ 6; have x6 := BX10.out.cell (j := 6) (v := .slice B6 x.runs.length d6) rfl; clear OR FR ER hcR hmR hnR)
              clear KS x6 f6 I9 BR9 BS9 BO9 BX9
              have BX11 : BoxU w _ (w10.setCell ⟨gX, 6, none⟩ (.slice A9 (setR x.runs m8 nx).length c9)) gX #[.int .i64 x.no, .int .i64 x.kind, .int .i64 x.links, .int .i64 x.size, .string x.target, .slice B5 x.entries.length d5, .slice A9 (setR x.runs m8 nx).length c9] 37 := BX10.out.part 6 [.slice A9 (setR x.runs m8 nx).length c9] (Nat.le_of_ble_eq_true rfl)
              have I11 : Ext h w _ (w10.setCell ⟨gX, 6, none⟩ (.slice A9 (setR x.runs m8 nx).length c9)) := BX10.out.wr I10.out 6 [.slice A9 (setR x.runs m8 nx).length c9]
              have BR11 : BoxU w _ (w10.setCell ⟨gX, 6, none⟩ (.slice A9 (setR x.runs m8 nx).length c9)) _ _ _ := BR10.out.other hneR.out 6 [.slice A9 (setR x.runs m8 nx).length c9]
              have BS11 : BoxU w _ (w10.setCell ⟨gX, 6, none⟩ (.slice A9 (setR x.runs m8 nx).length c9)) _ _ _ := BS10.out.other hneS.out 6 [.slice A9 (setR x.runs m8 nx).length c9]
              have BO11 : BoxU w _ (w10.setCell ⟨gX, 6, none⟩ (.slice A9 (setR x.runs m8 nx).length c9)) _ _ _ := BO10.out.other hneO.out 6 [.slice A9 (setR x.runs m8 nx).length c9]
              with_reducible generalize (w10.setCell ⟨gX, 6, none⟩ (.slice A9 (setR x.runs m8 nx).length c9)) = w11 at BX11 I11 BR11 BS11 BO11 ⊢
              have BX11 := hid BX11
              have I11 := hid I11
              have BR11 := hid BR11
              have BS11 := hid BS11
              have BO11 := hid BO11
              clear I10 BR10 BS10 BO10 BX10
              have x3 := BX11.out.cell (j := 3) (v := .int .i64 x.size) rfl
              have f3 := BX11.out.open_ 3
              have hmw : IntKind.i64.wrap (m8 + 1) = m8 + 1 := by rw [IntKind.wrap_i64]; omega
              have hmw2 : IntKind.i64.wrap ((m8 + 1) * 16) = (m8 + 1) * 16 := by rw [IntKind.wrap_i64]; omega
              have hmax := fun ts t (w : World) => show (Builtin.max_ ts t #[.int .i64 x.size, .int .i64 ((m8 + 1) * 16)]).run Try.prog w = .ok (.int .i64 (max x.size ((m8 + 1) * 16))) w by rw [run_max_int2]; congr 2; split <;> omega
              go_upto_region 15 with (fail)
              clear x3 f3 hmw hmw2 hmax
              have BX12 : BoxU w _ (w11.setCell ⟨gX, 3, none⟩ (.int .i64 (max x.size ((m8 + 1) * 16)))) gX #[.int .i64 x.no, .int .i64 x.kind, .int .i64 x.links, .int .i64 (max x.size ((m8 + 1) * 16)), .string x.target, .slice B5 x.entries.length d5, .slice A9 (setR x.runs m8 nx).length c9] 37 := BX11.out.part 3 [.int .i64 (max x.size ((m8 + 1) * 16))] (Nat.le_of_ble_eq_true rfl)
              have I12 : Ext h w _ (w11.setCell ⟨gX, 3, none⟩ (.int .i64 (max x.size ((m8 + 1) * 16)))) := BX11.out.wr I11.out 3 [.int .i64 (max x.size ((m8 + 1) * 16))]
              have BR12 : BoxU w _ (w11.setCell ⟨gX, 3, none⟩ (.int .i64 (max x.size ((m8 + 1) * 16)))) _ _ _ := BR11.out.other hneR.out 3 [.int .i64 (max x.size ((m8 + 1) * 16))]
              have BS12 : BoxU w _ (w11.setCell ⟨gX, 3, none⟩ (.int .i64 (max x.size ((m8 + 1) * 16)))) _ _ _ := BS11.out.other hneS.out 3 [.int .i64 (max x.size ((m8 + 1) * 16))]
              have BO12 : BoxU w _ (w11.setCell ⟨gX, 3, none⟩ (.int .i64 (max x.size ((m8 + 1) * 16)))) _ _ _ := BO11.out.other hneO.out 3 [.int .i64 (max x.size ((m8 + 1) * 16))]
              with_reducible generalize (w11.setCell ⟨gX, 3, none⟩ (.int .i64 (max x.size ((m8 + 1) * 16)))) = w12 at BX12 I12 BR12 BS12 BO12 ⊢
              have BX12 := hid BX12
              have I12 := hid I12
              have BR12 := hid BR12
              have BS12 := hid BS12
              have BO12 := hid BO12
              clear I11 BR11 BS11 BO11 BX11
              have R12 := hid (repState.mono lR.out R8.out)
              have RD := hid (show repDeed h10 [.int .i64 2, .int .i64 0, .int .i64 x.no, .int .i64 x.kind, .int .i64 x.links, .int .i64 (max x.size ((m8 + 1) * 16)), .string x.target, .slice B5 x.entries.length d5, .slice A9 (setR x.runs m8 nx).length c9] (putD (pageI x m8 nx)) from ⟨B5, d5, A9, c9, rfl, t0, t1, t2.mono lR.out, kR.out, rR.out⟩)
              have x0 := BX12.out.cell (j := 0) (v := .int .i64 x.no) rfl; have x1 := BX12.out.cell (j := 1) (v := .int .i64 x.kind) rfl; have x2 := BX12.out.cell (j := 2) (v := .int .i64 x.links) rfl; have x3 := BX12.out.cell (j := 3) (v := .int .i64 (max x.size ((m8 + 1) * 16))) rfl; have x4 := BX12.out.cell (j := 4) (v := .string x.target) rfl; have x5 := BX12.out.cell (j := 5) (v := .slice B5 x.entries.length d5) rfl; have x6 := BX12.out.cell (j := 6) (v := .slice A9 (setR x.runs m8 nx).length c9) rfl
              have KA := hid (fun (h9 : FH) (gD : Nat) (w' : World) (hs' : Sits h9 w') (r9 : repState h9 cs s) (rd : RowAt h9 (some ⟨gD, 0, none⟩) [putD (pageI x m8 nx)]) => ref_Apply s cs [putD (pageI x m8 nx)] (some ⟨gD, 0, none⟩) 1 (by have := HMID.out.len; simp; omega) (by rw [HMID.out.bad]; simp) h9 w' hs' r9 rd)
              obtain ⟨t, ht⟩ : ∃ t, applyS s [putD (pageI x m8 nx)] = t := ⟨_, rfl⟩
              rw [ht] at KA HX2
              have hnw : IntKind.i64.wrap (nx + 1) = nx + 1 := by rw [IntKind.wrap_i64]; omega
              clear ht t0 t1 t2 t3 t4 hrt hm0 hm8
              go_wp2_with (first | (refine wpList_load_row rfl 31 _ rfl gS rfl 31 cs.toArray (0, 0) _ BS12.out.row Try.underlying31 rfl (info_State R12.out.len) ?_) | (go_at_call 9; obtain ⟨h9, F9, hb9, l9, -⟩ := (Ext.refl I12.out.sits).boxF #[.int .i64 2, .int .i64 0, .int .i64 x.no, .int .i64 x.kind, .int .i64 x.links, .int .i64 (max x.size ((m8 + 1) * 16)), .string x.target, .slice B5 x.entries.length d5, .slice A9 (setR x.runs m8 nx).length c9] 39; have I13 := hid (I12.out.trans F9); have BS13 := hid (BS12.out.ext F9); have BR13 := hid (BR12.out.ext F9); refine (KA.out h9 w12.heap.size _ F9.sits (repState.mono l9 R12.out) (RowAt.of_block hb9 (Reps.single (RD.out.mono l9)) (by simp))).mono ?_; rintro e w16 ⟨cs6, h16, rfl, r16, F16⟩; have R16 := hid r16; have I16 := hid (I13.out.trans F16); have BS16 := hid (BS13.out.ext F16); have BR16 := hid (BR13.out.ext F16); clear F16 r16 F9) | (refine wpList_store_row rfl 31 _ _ rfl gS cs6.toArray rfl rfl 31 cs.toArray BS16.out.row (info_State R16.out.len) (by rw [List.size_toArray, List.size_toArray, R12.out.len, R16.out.len]) (one_arr R16.out.one) ?_))
              have BS17 := BS16.out.setRow cs6.toArray
              have I17 := BS16.out.wrRow I16.out cs6.toArray
              have BR17 := BR16.out.rowOther hne.out cs6.toArray
              with_reducible generalize w16.setRow gS cs6.toArray = w17 at BS17 I17 BR17 ⊢
              go_roundw
              case rel => exact ⟨nx + 1, t, k + 1, cs6, h16, by go_num, HX2, by omega, by omega, by go_num, hid I17, hid BR17, hid BS17, R16⟩
              case measure => simp [intOf]; omega
            · have hx1 : (x.kind == 1) = false := by simpa using hx
              have hx2 : (x.kind != 1) = true := by simpa using hx
              have HC := hid (show (resolveP s.inodes o.path true).2 ≠ 0 ∨ (pageX s o).kind ≠ 1 ∨ p ≤ nx from .inr (.inl (by rw [HPX.out]; exact hx)))
              have HX2 := hid (show growX p os ops (k + 1) = (s, nx) from HG.out.trans (by unfold growW; rw [if_pos HM.out]; show pageS p s nx o = _; unfold pageS; rw [if_pos HC.out]))
              go_wp2_with fail
              go_roundw
              case rel => exact ⟨nx, s, k + 1, cs, h8, rfl, HX2, by omega, by omega, by go_num, I8, BR8, BS8, R8⟩
              case measure => simp [intOf]; omega
          · have he1 : (res.2 == 0) = false := by simpa using he
            have he2 : (res.2 != 0) = true := by simpa using he
            have HC := hid (show (resolveP s.inodes o.path true).2 ≠ 0 ∨ (pageX s o).kind ≠ 1 ∨ p ≤ nx from .inl (by rw [HRES.out]; exact he))
            have HX2 := hid (show growX p os ops (k + 1) = (s, nx) from HG.out.trans (by unfold growW; rw [if_pos HM.out]; show pageS p s nx o = _; unfold pageS; rw [if_pos HC.out]))
            go_wp2_with fail
            go_roundw
            case rel => exact ⟨nx, s, k + 1, cs, h8, rfl, HX2, by omega, by omega, by go_num, I8, BR8, BS8, R8⟩
            case measure => simp [intOf]; omega
        · have hm1 : (m == 7) = false := by simpa using hm7
          have hm2 : (m != 7) = true := by simpa using hm7
          have HX2 := hid (show growX p os ops (k + 1) = (applyS s (opD s o os), nx) from HG.out.trans (by unfold growW; rw [if_neg (by rw [HM.out]; exact hm7)]))
          go_upto_region 8 with (go_at_call 24; refine KM.out.mono ?_; rintro e w4 ⟨rfl, F4⟩; have I4 := hid (I3.out.trans F4); have BR4 := hid (BR3.out.ext F4); have BS4 := hid (BS3.out.ext F4); have BO4 := hid (BO3.out.ext F4); clear F4 o0)
          clear I3 BR3 BS3 BO3 KM hm1 hm2 hm7
          obtain ⟨A1, c1, A2, c2, rfl, -⟩ := id R.out
          have s0 := BS4.out.cell (j := 0) (v := .int .i64 s.next) rfl; have s1 := BS4.out.cell (j := 1) (v := .slice A1 s.inodes.length c1) rfl; have s2 := BS4.out.cell (j := 2) (v := .slice A2 s.bads.length c2) rfl
          have o0 := BO4.out.cell (j := 0) (v := .int .i64 o.kind) rfl; have o1 := BO4.out.cell (j := 1) (v := .string o.path) rfl; have o2 := BO4.out.cell (j := 2) (v := .string o.other) rfl; have o3 := BO4.out.cell (j := 3) (v := .int .i64 o.n) rfl
          have I4d := hid I4.out.drew
          have KD := hid (fun (w' : World) (hs' : Sits h' w') => play_deeds s [.int .i64 s.next, .slice A1 s.inodes.length c1, .slice A2 s.bads.length c2] o SP.out SO.out os AO cO HMID.out.n0 (by have := HMID.out.n1; omega) (HMID.out.midI (by omega)) h' w' hs' R.out (RO.out.mono I4.out.le))
          have HL3 := hid (opD_midQ HMID.out o os).1
          have KA := hid (fun (h5 : FH) (Ad : Option Addr) (cd : Nat) (w' : World) (hs' : Sits h5 w') (r : repState h5 [.int .i64 s.next, .slice A1 s.inodes.length c1, .slice A2 s.bads.length c2] s) (rd : RowAt h5 Ad (opD s o os)) => ref_Apply s [.int .i64 s.next, .slice A1 s.inodes.length c1, .slice A2 s.bads.length c2] (opD s o os) Ad cd (by have := HMID.out.len; have := HL3.out; omega) (by rw [HMID.out.bad]; have := HL3.out; simp; omega) h5 w' hs' r rd)
          obtain ⟨t, ht⟩ : ∃ t, applyS s (opD s o os) = t := ⟨_, rfl⟩
          rw [ht] at KA HX2
          clear ht HL3
          go_region_with (first
            | (go_at_call 25; refine (KD.out _ I4d.out.sits).mono ?_; rintro e w5 ⟨Ad, cd, h5, rfl, kd, rd, F5⟩; have rd := hid rd; have I5 := hid (I4d.out.trans F5); have BR5 := hid (BR4.out.drew.ext F5); have BS5 := hid (BS4.out.drew.ext F5); have R5 := hid (repState.mono F5.le R.out); have t0 := BS5.out.cell (j := 0) (v := .int .i64 s.next) rfl; have t1 := BS5.out.cell (j := 1) (v := .slice A1 s.inodes.length c1) rfl; have t2 := BS5.out.cell (j := 2) (v := .slice A2 s.bads.length c2) rfl; clear F5)
            | (go_at_call 9; refine (KA.out h5 Ad cd _ I5.out.sits R5.out rd.out).mono ?_; rintro e w6 ⟨cs6, h6, rfl, r6, F6⟩; have R6 := hid r6; obtain ⟨A3, c3, A4, c4, rfl, -⟩ := r6; have I6 := hid (I5.out.trans F6); have BR6 := hid (BR5.out.ext F6); have BS6 := hid (BS5.out.ext F6); have u0 := BS6.out.cell (j := 0) (v := .int .i64 s.next) rfl; have u1 := BS6.out.cell (j := 1) (v := .slice A1 s.inodes.length c1) rfl; have u2 := BS6.out.cell (j := 2) (v := .slice A2 s.bads.length c2) rfl; have f0 := BS6.out.open_ 0; have f1 := BS6.out.open_ 1; have f2 := BS6.out.open_ 2; clear F6))
          all_goals
            have BS7 : BoxU w h6 (((w6.setCell ⟨gS, 0, none⟩ (.int .i64 t.next)).setCell ⟨gS, 1, none⟩ (.slice A3 t.inodes.length c3)).setCell ⟨gS, 2, none⟩ (.slice A4 t.bads.length c4)) gS #[.int .i64 t.next, .slice A3 t.inodes.length c3, .slice A4 t.bads.length c4] 31 := BS6.out.sets [.int .i64 t.next, .slice A3 t.inodes.length c3, .slice A4 t.bads.length c4] rfl
            have I7 : Ext h w h6 (((w6.setCell ⟨gS, 0, none⟩ (.int .i64 t.next)).setCell ⟨gS, 1, none⟩ (.slice A3 t.inodes.length c3)).setCell ⟨gS, 2, none⟩ (.slice A4 t.bads.length c4)) := BS6.out.wr I6.out 0 [.int .i64 t.next, .slice A3 t.inodes.length c3, .slice A4 t.bads.length c4]
            have BR7 : BoxU w h6 (((w6.setCell ⟨gS, 0, none⟩ (.int .i64 t.next)).setCell ⟨gS, 1, none⟩ (.slice A3 t.inodes.length c3)).setCell ⟨gS, 2, none⟩ (.slice A4 t.bads.length c4)) gR #[.int .i64 0, .slice none 0 0, .slice none 0 0] 31 := BR6.out.other hne.out 0 [.int .i64 t.next, .slice A3 t.inodes.length c3, .slice A4 t.bads.length c4]
            with_reducible generalize (((w6.setCell ⟨gS, 0, none⟩ (.int .i64 t.next)).setCell ⟨gS, 1, none⟩ (.slice A3 t.inodes.length c3)).setCell ⟨gS, 2, none⟩ (.slice A4 t.bads.length c4)) = w7 at BS7 I7 BR7 ⊢
            have BS7 := hid BS7
            have I7 := hid I7
            have BR7 := hid BR7
            go_wp2_with fail
            go_roundw
            case rel => exact ⟨nx, t, k + 1, _, h6, rfl, HX2, by omega, by omega, by go_num, I7, BR7, BS7, R6⟩
            case measure => simp [intOf]; omega
      · have hk5' : ¬ ((k : Int) < 40) := by omega
        clear hkl'
        have HG := hid (show (growX p os ops 40).1 = s by rw [← growX_end (p := p) (os := os) (ops := ops) (k := k) (.inr (by omega)), HQ.out])
        go_wp2_with (first | (refine wpList_load_row rfl 31 _ rfl gS rfl 31 cs.toArray (0, 0) _ BS.out.row Try.underlying31 rfl (info_State R.out.len) ?_) | (refine wpList_store_row rfl 31 _ _ rfl gR cs.toArray rfl rfl 31 #[.int .i64 0, .slice none 0 0, .slice none 0 0] BR.out.row (info_State R.out.len) (szG3 R.out.len) (one_arr R.out.one) ?_))
        have E9 := BR.out.wrRow I.out cs.toArray
        refine bodyPost_ret (v := .agg cs.toArray) ?_ rfl ⟨cs, h', rfl, (by rw [HG.out]; exact R.out), E9⟩
        exact results_cell_row (p := 6) (ty := 31) (by kernel_rfl) _ _ gR 31 cs.toArray (0, 0) _ (by simp) (BR.out.setRow cs.toArray).row Try.underlying31 rfl (info_State R.out.len)
    · have hkl' : ¬ ((k : Int) < (ops.length : Int)) := by omega
      have HG := hid (show (growX p os ops 40).1 = s by rw [← growX_end (p := p) (os := os) (ops := ops) (k := k) (.inl ⟨by omega, by omega⟩), HQ.out])
      go_wp2_with (first | (refine wpList_load_row rfl 31 _ rfl gS rfl 31 cs.toArray (0, 0) _ BS.out.row Try.underlying31 rfl (info_State R.out.len) ?_) | (refine wpList_store_row rfl 31 _ _ rfl gR cs.toArray rfl rfl 31 #[.int .i64 0, .slice none 0 0, .slice none 0 0] BR.out.row (info_State R.out.len) (szG3 R.out.len) (one_arr R.out.one) ?_))
      have E9 := BR.out.wrRow I.out cs.toArray
      refine bodyPost_ret (v := .agg cs.toArray) ?_ rfl ⟨cs, h', rfl, (by rw [HG.out]; exact R.out), E9⟩
      exact results_cell_row (p := 6) (ty := 31) (by kernel_rfl) _ _ gR 31 cs.toArray (0, 0) _ (by simp) (BR.out.setRow cs.toArray).row Try.underlying31 rfl (info_State R.out.len)

end Go.Proofs.Ytkglaofiencfdaa
