import Derived.Test.YtcnbnehammbncaaDoorWkF
namespace Go.Proofs.YtcnbnehammbncaaDoor
open Go.RowKit Go.Sort
set_option linter.unusedVariables false
set_option maxHeartbeats 8000000 in
set_option maxRecDepth 100000 in
theorem ref_walk (s : State) (cs : List Value) (names : List ByteArray) (A : Option Addr) (c : Nat) (hcN : CapLe A names.length c) (follow : Bool) (res : Int × Int) (hres : walkP s.inodes names follow = res) (hlen : names.length ≤ 900) (h : FH) (w : World) (hs : Sits h w) (rS : repState h cs s) (rN : RowAt h A names) :
    Calls Tryd.prog 33 #[.agg cs.toArray, .slice A names.length c, .bool follow] w fun e w' => e = .returned (.tuple #[.int .i64 res.1, .int .i64 res.2]) ∧ Ext h w h w' := by
  have rS' := rS
  obtain ⟨A1, c1, A2, c2, rfl, l1, r1, l2, r2⟩ := rS'
  have HRES := hid hres
  obtain ⟨h1, E1, hb1, le1, hh1⟩ := (Ext.refl hs).boxF #[.int .i64 s.next, .slice A1 s.inodes.length c1, .slice A2 s.bads.length c2] 28
  clear hres hh1 l1 r1 l2 r2
  go_enter Tryd.func33, Tryd.ntmps33
  go_upto_region 1 with (fail)
  generalize hgS : w.heap.size = gS at *
  with_reducible generalize w.alloc (.cells #[.int .i64 s.next, .slice A1 s.inodes.length c1, .slice A2 s.bads.length c2] 28) = w1 at E1 ⊢
  have s0 : w1.cell? ⟨gS, 0, none⟩ = some (.int .i64 s.next) := Sits_at E1.sits hb1 rfl
  have s1 : w1.cell? ⟨gS, 1, none⟩ = some (.slice A1 s.inodes.length c1) := Sits_at E1.sits hb1 rfl
  have s2 : w1.cell? ⟨gS, 2, none⟩ = some (.slice A2 s.bads.length c2) := Sits_at E1.sits hb1 rfl
  obtain ⟨h2, E2, hb2, le2, hh2⟩ := E1.boxF #[.int .i64 1] 3
  go_upto_region 2 with (fail)
  have hgw : (w1.alloc (.cells #[.int .i64 1] 3)).heap.size = w1.heap.size + 1 := by simp
  have hn1 := E2.sits.none (Nat.le_refl _)
  rw [hgw] at hn1
  have hw1 := E1.size
  have rN2 := rN.mono (le1.trans le2)
  have rS2 := hid (repState.mono (le1.trans le2) rS)
  obtain ⟨g1, hg1⟩ : ∃ g1, g1 = w1.heap.size := ⟨_, rfl⟩
  obtain ⟨gw, hg2⟩ : ∃ gw, gw = w1.heap.size + 1 := ⟨_, rfl⟩
  rw [← hg1] at hb2
  rw [← hg2] at hgw hn1
  simp only [← hg2]
  simp only [← hg1]
  have hbw := heap_new (w1.alloc (.cells #[.int .i64 1] 3)) (.cells #[.int .i64 s.next, .slice A1 s.inodes.length c1, .slice A2 s.bads.length c2, .slice (some ⟨g1, 0, none⟩) 1 1, .int .i64 1, .int .i64 0] 105)
  rw [hgw] at hbw
  have E3 := hid (E2.alloc (.cells #[.int .i64 s.next, .slice A1 s.inodes.length c1, .slice A2 s.bads.length c2, .slice (some ⟨g1, 0, none⟩) 1 1, .int .i64 1, .int .i64 0] 105))
  have I3 : Hid (WkAt h2 ((w1.alloc (.cells #[.int .i64 1] 3)).alloc (.cells #[.int .i64 s.next, .slice A1 s.inodes.length c1, .slice A2 s.bads.length c2, .slice (some ⟨g1, 0, none⟩) 1 1, .int .i64 1, .int .i64 0] 105)) gw s A1 c1 A2 c2 (some ⟨g1, 0, none⟩) 1 st0) := hid ⟨hbw, hn1, ⟨Nat.le_refl _, (fun e => by cases e), by decide⟩, RowAt.of_block hb2 (Reps.single rfl) (by decide)⟩
  have hwgw := hid (show w.heap.size ≤ gw by omega)
  clear hbw hn1 hgw hb2 hh2 E2 le2 s0 s1 s2 E1 le1 hb1 rN hw1 hg1 hg2 hgS
  with_reducible generalize (w1.alloc (.cells #[.int .i64 1] 3)).alloc (.cells #[.int .i64 s.next, .slice A1 s.inodes.length c1, .slice A2 s.bads.length c2, .slice (some ⟨g1, 0, none⟩) 1 1, .int .i64 1, .int .i64 0] 105) = w3 at E3 I3 ⊢
  go_loopg [1] (8 * 402 + names.length + 1) (fun k s1 wr => ∃ (st : Wk) (ns : List ByteArray) (A : Option Addr) (c : Nat) (h' : FH) (K : Option Addr) (cK : Nat), s1 = .slice A ns.length c ∧ Hid (walkF k s.inodes st ns follow = res) ∧ Hid (mW st ns.length < k ∧ st.kept.length + mW st ns.length ≤ 10000 ∧ 1 ≤ st.kept.length ∧ 0 ≤ st.loops ∧ st.loops ≤ 8) ∧ Hid (CapLe A ns.length c) ∧ Hid (RowAt h' A ns) ∧ Hid (WkAt h' wr gw s A1 c1 A2 c2 K cK st) ∧ Hid (Ext h w h' wr))
  case atStart => exact ⟨st0, names, A, c, h2, _, _, rfl, HRES, hid ⟨by show (8 - (0 : Int)).toNat * 402 + names.length < _; omega, by show 1 + ((8 - (0 : Int)).toNat * 402 + names.length) ≤ 10000; omega, by decide, by decide, by decide⟩, hid hcN, hid rN2, I3, E3⟩
  case round =>
    obtain ⟨st, ns, A, c, h', K, cK, rfl, HR, HM, HC, HN, I, E⟩ := hrel
    have hm := HM.out
    have hcc := HC.out
    have c0 := hcc.le
    have c2' := hcc.mx
    have hlN : ns.length ≤ 10000 := by have := hm.2.1; unfold mW at this; omega
    cases ns with
    | nil =>
      have HQ := hid (show res = (st.at_, 0) by
        rw [← HR.out]
        obtain ⟨k, rfl⟩ : ∃ k, gk = k + 1 := ⟨gk - 1, by have := hm.1; omega⟩
        rfl)
      have z4 := box_cell (j := 4) (v := .int .i64 st.at_) I.out.box rfl
      have E := hid E.out.back
      clear HR hm hcc c0 c2' hlN
      go_wp2_with fail
      go_ret2
      exact ⟨by rw [HQ.out]; rfl, E.out⟩
    | cons a rest =>
      obtain ⟨b, off, hx, d0, hsz⟩ := HN.out.ixStr (k := 0) (i := 0) rfl E.out.sits c rfl
      have d0 := E.out.sits.cell d0
      simp only [Nat.add_zero] at hx d0
      obtain ⟨n, hn⟩ : ∃ n, (a :: rest).length = n + 1 := ⟨rest.length, rfl⟩
      have HRD := HN.out.drop1S c c0
      rw [show Enc.sz ByteArray = 1 from rfl] at HRD
      have HNR := hid (show rest.length = n by simpa using hn)
      obtain ⟨⟨st', l, code⟩, hr⟩ : ∃ r, stepW s.inodes st a (follow || decide (0 < rest.length)) = r := ⟨_, rfl⟩
      have HST := hid hr
      have hc1 : (1 : Int) ≤ (c : Int) := by rw [hn] at c0; omega
      have hcn : (n + 1 : Int) ≤ (c : Int) := by rw [hn] at c0; omega
      have hcm : (c : Int) ≤ 9223372036854775807 := by omega
      rw [hn] at hx
      rw [hn]
      clear hr hm hcc c0 c2' hlN hn hcN rN2
      have HN := hid HRD
      clear HRD
      go_upto_region 5 with (fail)
      generalize (if c = 1 then A else Option.map (fun x : Addr => (⟨x.block, x.off + 1, none⟩ : Addr)) A) = A' at HN ⊢
      have hm := HM.out
      obtain ⟨k, rfl⟩ : ∃ k, gk = k + 1 := ⟨gk - 1, by have := hm.1; omega⟩
      obtain ⟨f', hf'⟩ : ∃ f', (follow || decide (0 < rest.length)) = f' := ⟨_, rfl⟩
      have HF := hid hf'
      have HR1 := hid ((walkF_cons HST.out).symm.trans HR.out)
      rw [hf'] at HST
      have KS := hid (ref_step s A1 c1 A2 c2 K cK st a hsz f' gw hm.2.2.1 (by omega) hm.2.2.2.1 (by omega) h' wr E.out.sits (repState.mono E.out.le rS) I.out)
      by_cases hcode : code = 0
      · subst hcode
        have hmm := stepW_meas HST.out hm.2.2.1 hm.2.2.2.1 hm.2.2.2.2 rest.length
        have HR2 := hid (show walkF k s.inodes st' (l ++ rest) follow = res by rw [← HR1.out, if_pos rfl])
        have HM2 := hid (show mW st' (l ++ rest).length < k ∧ st'.kept.length + mW st' (l ++ rest).length ≤ 10000 ∧ 1 ≤ st'.kept.length ∧ 0 ≤ st'.loops ∧ st'.loops ≤ 8 by
          rw [List.length_append]
          simp only [List.length_cons] at hm
          exact ⟨by omega, by omega, hmm.2.2.1, hmm.1, hmm.2.1⟩)
        have hle : l.length + rest.length ≤ 10000 := by have := HM2.out.2.1; rw [List.length_append] at this; unfold mW at this; omega
        have HB1 := hid (show (([] : List ByteArray).length + l.length) * 16 ≤ 140737488355328 by simp; omega)
        have HB2 := hid (show (([] ++ l : List ByteArray).length + rest.length) * 16 ≤ 140737488355328 by simp; omega)
        have HL2 := hid (show ([] ++ l ++ rest : List ByteArray).length ≤ 9223372036854775807 by simp; omega)
        clear hmm hle hf' hm
        cases follow
        · have hd : decide (0 < n) = f' := by rw [← HF.out, HNR.out]; simp
          go_wp2_with (first
            | (go_at_call 54; refine KS.out.mono ?_; rintro e w4 ⟨A9, c9, K', cK', h5, rfl, k9, r9, I9, X9⟩; rw [HST.out] at k9 r9 I9; dsimp only at k9 r9 I9; rw [HST.out]; dsimp only; have k9 := hid k9; have r9 := hid r9; have I9 := hid I9; have E9 := hid (X9.lift E.out (fun k hk => by cases hk; exact hwgw.out)); have l9 := hid X9.le; clear X9)
              | (at_builtin; refine wpList_appendR rfl _ _ 30 rfl w4.heap.size 9 16 ty_Str (.slice none 0 0) [] l rfl (OwnL.nil _ _ _ _) E9.out.sits _ _ _ rfl rfl r9.out HB1.out (by decide) (Nat.le_refl _) ?_; intro v5 w5 O5 hg5 _; have F5 := hid ((Ext.refl E9.out.sits).grown hg5 (fun k hk => by cases hk)); have O5 := hid O5; clear hg5)
            | (at_builtin; refine wpList_appendR rfl _ _ 30 rfl w4.heap.size 9 16 ty_Str _ _ rest rfl O5.out F5.out.sits _ _ _ rfl HNR.out.symm (HN.out.mono l9.out) HB2.out (by decide) F5.out.size ?_; intro v6 w6 O6 hg6 _; have F6 := F5.out.grown hg6 (fun k hk => ⟨(O5.out.lt k hk).1, O5.out.free k hk⟩); obtain ⟨h6, A6', c6', hv6, r6, l6, F12, u0, u1, u2, f6⟩ := O6.stayX F6 (Nat.le_refl _) HL2.out; subst hv6; have I11 := hid (I9.out.more F12); have k6 := hid (show CapLe A6' ([] ++ l ++ rest).length c6' from ⟨u0, u2, u1⟩); have r6 := hid r6; have E12 := hid (E9.out.trans F12); clear u0 u1 u2 f6 l6 hg6 F12 F6 O6))
          go_roundg k
          case rel => exact ⟨st', l ++ rest, A6', c6', h6, K', cK', by rw [List.length_append], HR2, HM2, k6, r6, I11, E12⟩
          case measure => exact Nat.lt_succ_self _
        · have hd : f' = true := HF.out.symm
          subst hd
          go_wp2_with (first
            | (go_at_call 54; refine KS.out.mono ?_; rintro e w4 ⟨A9, c9, K', cK', h5, rfl, k9, r9, I9, X9⟩; rw [HST.out] at k9 r9 I9; dsimp only at k9 r9 I9; rw [HST.out]; dsimp only; have k9 := hid k9; have r9 := hid r9; have I9 := hid I9; have E9 := hid (X9.lift E.out (fun k hk => by cases hk; exact hwgw.out)); have l9 := hid X9.le; clear X9)
            | (at_builtin; refine wpList_appendR rfl _ _ 30 rfl w4.heap.size 9 16 ty_Str (.slice none 0 0) [] l rfl (OwnL.nil _ _ _ _) E9.out.sits _ _ _ rfl rfl r9.out HB1.out (by decide) (Nat.le_refl _) ?_; intro v5 w5 O5 hg5 _; have F5 := hid ((Ext.refl E9.out.sits).grown hg5 (fun k hk => by cases hk)); have O5 := hid O5; clear hg5)
            | (at_builtin; refine wpList_appendR rfl _ _ 30 rfl w4.heap.size 9 16 ty_Str _ _ rest rfl O5.out F5.out.sits _ _ _ rfl HNR.out.symm (HN.out.mono l9.out) HB2.out (by decide) F5.out.size ?_; intro v6 w6 O6 hg6 _; have F6 := F5.out.grown hg6 (fun k hk => ⟨(O5.out.lt k hk).1, O5.out.free k hk⟩); obtain ⟨h6, A6', c6', hv6, r6, l6, F12, u0, u1, u2, f6⟩ := O6.stayX F6 (Nat.le_refl _) HL2.out; subst hv6; have I11 := hid (I9.out.more F12); have k6 := hid (show CapLe A6' ([] ++ l ++ rest).length c6' from ⟨u0, u2, u1⟩); have r6 := hid r6; have E12 := hid (E9.out.trans F12); clear u0 u1 u2 f6 l6 hg6 F12 F6 O6))
          go_roundg k
          case rel => exact ⟨st', l ++ rest, A6', c6', h6, K', cK', by rw [List.length_append], HR2, HM2, k6, r6, I11, E12⟩
          case measure => exact Nat.lt_succ_self _
      · have HQ := hid (show res = (0, code) by rw [← HR1.out, if_neg hcode])
        have hb : (code == 0) = false := by simpa using hcode
        have hb2 : (code != 0) = true := by simpa using hcode
        clear hcode hf' hm
        cases follow
        · have hd : decide (0 < n) = f' := by rw [← HF.out, HNR.out]; simp
          go_wp2_with (go_at_call 54; refine KS.out.mono ?_; rintro e w4 ⟨A9, c9, K', cK', h5, rfl, k9, r9, I9, X9⟩; rw [HST.out] at k9 r9 I9; dsimp only at k9 r9 I9; rw [HST.out]; dsimp only; have k9 := hid k9; have r9 := hid r9; have I9 := hid I9; have E9 := hid (X9.lift E.out (fun k hk => by cases hk; exact hwgw.out)); clear X9)
          go_ret2
          exact ⟨by rw [HQ.out]; rfl, E9.out.back⟩
        · have hd : f' = true := HF.out.symm
          subst hd
          go_wp2_with (go_at_call 54; refine KS.out.mono ?_; rintro e w4 ⟨A9, c9, K', cK', h5, rfl, k9, r9, I9, X9⟩; rw [HST.out] at k9 r9 I9; dsimp only at k9 r9 I9; rw [HST.out]; dsimp only; have k9 := hid k9; have r9 := hid r9; have I9 := hid I9; have E9 := hid (X9.lift E.out (fun k hk => by cases hk; exact hwgw.out)); clear X9)
          go_ret2
          exact ⟨by rw [HQ.out]; rfl, E9.out.back⟩
end Go.Proofs.YtcnbnehammbncaaDoor
