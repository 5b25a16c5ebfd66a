import Derived.Test.YtdiaibkpcnknbaaDoorPkAll
import Derived.Test.YtdiaibkpcnknbaaDoorRMk
namespace Go.Proofs.YtdiaibkpcnknbaaDoor
open Go.RowKit Go.Sort
set_option linter.unusedVariables false
theorem walkF_okAt {xs : List Inode} {f : Bool} : ∀ {n : Nat} {st : Wk}, walkF (n + 1) xs st [] f = (st.at_, 0) := fun {n st} => rfl
theorem walkF_bad {xs : List Inode} {f : Bool} {n : Nat} : ∀ {st : Wk} {names : List ByteArray} {no cd : Int}, walkF n xs st names f = (no, cd) → cd ≠ 0 → no = 0 := by
  induction n with
  | zero => intro st names no cd h _; simp only [walkF, Prod.mk.injEq] at h; exact h.1.symm
  | succ n ih =>
    intro st names no cd h hc
    cases names with
    | nil => simp only [walkF, Prod.mk.injEq] at h; exact absurd h.2.symm hc
    | cons a names =>
      obtain ⟨⟨st', l, code⟩, hr⟩ : ∃ r, stepW xs st a (f || decide (0 < names.length)) = r := ⟨_, rfl⟩
      rw [walkF_cons hr] at h
      by_cases h0 : code = 0
      · rw [if_pos h0] at h; exact ih h hc
      · rw [if_neg h0] at h; simp only [Prod.mk.injEq] at h; exact h.1.symm
theorem walkP_bad {xs : List Inode} {f : Bool} {names : List ByteArray} {no cd : Int} (h : walkP xs names f = (no, cd)) (hc : cd ≠ 0) : no = 0 := walkF_bad h hc
/-- Names are gone on by. -/
def RetNames (B : Nat) (h : FH) (w : World) (gp bm : Nat) (res : Int × Int) (e : Ending) (w' : World) : Prop := ∃ D cD h1 st', e = .returned (.int .i64 res.2) ∧ PkAt B h1 w' gp bm D cD st' ∧ BExt B h w h1 w' ∧ (res.2 = 0 → st'.at_ = res.1)
set_option maxHeartbeats 8000000 in
set_option maxRecDepth 100000 in
theorem path_names (xs : List Inode) (gp bm : Nat) (C : Int → Option Value) (D : Option Addr) (cD : Nat) (B : Nat) (names : List ByteArray) (A : Option Addr) (c : Nat) (hcN : CapLe A names.length c) (follow : Bool) (res : Int × Int) (hres : walkP xs names follow = res) (hlen : names.length ≤ 900) (h : FH) (w : World) (hs : Sits h w) (I : PkAt B h w gp bm D cD st0) (FM : FMap encI h bm C) (HB : ByIs h xs C) (rN : RowAt h A names) :
    Calls Tryd.prog 46 #[.pointer (some ⟨gp, 0, none⟩), .slice A names.length c, .bool follow] w fun e w' => RetNames B h w gp bm res e w' := by
  have HRES := hid hres
  have I0 := hid I
  have hBw := hid I.hw
  clear hres I
  go_enter Tryd.func46, Tryd.ntmps46
  go_wp2_with fail
  go_loopg [1] (8 * 402 + names.length + 1) (fun k s1 wr => ∃ (st : Wk) (ns : List ByteArray) (A : Option Addr) (c : Nat) (h' : FH) (D : Option Addr) (cD : Nat), s1 = .slice A ns.length c ∧ Hid (walkF k xs st ns follow = res) ∧ Hid (mW st ns.length < k ∧ st.kept.length + mW st ns.length ≤ 10000 ∧ 1 ≤ st.kept.length ∧ 0 ≤ st.loops ∧ st.loops ≤ 8) ∧ Hid (CapLe A ns.length c) ∧ Hid (RowAt h' A ns) ∧ Hid (PkAt B h' wr gp bm D cD st) ∧ Hid (BExt B h w h' wr))
  case atStart => exact ⟨st0, names, A, c, h, D, cD, rfl, HRES, hid ⟨by show (8 - (0 : Int)).toNat * 402 + names.length < _; omega, by show 1 + ((8 - (0 : Int)).toNat * 402 + names.length) ≤ 10000; omega, by decide, by decide, by decide⟩, hid hcN, hid rN, I0, hid (BExt.refl hs)⟩
  case round =>
    obtain ⟨st, ns, A, c, h', D, cD, rfl, HR, HM, HC, HN, I, E⟩ := hrel
    have hm := HM.out
    have hcc := HC.out
    have c0 := hcc.le
    have c2' := hcc.mx
    have hlN : ns.length ≤ 10000 := by have := hm.2.1; unfold mW at this; omega
    cases ns with
    | nil =>
      have HQ := hid (show res = (st.at_, 0) by
        rw [← HR.out]
        obtain ⟨k, rfl⟩ : ∃ k, gk = k + 1 := ⟨gk - 1, by have := hm.1; omega⟩
        rfl)
      clear HR hm hcc c0 c2' hlN
      go_wp2_with fail
      go_ret
      exact ⟨D, cD, h', st, by rw [HQ.out]; rfl, I.out, E.out, fun _ => by rw [HQ.out]⟩
    | cons a rest =>
      obtain ⟨b, off, hx, d0, hsz⟩ := HN.out.ixStr (k := 0) (i := 0) rfl E.out.sits c rfl
      have d0 := E.out.sits.cell d0
      simp only [Nat.add_zero] at hx d0
      obtain ⟨n, hn⟩ : ∃ n, (a :: rest).length = n + 1 := ⟨rest.length, rfl⟩
      have HRD := HN.out.drop1S c c0
      rw [show Enc.sz ByteArray = 1 from rfl] at HRD
      have HNR := hid (show rest.length = n by simpa using hn)
      obtain ⟨⟨st', l, code⟩, hr⟩ : ∃ r, stepW xs st a (follow || decide (0 < rest.length)) = r := ⟨_, rfl⟩
      have HST := hid hr
      have hc1 : (1 : Int) ≤ (c : Int) := by rw [hn] at c0; omega
      have hcn : (n + 1 : Int) ≤ (c : Int) := by rw [hn] at c0; omega
      have hcm : (c : Int) ≤ 9223372036854775807 := by omega
      have hrl : n ≤ 10000 := by rw [hn] at hlN; omega
      rw [hn] at hx
      rw [hn]
      clear hr hcc c0 c2' hlN hn hcN rN
      have HN := hid HRD
      clear HRD
      obtain ⟨k, rfl⟩ : ∃ k, gk = k + 1 := ⟨gk - 1, by have := hm.1; omega⟩
      obtain ⟨f', hf'⟩ : ∃ f', (follow || decide (0 < rest.length)) = f' := ⟨_, rfl⟩
      have HF := hid hf'
      have HR1 := hid ((walkF_cons HST.out).symm.trans HR.out)
      rw [hf'] at HST
      have KS := hid (path_step xs gp bm C D cD B st a hsz f' hm.2.2.1 (by omega) hm.2.2.2.1 (by omega) h' wr E.out.sits I.out (FM.mono E.out.le) (HB.mono E.out.le))
      by_cases hcode : code = 0
      · subst hcode
        have hmm := stepW_meas HST.out hm.2.2.1 hm.2.2.2.1 hm.2.2.2.2 rest.length
        have HR2 := hid (show walkF k xs st' (l ++ rest) follow = res by rw [← HR1.out, if_pos rfl])
        have HM2 := hid (show mW st' (l ++ rest).length < k ∧ st'.kept.length + mW st' (l ++ rest).length ≤ 10000 ∧ 1 ≤ st'.kept.length ∧ 0 ≤ st'.loops ∧ st'.loops ≤ 8 by
          rw [List.length_append]
          simp only [List.length_cons] at hm
          exact ⟨by omega, by omega, hmm.2.2.1, hmm.1, hmm.2.1⟩)
        have hle : l.length + rest.length ≤ 10000 := by have := HM2.out.2.1; rw [List.length_append] at this; unfold mW at this; omega
        have HLL := hid (show l.length ≤ 100000 ∧ rest.length ≤ 100000 from ⟨by omega, by omega⟩)
        clear hmm hle hf' hm
        cases follow
        · have hd : decide ((1 : Int) < (n : Int) + 1) = f' := by rw [← HF.out, HNR.out]; simp; omega
          go_upto_region 5 with (go_at_call 66; refine KS.out.mono ?_; rintro e w4 ⟨A9, c9, D', cD', h5, rfl, k9, r9, I9, X9⟩; rw [HST.out] at k9 r9 I9; dsimp only at k9 r9 I9; rw [HST.out]; dsimp only; have k9 := hid k9; have r9 := hid r9; have I9 := hid I9; have E9 := hid (E.out.trans X9); have l9 := hid X9.le; clear X9)
          have HN2 := hid (HN.out.mono l9.out)
          obtain ⟨A', hA'⟩ : ∃ A' : Option Addr, A' = (if c = 1 then A else Option.map (fun x : Addr => (⟨x.block, x.off + 1, none⟩ : Addr)) A) := ⟨_, rfl⟩
          rw [← hA'] at HN2
          clear HN
          by_cases hc1' : c = 1
          · rw [if_pos hc1'] at hA'
            subst hA'
            obtain ⟨h6, E6, hb6, le6, hh6⟩ := (Ext.refl E9.out.sits).boxF #[.slice A9 l.length c9, .slice A' n 0] 79
            have KC := hid (slices_Concat l rest A9 c9 A' 0 w4.heap.size h6 (by rw [HNR.out]; exact hb6) HLL.out.1 HLL.out.2 _ E6.sits (r9.out.mono le6) (HN2.out.mono le6))
            have E6 := hid E6
            have hl0' : ¬ c = 0 := by omega
            clear hh6 hb6
            go_wp2_with (go_at_call 67; refine KC.out.mono ?_; rintro e w7 ⟨v7, rfl, O7, F7⟩; obtain ⟨h8, A8, c8, hv8, r8, l8, F8, u0, u1, u2, f8⟩ := O7.stayX F7 (Nat.le_refl _) (by have := HLL.out; simp; omega); subst hv8; have I8 := hid (I9.out.more (E6.out.trans F8)); have E8 := hid (E9.out.trans (BExt.of (E6.out.trans F8) I9.out.hw)); have k8 := hid (show CapLe A8 (l ++ rest).length c8 from ⟨u0, u2, u1⟩); have r8 := hid r8; clear u0 u1 u2 f8 l8 F8 F7 O7)
            go_roundg k
            case rel => exact ⟨st', l ++ rest, A8, c8, h8, D', cD', by first | rfl | rw [List.length_append], HR2, HM2, k8, r8, I8, E8⟩
            case measure => exact Nat.lt_succ_self _
          · rw [if_neg hc1'] at hA'
            subst hA'
            obtain ⟨h6, E6, hb6, le6, hh6⟩ := (Ext.refl E9.out.sits).boxF #[.slice A9 l.length c9, .slice (Option.map (fun x : Addr => (⟨x.block, x.off + 1, none⟩ : Addr)) A) n (c - 1)] 79
            have KC := hid (slices_Concat l rest A9 c9 (Option.map (fun x : Addr => (⟨x.block, x.off + 1, none⟩ : Addr)) A) (c - 1) w4.heap.size h6 (by rw [HNR.out]; exact hb6) HLL.out.1 HLL.out.2 _ E6.sits (r9.out.mono le6) (HN2.out.mono le6))
            have E6 := hid E6
            have hl0' : ¬ c = 0 := by omega
            clear hh6 hb6
            go_wp2_with (go_at_call 67; refine KC.out.mono ?_; rintro e w7 ⟨v7, rfl, O7, F7⟩; obtain ⟨h8, A8, c8, hv8, r8, l8, F8, u0, u1, u2, f8⟩ := O7.stayX F7 (Nat.le_refl _) (by have := HLL.out; simp; omega); subst hv8; have I8 := hid (I9.out.more (E6.out.trans F8)); have E8 := hid (E9.out.trans (BExt.of (E6.out.trans F8) I9.out.hw)); have k8 := hid (show CapLe A8 (l ++ rest).length c8 from ⟨u0, u2, u1⟩); have r8 := hid r8; clear u0 u1 u2 f8 l8 F8 F7 O7)
            go_roundg k
            case rel => exact ⟨st', l ++ rest, A8, c8, h8, D', cD', by first | rfl | rw [List.length_append], HR2, HM2, k8, r8, I8, E8⟩
            case measure => exact Nat.lt_succ_self _
        · have hd : f' = true := HF.out.symm
          subst hd
          go_upto_region 5 with (go_at_call 66; refine KS.out.mono ?_; rintro e w4 ⟨A9, c9, D', cD', h5, rfl, k9, r9, I9, X9⟩; rw [HST.out] at k9 r9 I9; dsimp only at k9 r9 I9; rw [HST.out]; dsimp only; have k9 := hid k9; have r9 := hid r9; have I9 := hid I9; have E9 := hid (E.out.trans X9); have l9 := hid X9.le; clear X9)
          have HN2 := hid (HN.out.mono l9.out)
          obtain ⟨A', hA'⟩ : ∃ A' : Option Addr, A' = (if c = 1 then A else Option.map (fun x : Addr => (⟨x.block, x.off + 1, none⟩ : Addr)) A) := ⟨_, rfl⟩
          rw [← hA'] at HN2
          clear HN
          by_cases hc1' : c = 1
          · rw [if_pos hc1'] at hA'
            subst hA'
            obtain ⟨h6, E6, hb6, le6, hh6⟩ := (Ext.refl E9.out.sits).boxF #[.slice A9 l.length c9, .slice A' n 0] 79
            have KC := hid (slices_Concat l rest A9 c9 A' 0 w4.heap.size h6 (by rw [HNR.out]; exact hb6) HLL.out.1 HLL.out.2 _ E6.sits (r9.out.mono le6) (HN2.out.mono le6))
            have E6 := hid E6
            have hl0' : ¬ c = 0 := by omega
            clear hh6 hb6
            go_wp2_with (go_at_call 67; refine KC.out.mono ?_; rintro e w7 ⟨v7, rfl, O7, F7⟩; obtain ⟨h8, A8, c8, hv8, r8, l8, F8, u0, u1, u2, f8⟩ := O7.stayX F7 (Nat.le_refl _) (by have := HLL.out; simp; omega); subst hv8; have I8 := hid (I9.out.more (E6.out.trans F8)); have E8 := hid (E9.out.trans (BExt.of (E6.out.trans F8) I9.out.hw)); have k8 := hid (show CapLe A8 (l ++ rest).length c8 from ⟨u0, u2, u1⟩); have r8 := hid r8; clear u0 u1 u2 f8 l8 F8 F7 O7)
            go_roundg k
            case rel => exact ⟨st', l ++ rest, A8, c8, h8, D', cD', by first | rfl | rw [List.length_append], HR2, HM2, k8, r8, I8, E8⟩
            case measure => exact Nat.lt_succ_self _
          · rw [if_neg hc1'] at hA'
            subst hA'
            obtain ⟨h6, E6, hb6, le6, hh6⟩ := (Ext.refl E9.out.sits).boxF #[.slice A9 l.length c9, .slice (Option.map (fun x : Addr => (⟨x.block, x.off + 1, none⟩ : Addr)) A) n (c - 1)] 79
            have KC := hid (slices_Concat l rest A9 c9 (Option.map (fun x : Addr => (⟨x.block, x.off + 1, none⟩ : Addr)) A) (c - 1) w4.heap.size h6 (by rw [HNR.out]; exact hb6) HLL.out.1 HLL.out.2 _ E6.sits (r9.out.mono le6) (HN2.out.mono le6))
            have E6 := hid E6
            have hl0' : ¬ c = 0 := by omega
            clear hh6 hb6
            go_wp2_with (go_at_call 67; refine KC.out.mono ?_; rintro e w7 ⟨v7, rfl, O7, F7⟩; obtain ⟨h8, A8, c8, hv8, r8, l8, F8, u0, u1, u2, f8⟩ := O7.stayX F7 (Nat.le_refl _) (by have := HLL.out; simp; omega); subst hv8; have I8 := hid (I9.out.more (E6.out.trans F8)); have E8 := hid (E9.out.trans (BExt.of (E6.out.trans F8) I9.out.hw)); have k8 := hid (show CapLe A8 (l ++ rest).length c8 from ⟨u0, u2, u1⟩); have r8 := hid r8; clear u0 u1 u2 f8 l8 F8 F7 O7)
            go_roundg k
            case rel => exact ⟨st', l ++ rest, A8, c8, h8, D', cD', by first | rfl | rw [List.length_append], HR2, HM2, k8, r8, I8, E8⟩
            case measure => exact Nat.lt_succ_self _
      · have HQ := hid (show res = (0, code) by rw [← HR1.out, if_neg hcode])
        have hb : (code == 0) = false := by simpa using hcode
        have hb2 : (code != 0) = true := by simpa using hcode
        have HNC := hid hcode
        clear hcode hf' hm
        cases follow
        · have hd : decide ((1 : Int) < (n : Int) + 1) = f' := by rw [← HF.out, HNR.out]; simp; omega
          go_wp2_with (go_at_call 66; refine KS.out.mono ?_; rintro e w4 ⟨A9, c9, D', cD', h5, rfl, k9, r9, I9, X9⟩; rw [HST.out] at k9 r9 I9; dsimp only at k9 r9 I9; rw [HST.out]; dsimp only; have k9 := hid k9; have r9 := hid r9; have I9 := hid I9; have E9 := hid (E.out.trans X9); have l9 := hid X9.le; clear X9)
          go_ret
          exact ⟨D', cD', h5, st', by rw [HQ.out]; rfl, I9.out, E9.out, fun e => absurd (by rw [HQ.out] at e; exact e) HNC.out⟩
        · have hd : f' = true := HF.out.symm
          subst hd
          go_wp2_with (go_at_call 66; refine KS.out.mono ?_; rintro e w4 ⟨A9, c9, D', cD', h5, rfl, k9, r9, I9, X9⟩; rw [HST.out] at k9 r9 I9; dsimp only at k9 r9 I9; rw [HST.out]; dsimp only; have k9 := hid k9; have r9 := hid r9; have I9 := hid I9; have E9 := hid (E.out.trans X9); have l9 := hid X9.le; clear X9)
          go_ret
          exact ⟨D', cD', h5, st', by rw [HQ.out]; rfl, I9.out, E9.out, fun e => absurd (by rw [HQ.out] at e; exact e) HNC.out⟩

set_option maxHeartbeats 8000000 in
set_option maxRecDepth 100000 in
theorem path_Resolve (s : State) (cs : List Value) (path : ByteArray) (hsz : path.size ≤ 9223372036854775807) (follow : Bool) (res : Int × Int) (hres : resolveP s.inodes path follow = res) (h : FH) (w : World) (hs : Sits h w) (rS : repState h cs s) :
    Calls Tryd.prog 21 #[.agg cs.toArray, .string path, .bool follow] w fun e w' => e = .returned (.tuple #[.int .i64 res.1, .int .i64 res.2]) ∧ Ext h w h w' := by
  have rS' := rS
  obtain ⟨A1, c1, A2, c2, rfl, l1, r1, l2, r2⟩ := rS'
  have HRES := hid hres
  obtain ⟨h1, E1, hb1, le1, hh1⟩ := (Ext.refl hs).boxF #[.int .i64 s.next, .slice A1 s.inodes.length c1, .slice A2 s.bads.length c2] 31
  have hwl := (ways_lenW path).1
  clear hres hh1 l1 r1 l2 r2
  go_enter Tryd.func21, Tryd.ntmps21
  go_upto_region 1 with (fail)
  generalize hgS : w.heap.size = gS at *
  with_reducible generalize w.alloc (.cells #[.int .i64 s.next, .slice A1 s.inodes.length c1, .slice A2 s.bads.length c2] 31) = w1 at E1 ⊢
  have KP := hid (name_Split path hsz h1 w1 E1.sits)
  have E1 := hid E1
  have rS := hid rS
  obtain ⟨ls, hls⟩ : ∃ ls, waysXs path = ls := ⟨_, rfl⟩
  obtain ⟨code, hcd⟩ : ∃ code, waysCode path = code := ⟨_, rfl⟩
  rw [hls, hcd] at KP
  rw [hls] at hwl
  have HCD := hid hcd
  have HLS := hid hls
  clear hls hcd
  go_upto_region 2 with (go_at_call 44; refine KP.out.mono ?_; rintro e w2 R; obtain ⟨A, c, h2, rfl, rN, F2, u0, u1, u2⟩ := R.stayX (by omega); have E2 := hid (E1.out.trans F2); have rN := hid rN; have HC := hid (show CapLe A ls.length c from ⟨u1, u0, u2⟩); have l2 := hid F2.le; clear F2 u0 u1 u2 R)
  have hb2 := l2.out _ _ hb1
  clear hb1
  by_cases hcode : code = 0
  · subst hcode
    have HW := hid (show walkP s.inodes ls follow = res by rw [← HRES.out]; unfold resolveP; rw [if_pos HCD.out, HLS.out])
    have KB := hid (fun (w' : World) (hs' : Sits h2 w') => path_begin s _ h2 w' hs' (repState.mono E2.out.le rS.out))
    have KNN := hid (fun gp bm C D3 cD3 B h3 w3 (F3 : Ext h2 w2 h3 w3) (I3 : PkAt B h3 w3 gp bm D3 cD3 st0) FM3 HB3 => path_names s.inodes gp bm C D3 cD3 B ls A c HC.out follow res HW.out (by omega) h3 w3 F3.sits I3 FM3 HB3 (rN.out.mono F3.le))
    have s0 : w2.cell? ⟨gS, 0, none⟩ = some (.int .i64 s.next) := Sits_at E2.out.sits hb2 rfl
    have s1 : w2.cell? ⟨gS, 1, none⟩ = some (.slice A1 s.inodes.length c1) := Sits_at E2.out.sits hb2 rfl
    have s2 : w2.cell? ⟨gS, 2, none⟩ = some (.slice A2 s.bads.length c2) := Sits_at E2.out.sits hb2 rfl
    go_upto_region 6 with (first
      | (go_at_call 45; refine (KB.out _ E2.out.sits).mono ?_; rintro e w3 ⟨gp, bm, C, h3, D3, cD3, rfl, F3, I3, FM3, HB3⟩; have KN := hid (KNN.out gp bm C D3 cD3 w2.heap.size h3 w3 F3 I3 FM3 HB3); have E3 := hid (E2.out.trans F3); have I3 := hid I3; have FM3 := hid FM3; have HB3 := hid HB3; have l3 := hid F3.le; clear F3 s0 s1 s2)
      | (go_at_call 46; refine KN.out.mono ?_; rintro e w4 ⟨D4, cD4, h4, st4, rfl, I4, X4, hat⟩; have E4 := hid (X4.lift E3.out E2.out.size); have I4 := hid I4; have HAT := hid hat; clear X4 hat))
    obtain ⟨no, cd⟩ := res
    dsimp only at *
    by_cases hc2 : cd = 0
    · subst hc2
      have HNO := hid (HAT.out rfl)
      have z2 := box_cell (j := 2) (v := .int .i64 st4.at_) I4.out.box rfl
      go_wp2_with fail
      go_ret2
      exact ⟨by rw [← HNO.out]; rfl, E4.out.back⟩
    · have hb : (cd == 0) = false := by simpa using hc2
      have hb3 : (cd != 0) = true := by simpa using hc2
      have HQ2 := hid (show no = 0 from walkP_bad HW.out hc2)
      clear hc2
      go_wp2_with fail
      go_ret2
      exact ⟨by rw [HQ2.out]; rfl, E4.out.back⟩
  · have hb : (code == 0) = false := by simpa using hcode
    have hb2 : (code != 0) = true := by simpa using hcode
    have HQ := hid (show res = (0, code) by rw [← HRES.out]; unfold resolveP; rw [HCD.out, if_neg hcode])
    clear hcode
    go_wp2_with fail
    go_ret2
    exact ⟨by rw [HQ.out]; rfl, E2.out.back⟩

set_option maxHeartbeats 8000000 in
set_option maxRecDepth 100000 in
theorem path_Parent (s : State) (cs : List Value) (path : ByteArray) (hsz : path.size ≤ 9223372036854775807) (res : Int × ByteArray × Int) (hres : parentP s.inodes path = res) (h : FH) (w : World) (hs : Sits h w) (rS : repState h cs s) :
    Calls Tryd.prog 48 #[.agg cs.toArray, .string path] w fun e w' => e = .returned (.tuple #[.int .i64 res.1, .string res.2.1, .int .i64 res.2.2]) ∧ Ext h w h w' ∧ res.2.1.size ≤ 9223372036854775807 := by
  have rS' := rS
  obtain ⟨A1, c1, A2, c2, rfl, l1, r1, l2, r2⟩ := rS'
  have HRES := hid hres
  obtain ⟨h1, E1, hb1, le1, hh1⟩ := (Ext.refl hs).boxF #[.int .i64 s.next, .slice A1 s.inodes.length c1, .slice A2 s.bads.length c2] 31
  have hwl := (ways_lenW path).1
  clear hres hh1 l1 r1 l2 r2
  go_enter Tryd.func48, Tryd.ntmps48
  go_upto_region 1 with (fail)
  generalize hgS : w.heap.size = gS at *
  with_reducible generalize w.alloc (.cells #[.int .i64 s.next, .slice A1 s.inodes.length c1, .slice A2 s.bads.length c2] 31) = w1 at E1 ⊢
  have KP := hid (name_Split path hsz h1 w1 E1.sits)
  have E1 := hid E1
  have rS := hid rS
  obtain ⟨ls, hls⟩ : ∃ ls, waysXs path = ls := ⟨_, rfl⟩
  obtain ⟨code, hcd⟩ : ∃ code, waysCode path = code := ⟨_, rfl⟩
  rw [hls, hcd] at KP
  rw [hls] at hwl
  have HCD := hid hcd
  have HLS := hid hls
  clear hls hcd
  go_upto_region 2 with (go_at_call 44; refine KP.out.mono ?_; rintro e w2 R; obtain ⟨A, c, h2, rfl, rN, F2, u0, u1, u2⟩ := R.stayX (by omega); have E2 := hid (E1.out.trans F2); have rN := hid rN; have HC := hid (show CapLe A ls.length c from ⟨u1, u0, u2⟩); have l2 := hid F2.le; clear F2 u0 u1 u2 R)
  have hb2 := l2.out _ _ hb1
  clear hb1
  by_cases hcode : code = 0
  · subst hcode
    have HP := hid (show parentL s.inodes ls = res by rw [← HRES.out]; unfold parentP; rw [if_pos HCD.out, HLS.out])
    by_cases hls : ls.length = 0
    · have he : ls = [] := List.eq_nil_of_length_eq_zero hls
      have HQ := hid (show res = (0, ⟨#[]⟩, 24) by rw [← HP.out, he]; rfl)
      clear he
      have hwr : IntKind.i64.wrap ((ls.length : Int) - 1) = -1 := by rw [IntKind.wrap_i64]; omega
      go_wp2_with fail
      go_ret3
      exact ⟨by rw [HQ.out]; rfl, E2.out.back, by rw [HQ.out]; exact Nat.zero_le _⟩
    · obtain ⟨n, hn⟩ : ∃ n, ls.length = n + 1 := ⟨ls.length - 1, by omega⟩
      have hwr : IntKind.i64.wrap ((ls.length : Int) - 1) = (n : Int) := by rw [IntKind.wrap_i64]; omega
      have hn0 : ¬ ((n : Int) < 0) := by omega
      have hn1 : (n : Int) < (ls.length : Int) := by omega
      obtain ⟨a, ha⟩ : ∃ a, ls[n]? = some a := ⟨ls[n], List.getElem?_eq_getElem (by omega)⟩
      have HPA := hid ((parentL_at hn ha).symm.trans HP.out)
      obtain ⟨b, off, hx, d0, hsza⟩ := rN.out.ixStr (k := n) (i := (n : Int)) ha E2.out.sits c rfl
      have D0 := hid d0
      have d0 := E2.out.sits.cell d0
      obtain ⟨q, hq⟩ : ∃ q, (a.toList == [46, 46]) = q := ⟨_, rfl⟩
      have HQ := hid hq
      have HLT := hid (show (ls.take n).length = n by rw [List.length_take]; omega)
      have hc1 : (n : Int) ≤ (c : Int) := by have := HC.out.le; omega
      have hcm : (c : Int) ≤ 9223372036854775807 := by have := HC.out.mx; omega
      have HC2 := hid (show CapLe A (ls.take n).length c from ⟨by rw [HLT.out]; have := HC.out.le; omega, HC.out.nn, HC.out.mx⟩)
      clear hn ha hls
      cases q
      · obtain ⟨r0, hr0⟩ : ∃ r0, walkP s.inodes (ls.take n) true = r0 := ⟨_, rfl⟩
        have HR0 := hid hr0
        have HPB := hid (show (if r0.2 ≠ 0 then (0, (⟨#[]⟩ : ByteArray), r0.2) else if ((findI s.inodes r0.1).getD zeroI).kind = 2 then (r0.1, a, 0) else (0, ⟨#[]⟩, 13)) = res by have q := HPA.out; rw [if_neg (by rw [HQ.out]; simp), HR0.out] at q; exact q)
        have KB := hid (fun (w' : World) (hs' : Sits h2 w') => path_begin s _ h2 w' hs' (repState.mono E2.out.le rS.out))
        have KNN := hid (fun gp bm C D3 cD3 B h3 w3 (F3 : Ext h2 w2 h3 w3) (I3 : PkAt B h3 w3 gp bm D3 cD3 st0) FM3 HB3 => (by have q := path_names s.inodes gp bm C D3 cD3 B (ls.take n) A c HC2.out true r0 HR0.out (by rw [HLT.out]; omega) h3 w3 F3.sits I3 FM3 HB3 ((rN.out.takeN n).mono F3.le); rw [HLT.out] at q; exact q : Calls Tryd.prog 46 #[.pointer (some ⟨gp, 0, none⟩), .slice A n c, .bool true] w3 fun e w' => RetNames B h3 w3 gp bm r0 e w'))
        clear hr0
        have s0 : w2.cell? ⟨gS, 0, none⟩ = some (.int .i64 s.next) := Sits_at E2.out.sits hb2 rfl
        have s1 : w2.cell? ⟨gS, 1, none⟩ = some (.slice A1 s.inodes.length c1) := Sits_at E2.out.sits hb2 rfl
        have s2 : w2.cell? ⟨gS, 2, none⟩ = some (.slice A2 s.bads.length c2) := Sits_at E2.out.sits hb2 rfl
        go_upto_region 9 with (first
          | (go_at_call 45; refine (KB.out _ E2.out.sits).mono ?_; rintro e w3 ⟨gp, bm, C, h3, D3, cD3, rfl, F3, I3, FM3, HB3⟩; have KN := hid (KNN.out gp bm C D3 cD3 w2.heap.size h3 w3 F3 I3 FM3 HB3); have E3 := hid (E2.out.trans F3); have I3 := hid I3; have FM3 := hid FM3; have HB3 := hid HB3; have l3 := hid F3.le; clear F3 s0 s1 s2)
          | (go_at_call 46; refine KN.out.mono ?_; rintro e w4 ⟨D4, cD4, h4, st4, rfl, I4, X4, hat⟩; have E4 := hid (X4.lift E3.out E2.out.size); have I4 := hid I4; have HAT := hid hat; have l4 := hid X4.le; clear X4 hat))
        obtain ⟨no, cd⟩ := r0
        dsimp only at *
        by_cases hcd : cd = 0
        · subst hcd
          have HNO := hid (HAT.out rfl)
          obtain ⟨v, hv⟩ : ∃ v, findI s.inodes no = v := ⟨_, rfl⟩
          have HV := hid hv
          have KH := hid (path_here s.inodes gp bm C D4 cD4 w2.heap.size st4 v (by rw [HNO.out]; exact hv) h4 w4 E4.out.sits I4.out (FM3.out.mono l4.out) (HB3.out.mono l4.out))
          have HPC := hid (show (if (v.getD zeroI).kind = 2 then (no, a, (0 : Int)) else (0, ⟨#[]⟩, 13)) = res by have q := HPB.out; rw [if_neg (by simp), HV.out] at q; exact q)
          clear hv d0
          go_upto_region 12 with (go_at_call 69; refine KH.out.mono ?_; rintro e w5 ⟨cs5, h5, rfl, r5, F5⟩; obtain ⟨A5, c5, A6, c6, rfl⟩ := r5.open; have E5 := hid (E4.out.trans F5); have I5 := hid (I4.out.more F5); have l5 := hid F5.le; clear F5)
          by_cases hk : (v.getD zeroI).kind = 2
          · have hc0 : hereC v = 0 := by
              cases v with
              | none => simp [zeroI] at hk
              | some x => unfold hereC; simp at hk; simp [hk]
            have HQ2 := hid (show res = (no, a, 0) by rw [← HPC.out, if_pos hk])
            have d0 := E5.out.sits.cell ((l3.out.trans (l4.out.trans l5.out)).cell D0.out)
            have z2 := box_cell (j := 2) (v := .int .i64 st4.at_) I5.out.box rfl
            have y0 := fun d os => cell_regrown d0 d os
            have y1 := fun d os => cell_regrown z2 d os
            clear hk
            go_upto_region 14 with (fail)
            clear d0 z2
            refine wp_region_quiet_below (by kernel_rfl) (by kernel_rfl) ?_
            repeat (go_big_quiet_step (fail))
            refine wpQuiet_nil ?_
            intro _ hw'
            obtain ⟨⟨dq, osq⟩, hw''⟩ := hw'
            subst hw''
            go_wp2
            go_ret3
            exact ⟨by rw [HQ2.out, ← HNO.out]; rfl, (E5.out.trans (Ext.quiet E5.out.sits dq osq)).back, by rw [HQ2.out]; exact hsza⟩
          · have hc0 : (hereC v == 0) = false := by
              cases v with
              | none => rfl
              | some x => unfold hereC; simp at hk; simp [hk]
            have hc0' : (hereC v != 0) = true := by rw [bne, hc0]; rfl
            have HQ2 := hid (show res = (0, ⟨#[]⟩, 13) by rw [← HPC.out, if_neg hk])
            clear hk
            go_wp2_with fail
            go_ret3
            exact ⟨by rw [HQ2.out]; rfl, E5.out.back, by rw [HQ2.out]; exact Nat.zero_le _⟩
        · have hb : (cd == 0) = false := by simpa using hcd
          have hb3 : (cd != 0) = true := by simpa using hcd
          have HQ2 := hid (show res = (0, ⟨#[]⟩, cd) by rw [← HPB.out, if_pos hcd])
          clear hcd
          go_wp2_with fail
          go_ret3
          exact ⟨by rw [HQ2.out]; rfl, E4.out.back, by rw [HQ2.out]; exact Nat.zero_le _⟩
      · have HQ2 := hid (show res = (0, ⟨#[]⟩, 24) by rw [← HPA.out, if_pos HQ.out])
        go_wp2_with fail
        go_ret3
        exact ⟨by rw [HQ2.out]; rfl, E2.out.back, by rw [HQ2.out]; exact Nat.zero_le _⟩
  · have hb : (code == 0) = false := by simpa using hcode
    have hb2 : (code != 0) = true := by simpa using hcode
    have HQ := hid (show res = (0, ⟨#[]⟩, code) by rw [← HRES.out]; unfold parentP; rw [HCD.out, if_neg hcode])
    clear hcode
    go_wp2_with fail
    go_ret3
    exact ⟨by rw [HQ.out]; rfl, E2.out.back, by rw [HQ.out]; exact Nat.zero_le _⟩

end Go.Proofs.YtdiaibkpcnknbaaDoor
