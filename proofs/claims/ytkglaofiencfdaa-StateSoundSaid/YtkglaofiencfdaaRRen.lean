import Derived.Test.YtkglaofiencfdaaRRenP
import Derived.Deep.CutBlock
namespace Go.Proofs.Ytkglaofiencfdaa
open Go.RowKit Go.Sort
set_option linter.unusedVariables false
theorem rep_open7 {h : FH} {cs : List Value} {no kind links size : Int} {target : ByteArray} {es : List Entry} {rs : List Run} (r : repInode h cs ⟨no, kind, links, size, target, es, rs⟩) : ∃ A5 c5 A6 c6, cs = [.int .i64 no, .int .i64 kind, .int .i64 links, .int .i64 size, .string target, .slice A5 es.length c5, .slice A6 rs.length c6] ∧ target.size ≤ 9223372036854775807 ∧ CapLe A5 es.length c5 ∧ RowAt h A5 es ∧ CapLe A6 rs.length c6 ∧ RowAt h A6 rs := r

set_option maxHeartbeats 32000000 in
set_option maxRecDepth 100000 in
theorem ref_Rename (s : State) (cs : List Value) (old path : ByteArray) (hso : old.size ≤ 9223372036854775807) (hsp : path.size ≤ 9223372036854775807) (os : List Int) (AO : Option Addr) (cO : Nat) (hent : ∀ x ∈ s.inodes, midI x) (h : FH) (w : World) (hs : Sits h w) (rS : repState h cs s) (ro : RowAt h AO os) :
    Calls Try.prog 54 #[.agg cs.toArray, .string old, .string path, .slice AO os.length cO] w fun e w' => RetDC h w (rrenameP s old path os) e w' := by
  have HENT := hid hent
  have RS := hid rS
  have RO := hid ro
  clear rS hent ro
  obtain ⟨h1, E1, hb1, le1, hh1⟩ := (Ext.refl hs).boxF cs.toArray 31
  clear hh1
  obtain ⟨⟨p, code⟩, hf⟩ : ∃ fs, thereS s.inodes old = fs := ⟨_, rfl⟩
  have HP := hid hf
  have hpm := thereS_all midI_zero HENT.out old
  rw [hf] at hpm
  have HDM := hid hpm.1
  have HXM := hid hpm.2
  clear hpm hf
  go_enter Try.func54, Try.ntmps54
  go_upto_region 1 with (fail)
  generalize hgx : w.heap.size = gx at *
  with_reducible generalize w.alloc (.cells cs.toArray 31) = W2 at E1 ⊢
  clear hgx
  have E2 := hid E1
  have hb1 := hid hb1
  have le1 := hid le1
  clear E1
  have KT := hid (ref_entry s _ old hso p code HP.out h1 W2 E2.out.sits (repState.mono le1.out RS.out))
  go_upto_region 2 with (first | (refine wpList_load_row rfl 31 _ rfl gx rfl 31 cs.toArray (0, 0) _ (E2.out.sits _ _ hb1.out) Try.underlying31 rfl (info_State RS.out.len) ?_) | (go_at_call 92; refine KT.out.mono ?_; rintro e w3 ⟨fl, nl, h3, rfl, rf, rn, hnz, F3⟩; have E3 := hid (E2.out.trans F3); have l3 := hid F3.le; have rf := hid rf; have rn := hid rn; have HNZ := hid hnz; clear F3 hnz; have hszT : (w3.alloc (.cells #[.int .i64 0, .int .i64 0, .int .i64 0, .int .i64 0, .string ⟨#[]⟩, .slice none 0 0, .slice none 0 0] 37)).heap.size = w3.heap.size + 1 := (by simp); have BF3 := hid ((BoxU.new E3.out #[.int .i64 0, .int .i64 0, .int .i64 0, .int .i64 0, .string ⟨#[]⟩, .slice none 0 0, .slice none 0 0] 37).alloc (.cells #[.int .i64 0, .int .i64 0, .int .i64 0, .int .i64 0, .string ⟨#[]⟩, .slice none 0 0, .slice none 0 0] 37)); have BT3 := BoxU.new (E3.out.alloc (.cells #[.int .i64 0, .int .i64 0, .int .i64 0, .int .i64 0, .string ⟨#[]⟩, .slice none 0 0, .slice none 0 0] 37)) #[.int .i64 0, .int .i64 0, .int .i64 0, .int .i64 0, .string ⟨#[]⟩, .slice none 0 0, .slice none 0 0] 37; (rw [hszT] at BT3); have BT3 := hid BT3; have hneT := hid (show w3.heap.size + 1 ≠ w3.heap.size by omega); have BT4 := hid (BT3.out.rowOther hneT.out fl.toArray); clear hszT) | (refine wpList_store_row rfl 37 _ _ rfl w3.heap.size fl.toArray rfl rfl 37 #[.int .i64 0, .int .i64 0, .int .i64 0, .int .i64 0, .string ⟨#[]⟩, .slice none 0 0, .slice none 0 0] BF3.out.row (info_Inode rf.out.len) (zi_sizeR rf.out) (one_arr rf.out.one) ?_) | (refine wpList_store_row rfl 37 _ _ rfl (w3.heap.size + 1) nl.toArray rfl rfl 37 #[.int .i64 0, .int .i64 0, .int .i64 0, .int .i64 0, .string ⟨#[]⟩, .slice none 0 0, .slice none 0 0] BT4.out.row (info_Inode rn.out.len) (zi_sizeR rn.out) (one_arr rn.out.one) ?_))
  have E4 := BF3.out.wrRow ((E3.out.alloc (.cells #[.int .i64 0, .int .i64 0, .int .i64 0, .int .i64 0, .string ⟨#[]⟩, .slice none 0 0, .slice none 0 0] 37)).alloc (.cells #[.int .i64 0, .int .i64 0, .int .i64 0, .int .i64 0, .string ⟨#[]⟩, .slice none 0 0, .slice none 0 0] 37)) fl.toArray
  have BF5 := (BF3.out.setRow fl.toArray).rowOther (fun e => hneT.out e.symm) nl.toArray
  have BT5 := BT4.out.setRow nl.toArray
  have E5 := BT4.out.wrRow E4 nl.toArray
  clear E4 BF3 BT3 BT4
  obtain ⟨gf, hgd⟩ : ∃ g, g = w3.heap.size := ⟨_, rfl⟩
  obtain ⟨gn, hgt⟩ : ∃ g, g = w3.heap.size + 1 := ⟨_, rfl⟩
  rw [← hgt, ← hgd] at BF5 BT5 E5 hneT
  rw [← hgt, ← hgd]
  with_reducible generalize ((((w3.alloc (.cells #[.int .i64 0, .int .i64 0, .int .i64 0, .int .i64 0, .string ⟨#[]⟩, .slice none 0 0, .slice none 0 0] 37)).alloc (.cells #[.int .i64 0, .int .i64 0, .int .i64 0, .int .i64 0, .string ⟨#[]⟩, .slice none 0 0, .slice none 0 0] 37)).setRow gf fl.toArray).setRow gn nl.toArray) = w5 at BF5 BT5 E5 ⊢
  clear hgd hgt E3
  have BF5 := hid BF5
  have BT5 := hid BT5
  have E5 := hid E5
  obtain ⟨h6, E6, hn6, l6, k6⟩ := BT5.out.freeze E5.out
  have BF6 := hid (BF5.out.keep k6 (fun e => hneT.out e.symm))
  have E6 := hid E6
  have hn6 := hid hn6
  have hx6 := hid (l6 _ _ (l3.out _ _ hb1.out))
  have L6 := hid (le1.out.trans (l3.out.trans l6))
  have rf := hid (rf.out.mono l6)
  have rn := hid (rn.out.mono l6)
  clear KT k6 BT5 BF5 E5 l6
  clear BT5 BF5 E5 BT3
  by_cases hc : code = 0
  · subst hc
    obtain ⟨⟨q, c2⟩, hf⟩ : ∃ fs, thereS s.inodes path = fs := ⟨_, rfl⟩
    have HP2 := hid hf
    have hpm := thereS_all midI_zero HENT.out path
    rw [hf] at hpm
    have HDQ := hid hpm.1
    have HXQ := hid hpm.2
    have KT := hid (ref_entry s _ path hsp q c2 hf h6 w5 E6.out.sits (repState.mono L6.out RS.out))
    have HR1 := hid (show rrenameP s old path os = rrP s.inodes p q c2 os by unfold rrenameP; rw [HP.out, if_neg (by simp), hf])
    clear hpm hf
    go_upto_region 5 with (first | (refine wpList_load_row rfl 31 _ rfl gx rfl 31 cs.toArray (0, 0) _ (E6.out.sits _ _ hx6.out) Try.underlying31 rfl (info_State RS.out.len) ?_) | (go_at_call 92; refine KT.out.mono ?_; rintro e w13 ⟨tl, yl, h13, rfl, rt, ry, hnz, F13⟩; have E13 := hid (E6.out.trans F13); have l13 := hid F13.le; have rt := hid rt; have ry := hid ry; have HNZ2 := hid hnz; have BF13 := hid (((BF6.out.ext F13).alloc (.cells #[.int .i64 0, .int .i64 0, .int .i64 0, .int .i64 0, .string ⟨#[]⟩, .slice none 0 0, .slice none 0 0] 37)).alloc (.cells #[.int .i64 0, .int .i64 0, .int .i64 0, .int .i64 0, .string ⟨#[]⟩, .slice none 0 0, .slice none 0 0] 37)); have neF1 := hid (Nat.ne_of_lt (BF6.out.ext F13).lt); have neF2 := hid (show gf ≠ w13.heap.size + 1 by have := (BF6.out.ext F13).lt; omega); clear F13 hnz; have hszU : (w13.alloc (.cells #[.int .i64 0, .int .i64 0, .int .i64 0, .int .i64 0, .string ⟨#[]⟩, .slice none 0 0, .slice none 0 0] 37)).heap.size = w13.heap.size + 1 := (by simp); have CF3 := hid ((BoxU.new E13.out #[.int .i64 0, .int .i64 0, .int .i64 0, .int .i64 0, .string ⟨#[]⟩, .slice none 0 0, .slice none 0 0] 37).alloc (.cells #[.int .i64 0, .int .i64 0, .int .i64 0, .int .i64 0, .string ⟨#[]⟩, .slice none 0 0, .slice none 0 0] 37)); have CT3 := BoxU.new (E13.out.alloc (.cells #[.int .i64 0, .int .i64 0, .int .i64 0, .int .i64 0, .string ⟨#[]⟩, .slice none 0 0, .slice none 0 0] 37)) #[.int .i64 0, .int .i64 0, .int .i64 0, .int .i64 0, .string ⟨#[]⟩, .slice none 0 0, .slice none 0 0] 37; (rw [hszU] at CT3); have CT3 := hid CT3; have hneU := hid (show w13.heap.size + 1 ≠ w13.heap.size by omega); have CT4 := hid (CT3.out.rowOther hneU.out tl.toArray); clear hszU) | (refine wpList_store_row rfl 37 _ _ rfl w13.heap.size tl.toArray rfl rfl 37 #[.int .i64 0, .int .i64 0, .int .i64 0, .int .i64 0, .string ⟨#[]⟩, .slice none 0 0, .slice none 0 0] CF3.out.row (info_Inode rt.out.len) (zi_sizeR rt.out) (one_arr rt.out.one) ?_) | (refine wpList_store_row rfl 37 _ _ rfl (w13.heap.size + 1) yl.toArray rfl rfl 37 #[.int .i64 0, .int .i64 0, .int .i64 0, .int .i64 0, .string ⟨#[]⟩, .slice none 0 0, .slice none 0 0] CT4.out.row (info_Inode ry.out.len) (zi_sizeR ry.out) (one_arr ry.out.one) ?_))
    have E14 := CF3.out.wrRow ((E13.out.alloc (.cells #[.int .i64 0, .int .i64 0, .int .i64 0, .int .i64 0, .string ⟨#[]⟩, .slice none 0 0, .slice none 0 0] 37)).alloc (.cells #[.int .i64 0, .int .i64 0, .int .i64 0, .int .i64 0, .string ⟨#[]⟩, .slice none 0 0, .slice none 0 0] 37)) tl.toArray
    have CF5 := (CF3.out.setRow tl.toArray).rowOther (fun e => hneU.out e.symm) yl.toArray
    have CT5 := CT4.out.setRow yl.toArray
    have E15 := CT4.out.wrRow E14 yl.toArray
    have BF15 := (BF13.out.rowOther neF1.out tl.toArray).rowOther neF2.out yl.toArray
    clear E14 CF3 CT3 CT4
    obtain ⟨gt, hgd⟩ : ∃ g, g = w13.heap.size := ⟨_, rfl⟩
    obtain ⟨gy, hgt⟩ : ∃ g, g = w13.heap.size + 1 := ⟨_, rfl⟩
    rw [← hgt, ← hgd] at CF5 CT5 E15 hneU BF15
    rw [← hgd] at neF1
    rw [← hgt] at neF2
    rw [← hgt, ← hgd]
    with_reducible generalize ((((w13.alloc (.cells #[.int .i64 0, .int .i64 0, .int .i64 0, .int .i64 0, .string ⟨#[]⟩, .slice none 0 0, .slice none 0 0] 37)).alloc (.cells #[.int .i64 0, .int .i64 0, .int .i64 0, .int .i64 0, .string ⟨#[]⟩, .slice none 0 0, .slice none 0 0] 37)).setRow gt tl.toArray).setRow gy yl.toArray) = w15 at CF5 CT5 E15 BF15 ⊢
    clear hgd hgt E13
    have CF5 := hid CF5
    have CT5 := hid CT5
    have E15 := hid E15
    have BF15 := hid BF15
    obtain ⟨h16, E16, hy16, l16, k16⟩ := CT5.out.freeze E15.out
    have BT16 := hid (CF5.out.keep k16 (fun e => hneU.out e.symm))
    have BF16 := hid (BF15.out.keep k16 neF2.out)
    have E16 := hid E16
    have hy16 := hid hy16
    have hx16 := hid (l16 _ _ (l13.out _ _ hx6.out))
    have hn16 := hid (l16 _ _ (l13.out _ _ hn6.out))
    have L16 := hid (L6.out.trans (l13.out.trans l16))
    have rf := hid (rf.out.mono (l13.out.trans l16))
    have rn := hid (rn.out.mono (l13.out.trans l16))
    have rt := hid (rt.out.mono l16)
    have ry := hid (ry.out.mono l16)
    have hft := neF1
    clear KT k16 CT5 CF5 E15 l16 BF15 BF6 E6 hx6 hn6 neF2 hneU hneT E2 hb1 L6
    obtain ⟨z, hz⟩ : ∃ z, decide ((c2 ≠ 0 ∧ c2 ≠ 11) ∨ q.dir.no = 0) = z := ⟨_, rfl⟩
    have HZ := hid hz
    clear hz
    have mt0 := BT16.out.cell (by rw [List.getElem?_toArray]; exact rt.out.at0)
    go_cut [52] (fun s52 wx => s52 = .bool z ∧ wx = w15)
    case first =>
      as_aux_lemma =>
      by_cases hc0 : c2 = 0
      · subst hc0
        by_cases hd0 : q.dir.no = 0
        · have bd0 : (q.dir.no == 0) = true := by simpa using hd0
          have HB1 := hid (show true = z by rw [← HZ.out]; simp [hd0])
          clear hd0
          go_wp2_with fail
          go_meet
          exact ⟨by rw [← HB1.out], rfl⟩
        · have bd0 : (q.dir.no == 0) = false := by simpa using hd0
          have HB1 := hid (show false = z by rw [← HZ.out]; simp [hd0])
          clear hd0
          go_wp2_with fail
          go_meet
          exact ⟨by rw [← HB1.out], rfl⟩
      · have b0 : (c2 == 0) = false := by simpa using hc0
        have b0' : (c2 != 0) = true := by simpa using hc0
        by_cases hc1 : c2 = 11
        · have b1 : (c2 == 11) = true := by simpa using hc1
          have b1' : (c2 != 11) = false := by simpa using hc1
          by_cases hd0 : q.dir.no = 0
          · have bd0 : (q.dir.no == 0) = true := by simpa using hd0
            have HB1 := hid (show true = z by rw [← HZ.out]; simp [hd0])
            clear hd0 hc1 hc0
            go_wp2_with fail
            go_meet
            exact ⟨by rw [← HB1.out], rfl⟩
          · have bd0 : (q.dir.no == 0) = false := by simpa using hd0
            have HB1 := hid (show false = z by rw [← HZ.out]; simp [hd0, hc1])
            clear hd0 hc1 hc0
            go_wp2_with fail
            go_meet
            exact ⟨by rw [← HB1.out], rfl⟩
        · have b1 : (c2 == 11) = false := by simpa using hc1
          have b1' : (c2 != 11) = true := by simpa using hc1
          have HB1 := hid (show true = z by rw [← HZ.out]; simp [hc1, hc0])
          clear hc1 hc0
          go_wp2_with fail
          go_meet
          exact ⟨by rw [← HB1.out], rfl⟩
    case rest =>
    obtain ⟨rfl, rfl⟩ := hcut
    clear mt0
    cases z
    case true =>
      have HQ := hid (show rrenameP s old path os = ([], c2) by rw [HR1.out]; unfold rrP; rw [if_pos (of_decide_eq_true HZ.out)])
      (try go_at_K)
      go_wp2_with fail
      go_ret2
      exact (by rw [HQ.out]; exact ⟨none, 0, h, rfl, ⟨Nat.zero_le _, fun _ => rfl, by decide⟩, RowAt.nil _ _, E16.out.back⟩)
    case false =>
    have HR2 := hid (show rrenameP s old path os = if c2 = 0 ∧ q.x.no = p.x.no then ([], 0) else if p.x.kind = 2 ∧ insideR s.inodes q.dir.no p.x.no = true then ([], 22) else if rrV p q (c2 == 0) ≠ 0 then ([], rrV p q (c2 == 0)) else rrM p q (c2 == 0) os by rw [HR1.out]; unfold rrP; rw [if_neg (of_decide_eq_false HZ.out)])
    obtain ⟨tb, htb⟩ : ∃ b, (c2 == 0) = b := ⟨_, rfl⟩
    obtain ⟨db, hdb⟩ : ∃ b, (p.x.kind == 2) = b := ⟨_, rfl⟩
    have HTB := hid htb
    have HDB := hid hdb
    obtain ⟨z2, hz2⟩ : ∃ z, decide (tb = true ∧ q.x.no = p.x.no) = z := ⟨_, rfl⟩
    have HZ2 := hid hz2
    clear hz2
    have mn1 := sits_cellL E16.out.sits hn16.out rn.out.at1
    have mn0 := sits_cellL E16.out.sits hn16.out rn.out.at0
    have my0 := sits_cellL E16.out.sits hy16.out ry.out.at0
    go_upto_region 9 with (fail)
    clear mn1
    go_cut [66] (fun s66 wx => s66 = .bool z2 ∧ wx = wc)
    case first =>
      as_aux_lemma =>
      cases tb
      · have HB1 := hid (show false = z2 by rw [← HZ2.out]; simp)
        go_wp2_with fail
        go_meet
        exact ⟨by rw [← HB1.out], rfl⟩
      · by_cases hno : q.x.no = p.x.no
        · have bno : (q.x.no == p.x.no) = true := by simpa using hno
          have HB1 := hid (show true = z2 by rw [← HZ2.out]; simp [hno])
          clear hno
          go_wp2_with fail
          go_meet
          exact ⟨by rw [← HB1.out], rfl⟩
        · have bno : (q.x.no == p.x.no) = false := by simpa using hno
          have HB1 := hid (show false = z2 by rw [← HZ2.out]; simp [hno])
          clear hno
          go_wp2_with fail
          go_meet
          exact ⟨by rw [← HB1.out], rfl⟩
    case rest =>
    obtain ⟨rfl, rfl⟩ := hcut
    clear my0
    have hcb : (c2 = 0) = (tb = true) := by rw [← HTB.out]; simp
    cases z2
    case true =>
      have HQ := hid (show rrenameP s old path os = ([], 0) by rw [HR2.out, if_pos (by rw [hcb]; exact of_decide_eq_true HZ2.out)])
      (try go_at_K)
      go_wp2_with fail
      go_ret2
      exact (by rw [HQ.out]; exact ⟨none, 0, h, rfl, ⟨Nat.zero_le _, fun _ => rfl, by decide⟩, RowAt.nil _ _, E16.out.back⟩)
    case false =>
    have HR3 := hid (show rrenameP s old path os = if p.x.kind = 2 ∧ insideR s.inodes q.dir.no p.x.no = true then ([], 22) else if rrV p q tb ≠ 0 then ([], rrV p q tb) else rrM p q tb os by rw [HR2.out, if_neg (by rw [hcb]; exact of_decide_eq_false HZ2.out), HTB.out])
    clear hcb
    obtain ⟨ib, hib⟩ : ∃ b, insideR s.inodes q.dir.no p.x.no = b := ⟨_, rfl⟩
    obtain ⟨A1, c1, A2, cc2, rfl, -⟩ := id RS.out
    have KI := hid (ref_Inside s _ q.dir.no p.x.no ib hib (fun x hx => (HENT.out x hx).1) h16 wc E16.out.sits (repState.mono L16.out RS.out))
    rw [hib] at HR3
    obtain ⟨z3, hz3⟩ : ∃ z, (db && ib) = z := ⟨_, rfl⟩
    have HZ3 := hid hz3
    have HIB := hid hib
    clear hz3 hib
    have mt0 := BT16.out.cell (by rw [List.getElem?_toArray]; exact rt.out.at0)
    have ms0 : wc.cell? ⟨gx, 0, none⟩ = some (.int .i64 s.next) := sits_cellG E16.out.sits hx16.out rfl
    have ms1 : wc.cell? ⟨gx, 1, none⟩ = some (.slice A1 s.inodes.length c1) := sits_cellG E16.out.sits hx16.out rfl
    have ms2 : wc.cell? ⟨gx, 2, none⟩ = some (.slice A2 s.bads.length cc2) := sits_cellG E16.out.sits hx16.out rfl
    (try go_at_K)
    go_upto_region 11 with (fail)
    go_cut [75] (fun s75 wx => s75 = .bool z3 ∧ Hid (Ext h16 wc h16 wx))
    case first =>
      as_aux_lemma =>
      cases db
      · have HB1 := hid (show false = z3 by rw [← HZ3.out]; simp)
        clear KI
        go_wp2_with fail
        go_meet
        exact ⟨by rw [← HB1.out], hid (Ext.refl E16.out.sits)⟩
      · have HB1 := hid (show ib = z3 by rw [← HZ3.out]; simp)
        go_wp2_with (go_at_call 93; refine KI.out.mono ?_; rintro e w17 ⟨rfl, F17⟩; have F17 := hid F17)
        go_meet
        exact ⟨by rw [← HB1.out], F17⟩
    case rest =>
    obtain ⟨rfl, F17⟩ := hcut
    clear mt0 ms0 ms1 ms2 mn0 KI
    have E17 := hid (E16.out.trans F17.out)
    have BT17 := hid (BT16.out.ext F17.out)
    have BF17 := hid (BF16.out.ext F17.out)
    clear E16 BT16 BF16 F17
    cases z3
    case true =>
      have HQ := hid (show rrenameP s old path os = ([], 22) by
        rw [HR3.out, if_pos]
        have q := HZ3.out
        rw [Bool.and_eq_true, ← HDB.out] at q
        exact ⟨by simpa using q.1, q.2⟩)
      (try go_at_K)
      go_wp2_with fail
      go_ret2
      exact (by rw [HQ.out]; exact ⟨none, 0, h, rfl, ⟨Nat.zero_le _, fun _ => rfl, by decide⟩, RowAt.nil _ _, E17.out.back⟩)
    case false =>
    have HR4 := hid (show rrenameP s old path os = if rrV p q tb ≠ 0 then ([], rrV p q tb) else rrM p q tb os by
      rw [HR3.out, if_neg]
      intro hh
      have q := HZ3.out
      rw [hh.2, ← HDB.out, hh.1] at q
      exact absurd q (by decide))
    clear HR1 HR2 HR3 HZ HZ2 HZ3 HIB
    (try go_at_K)
    go_upto_if 76 with (fail)
    go_cut [0] (fun s0 wx => ∃ (h2 : FH) (tl2 : List Value), Hid (Ext h w h2 wx) ∧ Hid (FLe h16 h2) ∧ Hid (BoxU w h2 wx gf fl.toArray 37) ∧ Hid (BoxU w h2 wx gt tl2.toArray 37) ∧ Hid (repInode h2 tl2 { q.dir with entries := rrT q tb }) ∧ Hid (rrV p q tb = 0))
    case first =>
      as_aux_lemma =>
      cases tb
      case true =>
        obtain ⟨A5, c5, at5, k5, row5⟩ := rt.out.at5
        have KM := hid (ref_mayTake p.x q.x nl yl h16 wc E17.out.sits rn.out ry.out)
        obtain ⟨mc, hmc⟩ : ∃ c, takenR p.x q.x = c := ⟨_, rfl⟩
        rw [hmc] at KM
        have HMC := hid (show rrV p q true = mc by unfold rrV; rw [if_pos rfl, hmc])
        have KR := hid (fun (w' : World) (hs' : Sits h16 w') => ref_RemoveEntry q.dir.entries A5 c5 k5.le k5.mx HDQ.out.1 q.name HNZ2.out h16 w' hs' row5)
        have hll : (remE q.dir.entries q.name).length ≤ 1000 := Nat.le_trans (remE_lenT _ _) HDQ.out.1
        have HLL := hid hll
        obtain ⟨al, hal⟩ : ∃ al, remE q.dir.entries q.name = al := ⟨_, rfl⟩
        have HAL := hid (show rrT q true = al by unfold rrT; rw [if_pos rfl, hal])
        rw [hal] at KR HLL
        clear hmc hll hal k5 row5
        go_upto_region 15 with (first | (refine wpList_load_row rfl 37 _ rfl gn rfl 37 nl.toArray (0, 0) _ (E17.out.sits _ _ hn16.out) Try.underlying37 rfl (info_Inode rn.out.len) ?_) | (refine wpList_load_row rfl 37 _ rfl gy rfl 37 yl.toArray (0, 0) _ (E17.out.sits _ _ hy16.out) Try.underlying37 rfl (info_Inode ry.out.len) ?_) | (go_at_call 94; refine KM.out.mono ?_; rintro e w18 ⟨rfl, F18⟩; have E18 := hid (E17.out.trans F18); have BT18 := hid (BT17.out.ext F18); have BF18 := hid (BF17.out.ext F18); clear F18))
        clear KM
        by_cases hm0 : mc = 0
        · subst hm0
          have m5 := BT18.out.cell (by rw [List.getElem?_toArray]; exact at5)
          have KR := hid (KR.out _ E18.out.sits)
          go_upto_region 17 with (fail)
          go_wp2_with (go_at_call 95; refine KR.out.mono ?_; rintro e w19 R; obtain ⟨A9, c9, h19, rfl, r9, F9, u0, u1, u2⟩ := R.stayX (by have := HLL.out; omega); have E19 := hid (E18.out.trans F9); have BF19 := hid (BF18.out.ext F9); have BT19 := hid (BT18.out.ext F9); have l19 := hid F9.le; have k9 := hid (show CapLe A9 al.length c9 from ⟨u1, u0, u2⟩); have r9 := hid r9; clear F9 u0 u1 u2 R m5; have m5 := BT19.out.cell (by rw [List.getElem?_toArray]; exact at5); have f5 := BT19.out.open_ 5)
          go_meet
          exact ⟨h19, _, hid (BT19.out.wr1 E19.out 5 (.slice A9 al.length c9)), l19, hid (BF19.out.other1 hft.out 5 (.slice A9 al.length c9)), hid (BT19.out.set1 5 (.slice A9 al.length c9)), hid (by rw [HAL.out]; exact (rt.out.mono l19.out).setEnt k9.out r9.out), HMC⟩
        · have hm1 : (mc == 0) = false := by simpa using hm0
          have hm2 : (mc != 0) = true := by simpa using hm0
          have HQ := hid (show rrenameP s old path os = ([], mc) by rw [HR4.out, HMC.out, if_pos hm0])
          clear hm0
          go_wp2_with fail
          go_ret2
          exact (by rw [HQ.out]; exact ⟨none, 0, h, rfl, ⟨Nat.zero_le _, fun _ => rfl, by decide⟩, RowAt.nil _ _, E18.out.back⟩)
      case false =>
        have mf0 := BF17.out.cell (by rw [List.getElem?_toArray]; exact rf.out.at0)
        have mt0 := BT17.out.cell (by rw [List.getElem?_toArray]; exact rt.out.at0)
        have mt2 := BT17.out.cell (by rw [List.getElem?_toArray]; exact rt.out.at2)
        have HTT := hid (show rrT q false = q.dir.entries from rfl)
        have HVV := hid (show rrV p q false = if p.x.kind = 2 ∧ p.dir.no ≠ q.dir.no ∧ 100 ≤ q.dir.links then 18 else 0 from rfl)
        have hdd : (p.x.kind = 2) = (db = true) := by rw [← HDB.out]; simp
        by_cases hno : p.dir.no = q.dir.no
        · have bno : (p.dir.no == q.dir.no) = true := by simpa using hno
          have bno' : (p.dir.no != q.dir.no) = false := by simpa using hno
          have HV := hid (show rrV p q false = 0 by rw [HVV.out, if_neg (fun hh => hh.2.1 hno)])
          clear hno hdd
          cases db
          all_goals
            go_wp2_with fail
            go_meet
            exact ⟨h16, tl, E17, hid (FLe.refl _), BF17, BT17, rt, HV⟩
        · have bno : (p.dir.no == q.dir.no) = false := by simpa using hno
          have bno' : (p.dir.no != q.dir.no) = true := by simpa using hno
          cases db
          · have HV := hid (show rrV p q false = 0 by rw [HVV.out, if_neg (fun hh => by rw [hdd] at hh; cases hh.1)])
            clear hno hdd
            go_wp2_with fail
            go_meet
            exact ⟨h16, tl, E17, hid (FLe.refl _), BF17, BT17, rt, HV⟩
          · by_cases hl : 100 ≤ q.dir.links
            · have HV18 : rrV p q false = 18 := HVV.out.trans (if_pos ⟨by rw [hdd], hno, hl⟩)
              have HQ := hid (show rrenameP s old path os = ([], 18) by rw [HR4.out, HV18, if_pos (by decide)])
              clear HV18
              clear hno hdd
              go_wp2_with fail
              go_ret2
              exact (by rw [HQ.out]; exact ⟨none, 0, h, rfl, ⟨Nat.zero_le _, fun _ => rfl, by decide⟩, RowAt.nil _ _, E17.out.back⟩)
            · have HV := hid (show rrV p q false = 0 by rw [HVV.out, if_neg (fun hh => hl hh.2.2)])
              clear hno hdd
              go_wp2_with fail
              go_meet
              exact ⟨h16, tl, E17, hid (FLe.refl _), BF17, BT17, rt, HV⟩
    case rest =>
    obtain ⟨h20, tl2, E20, l20, BF20, BT20, rt20, HV⟩ := hcut
    have HR5 := hid (show rrenameP s old path os = rrM p q tb os by rw [HR4.out, HV.out, if_neg (by simp)])
    have rf20 := hid (rf.out.mono l20.out)
    clear E17 BF17 BT17 rf rt HV HR4
    have HRQ := hid (show rrM p q tb os = if addC (rrB p q tb) ⟨q.name, p.x.no⟩ ≠ 0 then ([], addC (rrB p q tb) ⟨q.name, p.x.no⟩) else rrE p q tb (addL (rrB p q tb) ⟨q.name, p.x.no⟩) os from rfl)
    have HLT := hid (rrT_len (th := tb) HDQ.out.1)
    obtain ⟨tE, htE⟩ : ∃ l, rrT q tb = l := ⟨_, rfl⟩
    have HTE := hid htE
    rw [htE] at rt20 HLT
    obtain ⟨sb, hsb⟩ : ∃ b, (p.dir.no == q.dir.no) = b := ⟨_, rfl⟩
    have HSB := hid hsb
    have hss : (p.dir.no = q.dir.no) = (sb = true) := by rw [← hsb]; simp
    have HSS := hid hss
    obtain ⟨e1, he1⟩ : ∃ l, (if p.dir.no = q.dir.no then tE else p.dir.entries) = l := ⟨_, rfl⟩
    have HE1 := hid he1
    have HL1 := hid (show e1.length ≤ 1000 by
      rw [← he1]; split
      · exact HLT.out
      · exact HDM.out.1)
    have mf0 := BF20.out.cell (by rw [List.getElem?_toArray]; exact rf20.out.at0)
    have mt0 : wc.cell? ⟨gt, 0, none⟩ = some (.int .i64 q.dir.no) := BT20.out.cell (by rw [List.getElem?_toArray]; exact rt20.out.at0)
    clear htE he1 hss
    (try go_at_K)
    go_upto_if 109 with (fail)
    clear mf0 mt0
    go_cut [0] (fun s0 wx => ∃ fl2, Hid (Ext h w h20 wx) ∧ Hid (BoxU w h20 wx gf fl2.toArray 37) ∧ Hid (BoxU w h20 wx gt tl2.toArray 37) ∧ Hid (repInode h20 fl2 { p.dir with entries := e1 }))
    case first =>
      as_aux_lemma =>
      cases sb
      · have HE2 := hid (show p.dir.entries = e1 by rw [← HE1.out, if_neg (by rw [HSS.out]; decide)])
        go_wp2_with fail
        go_meet
        exact ⟨fl, E20, BF20, BT20, hid (by rw [← HE2.out]; exact rf20.out)⟩
      · have HE2 := hid (show tE = e1 by rw [← HE1.out, if_pos (by rw [HSS.out])])
        obtain ⟨A5, c5, at5, k5, row5⟩ := rt20.out.at5
        have m5 : wc.cell? ⟨gt, 5, none⟩ = some (.slice A5 tE.length c5) := BT20.out.cell (by rw [List.getElem?_toArray]; exact at5)
        have l5 := BF20.out.cell (by rw [List.getElem?_toArray]; exact rf20.out.at5.choose_spec.choose_spec.1)
        have f5 := BF20.out.open_ 5
        go_wp2_with fail
        go_meet
        exact ⟨_, hid (BF20.out.wr1 E20.out 5 (.slice A5 tE.length c5)), hid (BF20.out.set1 5 (.slice A5 tE.length c5)), hid (BT20.out.other1 (fun e => hft.out e.symm) 5 (.slice A5 tE.length c5)), hid (by rw [← HE2.out]; exact rf20.out.setEnt k5 row5)⟩
    case rest =>
    obtain ⟨fl2, E22, BF22, BT22, rf22⟩ := hcut
    clear E20 BF20 BT20 rf20
    obtain ⟨A5, c5, at5, k5, row5⟩ := rf22.out.at5
    have KR := hid (fun (w' : World) (hs' : Sits h20 w') => ref_RemoveEntry e1 A5 c5 k5.le k5.mx HL1.out p.name HNZ.out h20 w' hs' row5)
    have hll : (remE e1 p.name).length ≤ 1000 := Nat.le_trans (remE_lenT _ _) HL1.out
    obtain ⟨ra, hra⟩ : ∃ l, remE e1 p.name = l := ⟨_, rfl⟩
    have HRA := hid (show rrA p q tb = ra by unfold rrA; rw [HTE.out, HE1.out, hra])
    rw [hra] at KR hll
    have HLRA := hid hll
    have m5 : wc.cell? ⟨gf, 5, none⟩ = some (.slice A5 e1.length c5) := BF22.out.cell (by rw [List.getElem?_toArray]; exact at5)
    have KR := hid (KR.out _ E22.out.sits)
    clear hra hll k5 row5
    (try go_at_K)
    go_upto_region 24 with (go_at_call 95; refine KR.out.mono ?_; rintro e w23 R; obtain ⟨A9, c9, h23, rfl, r9, F9, u0, u1, u2⟩ := R.stayX (by have := HLRA.out; omega); have E23 := hid (E22.out.trans F9); have BF23 := hid (BF22.out.ext F9); have BT23 := hid (BT22.out.ext F9); have l23 := hid F9.le; have k9 := hid (show CapLe A9 ra.length c9 from ⟨u1, u0, u2⟩); have r9 := hid r9; clear F9 u0 u1 u2 R m5; have m5 := BF23.out.cell (by rw [List.getElem?_toArray]; exact at5); have f5 := BF23.out.open_ 5)
    have E24 := hid (BF23.out.wr1 E23.out 5 (.slice A9 ra.length c9))
    have BT24 := hid (BT23.out.other1 (fun e => hft.out e.symm) 5 (.slice A9 ra.length c9))
    have BF24 := hid (BF23.out.set1 5 (.slice A9 ra.length c9))
    have rf24 := hid (show repInode h23 _ { p.dir with entries := ra } from (rf22.out.mono l23.out).setEnt k9.out r9.out)
    have rt24 := hid (rt20.out.mono l23.out)
    clear m5 f5 E23 BF23 BT23 E22 BF22 BT22 KR
    with_reducible generalize w23.setCell ⟨gf, 5, none⟩ (.slice A9 ra.length c9) = w24 at E24 BF24 BT24 ⊢
    have hat9 := hid (show (fl2.set 5 (.slice A9 ra.length c9))[5]? = some (.slice A9 ra.length c9) by simp [rf22.out.len])
    generalize fl2.set 5 (.slice A9 ra.length c9) = fl3 at BF24 rf24 hat9
    obtain ⟨e2, he2⟩ : ∃ l, rrB p q tb = l := ⟨_, rfl⟩
    have HE2 := hid (show e2 = if p.dir.no = q.dir.no then ra else tE by rw [← he2]; unfold rrB; rw [HRA.out, HTE.out])
    have HL2 := hid (show e2.length ≤ 1000 by
      rw [HE2.out]; split
      · exact HLRA.out
      · exact HLT.out)
    rw [he2] at HRQ
    clear he2
    go_upto_if 121 with (fail)
    go_cut [0] (fun s0 wx => ∃ tl3, Hid (Ext h w h23 wx) ∧ Hid (BoxU w h23 wx gf fl3.toArray 37) ∧ Hid (BoxU w h23 wx gt tl3.toArray 37) ∧ Hid (repInode h23 tl3 { q.dir with entries := e2 }))
    case first =>
      as_aux_lemma =>
      cases sb
      · have HE3 := hid (show tE = e2 by rw [HE2.out, if_neg (by rw [HSS.out]; decide)])
        go_wp2_with fail
        go_meet
        exact ⟨tl2, E24, BF24, BT24, hid (by rw [← HE3.out]; exact rt24.out)⟩
      · have HE3 := hid (show ra = e2 by rw [HE2.out, if_pos (by rw [HSS.out])])
        have m5 : w24.cell? ⟨gf, 5, none⟩ = some (.slice A9 ra.length c9) := BF24.out.cell (by rw [List.getElem?_toArray]; exact hat9.out)
        have l5 := BT24.out.cell (by rw [List.getElem?_toArray]; exact rt24.out.at5.choose_spec.choose_spec.1)
        have f5 := BT24.out.open_ 5
        go_wp2_with fail
        go_meet
        exact ⟨_, hid (BT24.out.wr1 E24.out 5 (.slice A9 ra.length c9)), hid (BF24.out.other1 hft.out 5 (.slice A9 ra.length c9)), hid (BT24.out.set1 5 (.slice A9 ra.length c9)), hid (by rw [← HE3.out]; exact rt24.out.setEnt k9.out r9.out)⟩
    case rest =>
    obtain ⟨tl3, E25, BF25, BT25, rt25⟩ := hcut
    clear E24 BF24 BT24 rt24
    obtain ⟨B5, b5, bt5, kk5, row5⟩ := rt25.out.at5
    have KA := ref_AddEntry e2 B5 b5 kk5.nn kk5.le kk5.mx HL2.out ⟨q.name, p.x.no⟩ HNZ2.out h23 wc E25.out.sits row5
    obtain ⟨ac, hac⟩ : ∃ c, addC e2 ⟨q.name, p.x.no⟩ = c := ⟨_, rfl⟩
    obtain ⟨al, hal⟩ : ∃ l, addL e2 ⟨q.name, p.x.no⟩ = l := ⟨_, rfl⟩
    rw [hac, hal] at KA
    have KA := hid KA
    have hall : al.length ≤ 1001 := by
      rw [← hal]; unfold addL; split
      · unfold insE; have := HL2.out; simp; omega
      · simp
    rw [hac, hal] at HRQ
    have m5 : wc.cell? ⟨gt, 5, none⟩ = some (.slice B5 e2.length b5) := BT25.out.cell (by rw [List.getElem?_toArray]; exact bt5)
    have mn0 := sits_cellL E25.out.sits (l23.out _ _ (l20.out _ _ hn16.out)) rn.out.at0
    clear hac hal kk5 row5
    (try go_at_K)
    go_upto_region 27 with (go_at_call 90; refine KA.out.mono ?_; rintro e w25 R; obtain ⟨A7, c7, h26, rfl, r7, F9, u0, u1, u2⟩ := R.stayX (by omega); have E25' := hid (E25.out.trans F9); have BF25' := hid (BF25.out.ext F9); have BT25' := hid (BT25.out.ext F9); have l26 := hid F9.le; have k7 := hid (show CapLe A7 al.length c7 from ⟨u1, u0, u2⟩); have r7 := hid r7; clear F9 u0 u1 u2 R m5 mn0; have m5 := BT25'.out.cell (by rw [List.getElem?_toArray]; exact bt5); have f5 := BT25'.out.open_ 5)
    have E26 := hid (BT25'.out.wr1 E25'.out 5 (.slice A7 al.length c7))
    have BF26 := hid (BF25'.out.other1 hft.out 5 (.slice A7 al.length c7))
    have BT26 := hid (BT25'.out.set1 5 (.slice A7 al.length c7))
    have rt26 := hid (show repInode h26 _ { q.dir with entries := al } from (rt25.out.mono l26.out).setEnt k7.out r7.out)
    have rf26 := hid (rf24.out.mono l26.out)
    clear m5 f5 E25 BF25 BT25 E25' BF25' BT25' KA bt5 at5
    with_reducible generalize w25.setCell ⟨gt, 5, none⟩ (.slice A7 al.length c7) = w26 at E26 BF26 BT26 ⊢
    generalize tl3.set 5 (.slice A7 al.length c7) = tl4 at BT26 rt26
    have hy26 := hid (l26.out _ _ (l23.out _ _ (l20.out _ _ hy16.out)))
    have ry26 := hid (ry.out.mono (l20.out.trans (l23.out.trans l26.out)))
    have ro26 := hid (RO.out.mono (L16.out.trans (l20.out.trans (l23.out.trans l26.out))))
    by_cases hac : ac = 0
    case neg =>
      have hb : (ac == 0) = false := by simpa using hac
      have hb2 : (ac != 0) = true := by simpa using hac
      have HQ := hid (show rrenameP s old path os = ([], ac) by rw [HR5.out, HRQ.out, if_pos hac])
      clear hac
      go_wp2_with fail
      go_ret2
      exact (by rw [HQ.out]; exact ⟨none, 0, h, rfl, ⟨Nat.zero_le _, fun _ => rfl, by decide⟩, RowAt.nil _ _, E26.out.back⟩)
    case pos =>
    subst hac
    have HR6 := hid (show rrenameP s old path os = rrE p q tb al os by rw [HR5.out, HRQ.out, if_neg (by simp)])
    have hkk : (p.x.kind = 2) = (db = true) := by rw [← HDB.out]; simp
    have HKK := hid hkk
    obtain ⟨L, hL⟩ : ∃ L, rrL p q tb al = L := ⟨_, rfl⟩
    have HL := hid hL
    have HLL := hid (show L.length ≤ 2 by rw [← hL]; unfold rrL; split <;> simp)
    clear hL hkk HR5 HRQ
    go_upto_block 0 with (fail)
    go_cut [0, 22] (fun s0 s22 wx => ∃ h2, Hid (Ext h w h2 wx) ∧ Hid (FLe h26 h2) ∧ Hid (OwnL h2 wx w.heap.size 39 s22 L))
    case first =>
      cases sb
      · obtain ⟨lf, hlf⟩ : ∃ l, p.dir.links - (if p.x.kind = 2 then 1 else 0) = l := ⟨_, rfl⟩
        obtain ⟨lk, hlk⟩ : ∃ l, q.dir.links + (if p.x.kind = 2 ∧ tb = false then 1 else 0) = l := ⟨_, rfl⟩
        have HLS := hid (show [putD ⟨p.dir.no, p.dir.kind, lf, p.dir.size, p.dir.target, ra, p.dir.runs⟩, putD ⟨q.dir.no, q.dir.kind, lk, q.dir.size, q.dir.target, al, q.dir.runs⟩] = L by rw [← HL.out]; unfold rrL; rw [if_neg (by rw [HSS.out]; decide), HRA.out, hlf, hlk])
        have HLF := hid (show lf = if db = true then p.dir.links - 1 else p.dir.links by rw [← hlf]; simp only [HKK.out]; cases db <;> simp)
        have HLK := hid (show lk = if (db && !tb) = true then q.dir.links + 1 else q.dir.links by rw [← hlk]; simp only [HKK.out]; cases db <;> cases tb <;> simp)
        have HPL := hid (show -1000000 ≤ p.dir.links ∧ p.dir.links ≤ 1000000 from HDM.out.2)
        have HQL := hid (show -1000000 ≤ q.dir.links ∧ q.dir.links ≤ 1000000 from HDQ.out.2)
        clear hlf hlk
        go_upto_if 139 with (fail)
        go_cut [0] (fun s0 wx => ∃ fl5, Hid (Ext h w h26 wx) ∧ Hid (BoxU w h26 wx gf fl5.toArray 37) ∧ Hid (BoxU w h26 wx gt tl4.toArray 37) ∧ Hid (repInode h26 fl5 ⟨p.dir.no, p.dir.kind, lf, p.dir.size, p.dir.target, ra, p.dir.runs⟩))
        case first =>
          as_aux_lemma =>
          have m2 := BF26.out.cell (by rw [List.getElem?_toArray]; exact rf26.out.at2)
          have f2 := BF26.out.open_ 2
          cases db
          · have HK2 := hid (show p.dir.links = lf by rw [HLF.out]; rfl)
            go_wp2_with fail
            go_meet
            exact ⟨fl3, E26, BF26, BT26, hid (by rw [← HK2.out]; exact rf26.out)⟩
          · have HK2 := hid (show p.dir.links - 1 = lf by rw [HLF.out]; rfl)
            have hwr : IntKind.i64.wrap (p.dir.links - 1) = p.dir.links - 1 := by have := HPL.out; rw [IntKind.wrap_i64]; omega
            go_wp2_with fail
            go_meet
            exact ⟨_, hid (BF26.out.wr1 E26.out 2 (.int .i64 (p.dir.links - 1))), hid (BF26.out.set1 2 (.int .i64 (p.dir.links - 1))), hid (BT26.out.other1 (fun e => hft.out e.symm) 2 (.int .i64 (p.dir.links - 1))), hid (by rw [← HK2.out]; exact rf26.out.setLinks (p.dir.links - 1))⟩
        case rest =>
        obtain ⟨fl5, E27, BF27, BT27, rf27⟩ := hcut
        clear E26 BF26 BT26 rf26
        (try go_at_K)
        go_upto_region 32 with (fail)
        obtain ⟨zz, hzz⟩ : ∃ z, (db && !tb) = z := ⟨_, rfl⟩
        have HZZ := hid hzz
        clear hzz
        go_cut [148] (fun s148 wy => s148 = .bool zz ∧ wy = wc)
        case first =>
          as_aux_lemma =>
          cases db
          · have HB1 := hid (show false = zz by rw [← HZZ.out]; rfl)
            go_wp2_with fail
            go_meet
            exact ⟨by rw [← HB1.out], rfl⟩
          · cases tb
            · have HB1 := hid (show true = zz by rw [← HZZ.out]; rfl)
              go_wp2_with fail
              go_meet
              exact ⟨by rw [← HB1.out], rfl⟩
            · have HB1 := hid (show false = zz by rw [← HZZ.out]; rfl)
              go_wp2_with fail
              go_meet
              exact ⟨by rw [← HB1.out], rfl⟩
        case rest =>
        obtain ⟨rfl, rfl⟩ := hcut
        have HLK := hid (show lk = if zz = true then q.dir.links + 1 else q.dir.links by rw [HLK.out, HZZ.out])
        clear HZZ
        (try go_at_K)
        go_upto_if 148 with (fail)
        go_cut [0] (fun s0 wx => ∃ tl5, Hid (Ext h w h26 wx) ∧ Hid (BoxU w h26 wx gf fl5.toArray 37) ∧ Hid (BoxU w h26 wx gt tl5.toArray 37) ∧ Hid (repInode h26 tl5 ⟨q.dir.no, q.dir.kind, lk, q.dir.size, q.dir.target, al, q.dir.runs⟩))
        case first =>
          as_aux_lemma =>
          have m2 := BT27.out.cell (by rw [List.getElem?_toArray]; exact rt26.out.at2)
          have f2 := BT27.out.open_ 2
          cases zz
          · have HK2 := hid (show q.dir.links = lk by rw [HLK.out]; rfl)
            go_wp2_with fail
            go_meet
            exact ⟨tl4, E27, BF27, BT27, hid (by rw [← HK2.out]; exact rt26.out)⟩
          · have HK2 := hid (show q.dir.links + 1 = lk by rw [HLK.out]; rfl)
            have hwr : IntKind.i64.wrap (q.dir.links + 1) = q.dir.links + 1 := by have := HQL.out; rw [IntKind.wrap_i64]; omega
            go_wp2_with fail
            go_meet
            exact ⟨_, hid (BT27.out.wr1 E27.out 2 (.int .i64 (q.dir.links + 1))), hid (BF27.out.other1 hft.out 2 (.int .i64 (q.dir.links + 1))), hid (BT27.out.set1 2 (.int .i64 (q.dir.links + 1))), hid (by rw [← HK2.out]; exact rt26.out.setLinks (q.dir.links + 1))⟩
        case rest =>
        obtain ⟨tl5, E30, BF30, BT30, rt30⟩ := hcut
        (try go_at_K)
        obtain ⟨h41, E41, hbF0, l41, k41⟩ := BF30.out.freeze E30.out
        obtain ⟨h42, E42, hbT, l42, -⟩ := (BT30.out.keep k41 (fun e => hft.out e.symm)).freeze E41
        have hbF := l42 _ _ hbF0
        obtain ⟨F5, f5, F6, f6, rfl, sf5, kf5, rwf5, kf6, rwf6⟩ := rep_open7 (rf27.out.mono (l41.trans l42))
        obtain ⟨C5, k5, C6, k6, rfl, st, kt5, rwt5, kt6, rwt6⟩ := rep_open7 (rt30.out.mono (l41.trans l42))
        have hf0 : ∀ w' : World, Ext h w h42 w' → w'.cell? ⟨gf, 0, none⟩ = some (.int .i64 p.dir.no) := fun w' E => Sits_at E.sits hbF rfl
        have ht0 : ∀ w' : World, Ext h w h42 w' → w'.cell? ⟨gt, 0, none⟩ = some (.int .i64 q.dir.no) := fun w' E => Sits_at E.sits hbT rfl
        have hf1 : ∀ w' : World, Ext h w h42 w' → w'.cell? ⟨gf, 1, none⟩ = some (.int .i64 p.dir.kind) := fun w' E => Sits_at E.sits hbF rfl
        have ht1 : ∀ w' : World, Ext h w h42 w' → w'.cell? ⟨gt, 1, none⟩ = some (.int .i64 q.dir.kind) := fun w' E => Sits_at E.sits hbT rfl
        have hf2 : ∀ w' : World, Ext h w h42 w' → w'.cell? ⟨gf, 2, none⟩ = some (.int .i64 lf) := fun w' E => Sits_at E.sits hbF rfl
        have ht2 : ∀ w' : World, Ext h w h42 w' → w'.cell? ⟨gt, 2, none⟩ = some (.int .i64 lk) := fun w' E => Sits_at E.sits hbT rfl
        have hf3 : ∀ w' : World, Ext h w h42 w' → w'.cell? ⟨gf, 3, none⟩ = some (.int .i64 p.dir.size) := fun w' E => Sits_at E.sits hbF rfl
        have ht3 : ∀ w' : World, Ext h w h42 w' → w'.cell? ⟨gt, 3, none⟩ = some (.int .i64 q.dir.size) := fun w' E => Sits_at E.sits hbT rfl
        have hf4 : ∀ w' : World, Ext h w h42 w' → w'.cell? ⟨gf, 4, none⟩ = some (.string p.dir.target) := fun w' E => Sits_at E.sits hbF rfl
        have ht4 : ∀ w' : World, Ext h w h42 w' → w'.cell? ⟨gt, 4, none⟩ = some (.string q.dir.target) := fun w' E => Sits_at E.sits hbT rfl
        have hf5 : ∀ w' : World, Ext h w h42 w' → w'.cell? ⟨gf, 5, none⟩ = some (.slice F5 ra.length f5) := fun w' E => Sits_at E.sits hbF rfl
        have ht5 : ∀ w' : World, Ext h w h42 w' → w'.cell? ⟨gt, 5, none⟩ = some (.slice C5 al.length k5) := fun w' E => Sits_at E.sits hbT rfl
        have hf6 : ∀ w' : World, Ext h w h42 w' → w'.cell? ⟨gf, 6, none⟩ = some (.slice F6 p.dir.runs.length f6) := fun w' E => Sits_at E.sits hbF rfl
        have ht6 : ∀ w' : World, Ext h w h42 w' → w'.cell? ⟨gt, 6, none⟩ = some (.slice C6 q.dir.runs.length k6) := fun w' E => Sits_at E.sits hbT rfl
        have KPa := hid (fun (w' : World) (hs' : Sits h42 w') => (ref_putDeed ⟨p.dir.no, p.dir.kind, lf, p.dir.size, p.dir.target, ra, p.dir.runs⟩ F5 f5 F6 f6 h42 w' hs' : Calls Try.prog 91 #[.agg #[.int .i64 p.dir.no, .int .i64 p.dir.kind, .int .i64 lf, .int .i64 p.dir.size, .string p.dir.target, .slice F5 ra.length f5, .slice F6 p.dir.runs.length f6]] w' fun e w2 => e = .returned (.agg #[.int .i64 2, .int .i64 0, .int .i64 p.dir.no, .int .i64 p.dir.kind, .int .i64 lf, .int .i64 p.dir.size, .string p.dir.target, .slice F5 ra.length f5, .slice F6 p.dir.runs.length f6]) ∧ Ext h42 w' h42 w2))
        have KPb := hid (fun (w' : World) (hs' : Sits h42 w') => (ref_putDeed ⟨q.dir.no, q.dir.kind, lk, q.dir.size, q.dir.target, al, q.dir.runs⟩ C5 k5 C6 k6 h42 w' hs' : Calls Try.prog 91 #[.agg #[.int .i64 q.dir.no, .int .i64 q.dir.kind, .int .i64 lk, .int .i64 q.dir.size, .string q.dir.target, .slice C5 al.length k5, .slice C6 q.dir.runs.length k6]] w' fun e w2 => e = .returned (.agg #[.int .i64 2, .int .i64 0, .int .i64 q.dir.no, .int .i64 q.dir.kind, .int .i64 lk, .int .i64 q.dir.size, .string q.dir.target, .slice C5 al.length k5, .slice C6 q.dir.runs.length k6]) ∧ Ext h42 w' h42 w2))
        have E43 := E42.drew
        have L42 := hid (l41.trans l42)
        have H1 := hid sf5
        have H2 := hid kf5
        have H3 := hid rwf5
        have H4 := hid kf6
        have H5 := hid rwf6
        have H6 := hid st
        have H7 := hid kt5
        have H8 := hid rwt5
        have H9 := hid kt6
        have H10 := hid rwt6
        clear sf5 kf5 rwf5 kf6 rwf6 st kt5 rwt5 kt6 rwt6 E41 E42 hbF0 l41 k41 l42 E30 BF30 BT30 rt30 rf27 E27 BF27 BT27 rt26
        go_upto_region 34 with (fail)
        go_region_held3 (fun w' => Ext h w h42 w') (first | with_reducible assumption | with_reducible exact Eh | with_reducible exact Eg | with_reducible exact Ext.alloc Eg _) (first | (go_at_call 91; (with_reducible refine (KPa.out _ (Ext.sits (h := h) (h' := h42) (w := w) (by with_reducible assumption))).mono ?_); rintro e wf ⟨rfl, Fp⟩; have Eg := Ext.trans (h := h) (w := w) (h1 := h42) (by with_reducible assumption) Fp; clear Fp) | (go_at_call 91; (with_reducible refine (KPb.out _ (Ext.sits (h := h) (h' := h42) (w := w) (by with_reducible assumption))).mono ?_); rintro e wf ⟨rfl, Fp⟩; have Eg := Ext.trans (h := h) (w := w) (h1 := h42) (by with_reducible assumption) Fp; clear Fp) | (rw [if_pos (by rfl)]; obtain ⟨h15, E15, hb15, le15, -⟩ := Eg.boxF #[.int .i64 2, .int .i64 0, .int .i64 p.dir.no, .int .i64 p.dir.kind, .int .i64 lf, .int .i64 p.dir.size, .string p.dir.target, .slice F5 ra.length f5, .slice F6 p.dir.runs.length f6, .int .i64 2, .int .i64 0, .int .i64 q.dir.no, .int .i64 q.dir.kind, .int .i64 lk, .int .i64 q.dir.size, .string q.dir.target, .slice C5 al.length k5, .slice C6 q.dir.runs.length k6] 39; refine step_appendR _ _ 40 rfl w.heap.size 39 112 ty_Deed (.slice none 0 0) [] [putD ⟨p.dir.no, p.dir.kind, lf, p.dir.size, p.dir.target, ra, p.dir.runs⟩, putD ⟨q.dir.no, q.dir.kind, lk, q.dir.size, q.dir.target, al, q.dir.runs⟩] rfl (OwnL.nil _ _ _ _) E15.sits _ 2 2 rfl rfl (RowAt.of_block hb15 ⟨[.int .i64 2, .int .i64 0, .int .i64 p.dir.no, .int .i64 p.dir.kind, .int .i64 lf, .int .i64 p.dir.size, .string p.dir.target, .slice F5 ra.length f5, .slice F6 p.dir.runs.length f6], _, rfl, ⟨F5, f5, F6, f6, rfl, H1.out, H2.out, H3.out.mono le15, H4.out, H5.out.mono le15⟩, [.int .i64 2, .int .i64 0, .int .i64 q.dir.no, .int .i64 q.dir.kind, .int .i64 lk, .int .i64 q.dir.size, .string q.dir.target, .slice C5 al.length k5, .slice C6 q.dir.runs.length k6], [], rfl, ⟨C5, k5, C6, k6, rfl, H6.out, H7.out, H8.out.mono le15, H9.out, H10.out.mono le15⟩, rfl⟩ (by show 2 ≤ 9223372036854775807; decide)) (by show (2 : Nat) * 112 ≤ 140737488355328; decide) (by decide) E15.size ?_; intro v1 w4 O1 hg1; have E44 := hid (E15.grown hg1 (fun k hk => by cases hk)); have Eh := Ext.grown (h := h) (h1 := h42) (w := w) (Ext.alloc Eg _) hg1 (fun k hk => by cases hk); have O1 := hid O1; have le15 := hid le15; clear E15 hb15 hg1))
        all_goals
          go_wp2_with fail
          go_meet
          exact ⟨h15, E44, hid (L42.out.trans le15.out), hid (by rw [← HLS.out]; exact O1.out)⟩
      · obtain ⟨lk, hlk⟩ : ∃ l, q.dir.links - (if p.x.kind = 2 ∧ tb = true then 1 else 0) = l := ⟨_, rfl⟩
        have HLS := hid (show [putD ⟨q.dir.no, q.dir.kind, lk, q.dir.size, q.dir.target, al, q.dir.runs⟩] = L by rw [← HL.out]; unfold rrL; rw [if_pos (by rw [HSS.out]), hlk])
        have HLK := hid (show lk = if (db && tb) = true then q.dir.links - 1 else q.dir.links by rw [← hlk]; simp only [HKK.out]; cases db <;> cases tb <;> simp)
        have HQL := hid (show -1000000 ≤ q.dir.links ∧ q.dir.links ≤ 1000000 from HDQ.out.2)
        clear hlk
        go_upto_region 36 with (fail)
        obtain ⟨zz, hzz⟩ : ∃ z, (db && tb) = z := ⟨_, rfl⟩
        have HZZ := hid hzz
        clear hzz
        go_cut [165] (fun s165 wy => s165 = .bool zz ∧ wy = w26)
        case first =>
          as_aux_lemma =>
          cases db
          · have HB1 := hid (show false = zz by rw [← HZZ.out]; rfl)
            go_wp2_with fail
            go_meet
            exact ⟨by rw [← HB1.out], rfl⟩
          · cases tb
            · have HB1 := hid (show false = zz by rw [← HZZ.out]; rfl)
              go_wp2_with fail
              go_meet
              exact ⟨by rw [← HB1.out], rfl⟩
            · have HB1 := hid (show true = zz by rw [← HZZ.out]; rfl)
              go_wp2_with fail
              go_meet
              exact ⟨by rw [← HB1.out], rfl⟩
        case rest =>
        obtain ⟨rfl, rfl⟩ := hcut
        have HLK := hid (show lk = if zz = true then q.dir.links - 1 else q.dir.links by rw [HLK.out, HZZ.out])
        clear HZZ
        (try go_at_K)
        go_upto_if 165 with (fail)
        go_cut [0] (fun s0 wx => ∃ tl5, Hid (Ext h w h26 wx) ∧ Hid (BoxU w h26 wx gt tl5.toArray 37) ∧ Hid (repInode h26 tl5 ⟨q.dir.no, q.dir.kind, lk, q.dir.size, q.dir.target, al, q.dir.runs⟩))
        case first =>
          as_aux_lemma =>
          have m2 := BT26.out.cell (by rw [List.getElem?_toArray]; exact rt26.out.at2)
          have f2 := BT26.out.open_ 2
          cases zz
          · have HK2 := hid (show q.dir.links = lk by rw [HLK.out]; rfl)
            go_wp2_with fail
            go_meet
            exact ⟨tl4, E26, BT26, hid (by rw [← HK2.out]; exact rt26.out)⟩
          · have HK2 := hid (show q.dir.links - 1 = lk by rw [HLK.out]; rfl)
            have hwr : IntKind.i64.wrap (q.dir.links - 1) = q.dir.links - 1 := by have := HQL.out; rw [IntKind.wrap_i64]; omega
            go_wp2_with fail
            go_meet
            exact ⟨_, hid (BT26.out.wr1 E26.out 2 (.int .i64 (q.dir.links - 1))), hid (BT26.out.set1 2 (.int .i64 (q.dir.links - 1))), hid (by rw [← HK2.out]; exact rt26.out.setLinks (q.dir.links - 1))⟩
        case rest =>
        obtain ⟨tl5, E30, BT30, rt30⟩ := hcut
        obtain ⟨C5, k5, C6, k6, rfl, st, kt5, rwt5, kt6, rwt6⟩ := rep_open7 rt30.out
        have KP := hid (ref_putDeed ⟨q.dir.no, q.dir.kind, lk, q.dir.size, q.dir.target, al, q.dir.runs⟩ C5 k5 C6 k6 h26 wc E30.out.sits : Calls Try.prog 91 #[.agg #[.int .i64 q.dir.no, .int .i64 q.dir.kind, .int .i64 lk, .int .i64 q.dir.size, .string q.dir.target, .slice C5 al.length k5, .slice C6 q.dir.runs.length k6]] wc fun e w2 => e = .returned (.agg #[.int .i64 2, .int .i64 0, .int .i64 q.dir.no, .int .i64 q.dir.kind, .int .i64 lk, .int .i64 q.dir.size, .string q.dir.target, .slice C5 al.length k5, .slice C6 q.dir.runs.length k6]) ∧ Ext h26 wc h26 w2)
        have RY := hid (show repDeed h26 [.int .i64 2, .int .i64 0, .int .i64 q.dir.no, .int .i64 q.dir.kind, .int .i64 lk, .int .i64 q.dir.size, .string q.dir.target, .slice C5 al.length k5, .slice C6 q.dir.runs.length k6] (putD ⟨q.dir.no, q.dir.kind, lk, q.dir.size, q.dir.target, al, q.dir.runs⟩) from ⟨C5, k5, C6, k6, rfl, st, kt5, rwt5, kt6, rwt6⟩)
        clear st kt5 rwt5 kt6 rwt6
        (try go_at_K)
        go_wp2_with (first | (refine wpList_load_row rfl 37 _ rfl gt rfl 37 #[.int .i64 q.dir.no, .int .i64 q.dir.kind, .int .i64 lk, .int .i64 q.dir.size, .string q.dir.target, .slice C5 al.length k5, .slice C6 q.dir.runs.length k6] (0, 0) _ BT30.out.row Try.underlying37 rfl (by kernel_rfl) ?_) | (go_at_call 91; refine KP.out.mono ?_; rintro e w31 ⟨rfl, F31⟩; have E31 := hid (E30.out.trans F31); clear F31) | (at_builtin; refine wpList_append1At rfl _ _ 40 rfl w.heap.size 39 112 ty_Deed (.slice none 0 0) [] rfl (OwnL.nil _ _ _ _) (E31.out.sits.alloc _) _ rfl _ (putD ⟨q.dir.no, q.dir.kind, lk, q.dir.size, q.dir.target, al, q.dir.runs⟩ : Deed) RY.out (cells_of_box (heap_new _ _)) (by decide) (by decide) (E31.out.alloc _).size ?_; intro v3 w4 O3 hg3; have O3 := hid O3; have E6 := hid ((E31.out.alloc _).grown hg3 (fun k hk => by cases hk)); clear hg3))
        go_meet
        exact ⟨h26, E6, hid (FLe.refl _), hid (by rw [← HLS.out]; exact O3.out)⟩
    case rest =>
    obtain ⟨h40, E40, l40, O40⟩ := hcut
    have hy40 := hid (l40.out _ _ hy26.out)
    have ry40 := hid (ry26.out.mono l40.out)
    have ro40 := hid (ro26.out.mono l40.out)
    have HBL := hid (show (L.length + 1) * 112 ≤ 140737488355328 by have := HLL.out; omega)
    (try go_at_K)
    cases tb
    · have HQ := hid (show rrenameP s old path os = (L, 0) from HR6.out.trans ((rrE_new p q al os).trans (congrArg (fun l => (l, (0 : Int))) HL.out)))
      obtain ⟨h', A, c, rfl, rL, le', E', u0, u1, u2, -⟩ := O40.out.stayX E40.out (Nat.le_refl _) (by have := HLL.out; omega)
      go_wp2_with fail
      go_ret2
      rw [HQ.out]
      exact ⟨A, c, h', rfl, ⟨u0, u2, u1⟩, rL, E'⟩
    · cases db
      · have HQ := hid (show rrenameP s old path os = (L ++ [letGoP q.x os], 0) from HR6.out.trans ((rrE_go (fun e => by rw [HKK.out] at e; cases e) al os).trans (congrArg (fun l => (l ++ [letGoP q.x os], (0 : Int))) HL.out)))
        obtain ⟨D5, d5, D6, d6, hyl⟩ := ry40.out.open
        have KLG := hid (ref_letGo q.x D5 d5 D6 d6 os AO cO HXQ.out.2.1 HXQ.out.2.2 h40 _ E40.out.sits (by rw [← hyl]; exact ry40.out) ro40.out)
        rw [show #[Value.int .i64 q.x.no, .int .i64 q.x.kind, .int .i64 q.x.links, .int .i64 q.x.size, .string q.x.target, .slice D5 q.x.entries.length d5, .slice D6 q.x.runs.length d6] = yl.toArray by rw [hyl]] at KLG
        obtain ⟨g, hg⟩ : ∃ g, letGoP q.x os = g := ⟨_, rfl⟩
        rw [hg] at KLG HQ
        clear hyl hg
        go_upto_region 42 with (fail)
        go_wp2_with (first | (refine wpList_load_row rfl 37 _ rfl gy rfl 37 yl.toArray (0, 0) _ (E40.out.sits _ _ hy40.out) Try.underlying37 rfl (info_Inode ry40.out.len) ?_) | (go_at_call 96; refine KLG.out.mono ?_; rintro e w19 ⟨G5, g5, G6, g6, rfl, rg, F19⟩; have E19 := hid (E40.out.trans F19); have O19 := hid (O40.out.ext F19); have RY := hid (deed_repT rg); clear F19) | (at_builtin; refine wpList_append1At rfl _ _ 40 rfl w.heap.size 39 112 ty_Deed _ _ rfl (O19.out.alloc _) (E19.out.sits.alloc _) _ rfl _ (g : Deed) RY.out (cells_of_box (heap_new _ _)) HBL.out (by decide) (E19.out.alloc _).size ?_; intro v3 w4 O3 hg3; have O3 := hid O3; have E6 := hid ((E19.out.alloc _).grown hg3 (fun k hk => ⟨(O19.out.lt k hk).1, O19.out.free k hk⟩)); clear hg3))
        obtain ⟨h', A, c, rfl, rL, le', E', u0, u1, u2, -⟩ := O3.out.stayX E6.out (Nat.le_refl _) (by have := HLL.out; simp; omega)
        go_ret2
        rw [HQ.out]
        exact ⟨A, c, h', rfl, ⟨u0, u2, u1⟩, rL, E'⟩
      · have HQ := hid (show rrenameP s old path os = (L ++ [⟨3, q.x.no, zeroI⟩], 0) from HR6.out.trans ((rrE_drop (by rw [HKK.out]) al os).trans (congrArg (fun l => (l ++ [⟨3, q.x.no, zeroI⟩], (0 : Int))) HL.out)))
        have n8 := sits_cellL E40.out.sits hy40.out ry40.out.at0
        have RY := hid (show repDeed h40 [.int .i64 3, .int .i64 q.x.no, .int .i64 0, .int .i64 0, .int .i64 0, .int .i64 0, .string ⟨#[]⟩, .slice none 0 0, .slice none 0 0] ⟨3, q.x.no, zeroI⟩ from ⟨none, 0, none, 0, rfl, Nat.zero_le _, ⟨Nat.le_refl _, fun _ => rfl, by decide⟩, RowAt.nil _ _, ⟨Nat.le_refl _, fun _ => rfl, by decide⟩, RowAt.nil _ _⟩)
        go_upto_region 40 with (fail)
        go_wp2_with (at_builtin; refine wpList_append1At rfl _ _ 40 rfl w.heap.size 39 112 ty_Deed _ _ rfl (O40.out.alloc _) (E40.out.sits.alloc _) _ rfl _ (⟨3, q.x.no, zeroI⟩ : Deed) RY.out (cells_of_box (heap_new _ _)) HBL.out (by decide) (E40.out.alloc _).size ?_; intro v3 w4 O3 hg3; have O3 := hid O3; have E6 := hid ((E40.out.alloc _).grown hg3 (fun k hk => ⟨(O40.out.lt k hk).1, O40.out.free k hk⟩)); clear hg3)
        obtain ⟨h', A, c, rfl, rL, le', E', u0, u1, u2, -⟩ := O3.out.stayX E6.out (Nat.le_refl _) (by have := HLL.out; simp; omega)
        go_ret2
        rw [HQ.out]
        exact ⟨A, c, h', rfl, ⟨u0, u2, u1⟩, rL, E'⟩
  · have hb : (code == 0) = false := by simpa using hc
    have hb2 : (code != 0) = true := by simpa using hc
    have HQ := hid (show rrenameP s old path os = ([], code) by unfold rrenameP; rw [HP.out, if_pos hc])
    clear hc
    go_wp2_with fail
    go_ret2
    exact (by rw [HQ.out]; exact ⟨none, 0, h, rfl, ⟨Nat.zero_le _, fun _ => rfl, by decide⟩, RowAt.nil _ _, E6.out.back⟩)

end Go.Proofs.Ytkglaofiencfdaa
