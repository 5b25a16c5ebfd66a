import Derived.Test.YtdiaibkpcnknbaaDoorTrMv2
namespace Go.Proofs.YtdiaibkpcnknbaaDoor
open Go.RowKit Go.Sort
set_option linter.unusedVariables false
theorem OwnL.madeN {α : Type} [Enc α] {h : FH} {w : World} (hs : Sits h w) {cs : List Value} {xs : List α} (T : TypeId) (r : Reps h cs xs) (hpos : 0 < xs.length) (hbig : xs.length ≤ 1000) : OwnL h (w.alloc (.cells cs.toArray T)) w.heap.size T (.slice (some ⟨w.heap.size, 0, none⟩) xs.length xs.length) xs := by
  have hl := r.length
  refine ⟨⟨cs, ⟨by rw [hl], .inr ⟨w.heap.size, xs.length, cs.toArray, rfl, Nat.le_refl _, heap_new _ _, Nat.le_refl _, by unfold maxLen; omega, by simp [hl], by simp; exact List.take_of_length_le (by rw [hl]; exact Nat.le_refl _)⟩⟩, r⟩, fun g hg => ?_⟩
  have : g = w.heap.size := by simpa [Value.ownBlock] using hg.symm
  rw [this]; exact hs.none (Nat.le_refl _)
theorem withoutP_links (d : Inode) (n : ByteArray) : (withoutP d n).links = d.links := by unfold withoutP; split <;> rfl
theorem movT_links (a b : Spot) : (withoutP (if a.dir.no = b.dir.no then withoutP a.dir a.name else b.dir) b.name).links = a.dir.links ∨ (withoutP (if a.dir.no = b.dir.no then withoutP a.dir a.name else b.dir) b.name).links = b.dir.links := by
  rw [withoutP_links]
  split
  · left; exact withoutP_links _ _
  · right; rfl
theorem movedP_links (a b : Spot) : (movedP a b).1.links = a.dir.links ∧ ((movedP a b).2.1.links = a.dir.links ∨ (movedP a b).2.1.links = b.dir.links) := by
  have q := movT_links a b
  have q2 := withoutP_links a.dir a.name
  unfold movedP
  simp only
  generalize withoutP (if a.dir.no = b.dir.no then withoutP a.dir a.name else b.dir) b.name = T at q ⊢
  by_cases hc : addC T.entries ⟨b.name, a.x.no⟩ ≠ 0
  · rw [if_pos hc]; exact ⟨q2, q⟩
  · rw [if_neg hc]; exact ⟨q2, q⟩
def comesI (a : Spot) : Int := if a.x.kind = 2 then 1 else 0
def goesI (b : Spot) : Int := if b.is = true ∧ b.x.kind = 2 then 1 else 0
def renL (a b : Spot) (f t : Inode) : List Deed := if a.dir.no = b.dir.no then [putD { t with links := t.links + (comesI a - goesI b) - comesI a }] else [putD { f with links := f.links - comesI a }, putD { t with links := t.links + (comesI a - goesI b) }]
def renE (a b : Spot) (f t : Inode) (os : List Int) : List Deed × Int :=
  if b.is = false then (renL a b f t, 0) else if goesI b = 1 then (renL a b f t ++ [⟨3, b.x.no, zeroI⟩], 0) else (renL a b f t ++ [letGoP b.x os], 0)
def renB (s : State) (a b : Spot) (os : List Int) : List Deed × Int :=
  if b.is = true ∧ b.x.no = a.x.no then ([], 0)
  else if mayP s a b ≠ 0 then ([], mayP s a b)
  else if (movedP a b).2.2 ≠ 0 then ([], (movedP a b).2.2)
  else renE a b (movedP a b).1 (movedP a b).2.1 os
def renameP (s : State) (old path : ByteArray) (os : List Int) : List Deed × Int :=
  if (thereS s.inodes old).2 ≠ 0 then ([], (thereS s.inodes old).2)
  else if (findS s.inodes path).2 ≠ 0 then ([], (findS s.inodes path).2)
  else renB s (thereS s.inodes old).1 (findS s.inodes path).1 os

set_option maxHeartbeats 32000000 in
set_option maxRecDepth 100000 in
theorem tree_Rename (s : State) (cs : List Value) (old path : ByteArray) (hso : old.size ≤ 9223372036854775807) (hsp : path.size ≤ 9223372036854775807) (os : List Int) (AO : Option Addr) (cO : Nat) (hlen : s.inodes.length ≤ 1000) (hent : ∀ x ∈ s.inodes, midI x) (hfit : ∀ x ∈ s.inodes, fitI x) (h : FH) (w : World) (hs : Sits h w) (rS : repState h cs s) (ro : RowAt h AO os) :
    Calls Tryd.prog 10 #[.agg cs.toArray, .string old, .string path, .slice AO os.length cO] w fun e w' => RetDC h w (renameP s old path os) e w' := by
  have HENT := hid hent
  have RO := hid ro
  clear hent ro
  have RS := hid rS
  have HFIT := hid hfit
  clear rS hfit
  obtain ⟨h1, E1, hb1, le1, hh1⟩ := (Ext.refl hs).boxF cs.toArray 31
  clear hh1
  obtain ⟨⟨a, code⟩, hf⟩ : ∃ fs, thereS s.inodes old = fs := ⟨_, rfl⟩
  have HP := hid hf
  have hpm := thereS_all midI_zero HENT.out old
  rw [hf] at hpm
  have HDA := hid hpm.1
  clear hpm hf
  go_enter Tryd.func10, Tryd.ntmps10
  go_upto_region 1 with (fail)
  generalize hgx : w.heap.size = gx at *
  with_reducible generalize w.alloc (.cells cs.toArray 31) = W2 at E1 ⊢
  clear hgx
  have E2 := hid E1
  have hb1 := hid hb1
  have le1 := hid le1
  clear E1
  have KT := hid (tree_there s _ old hso HFIT.out a code HP.out h1 W2 E2.out.sits (repState.mono le1.out RS.out))
  go_upto_region 2 with (first | (refine wpList_load_row rfl 31 _ rfl gx rfl 31 cs.toArray (0, 0) _ (E2.out.sits _ _ hb1.out) Tryd.underlying31 rfl (info_State RS.out.len) ?_) | (go_at_call 23; refine KT.out.mono ?_; rintro e w3 ⟨la, h3, rfl, ra, F3⟩; have E3 := hid (E2.out.trans F3); have l3 := hid F3.le; have ra := hid ra; clear F3) | (refine wpList_store_row rfl 55 _ _ rfl w3.heap.size la.toArray rfl rfl 55 #[.int .i64 0, .int .i64 0, .int .i64 0, .int .i64 0, .string ⟨#[]⟩, .slice none 0 0, .slice none 0 0, .string ⟨#[]⟩, .int .i64 0, .int .i64 0, .int .i64 0, .int .i64 0, .string ⟨#[]⟩, .slice none 0 0, .slice none 0 0, .bool false] (heap_new w3 _) (info_Spot ra.out.len) (zs_size ra.out) (one_arr ra.out.one) ?_))
  rw [World.setRow_alloc_new]
  obtain ⟨h4, E4, ha4, l4, hh4⟩ := E3.out.boxF la.toArray 55
  with_reducible generalize w3.alloc (.cells la.toArray 55) = W4 at E4 ⊢
  generalize w3.heap.size = ga at *
  have E4 := hid E4
  have ha4 := hid ha4
  have hx4 := hid (l4 _ _ (l3.out _ _ hb1.out))
  have L4 := hid (le1.out.trans (l3.out.trans l4))
  have ra := hid (ra.out.mono l4)
  clear hh4 E3 KT l4
  by_cases hc : code = 0
  · subst hc
    obtain ⟨⟨b, code2⟩, hf⟩ : ∃ fs, findS s.inodes path = fs := ⟨_, rfl⟩
    have HP2 := hid hf
    have hpm := findS_all midI_zero HENT.out path
    rw [hf] at hpm
    have HDB := hid hpm.1
    have HXBM := hid hpm.2
    have KF := hid (tree_find s _ path hsp HFIT.out b code2 hf h4 W4 E4.out.sits (repState.mono L4.out RS.out))
    have HR1 := hid (show renameP s old path os = if code2 ≠ 0 then ([], code2) else renB s a b os by unfold renameP; rw [HP.out, if_neg (by simp), hf])
    clear hpm hf
    go_upto_region 5 with (first | (refine wpList_load_row rfl 31 _ rfl gx rfl 31 cs.toArray (0, 0) _ (E4.out.sits _ _ hx4.out) Tryd.underlying31 rfl (info_State RS.out.len) ?_) | (go_at_call 24; refine KF.out.mono ?_; rintro e w5 ⟨lb, h5, rfl, rb, F5⟩; have E5 := hid (E4.out.trans F5); have l5 := hid F5.le; have rb := hid rb; clear F5) | (refine wpList_store_row rfl 55 _ _ rfl w5.heap.size lb.toArray rfl rfl 55 #[.int .i64 0, .int .i64 0, .int .i64 0, .int .i64 0, .string ⟨#[]⟩, .slice none 0 0, .slice none 0 0, .string ⟨#[]⟩, .int .i64 0, .int .i64 0, .int .i64 0, .int .i64 0, .string ⟨#[]⟩, .slice none 0 0, .slice none 0 0, .bool false] (heap_new w5 _) (info_Spot rb.out.len) (zs_size rb.out) (one_arr rb.out.one) ?_))
    rw [World.setRow_alloc_new]
    obtain ⟨h6, E6, hb6, l6, hh6⟩ := E5.out.boxF lb.toArray 55
    with_reducible generalize w5.alloc (.cells lb.toArray 55) = W6 at E6 ⊢
    generalize w5.heap.size = gb at *
    have E6 := hid E6
    have hb6 := hid hb6
    have hx6 := hid (l6 _ _ (l5.out _ _ hx4.out))
    have ha6 := hid (l6 _ _ (l5.out _ _ ha4.out))
    have L6 := hid (L4.out.trans (l5.out.trans l6))
    have ra := hid (ra.out.mono (l5.out.trans l6))
    have rb := hid (rb.out.mono l6)
    clear hh6 E5 KF l6 ha4 hx4
    by_cases hc2 : code2 = 0
    · subst hc2
      have HR2 := hid (show renameP s old path os = renB s a b os by rw [HR1.out, if_neg (by simp)])
      obtain ⟨xa, rxa, hxa⟩ := ra.out.xx
      obtain ⟨xb, rxb, hxb⟩ := rb.out.xx
      obtain ⟨da, rda, hda⟩ := ra.out.dir
      obtain ⟨db, rdb, hdb⟩ := rb.out.dir
      have HXA := hid hxa
      have HXB := hid hxb
      have HADA := hid hda
      have HADB := hid hdb
      clear hxa hxb hda hdb
      have m15 := sits_cellF E6.out.sits hb6.out rb.out.iss
      have mb0 := sits_cellF E6.out.sits hb6.out (HXB.out 0 _ rxb.at0)
      have ma0 := sits_cellF E6.out.sits ha6.out (HXA.out 0 _ rxa.at0)
      obtain ⟨bi, hbi⟩ : ∃ bi, b.is = bi := ⟨_, rfl⟩
      rw [hbi] at m15
      have HBI := hid hbi
      obtain ⟨z, hz⟩ : ∃ z, decide (bi = true ∧ b.x.no = a.x.no) = z := ⟨_, rfl⟩
      have HZ := hid hz
      clear hbi hz
      go_upto_region 7 with (fail)
      go_cut [37] (fun s37 wx => s37 = .bool z ∧ wx = W6)
      case first =>
        cases bi
        · have HB1 := hid (show false = z by rw [← HZ.out]; simp)
          go_wp2_with fail
          go_meet
          exact ⟨by rw [← HB1.out], rfl⟩
        · by_cases hno : b.x.no = a.x.no
          · have bno : (b.x.no == a.x.no) = true := by simpa using hno
            have HB1 := hid (show true = z by rw [← HZ.out]; simp [hno])
            clear hno
            go_wp2_with fail
            go_meet
            exact ⟨by rw [← HB1.out], rfl⟩
          · have bno : (b.x.no == a.x.no) = false := by simpa using hno
            have HB1 := hid (show false = z by rw [← HZ.out]; simp [hno])
            clear hno
            go_wp2_with fail
            go_meet
            exact ⟨by rw [← HB1.out], rfl⟩
      case rest =>
      obtain ⟨rfl, rfl⟩ := hcut
      clear m15 mb0 ma0
      cases z
      · have HR3 := hid (show renameP s old path os = if mayP s a b ≠ 0 then ([], mayP s a b) else if (movedP a b).2.2 ≠ 0 then ([], (movedP a b).2.2) else renE a b (movedP a b).1 (movedP a b).2.1 os by
          rw [HR2.out]; unfold renB; rw [if_neg (by rw [HBI.out]; exact of_decide_eq_false HZ.out)])
        obtain ⟨mc, hmc⟩ : ∃ mc, mayP s a b = mc := ⟨_, rfl⟩
        have KM := hid (by have q := tree_may s cs a b la lb hlen h6 wc E6.out.sits (repState.mono L6.out RS.out) ra.out rb.out; rw [hmc] at q; exact q : Calls Tryd.prog 25 #[.agg cs.toArray, .agg la.toArray, .agg lb.toArray] wc fun e w' => e = .returned (.int .i64 mc) ∧ Ext h6 wc h6 w')
        rw [hmc] at HR3
        clear hmc
        go_upto_region 10 with (first | (refine wpList_load_row rfl 31 _ rfl gx rfl 31 cs.toArray (0, 0) _ (E6.out.sits _ _ hx6.out) Tryd.underlying31 rfl (info_State RS.out.len) ?_) | (refine wpList_load_row rfl 55 _ rfl ga rfl 55 la.toArray (0, 0) _ (E6.out.sits _ _ ha6.out) Tryd.underlying55 rfl (info_Spot ra.out.len) ?_) | (refine wpList_load_row rfl 55 _ rfl gb rfl 55 lb.toArray (0, 0) _ (E6.out.sits _ _ hb6.out) Tryd.underlying55 rfl (info_Spot rb.out.len) ?_) | (go_at_call 25; refine KM.out.mono ?_; rintro e w7 ⟨rfl, F7⟩; have E7 := hid (E6.out.trans F7); clear F7))
        clear KM
        by_cases hmc : mc = 0
        · subst hmc
          obtain ⟨⟨f, t, vc⟩, hmv⟩ : ∃ r, movedP a b = r := ⟨_, rfl⟩
          have hlk := movedP_links a b
          rw [hmv] at hlk
          have HR4 := hid (show renameP s old path os = if vc ≠ 0 then ([], vc) else renE a b f t os by rw [HR3.out, if_neg (by simp), hmv])
          have hfl : -1000000 ≤ f.links ∧ f.links ≤ 1000000 := by have q := hlk.1; dsimp only at q; rw [q]; exact HDA.out.2
          have htl : -1000000 ≤ t.links ∧ t.links ≤ 1000000 := by
            rcases hlk.2 with q | q <;> dsimp only at q <;> rw [q]
            · exact HDA.out.2
            · exact HDB.out.2
          have HFL := hid hfl
          have HTL := hid htl
          have KV := hid (by have q := tree_moved a b la lb HDA.out HDB.out h6 w7 E7.out.sits ra.out rb.out; rw [hmv] at q; exact q : Calls Tryd.prog 26 #[.agg la.toArray, .agg lb.toArray] w7 fun e w' => RetMv h6 w7 (f, t, vc) e w')
          clear hmv hlk hfl htl
          go_upto_region 13 with (first | (refine wpList_load_row rfl 55 _ rfl ga rfl 55 la.toArray (0, 0) _ (E7.out.sits _ _ ha6.out) Tryd.underlying55 rfl (info_Spot ra.out.len) ?_) | (refine wpList_load_row rfl 55 _ rfl gb rfl 55 lb.toArray (0, 0) _ (E7.out.sits _ _ hb6.out) Tryd.underlying55 rfl (info_Spot rb.out.len) ?_) | (go_at_call 26; refine KV.out.mono ?_; rintro e w8 ⟨fl, tl, h8, rfl, rf, rt, F8⟩; have E8 := hid (E7.out.trans F8); have l8 := hid F8.le; have rf := hid (show repInode h8 fl f from rf); have rt := hid (show repInode h8 tl t from rt); have hsz8 : (w8.alloc (.cells #[.int .i64 0, .int .i64 0, .int .i64 0, .int .i64 0, .string ⟨#[]⟩, .slice none 0 0, .slice none 0 0] 51)).heap.size = w8.heap.size + 1 := (by simp); have BF8 := hid ((BoxU.new E8.out #[.int .i64 0, .int .i64 0, .int .i64 0, .int .i64 0, .string ⟨#[]⟩, .slice none 0 0, .slice none 0 0] 51).alloc (.cells #[.int .i64 0, .int .i64 0, .int .i64 0, .int .i64 0, .string ⟨#[]⟩, .slice none 0 0, .slice none 0 0] 51)); have BT8 := BoxU.new (E8.out.alloc (.cells #[.int .i64 0, .int .i64 0, .int .i64 0, .int .i64 0, .string ⟨#[]⟩, .slice none 0 0, .slice none 0 0] 51)) #[.int .i64 0, .int .i64 0, .int .i64 0, .int .i64 0, .string ⟨#[]⟩, .slice none 0 0, .slice none 0 0] 51; (rw [hsz8] at BT8); have BT8 := hid BT8; have hneft := hid (show w8.heap.size + 1 ≠ w8.heap.size by omega); have BT9 := hid (BT8.out.rowOther hneft.out fl.toArray); clear F8 hsz8) | (refine wpList_store_row rfl 51 _ _ rfl w8.heap.size fl.toArray rfl rfl 51 #[.int .i64 0, .int .i64 0, .int .i64 0, .int .i64 0, .string ⟨#[]⟩, .slice none 0 0, .slice none 0 0] BF8.out.row (info_Inode rf.out.len) (zi_size rf.out) (one_arr rf.out.one) ?_) | (refine wpList_store_row rfl 51 _ _ rfl (w8.heap.size + 1) tl.toArray rfl rfl 51 #[.int .i64 0, .int .i64 0, .int .i64 0, .int .i64 0, .string ⟨#[]⟩, .slice none 0 0, .slice none 0 0] BT9.out.row (info_Inode rt.out.len) (zi_size rt.out) (one_arr rt.out.one) ?_))
          have E9 := BF8.out.wrRow ((E8.out.alloc (.cells #[.int .i64 0, .int .i64 0, .int .i64 0, .int .i64 0, .string ⟨#[]⟩, .slice none 0 0, .slice none 0 0] 51)).alloc (.cells #[.int .i64 0, .int .i64 0, .int .i64 0, .int .i64 0, .string ⟨#[]⟩, .slice none 0 0, .slice none 0 0] 51)) fl.toArray
          have BF10 := (BF8.out.setRow fl.toArray).rowOther (fun e => hneft.out e.symm) tl.toArray
          have BT10 := BT9.out.setRow tl.toArray
          have E10 := BT9.out.wrRow E9 tl.toArray
          clear E9 BF8 BT8 BT9
          obtain ⟨gf, hgf⟩ : ∃ g, g = w8.heap.size := ⟨_, rfl⟩
          obtain ⟨gt, hgt⟩ : ∃ g, g = w8.heap.size + 1 := ⟨_, rfl⟩
          rw [← hgt, ← hgf] at BF10 BT10 E10 hneft
          rw [← hgt, ← hgf]
          with_reducible generalize ((((w8.alloc (.cells #[.int .i64 0, .int .i64 0, .int .i64 0, .int .i64 0, .string ⟨#[]⟩, .slice none 0 0, .slice none 0 0] 51)).alloc (.cells #[.int .i64 0, .int .i64 0, .int .i64 0, .int .i64 0, .string ⟨#[]⟩, .slice none 0 0, .slice none 0 0] 51)).setRow gf fl.toArray).setRow gt tl.toArray) = w10 at BF10 BT10 E10 ⊢
          clear hgf hgt
          have BF10 := hid BF10
          have BT10 := hid BT10
          have E10 := hid E10
          have ha10 := hid (l8.out _ _ ha6.out)
          have hb10 := hid (l8.out _ _ hb6.out)
          have L10 := hid (L6.out.trans l8.out)
          clear E6 E7 E8 KV
          by_cases hvc : vc = 0
          · subst hvc
            have HR5 := hid (show renameP s old path os = renE a b f t os by rw [HR4.out, if_neg (by simp)])
            obtain ⟨cI, hcI⟩ : ∃ c, comesI a = c := ⟨_, rfl⟩
            obtain ⟨gI, hgI⟩ : ∃ c, goesI b = c := ⟨_, rfl⟩
            have HCI := hid hcI
            have HGI := hid hgI
            have HCB := hid (show 0 ≤ cI ∧ cI ≤ 1 by rw [← hcI]; unfold comesI; split <;> omega)
            have HGB := hid (show 0 ≤ gI ∧ gI ≤ 1 by rw [← hgI]; unfold goesI; split <;> omega)
            clear hcI hgI
            have n1 := sits_cellF E10.out.sits ha10.out (HXA.out 1 _ rxa.at1)
            go_upto_if 69 with (fail)
            go_cut [15] (fun s15 wx => s15 = .int .i64 cI ∧ wx = w10)
            case first =>
              by_cases hk : a.x.kind = 2
              · have bk : (a.x.kind == 2) = true := by simpa using hk
                have HC := hid (show (1 : Int) = cI by rw [← HCI.out]; unfold comesI; rw [if_pos hk])
                clear hk
                go_wp2_with fail
                go_meet
                exact ⟨by rw [← HC.out], rfl⟩
              · have bk : (a.x.kind == 2) = false := by simpa using hk
                have HC := hid (show (0 : Int) = cI by rw [← HCI.out]; unfold comesI; rw [if_neg hk])
                clear hk
                go_wp2_with fail
                go_meet
                exact ⟨by rw [← HC.out], rfl⟩
            case rest =>
            obtain ⟨rfl, rfl⟩ := hcut
            clear n1
            have n15 := sits_cellF E10.out.sits hb10.out rb.out.iss
            rw [HBI.out] at n15
            have nk := sits_cellF E10.out.sits hb10.out (HXB.out 1 _ rxb.at1)
            obtain ⟨z2, hz2⟩ : ∃ z, decide (bi = true ∧ b.x.kind = 2) = z := ⟨_, rfl⟩
            have HZ2 := hid hz2
            clear hz2
            go_upto_region 18 with (fail)
            go_cut [77] (fun s77 wx => s77 = .bool z2 ∧ wx = wc)
            case first =>
              cases bi
              · have HB1 := hid (show false = z2 by rw [← HZ2.out]; simp)
                go_wp2_with fail
                go_meet
                exact ⟨by rw [← HB1.out], rfl⟩
              · by_cases hk : b.x.kind = 2
                · have bk : (b.x.kind == 2) = true := by simpa using hk
                  have HB1 := hid (show true = z2 by rw [← HZ2.out]; simp [hk])
                  clear hk
                  go_wp2_with fail
                  go_meet
                  exact ⟨by rw [← HB1.out], rfl⟩
                · have bk : (b.x.kind == 2) = false := by simpa using hk
                  have HB1 := hid (show false = z2 by rw [← HZ2.out]; simp [hk])
                  clear hk
                  go_wp2_with fail
                  go_meet
                  exact ⟨by rw [← HB1.out], rfl⟩
            case rest =>
            obtain ⟨rfl, rfl⟩ := hcut
            clear n15 nk
            have HG2 := hid (show gI = if z2 = true then 1 else 0 by
              rw [← HGI.out, ← HZ2.out]; unfold goesI; rw [HBI.out]; simp only [decide_eq_true_eq])
            go_at_K
            go_upto_if 77 with (fail)
            go_cut [16] (fun s16 wx => s16 = .int .i64 gI ∧ wx = wc)
            case first =>
              cases z2
              · have HC := hid (show (0 : Int) = gI by rw [HG2.out]; rfl)
                go_wp2_with fail
                go_meet
                exact ⟨by rw [← HC.out], rfl⟩
              · have HC := hid (show (1 : Int) = gI by rw [HG2.out]; rfl)
                go_wp2_with fail
                go_meet
                exact ⟨by rw [← HC.out], rfl⟩
            case rest =>
            obtain ⟨rfl, rfl⟩ := hcut
            obtain ⟨F5, f5, F6, f6, rfl, sf, kf5, rwf5, kf6, rwf6⟩ := id rf.out
            obtain ⟨C5, k5, C6, k6, rfl, st, kt5, rwt5, kt6, rwt6⟩ := id rt.out
            have mf2 := BF10.out.cell (j := 2) (v := .int .i64 f.links) rfl
            have ff2 := BF10.out.open_ 2
            have mt2 := BT10.out.cell (j := 2) (v := .int .i64 t.links) rfl
            have ft2 := BT10.out.open_ 2
            have hFT : gf ≠ gt := fun e => hneft.out e.symm
            have hTF : gt ≠ gf := hneft.out
            have hw1 : IntKind.i64.wrap (f.links - cI) = f.links - cI := by have := HFL.out; have := HCB.out; rw [IntKind.wrap_i64]; omega
            have hw2 : IntKind.i64.wrap (cI - gI) = cI - gI := by have := HGB.out; have := HCB.out; rw [IntKind.wrap_i64]; omega
            have hw3 : IntKind.i64.wrap (t.links + (cI - gI)) = t.links + (cI - gI) := by have := HTL.out; have := HGB.out; have := HCB.out; rw [IntKind.wrap_i64]; omega
            go_upto_region 22 with (fail)
            have BF11 : BoxU w h8 ((wc.setCell ⟨gf, 2, none⟩ (.int .i64 (f.links - cI))).setCell ⟨gt, 2, none⟩ (.int .i64 (t.links + (cI - gI)))) gf #[.int .i64 f.no, .int .i64 f.kind, .int .i64 (f.links - cI), .int .i64 f.size, .string f.target, .slice F5 f.entries.length f5, .slice F6 f.runs.length f6] 51 := (BF10.out.set1 2 (.int .i64 (f.links - cI))).other1 hFT 2 (.int .i64 (t.links + (cI - gI)))
            have BT11 : BoxU w h8 ((wc.setCell ⟨gf, 2, none⟩ (.int .i64 (f.links - cI))).setCell ⟨gt, 2, none⟩ (.int .i64 (t.links + (cI - gI)))) gt #[.int .i64 t.no, .int .i64 t.kind, .int .i64 (t.links + (cI - gI)), .int .i64 t.size, .string t.target, .slice C5 t.entries.length k5, .slice C6 t.runs.length k6] 51 := BoxU.set1 (BT10.out.other1 hTF 2 (.int .i64 (f.links - cI))) 2 (.int .i64 (t.links + (cI - gI)))
            have E11 := (BT10.out.other1 hTF 2 (.int .i64 (f.links - cI))).wr1 (BF10.out.wr1 E10.out 2 (.int .i64 (f.links - cI))) 2 (.int .i64 (t.links + (cI - gI)))
            clear mf2 ff2 mt2 ft2 hw1 hw2 hw3
            with_reducible generalize (wc.setCell ⟨gf, 2, none⟩ (.int .i64 (f.links - cI))).setCell ⟨gt, 2, none⟩ (.int .i64 (t.links + (cI - gI))) = w11 at BF11 BT11 E11 ⊢
            obtain ⟨h11, E12, hbF, l11, k11⟩ := BF11.freeze E11
            obtain ⟨h12, E13, hbT, l12, -⟩ := (BT11.keep k11 hTF).freeze E12
            have hbF := l12 _ _ hbF
            have HfT := hid BT11.free
            have HbT := hid BT11.base
            have LL := hid (l11.trans l12)
            have HbT2 := hid hbT
            have hf0 : ∀ w' : World, Ext h w h12 w' → w'.cell? ⟨gf, 0, none⟩ = some (.int .i64 f.no) := fun w' E => Sits_at E.sits hbF rfl
            have ht0 : ∀ w' : World, Ext h w h12 w' → w'.cell? ⟨gt, 0, none⟩ = some (.int .i64 t.no) := fun w' E => Sits_at E.sits hbT rfl
            have hf1 : ∀ w' : World, Ext h w h12 w' → w'.cell? ⟨gf, 1, none⟩ = some (.int .i64 f.kind) := fun w' E => Sits_at E.sits hbF rfl
            have ht1 : ∀ w' : World, Ext h w h12 w' → w'.cell? ⟨gt, 1, none⟩ = some (.int .i64 t.kind) := fun w' E => Sits_at E.sits hbT rfl
            have hf2 : ∀ w' : World, Ext h w h12 w' → w'.cell? ⟨gf, 2, none⟩ = some (.int .i64 (f.links - cI)) := fun w' E => Sits_at E.sits hbF rfl
            have ht2 : ∀ w' : World, Ext h w h12 w' → w'.cell? ⟨gt, 2, none⟩ = some (.int .i64 (t.links + (cI - gI))) := fun w' E => Sits_at E.sits hbT rfl
            have hf3 : ∀ w' : World, Ext h w h12 w' → w'.cell? ⟨gf, 3, none⟩ = some (.int .i64 f.size) := fun w' E => Sits_at E.sits hbF rfl
            have ht3 : ∀ w' : World, Ext h w h12 w' → w'.cell? ⟨gt, 3, none⟩ = some (.int .i64 t.size) := fun w' E => Sits_at E.sits hbT rfl
            have hf4 : ∀ w' : World, Ext h w h12 w' → w'.cell? ⟨gf, 4, none⟩ = some (.string f.target) := fun w' E => Sits_at E.sits hbF rfl
            have ht4 : ∀ w' : World, Ext h w h12 w' → w'.cell? ⟨gt, 4, none⟩ = some (.string t.target) := fun w' E => Sits_at E.sits hbT rfl
            have hf5 : ∀ w' : World, Ext h w h12 w' → w'.cell? ⟨gf, 5, none⟩ = some (.slice F5 f.entries.length f5) := fun w' E => Sits_at E.sits hbF rfl
            have ht5 : ∀ w' : World, Ext h w h12 w' → w'.cell? ⟨gt, 5, none⟩ = some (.slice C5 t.entries.length k5) := fun w' E => Sits_at E.sits hbT rfl
            have hf6 : ∀ w' : World, Ext h w h12 w' → w'.cell? ⟨gf, 6, none⟩ = some (.slice F6 f.runs.length f6) := fun w' E => Sits_at E.sits hbF rfl
            have ht6 : ∀ w' : World, Ext h w h12 w' → w'.cell? ⟨gt, 6, none⟩ = some (.slice C6 t.runs.length k6) := fun w' E => Sits_at E.sits hbT rfl
            have KPf := hid (fun (w' : World) (hs' : Sits h12 w') => (tree_put ⟨f.no, f.kind, f.links - cI, f.size, f.target, f.entries, f.runs⟩ F5 f5 F6 f6 h12 w' hs' : Calls Tryd.prog 19 #[.agg #[.int .i64 f.no, .int .i64 f.kind, .int .i64 (f.links - cI), .int .i64 f.size, .string f.target, .slice F5 f.entries.length f5, .slice F6 f.runs.length f6]] w' fun e w2 => e = .returned (.agg #[.int .i64 2, .int .i64 0, .int .i64 f.no, .int .i64 f.kind, .int .i64 (f.links - cI), .int .i64 f.size, .string f.target, .slice F5 f.entries.length f5, .slice F6 f.runs.length f6]) ∧ Ext h12 w' h12 w2))
            have KPt := hid (fun (w' : World) (hs' : Sits h12 w') => (tree_put ⟨t.no, t.kind, t.links + (cI - gI), t.size, t.target, t.entries, t.runs⟩ C5 k5 C6 k6 h12 w' hs' : Calls Tryd.prog 19 #[.agg #[.int .i64 t.no, .int .i64 t.kind, .int .i64 (t.links + (cI - gI)), .int .i64 t.size, .string t.target, .slice C5 t.entries.length k5, .slice C6 t.runs.length k6]] w' fun e w2 => e = .returned (.agg #[.int .i64 2, .int .i64 0, .int .i64 t.no, .int .i64 t.kind, .int .i64 (t.links + (cI - gI)), .int .i64 t.size, .string t.target, .slice C5 t.entries.length k5, .slice C6 t.runs.length k6]) ∧ Ext h12 w' h12 w2))
            have RF := hid (show repDeed h8 [.int .i64 2, .int .i64 0, .int .i64 f.no, .int .i64 f.kind, .int .i64 (f.links - cI), .int .i64 f.size, .string f.target, .slice F5 f.entries.length f5, .slice F6 f.runs.length f6] (putD { f with links := f.links - cI }) from ⟨F5, f5, F6, f6, rfl, sf, kf5, rwf5, kf6, rwf6⟩)
            have RT := hid (show repDeed h8 [.int .i64 2, .int .i64 0, .int .i64 t.no, .int .i64 t.kind, .int .i64 (t.links + (cI - gI)), .int .i64 t.size, .string t.target, .slice C5 t.entries.length k5, .slice C6 t.runs.length k6] (putD { t with links := t.links + (cI - gI) }) from ⟨C5, k5, C6, k6, rfl, st, kt5, rwt5, kt6, rwt6⟩)
            have RT3 := hid (show repDeed h8 [.int .i64 2, .int .i64 0, .int .i64 t.no, .int .i64 t.kind, .int .i64 (t.links + (cI - gI) - cI), .int .i64 t.size, .string t.target, .slice C5 t.entries.length k5, .slice C6 t.runs.length k6] (putD { t with links := t.links + (cI - gI) - cI }) from ⟨C5, k5, C6, k6, rfl, st, kt5, rwt5, kt6, rwt6⟩)
            have E14 := E13.drew
            have LH := hid E11.le
            clear BF10 BT10 E10 BF11 BT11 E11 E12 k11 l11 l12 hbF hbT sf kf5 rwf5 kf6 rwf6 st kt5 rwt5 kt6 rwt6
            go_cut [17] (fun s17 wx => Hid (Ext h w h8 wx) ∧ Hid (OwnL h8 wx w.heap.size 63 s17 [putD { f with links := f.links - cI }, putD { t with links := t.links + (cI - gI) }]) ∧ Hid (BoxU w h8 wx gt #[.int .i64 t.no, .int .i64 t.kind, .int .i64 (t.links + (cI - gI)), .int .i64 t.size, .string t.target, .slice C5 t.entries.length k5, .slice C6 t.runs.length k6] 51))
            case first =>
              go_region_held3 (fun w' => Ext h w h12 w') (first | with_reducible assumption | with_reducible exact Eg | with_reducible exact Ext.alloc Eg _) (first | (go_at_call 19; (with_reducible refine (KPf.out _ (Ext.sits (h := h) (h' := h12) (w := w) (by with_reducible assumption))).mono ?_); rintro e wf ⟨rfl, Fp⟩; have Eg := Ext.trans (h := h) (w := w) (h1 := h12) (by with_reducible assumption) Fp; clear Fp) | (go_at_call 19; (with_reducible refine (KPt.out _ (Ext.sits (h := h) (h' := h12) (w := w) (by with_reducible assumption))).mono ?_); rintro e wf ⟨rfl, Fp⟩; have Eg := Ext.trans (h := h) (w := w) (h1 := h12) (by with_reducible assumption) Fp; clear Fp))
              all_goals
                go_wp2_with fail
                go_meet
                have Ew := Eg.drop LH.out LL.out
                exact ⟨hid (Ew.alloc _), hid ((OwnL.madeN Ew.sits 63 (show Reps h8 [.int .i64 2, .int .i64 0, .int .i64 f.no, .int .i64 f.kind, .int .i64 (f.links - cI), .int .i64 f.size, .string f.target, .slice F5 f.entries.length f5, .slice F6 f.runs.length f6, .int .i64 2, .int .i64 0, .int .i64 t.no, .int .i64 t.kind, .int .i64 (t.links + (cI - gI)), .int .i64 t.size, .string t.target, .slice C5 t.entries.length k5, .slice C6 t.runs.length k6] [putD { f with links := f.links - cI }, putD { t with links := t.links + (cI - gI) }] from ⟨[.int .i64 2, .int .i64 0, .int .i64 f.no, .int .i64 f.kind, .int .i64 (f.links - cI), .int .i64 f.size, .string f.target, .slice F5 f.entries.length f5, .slice F6 f.runs.length f6], _, rfl, RF.out, [.int .i64 2, .int .i64 0, .int .i64 t.no, .int .i64 t.kind, .int .i64 (t.links + (cI - gI)), .int .i64 t.size, .string t.target, .slice C5 t.entries.length k5, .slice C6 t.runs.length k6], [], rfl, RT.out, rfl⟩) (by show 0 < 2; decide) (by show 2 ≤ 1000; decide)).rebase Ew.size), hid ⟨box_alloc (Eg.sits _ _ HbT2.out) _, HfT.out, HbT.out⟩⟩
            case rest =>
            obtain ⟨E15, O15, BT15⟩ := hcut
            clear E13 E14 KPf KPt HbT2 HfT HbT LL hFT hTF hf0 ht0 hf1 ht1 hf2 ht2 hf3 ht3 hf4 ht4 hf5 ht5 hf6 ht6
            have na := sits_cellF E15.out.sits ha10.out (HADA.out 0 _ rda.at0)
            have nb := sits_cellF E15.out.sits hb10.out (HADB.out 0 _ rdb.at0)
            obtain ⟨L, hL⟩ : ∃ L, renL a b f t = L := ⟨_, rfl⟩
            have HL := hid hL
            have HLL := hid (show L.length ≤ 2 by rw [← hL]; unfold renL; split <;> simp)
            clear hL
            go_upto_if 101 with (fail)
            go_cut [17] (fun s17 wx => Hid (Ext h w h8 wx) ∧ Hid (OwnL h8 wx w.heap.size 63 s17 L))
            case first =>
              by_cases hno : a.dir.no = b.dir.no
              · have bno : (a.dir.no == b.dir.no) = true := by simpa using hno
                have HLS := hid (show [putD { t with links := t.links + (cI - gI) - cI }] = L by rw [← HL.out]; unfold renL; rw [if_pos hno, HCI.out, HGI.out])
                have mt2 := BT15.out.cell (j := 2) (v := .int .i64 (t.links + (cI - gI))) rfl
                have ft2 := BT15.out.open_ 2
                have hw4 : IntKind.i64.wrap (t.links + (cI - gI) - cI) = t.links + (cI - gI) - cI := by have := HTL.out; have := HGB.out; have := HCB.out; rw [IntKind.wrap_i64]; omega
                clear hno
                go_upto_region 25 with (fail)
                have BT16 : BoxU w h8 (World.setCell _ ⟨gt, 2, none⟩ (.int .i64 (t.links + (cI - gI) - cI))) gt #[.int .i64 t.no, .int .i64 t.kind, .int .i64 (t.links + (cI - gI) - cI), .int .i64 t.size, .string t.target, .slice C5 t.entries.length k5, .slice C6 t.runs.length k6] 51 := BoxU.set1 BT15.out 2 (.int .i64 (t.links + (cI - gI) - cI))
                have E16 := BT15.out.wr1 E15.out 2 (.int .i64 (t.links + (cI - gI) - cI))
                clear mt2 ft2 hw4
                with_reducible generalize World.setCell _ ⟨gt, 2, none⟩ (.int .i64 (t.links + (cI - gI) - cI)) = w16 at BT16 E16 ⊢
                have BT16 := hid BT16
                have E16 := hid E16
                have KP3 := hid (tree_put ⟨t.no, t.kind, t.links + (cI - gI) - cI, t.size, t.target, t.entries, t.runs⟩ C5 k5 C6 k6 h8 w16 E16.out.sits : Calls Tryd.prog 19 #[.agg #[.int .i64 t.no, .int .i64 t.kind, .int .i64 (t.links + (cI - gI) - cI), .int .i64 t.size, .string t.target, .slice C5 t.entries.length k5, .slice C6 t.runs.length k6]] w16 fun e w2 => e = .returned (.agg #[.int .i64 2, .int .i64 0, .int .i64 t.no, .int .i64 t.kind, .int .i64 (t.links + (cI - gI) - cI), .int .i64 t.size, .string t.target, .slice C5 t.entries.length k5, .slice C6 t.runs.length k6]) ∧ Ext h8 w16 h8 w2)
                go_wp2_with (first | (refine wpList_load_row rfl 51 _ rfl gt rfl 51 #[.int .i64 t.no, .int .i64 t.kind, .int .i64 (t.links + (cI - gI) - cI), .int .i64 t.size, .string t.target, .slice C5 t.entries.length k5, .slice C6 t.runs.length k6] (0, 0) _ BT16.out.row Tryd.underlying51 rfl (by kernel_rfl) ?_) | (go_at_call 19; refine KP3.out.mono ?_; rintro e w17 ⟨rfl, F17⟩; have E17 := hid (E16.out.trans F17); clear F17))
                go_meet
                exact ⟨hid (E17.out.alloc _), hid (by rw [← HLS.out]; exact (OwnL.mk1 E17.out.sits 63 RT3.out).rebase E17.out.size)⟩
              · have bno : (a.dir.no == b.dir.no) = false := by simpa using hno
                have HLS := hid (show [putD { f with links := f.links - cI }, putD { t with links := t.links + (cI - gI) }] = L by rw [← HL.out]; unfold renL; rw [if_neg hno, HCI.out, HGI.out])
                clear hno
                go_wp2_with fail
                go_meet
                exact ⟨E15, hid (by rw [← HLS.out]; exact O15.out)⟩
            case rest =>
            obtain ⟨E18, O18⟩ := hcut
            clear E15 O15 BT15 na nb
            have n15 := sits_cellF E18.out.sits hb10.out rb.out.iss
            rw [HBI.out] at n15
            have HBL := hid (show (L.length + 1) * 112 ≤ 140737488355328 by have := HLL.out; omega)
            cases bi
            · have HQ := hid (show renameP s old path os = (L, 0) by rw [HR5.out]; unfold renE; rw [if_pos HBI.out, HL.out])
              obtain ⟨h', A, c, rfl, rL, le', E', u0, u1, u2, -⟩ := O18.out.stayX E18.out (Nat.le_refl _) (by have := HLL.out; omega)
              go_wp2_with fail
              go_ret2
              rw [HQ.out]
              exact ⟨A, c, h', rfl, ⟨u0, u2, u1⟩, rL, E'⟩
            · by_cases hk : b.x.kind = 2
              · have hg1 : goesI b = 1 := by unfold goesI; rw [if_pos ⟨HBI.out, hk⟩]
                have HQ := hid (show renameP s old path os = (L ++ [⟨3, b.x.no, zeroI⟩], 0) by rw [HR5.out]; unfold renE; rw [if_neg (by rw [HBI.out]; simp), if_pos hg1, HL.out])
                have hgi : (gI == 1) = true := by rw [← HGI.out, hg1]; rfl
                have n8 := sits_cellF E18.out.sits hb10.out (HXB.out 0 _ rxb.at0)
                have RY := hid (show repDeed h8 [.int .i64 3, .int .i64 b.x.no, .int .i64 0, .int .i64 0, .int .i64 0, .int .i64 0, .string ⟨#[]⟩, .slice none 0 0, .slice none 0 0] ⟨3, b.x.no, zeroI⟩ from ⟨none, 0, none, 0, rfl, Nat.zero_le _, ⟨Nat.le_refl _, fun _ => rfl, by decide⟩, RowAt.nil _ _, ⟨Nat.le_refl _, fun _ => rfl, by decide⟩, RowAt.nil _ _⟩)
                clear hk hg1
                go_wp2_with (at_builtin; refine wpList_append1At rfl _ _ 35 rfl w.heap.size 63 112 ty_Deed _ _ rfl (O18.out.alloc _) (E18.out.sits.alloc _) _ rfl _ (⟨3, b.x.no, zeroI⟩ : Deed) RY.out (cells_of_box (heap_new _ _)) HBL.out (by decide) (E18.out.alloc _).size ?_; intro v3 w4 O3 hg3; have O3 := hid O3; have E6 := hid ((E18.out.alloc _).grown hg3 (fun k hk => ⟨(O18.out.lt k hk).1, O18.out.free k hk⟩)); clear hg3)
                obtain ⟨h', A, c, rfl, rL, le', E', u0, u1, u2, -⟩ := O3.out.stayX E6.out (Nat.le_refl _) (by have := HLL.out; simp; omega)
                go_ret2
                rw [HQ.out]
                exact ⟨A, c, h', rfl, ⟨u0, u2, u1⟩, rL, E'⟩
              · have hg1 : goesI b = 0 := by unfold goesI; rw [if_neg (by intro q; exact hk q.2)]
                have HQ := hid (show renameP s old path os = (L ++ [letGoP b.x os], 0) by rw [HR5.out]; unfold renE; rw [if_neg (by rw [HBI.out]; simp), if_neg (by rw [hg1]; decide), HL.out])
                have hgi : (gI == 1) = false := by rw [← HGI.out, hg1]; rfl
                have rxb8 := rxb.mono l8.out
                obtain ⟨B5, d5, B6, d6, hxl⟩ := rxb8.open
                have KLG := hid (tree_letGo b.x B5 d5 B6 d6 os AO cO HXBM.out.2.1 HXBM.out.2.2 h8 _ E18.out.sits (by rw [← hxl]; exact rxb8) (RO.out.mono L10.out))
                rw [show #[Value.int .i64 b.x.no, .int .i64 b.x.kind, .int .i64 b.x.links, .int .i64 b.x.size, .string b.x.target, .slice B5 b.x.entries.length d5, .slice B6 b.x.runs.length d6] = xb.toArray by rw [hxl]] at KLG
                obtain ⟨g, hg⟩ : ∃ g, letGoP b.x os = g := ⟨_, rfl⟩
                rw [hg] at KLG HQ
                clear hk hg1 hxl hg rxb8
                go_wp2_with (first | (refine wpList_load_mid rfl 51 _ rfl gb 8 rfl xb _ (sits_rangeF E18.out.sits hb10.out HXB.out) Tryd.underlying51 rfl (infoL_Inode rxb.len) ?_) | (go_at_call 27; refine KLG.out.mono ?_; rintro e w19 ⟨G5, g5, G6, g6, rfl, rg, F19⟩; have E19 := hid (E18.out.trans F19); have O19 := hid (O18.out.ext F19); have RY := hid (deed_repT rg); clear F19) | (at_builtin; refine wpList_append1At rfl _ _ 35 rfl w.heap.size 63 112 ty_Deed _ _ rfl (O19.out.alloc _) (E19.out.sits.alloc _) _ rfl _ (g : Deed) RY.out (cells_of_box (heap_new _ _)) HBL.out (by decide) (E19.out.alloc _).size ?_; intro v3 w4 O3 hg3; have O3 := hid O3; have E6 := hid ((E19.out.alloc _).grown hg3 (fun k hk => ⟨(O19.out.lt k hk).1, O19.out.free k hk⟩)); clear hg3))
                obtain ⟨h', A, c, rfl, rL, le', E', u0, u1, u2, -⟩ := O3.out.stayX E6.out (Nat.le_refl _) (by have := HLL.out; simp; omega)
                go_ret2
                rw [HQ.out]
                exact ⟨A, c, h', rfl, ⟨u0, u2, u1⟩, rL, E'⟩
          · have hb : (vc == 0) = false := by simpa using hvc
            have hb2 : (vc != 0) = true := by simpa using hvc
            have HQ := hid (show renameP s old path os = ([], vc) by rw [HR4.out, if_pos hvc])
            clear hvc
            go_wp2_with fail
            go_ret2
            exact (by rw [HQ.out]; exact ⟨none, 0, h, rfl, ⟨Nat.zero_le _, fun _ => rfl, by decide⟩, RowAt.nil _ _, E10.out.back⟩)
        · have hb : (mc == 0) = false := by simpa using hmc
          have hb2 : (mc != 0) = true := by simpa using hmc
          have HQ := hid (show renameP s old path os = ([], mc) by rw [HR3.out, if_pos hmc])
          clear hmc
          go_wp2_with fail
          go_ret2
          exact (by rw [HQ.out]; exact ⟨none, 0, h, rfl, ⟨Nat.zero_le _, fun _ => rfl, by decide⟩, RowAt.nil _ _, E7.out.back⟩)
      · have HQ := hid (show renameP s old path os = ([], 0) by rw [HR2.out]; unfold renB; rw [if_pos (by rw [HBI.out]; exact of_decide_eq_true HZ.out)])
        go_wp2_with fail
        go_ret2
        exact (by rw [HQ.out]; exact ⟨none, 0, h, rfl, ⟨Nat.zero_le _, fun _ => rfl, by decide⟩, RowAt.nil _ _, E6.out.back⟩)
    · have hb : (code2 == 0) = false := by simpa using hc2
      have hb2 : (code2 != 0) = true := by simpa using hc2
      have HQ := hid (show renameP s old path os = ([], code2) by rw [HR1.out, if_pos hc2])
      clear hc2
      go_wp2_with fail
      go_ret2
      exact (by rw [HQ.out]; exact ⟨none, 0, h, rfl, ⟨Nat.zero_le _, fun _ => rfl, by decide⟩, RowAt.nil _ _, E6.out.back⟩)
  · have hb : (code == 0) = false := by simpa using hc
    have hb2 : (code != 0) = true := by simpa using hc
    have HQ := hid (show renameP s old path os = ([], code) by unfold renameP; rw [HP.out, if_pos hc])
    clear hc
    go_wp2_with fail
    go_ret2
    exact (by rw [HQ.out]; exact ⟨none, 0, h, rfl, ⟨Nat.zero_le _, fun _ => rfl, by decide⟩, RowAt.nil _ _, E4.out.back⟩)
end Go.Proofs.YtdiaibkpcnknbaaDoor
