import Derived.Test.YtkglaofiencfdaaROpsA
namespace Go.Proofs.Ytkglaofiencfdaa
open Go.RowKit Go.Sort
set_option linter.unusedVariables false
def hardT (x : Inode) (no : Int) (d : Inode) (name : ByteArray) : List Deed × Int :=
  if (findE d.entries name).isSome = true then ([], 12)
  else if 100 ≤ x.links then ([], 18)
  else if addC d.entries ⟨name, no⟩ ≠ 0 then ([], addC d.entries ⟨name, no⟩)
  else ([putD { d with entries := addL d.entries ⟨name, no⟩ }, putD { x with links := x.links + 1 }], 0)
def hardU (xs : List Inode) (x : Inode) (no : Int) (q : Int × ByteArray × Int) : List Deed × Int :=
  if q.2.2 ≠ 0 then ([], q.2.2) else hardT x no ((findI xs q.1).getD zeroI) q.2.1
def hardP (s : State) (old path : ByteArray) : List Deed × Int :=
  if (resolveP s.inodes old false).2 ≠ 0 then ([], (resolveP s.inodes old false).2)
  else if ((findI s.inodes (resolveP s.inodes old false).1).getD zeroI).kind = 2 then ([], 14)
  else hardU s.inodes ((findI s.inodes (resolveP s.inodes old false).1).getD zeroI) (resolveP s.inodes old false).1 (parentP s.inodes path)
set_option maxHeartbeats 16000000 in
set_option maxRecDepth 100000 in
theorem ref_Hard (s : State) (cs : List Value) (old path : ByteArray) (hso : old.size ≤ 9223372036854775807) (hsw : path.size ≤ 9223372036854775807) (hent : ∀ x ∈ s.inodes, midI x) (h : FH) (w : World) (hs : Sits h w) (rS : repState h cs s) :
    Calls Try.prog 53 #[.agg cs.toArray, .string old, .string path] w fun e w' => RetDC h w (hardP s old path) e w' := by
  have HENT := hid hent
  clear hent
  have RS := hid rS
  clear rS
  obtain ⟨h1, E1, hb1, le1, hh1⟩ := (Ext.refl hs).boxF cs.toArray 31
  clear hh1
  go_enter Try.func53, Try.ntmps53
  go_upto_region 1 with (fail)
  generalize hgx : w.heap.size = gx at *
  with_reducible generalize w.alloc (.cells cs.toArray 31) = W2 at E1 ⊢
  clear hgx
  have E2 := hid E1
  have hb1 := hid hb1
  have le1 := hid le1
  clear E1
  obtain ⟨⟨no, code⟩, hres⟩ : ∃ r, resolveP s.inodes old false = r := ⟨_, rfl⟩
  have HR := hid hres
  have KR := hid (show Calls Try.prog 26 #[.agg cs.toArray, .string old, .bool false] W2 fun e w' => e = .returned (.tuple #[.int .i64 no, .int .i64 code]) ∧ Ext h1 W2 h1 w' from ref_Resolve s _ old hso false _ hres h1 W2 E2.out.sits (repState.mono le1.out RS.out))
  clear hres
  go_upto_region 2 with (first | (refine wpList_load_row rfl 31 _ rfl gx rfl 31 cs.toArray (0, 0) _ (E2.out.sits _ _ hb1.out) Try.underlying31 rfl (info_State RS.out.len) ?_) | (go_at_call 26; refine KR.out.mono ?_; rintro e w3 ⟨rfl, F3⟩; have E3 := hid (E2.out.trans F3); clear F3))
  by_cases hc : code = 0
  · subst hc
    obtain ⟨v, hv⟩ : ∃ v, findI s.inodes no = v := ⟨_, rfl⟩
    obtain ⟨x, hx⟩ : ∃ x, v.getD zeroI = x := ⟨_, rfl⟩
    have KF := hid (ref_FindInode s _ no v hv h1 w3 E3.out.sits (repState.mono le1.out RS.out))
    have hxm : midI x := by have q := findI_all midI_zero HENT.out no; rw [hv, hx] at q; exact q
    have HXM := hid hxm
    have HLP := hid (show hardP s old path = if x.kind = 2 then ([], 14) else hardU s.inodes x no (parentP s.inodes path) by unfold hardP; rw [HR.out, if_neg (by simp)]; show (if ((findI s.inodes no).getD zeroI).kind = 2 then _ else hardU s.inodes ((findI s.inodes no).getD zeroI) no _) = _; rw [hv, hx])
    have HX := hid hx
    clear hv hx hxm
    go_upto_region 5 with (first | (refine wpList_load_row rfl 31 _ rfl gx rfl 31 cs.toArray (0, 0) _ (E3.out.sits _ _ hb1.out) Try.underlying31 rfl (info_State RS.out.len) ?_) | (go_at_call 14; refine KF.out.mono ?_; rintro e w5 ⟨xl, h5, rfl, rx, F5⟩; rw [HX.out] at rx; have E5 := hid (E3.out.trans F5); have l5 := hid F5.le; have rx := hid rx; clear F5) | (refine wpList_store_row rfl 37 _ _ rfl w5.heap.size xl.toArray rfl rfl 37 #[.int .i64 0, .int .i64 0, .int .i64 0, .int .i64 0, .string ⟨#[]⟩, .slice none 0 0, .slice none 0 0] (heap_new w5 _) (info_Inode rx.out.len) (zi_sizeR rx.out) (one_arr rx.out.one) ?_))
    rw [World.setRow_alloc_new]
    have BX6 := BoxU.new E5.out xl.toArray 37
    have E6 := E5.out.alloc (.cells xl.toArray 37)
    with_reducible generalize (w5.alloc (.cells xl.toArray 37)) = W6 at BX6 E6 ⊢
    have BX6 := hid BX6
    have E6 := hid E6
    generalize w5.heap.size = gi at *
    clear E5
    have m1 := BX6.out.cell (by rw [List.getElem?_toArray]; exact rx.out.at1)
    by_cases hk : x.kind = 2
    · have HQ := hid (show hardP s old path = ([], 14) by rw [HLP.out]; exact if_pos hk)
      have bk : (x.kind == 2) = true := by simpa using hk
      clear hk
      go_wp2_with fail
      go_ret2
      exact (by rw [HQ.out]; exact ⟨none, 0, h, rfl, ⟨Nat.zero_le _, fun _ => rfl, by decide⟩, RowAt.nil _ _, E6.out.back⟩)
    · have bk : (x.kind == 2) = false := by simpa using hk
      obtain ⟨⟨dir, name, pc⟩, hf⟩ : ∃ r, parentP s.inodes path = r := ⟨_, rfl⟩
      have HL2 := hid (show hardP s old path = hardU s.inodes x no (dir, name, pc) by rw [HLP.out, ← hf]; exact if_neg hk)
      have KG := hid (show Calls Try.prog 88 #[.agg cs.toArray, .string path] W6 fun e w' => e = .returned (.tuple #[.int .i64 dir, .string name, .int .i64 pc]) ∧ Ext h5 W6 h5 w' ∧ name.size ≤ 9223372036854775807 from ref_Parent s _ path hsw _ hf h5 W6 E6.out.sits (repState.mono (le1.out.trans l5.out) RS.out))
      clear hk hf
      go_upto_region 8 with (first | (refine wpList_load_row rfl 31 _ rfl gx rfl 31 cs.toArray (0, 0) _ (E6.out.sits _ _ (l5.out _ _ hb1.out)) Try.underlying31 rfl (info_State RS.out.len) ?_) | (go_at_call 88; refine KG.out.mono ?_; rintro e w7 ⟨rfl, F7, hnz⟩; have E7 := hid (E6.out.trans F7); have BX7 := hid (BX6.out.ext F7); have HNZ := hid hnz; clear F7 hnz m1))
      by_cases hpc : pc = 0
      · subst hpc
        obtain ⟨v1, hv1⟩ : ∃ v, findI s.inodes dir = v := ⟨_, rfl⟩
        obtain ⟨d, hd⟩ : ∃ d, v1.getD zeroI = d := ⟨_, rfl⟩
        have hpm : midI d := by have q := findI_all midI_zero HENT.out dir; rw [hv1, hd] at q; exact q
        have HPM := hid hpm
        have KF2 := hid (ref_FindInode s _ dir v1 hv1 h5 w7 E7.out.sits (repState.mono (le1.out.trans l5.out) RS.out))
        have HL3 := hid (show hardP s old path = hardT x no d name by rw [HL2.out]; unfold hardU; rw [if_neg (by simp)]; show hardT x no ((findI s.inodes dir).getD zeroI) name = _; rw [hv1, hd])
        have HD := hid hd
        clear hv1 hd hpm
        go_upto_region 11 with (first | (refine wpList_load_row rfl 31 _ rfl gx rfl 31 cs.toArray (0, 0) _ (E7.out.sits _ _ (l5.out _ _ hb1.out)) Try.underlying31 rfl (info_State RS.out.len) ?_) | (go_at_call 14; refine KF2.out.mono ?_; rintro e w8 ⟨dl, h8, rfl, rd, F8⟩; rw [HD.out] at rd; have E8 := hid (E7.out.trans F8); have BX8 := hid (BX7.out.ext F8); have l8 := hid F8.le; have rd := hid rd; clear F8) | (refine wpList_store_row rfl 37 _ _ rfl w8.heap.size dl.toArray rfl rfl 37 #[.int .i64 0, .int .i64 0, .int .i64 0, .int .i64 0, .string ⟨#[]⟩, .slice none 0 0, .slice none 0 0] (heap_new w8 _) (info_Inode rd.out.len) (zi_sizeR rd.out) (one_arr rd.out.one) ?_))
        rw [World.setRow_alloc_new]
        have BD9 := BoxU.new E8.out dl.toArray 37
        have E9 := E8.out.alloc (.cells dl.toArray 37)
        have BX9 := BX8.out.alloc (.cells dl.toArray 37)
        have hne9 := hid (Nat.ne_of_lt BX8.out.lt)
        with_reducible generalize (w8.alloc (.cells dl.toArray 37)) = W9 at BD9 E9 BX9 ⊢
        have BD9 := hid BD9
        have E9 := hid E9
        have BX9 := hid BX9
        generalize w8.heap.size = gd at *
        clear E8 BX8
        obtain ⟨A5, c5, at5, k5, row5⟩ := rd.out.at5
        obtain ⟨v2, hv2⟩ : ∃ v, findE d.entries name = v := ⟨_, rfl⟩
        have KE := hid (ref_Find d.entries A5 c5 name HNZ.out v2 hv2 h8 W9 E9.out.sits row5)
        have HL4 := hid (show hardP s old path = if v2.isSome = true then ([], 12) else if 100 ≤ x.links then ([], 18) else if addC d.entries ⟨name, no⟩ ≠ 0 then ([], addC d.entries ⟨name, no⟩) else ([putD { d with entries := addL d.entries ⟨name, no⟩ }, putD { x with links := x.links + 1 }], 0) by rw [HL3.out]; unfold hardT; rw [hv2])
        have m5 := BD9.out.cell (by rw [List.getElem?_toArray]; exact at5)
        clear hv2
        go_upto_region 12 with (go_at_call 89; refine KE.out.mono ?_; rintro e w10 ⟨rfl, F10⟩; have E10 := hid (E9.out.trans F10); have BD10 := hid (BD9.out.ext F10); have BX10 := hid (BX9.out.ext F10); clear F10 m5)
        cases v2 with
        | some to_ =>
          dsimp only [Option.isSome_some, Option.getD_some] at *
          have HQ := hid (show hardP s old path = ([], 12) by rw [HL4.out, if_pos rfl])
          go_wp2_with fail
          go_ret2
          exact (by rw [HQ.out]; exact ⟨none, 0, h, rfl, ⟨Nat.zero_le _, fun _ => rfl, by decide⟩, RowAt.nil _ _, E10.out.back⟩)
        | none =>
          dsimp only [Option.isSome_none, Option.getD_none] at *
          have m2 := BX10.out.cell (by rw [List.getElem?_toArray]; exact rx.out.at2)
          by_cases hl : 100 ≤ x.links
          · have HQ := hid (show hardP s old path = ([], 18) by rw [HL4.out, if_neg (by simp), if_pos hl])
            go_wp2_with fail
            go_ret2
            exact (by rw [HQ.out]; exact ⟨none, 0, h, rfl, ⟨Nat.zero_le _, fun _ => rfl, by decide⟩, RowAt.nil _ _, E10.out.back⟩)
          · obtain ⟨ac, hac⟩ : ∃ ac, addC d.entries ⟨name, no⟩ = ac := ⟨_, rfl⟩
            obtain ⟨al, hal⟩ : ∃ al, addL d.entries ⟨name, no⟩ = al := ⟨_, rfl⟩
            have HL5 := hid (show hardP s old path = if ac ≠ 0 then ([], ac) else ([putD { d with entries := al }, putD { x with links := x.links + 1 }], 0) by rw [HL4.out, if_neg (by simp), if_neg hl, hac, hal])
            have KA := ref_AddEntry d.entries A5 c5 k5.nn k5.le k5.mx HPM.out.1 ⟨name, no⟩ HNZ.out h8 w10 E10.out.sits row5
            rw [hac, hal] at KA
            have KA := hid KA
            have hall : al.length ≤ 1001 := by
              rw [← hal]; unfold addL; split
              · unfold insE; have := HPM.out.1; simp; omega
              · simp
            have m5 := BD10.out.cell (by rw [List.getElem?_toArray]; exact at5)
            clear hac hal k5 row5
            go_upto_region 17 with (go_at_call 90; refine KA.out.mono ?_; rintro e w11 R; obtain ⟨A9, c9, h9, rfl, r9, F9, u0, u1, u2⟩ := R.stayX (by omega); have E11 := hid (E10.out.trans F9); have BD11 := hid (BD10.out.ext F9); have BX11 := hid (BX10.out.ext F9); have l9 := hid F9.le; have k9 := hid (show CapLe A9 al.length c9 from ⟨u1, u0, u2⟩); have r9 := hid r9; clear F9 u0 u1 u2 R m5 m2)
            by_cases hac : ac = 0
            · subst hac
              have HL6 := hid (show hardP s old path = ([putD { d with entries := al }, putD { x with links := x.links + 1 }], 0) by rw [HL5.out, if_neg (by simp)])
              have m5 := BD11.out.cell (by rw [List.getElem?_toArray]; exact at5)
              have f5 := BD11.out.open_ 5
              go_upto_region 20 with (fail)
              have BD12 := BD11.out.set1 5 (.slice A9 al.length c9)
              have BX12 := BX11.out.other1 hne9.out 5 (.slice A9 al.length c9)
              have E12 := BD11.out.wr1 E11.out 5 (.slice A9 al.length c9)
              have rd12 := hid ((rd.out.mono l9.out).setEnt k9.out r9.out)
              with_reducible generalize w11.setCell ⟨gd, 5, none⟩ (.slice A9 al.length c9) = w12 at BD12 BX12 E12 ⊢
              clear m5 f5
              have m2 := BX12.cell (by rw [List.getElem?_toArray]; exact rx.out.at2)
              have f2 := BX12.open_ 2
              have hwr : IntKind.i64.wrap (x.links + 1) = x.links + 1 := by have := HXM.out.2.1; rw [IntKind.wrap_i64]; omega
              have BD12 := hid BD12
              have BX12 := hid BX12
              have E12 := hid E12
              go_upto_region 21 with (fail)
              have BX13 := BX12.out.set1 2 (.int .i64 (x.links + 1))
              have BD13 := BD12.out.other1 (fun e => hne9.out e.symm) 2 (.int .i64 (x.links + 1))
              have E13 := BX12.out.wr1 E12.out 2 (.int .i64 (x.links + 1))
              clear m2 f2 hwr
              with_reducible generalize w12.setCell ⟨gi, 2, none⟩ (.int .i64 (x.links + 1)) = w13 at BX13 BD13 E13 ⊢
              obtain ⟨h12, E14, hb12, l12, k12⟩ := BD13.freeze E13
              obtain ⟨h13, E15, hb13, l13, -⟩ := (BX13.keep k12 hne9.out).freeze E14
              have hb12 := l13 _ _ hb12
              obtain ⟨A9', c9', A6, c6, hys, sz5, k9', r9', k6, row6⟩ := rd12.out.mono (l12.trans l13)
              obtain ⟨B5, d5, B6, d6, hxs, sx5, kx5, rwx5, kx6, rwx6⟩ := ((rx.out.mono (l8.out.trans (l9.out.trans (l12.trans l13)))).setLinks (x.links + 1))
              have hc0 : ∀ w' : World, Ext h w h13 w' → w'.cell? ⟨gd, 0, none⟩ = some (.int .i64 d.no) := fun w' E => Sits_at E.sits hb12 (by rw [hys]; rfl)
              have hx0 : ∀ w' : World, Ext h w h13 w' → w'.cell? ⟨gi, 0, none⟩ = some (.int .i64 x.no) := fun w' E => Sits_at E.sits hb13 (by rw [hxs]; rfl)
              have hc1 : ∀ w' : World, Ext h w h13 w' → w'.cell? ⟨gd, 1, none⟩ = some (.int .i64 d.kind) := fun w' E => Sits_at E.sits hb12 (by rw [hys]; rfl)
              have hx1 : ∀ w' : World, Ext h w h13 w' → w'.cell? ⟨gi, 1, none⟩ = some (.int .i64 x.kind) := fun w' E => Sits_at E.sits hb13 (by rw [hxs]; rfl)
              have hc2 : ∀ w' : World, Ext h w h13 w' → w'.cell? ⟨gd, 2, none⟩ = some (.int .i64 d.links) := fun w' E => Sits_at E.sits hb12 (by rw [hys]; rfl)
              have hx2 : ∀ w' : World, Ext h w h13 w' → w'.cell? ⟨gi, 2, none⟩ = some (.int .i64 (x.links + 1)) := fun w' E => Sits_at E.sits hb13 (by rw [hxs]; rfl)
              have hc3 : ∀ w' : World, Ext h w h13 w' → w'.cell? ⟨gd, 3, none⟩ = some (.int .i64 d.size) := fun w' E => Sits_at E.sits hb12 (by rw [hys]; rfl)
              have hx3 : ∀ w' : World, Ext h w h13 w' → w'.cell? ⟨gi, 3, none⟩ = some (.int .i64 x.size) := fun w' E => Sits_at E.sits hb13 (by rw [hxs]; rfl)
              have hc4 : ∀ w' : World, Ext h w h13 w' → w'.cell? ⟨gd, 4, none⟩ = some (.string d.target) := fun w' E => Sits_at E.sits hb12 (by rw [hys]; rfl)
              have hx4 : ∀ w' : World, Ext h w h13 w' → w'.cell? ⟨gi, 4, none⟩ = some (.string x.target) := fun w' E => Sits_at E.sits hb13 (by rw [hxs]; rfl)
              have hc5 : ∀ w' : World, Ext h w h13 w' → w'.cell? ⟨gd, 5, none⟩ = some (.slice A9' al.length c9') := fun w' E => Sits_at E.sits hb12 (by rw [hys]; rfl)
              have hx5 : ∀ w' : World, Ext h w h13 w' → w'.cell? ⟨gi, 5, none⟩ = some (.slice B5 x.entries.length d5) := fun w' E => Sits_at E.sits hb13 (by rw [hxs]; rfl)
              have hc6 : ∀ w' : World, Ext h w h13 w' → w'.cell? ⟨gd, 6, none⟩ = some (.slice A6 d.runs.length c6) := fun w' E => Sits_at E.sits hb12 (by rw [hys]; rfl)
              have hx6 : ∀ w' : World, Ext h w h13 w' → w'.cell? ⟨gi, 6, none⟩ = some (.slice B6 x.runs.length d6) := fun w' E => Sits_at E.sits hb13 (by rw [hxs]; rfl)
              have KPa := hid (fun (w' : World) (hs' : Sits h13 w') => (ref_putDeed ⟨d.no, d.kind, d.links, d.size, d.target, al, d.runs⟩ A9' c9' A6 c6 h13 w' hs' : Calls Try.prog 91 #[.agg #[.int .i64 d.no, .int .i64 d.kind, .int .i64 d.links, .int .i64 d.size, .string d.target, .slice A9' al.length c9', .slice A6 d.runs.length c6]] w' fun e w2 => e = .returned (.agg #[.int .i64 2, .int .i64 0, .int .i64 d.no, .int .i64 d.kind, .int .i64 d.links, .int .i64 d.size, .string d.target, .slice A9' al.length c9', .slice A6 d.runs.length c6]) ∧ Ext h13 w' h13 w2))
              have KPb := hid (fun (w' : World) (hs' : Sits h13 w') => (ref_putDeed ⟨x.no, x.kind, x.links + 1, x.size, x.target, x.entries, x.runs⟩ B5 d5 B6 d6 h13 w' hs' : Calls Try.prog 91 #[.agg #[.int .i64 x.no, .int .i64 x.kind, .int .i64 (x.links + 1), .int .i64 x.size, .string x.target, .slice B5 x.entries.length d5, .slice B6 x.runs.length d6]] w' fun e w2 => e = .returned (.agg #[.int .i64 2, .int .i64 0, .int .i64 x.no, .int .i64 x.kind, .int .i64 (x.links + 1), .int .i64 x.size, .string x.target, .slice B5 x.entries.length d5, .slice B6 x.runs.length d6]) ∧ Ext h13 w' h13 w2))
              have E16 := E15.drew
              have H1 := hid sz5
              have H2 := hid k9'
              have H3 := hid r9'
              have H4 := hid k6
              have H5 := hid row6
              have H6 := hid sx5
              have H7 := hid kx5
              have H8 := hid rwx5
              have H9 := hid kx6
              have H10 := hid rwx6
              clear hys hxs sz5 k9' r9' k6 row6 sx5 kx5 rwx5 kx6 rwx6 BX13 BD13 E13 BX12 BD12 E12 E14 hb12 hb13 l12 k12 l13 at5
              go_region_held3 (fun w' => Ext h w h13 w') (first | with_reducible assumption | with_reducible exact Eg | with_reducible exact Ext.alloc Eg _) (first | (go_at_call 91; (with_reducible refine (KPa.out _ (Ext.sits (h := h) (h' := h13) (w := w) (by with_reducible assumption))).mono ?_); rintro e wf ⟨rfl, Fp⟩; have Eg := Ext.trans (h := h) (w := w) (h1 := h13) (by with_reducible assumption) Fp; clear Fp) | (go_at_call 91; (with_reducible refine (KPb.out _ (Ext.sits (h := h) (h' := h13) (w := w) (by with_reducible assumption))).mono ?_); rintro e wf ⟨rfl, Fp⟩; have Eg := Ext.trans (h := h) (w := w) (h1 := h13) (by with_reducible assumption) Fp; clear Fp))
              all_goals
                go_wp2_with fail
                obtain ⟨h15, E17, hb15, le15, hh15⟩ := Eg.boxF #[.int .i64 2, .int .i64 0, .int .i64 d.no, .int .i64 d.kind, .int .i64 d.links, .int .i64 d.size, .string d.target, .slice A9' al.length c9', .slice A6 d.runs.length c6, .int .i64 2, .int .i64 0, .int .i64 x.no, .int .i64 x.kind, .int .i64 (x.links + 1), .int .i64 x.size, .string x.target, .slice B5 x.entries.length d5, .slice B6 x.runs.length d6] 39
                go_ret2
                rw [HL6.out]
                exact ⟨some ⟨wf.heap.size, 0, none⟩, 2, h15, rfl, ⟨Nat.le_refl _, (fun e => by cases e), by decide⟩, RowAt.of_block hb15 ⟨[.int .i64 2, .int .i64 0, .int .i64 d.no, .int .i64 d.kind, .int .i64 d.links, .int .i64 d.size, .string d.target, .slice A9' al.length c9', .slice A6 d.runs.length c6], _, rfl, ⟨A9', c9', A6, c6, rfl, H1.out, H2.out, H3.out.mono le15, H4.out, H5.out.mono le15⟩, [.int .i64 2, .int .i64 0, .int .i64 x.no, .int .i64 x.kind, .int .i64 (x.links + 1), .int .i64 x.size, .string x.target, .slice B5 x.entries.length d5, .slice B6 x.runs.length d6], [], rfl, ⟨B5, d5, B6, d6, rfl, H6.out, H7.out, H8.out.mono le15, H9.out, H10.out.mono le15⟩, rfl⟩ (by show 2 ≤ 9223372036854775807; decide), E17⟩
            · have hb : (ac == 0) = false := by simpa using hac
              have hb2 : (ac != 0) = true := by simpa using hac
              have HQ := hid (show hardP s old path = ([], ac) by rw [HL5.out, if_pos hac])
              clear hac
              go_wp2_with fail
              go_ret2
              exact (by rw [HQ.out]; exact ⟨none, 0, h, rfl, ⟨Nat.zero_le _, fun _ => rfl, by decide⟩, RowAt.nil _ _, E11.out.back⟩)
      · have hb : (pc == 0) = false := by simpa using hpc
        have hb2 : (pc != 0) = true := by simpa using hpc
        have HQ := hid (show hardP s old path = ([], pc) by rw [HL2.out]; unfold hardU; rw [if_pos hpc])
        clear hpc
        go_wp2_with fail
        go_ret2
        exact (by rw [HQ.out]; exact ⟨none, 0, h, rfl, ⟨Nat.zero_le _, fun _ => rfl, by decide⟩, RowAt.nil _ _, E7.out.back⟩)
  · have hb : (code == 0) = false := by simpa using hc
    have hb2 : (code != 0) = true := by simpa using hc
    have HQ := hid (show hardP s old path = ([], code) by unfold hardP; rw [HR.out, if_pos hc])
    clear hc
    go_wp2_with fail
    go_ret2
    exact (by rw [HQ.out]; exact ⟨none, 0, h, rfl, ⟨Nat.zero_le _, fun _ => rfl, by decide⟩, RowAt.nil _ _, E3.out.back⟩)
end Go.Proofs.Ytkglaofiencfdaa
