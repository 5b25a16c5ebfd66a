import Derived.Test.YtmljcjjhakhjaaaDoorTrUn
namespace Go.Proofs.YtmljcjjhakhjaaaDoor
open Go.RowKit Go.Sort
set_option linter.unusedVariables false
set_option maxHeartbeats 16000000 in
set_option maxRecDepth 100000 in
theorem tree_Rmdir (s : State) (cs : List Value) (path : ByteArray) (hsz : path.size ≤ 9223372036854775807) (hent : ∀ x ∈ s.inodes, midI x) (hfit : ∀ x ∈ s.inodes, fitI x) (h : FH) (w : World) (hs : Sits h w) (rS : repState h cs s) :
    Calls Tryd.prog 18 #[.agg cs.toArray, .string path] w fun e w' => RetDC h w (rmdirP s path) e w' := by
  have HENT := hid hent
  clear hent
  have RS := hid rS
  have HFIT := hid hfit
  clear rS hfit
  obtain ⟨h1, E1, hb1, le1, hh1⟩ := (Ext.refl hs).boxF cs.toArray 26
  clear hh1
  obtain ⟨⟨p, code⟩, hf⟩ : ∃ fs, thereS s.inodes path = fs := ⟨_, rfl⟩
  have HP := hid hf
  have hpm := thereS_all midI_zero HENT.out path
  rw [hf] at hpm
  have HDM := hid hpm.1
  have HXM := hid hpm.2
  clear hpm hf
  go_enter Tryd.func18, Tryd.ntmps18
  go_upto_region 1 with (fail)
  generalize hgx : w.heap.size = gx at *
  with_reducible generalize w.alloc (.cells cs.toArray 26) = W2 at E1 ⊢
  clear hgx
  have E2 := hid E1
  have hb1 := hid hb1
  have le1 := hid le1
  clear E1
  have KT := hid (tree_there s _ path hsz HFIT.out p code HP.out h1 W2 E2.out.sits (repState.mono le1.out RS.out))
  go_upto_region 2 with (first | (refine wpList_load_row rfl 26 _ rfl gx rfl 26 cs.toArray (0, 0) _ (E2.out.sits _ _ hb1.out) Tryd.underlying26 rfl (info_State RS.out.len) ?_) | (go_at_call 36; refine KT.out.mono ?_; rintro e w3 ⟨pl, h3, rfl, rp, F3⟩; have E3 := hid (E2.out.trans F3); have l3 := hid F3.le; have rp := hid rp; clear F3) | (refine wpList_store_row rfl 61 _ _ rfl w3.heap.size pl.toArray rfl rfl 61 #[.int .i64 0, .int .i64 0, .int .i64 0, .int .i64 0, .string ⟨#[]⟩, .slice none 0 0, .slice none 0 0, .string ⟨#[]⟩, .int .i64 0, .int .i64 0, .int .i64 0, .int .i64 0, .string ⟨#[]⟩, .slice none 0 0, .slice none 0 0, .bool false] (heap_new w3 _) (info_Spot rp.out.len) (zs_size rp.out) (one_arr rp.out.one) ?_))
  rw [World.setRow_alloc_new]
  have BP4 := BoxU.new E3.out pl.toArray 61
  have E4 := E3.out.alloc (.cells pl.toArray 61)
  with_reducible generalize (w3.alloc (.cells pl.toArray 61)) = W4 at BP4 E4 ⊢
  have BP4 := hid BP4
  have E4 := hid E4
  generalize w3.heap.size = gp at *
  clear E3 KT
  obtain ⟨xl, rx, hxx⟩ := rp.out.xx
  have m9 := BP4.out.cell (hxx 1 _ rx.at1)
  by_cases hc : code = 0
  · subst hc
    by_cases hk : p.x.kind = 2
    · have bk : (p.x.kind == 2) = true := by simpa using hk
      have bk2 : (p.x.kind != 2) = false := by simpa using hk
      obtain ⟨B5, d5, atx, -, -⟩ := rx.at5
      have m13 := BP4.out.cell (hxx 5 _ atx)
      by_cases hl : 0 < p.x.entries.length
      · have HQ := hid (show rmdirP s path = ([], 15) by unfold rmdirP; rw [HP.out, if_neg (by simp), if_neg (by simpa using hk), if_pos hl])
        have hl2 : (0 : Int) < (p.x.entries.length : Int) := by omega
        clear hk hl
        go_wp2_with fail
        go_ret2
        exact (by rw [HQ.out]; exact ⟨none, 0, h, rfl, ⟨Nat.zero_le _, fun _ => rfl, by decide⟩, RowAt.nil _ _, E4.out.back⟩)
      · have hl2 : ¬ ((0 : Int) < (p.x.entries.length : Int)) := by omega
        obtain ⟨y, hy⟩ : ∃ y, withoutP p.dir p.name = y := ⟨_, rfl⟩
        have HQ := hid (show rmdirP s path = ([putD { y with links := y.links - 1 }, ⟨3, p.x.no, zeroI⟩], 0) by unfold rmdirP; rw [HP.out, if_neg (by simp), if_neg (by simpa using hk), if_neg hl]; show ([putD { withoutP p.dir p.name with links := (withoutP p.dir p.name).links - 1 }, (⟨3, p.x.no, zeroI⟩ : Deed)], (0 : Int)) = _; rw [hy])
        have hym : midI y := by rw [← hy]; exact withoutP_mid HDM.out
        have HYM := hid hym
        obtain ⟨dl, rd, hdd⟩ := rp.out.dir
        have m7 := BP4.out.cell (rp.out.nm.1)
        have KW := hid (by have q := tree_withoutL rd HDM.out.1 p.name rp.out.nm.2 W4 E4.out.sits; rw [hy] at q; exact q : Calls Tryd.prog 37 #[.agg dl.toArray, .string p.name] W4 fun e w' => ∃ cs' h1, e = .returned (.agg cs'.toArray) ∧ repInode h1 cs' y ∧ Ext h3 W4 h1 w')
        clear hk hl hy hym
        go_upto_region 9 with (first | (refine wpList_load_mid rfl 39 _ rfl gp 0 rfl dl _ (BP4.out.range 0 dl (fun j v hj => by rw [Nat.zero_add]; exact hdd j v hj)) Tryd.underlying39 rfl (infoL_Inode rd.len) ?_) | (go_at_call 37; refine KW.out.mono ?_; rintro e w5 ⟨yl, h5, rfl, ry, F5⟩; have E5 := hid (E4.out.trans F5); have BP5 := hid (BP4.out.ext F5); have l5 := hid F5.le; have ry := hid ry; clear F5 m7 m9 m13) | (refine wpList_store_row rfl 39 _ _ rfl w5.heap.size yl.toArray rfl rfl 39 #[.int .i64 0, .int .i64 0, .int .i64 0, .int .i64 0, .string ⟨#[]⟩, .slice none 0 0, .slice none 0 0] (heap_new w5 _) (info_Inode ry.out.len) (zi_size ry.out) (one_arr ry.out.one) ?_))
        rw [World.setRow_alloc_new]
        have BY6 := BoxU.new E5.out yl.toArray 39
        have E6 := E5.out.alloc (.cells yl.toArray 39)
        have BP6 := BP5.out.alloc (.cells yl.toArray 39)
        have hne6 := hid (Nat.ne_of_lt BP5.out.lt)
        with_reducible generalize (w5.alloc (.cells yl.toArray 39)) = W6 at BY6 E6 BP6 ⊢
        have BY6 := hid BY6
        have E6 := hid E6
        have BP6 := hid BP6
        generalize w5.heap.size = gy at *
        have m2 := BY6.out.cell (by rw [List.getElem?_toArray]; exact ry.out.at2)
        have f2 := BY6.out.open_ 2
        have hwr : IntKind.i64.wrap (y.links - 1) = y.links - 1 := by have := HYM.out; unfold midI at this; rw [IntKind.wrap_i64]; omega
        go_upto_region 10 with (fail)
        have BY7 := BY6.out.set1 2 (.int .i64 (y.links - 1))
        have BP7 := BP6.out.other1 hne6.out 2 (.int .i64 (y.links - 1))
        have E7 := BY6.out.wr1 E6.out 2 (.int .i64 (y.links - 1))
        with_reducible generalize W6.setCell ⟨gy, 2, none⟩ (.int .i64 (y.links - 1)) = w7 at BY7 BP7 E7 ⊢
        obtain ⟨h11, E11, hb11, l11, k11⟩ := BP7.freeze E7
        obtain ⟨h12, E12, hb12y, l12, -⟩ := (BY7.keep k11 (fun e => hne6.out e.symm)).freeze E11
        have hb12p := l12 _ _ hb11
        obtain ⟨C5, f5, C6, f6, hys, sy5, ky5, rwy5, ky6, rwy6⟩ := ((ry.out.mono (l11.trans l12)).setLinks (y.links - 1))
        have hy0 : ∀ w' : World, Ext h w h12 w' → w'.cell? ⟨gy, 0, none⟩ = some (.int .i64 y.no) := fun w' E => Sits_at E.sits hb12y (by rw [hys]; rfl)
        have hy1 : ∀ w' : World, Ext h w h12 w' → w'.cell? ⟨gy, 1, none⟩ = some (.int .i64 y.kind) := fun w' E => Sits_at E.sits hb12y (by rw [hys]; rfl)
        have hy2 : ∀ w' : World, Ext h w h12 w' → w'.cell? ⟨gy, 2, none⟩ = some (.int .i64 (y.links - 1)) := fun w' E => Sits_at E.sits hb12y (by rw [hys]; rfl)
        have hy3 : ∀ w' : World, Ext h w h12 w' → w'.cell? ⟨gy, 3, none⟩ = some (.int .i64 y.size) := fun w' E => Sits_at E.sits hb12y (by rw [hys]; rfl)
        have hy4 : ∀ w' : World, Ext h w h12 w' → w'.cell? ⟨gy, 4, none⟩ = some (.string y.target) := fun w' E => Sits_at E.sits hb12y (by rw [hys]; rfl)
        have hy5 : ∀ w' : World, Ext h w h12 w' → w'.cell? ⟨gy, 5, none⟩ = some (.slice C5 y.entries.length f5) := fun w' E => Sits_at E.sits hb12y (by rw [hys]; rfl)
        have hy6 : ∀ w' : World, Ext h w h12 w' → w'.cell? ⟨gy, 6, none⟩ = some (.slice C6 y.runs.length f6) := fun w' E => Sits_at E.sits hb12y (by rw [hys]; rfl)
        have hx0 : ∀ w' : World, Ext h w h12 w' → w'.cell? ⟨gp, 8, none⟩ = some (.int .i64 p.x.no) := fun w' E => Sits_at E.sits hb12p (hxx 0 _ rx.at0)
        have KPU := hid (fun (w' : World) (hs' : Sits h12 w') => (tree_put ⟨y.no, y.kind, y.links - 1, y.size, y.target, y.entries, y.runs⟩ C5 f5 C6 f6 h12 w' hs' : Calls Tryd.prog 24 #[.agg #[.int .i64 y.no, .int .i64 y.kind, .int .i64 (y.links - 1), .int .i64 y.size, .string y.target, .slice C5 y.entries.length f5, .slice C6 y.runs.length f6]] w' fun e w2 => e = .returned (.agg #[.int .i64 2, .int .i64 0, .int .i64 y.no, .int .i64 y.kind, .int .i64 (y.links - 1), .int .i64 y.size, .string y.target, .slice C5 y.entries.length f5, .slice C6 y.runs.length f6]) ∧ Ext h12 w' h12 w2))
        have E13 := E12.drew
        have H1 := hid sy5
        have H2 := hid ky5
        have H3 := hid rwy5
        have H4 := hid ky6
        have H5 := hid rwy6
        clear hys sy5 ky5 rwy5 ky6 rwy6 BY7 BP7 E7 BY6 BP6 E6 m2 f2 hb12y hb12p hb11 hdd hxx rx rd
        go_region_held3 (fun w' => Ext h w h12 w') (first | with_reducible assumption | with_reducible exact Eg | with_reducible exact Ext.alloc Eg _) (first | (go_at_call 24; (with_reducible refine (KPU.out _ (Ext.sits (h := h) (h' := h12) (w := w) (by with_reducible assumption))).mono ?_); rintro e wf ⟨rfl, Fp⟩; have Eg := Ext.trans (h := h) (w := w) (h1 := h12) (by with_reducible assumption) Fp; clear Fp))
        all_goals
          go_wp2_with fail
          obtain ⟨h15, E15, hb15, le15, hh15⟩ := Eg.boxF #[.int .i64 2, .int .i64 0, .int .i64 y.no, .int .i64 y.kind, .int .i64 (y.links - 1), .int .i64 y.size, .string y.target, .slice C5 y.entries.length f5, .slice C6 y.runs.length f6, .int .i64 3, .int .i64 p.x.no, .int .i64 0, .int .i64 0, .int .i64 0, .int .i64 0, .string ⟨#[]⟩, .slice none 0 0, .slice none 0 0] 69
          go_ret2
          rw [HQ.out]
          exact ⟨some ⟨wf.heap.size, 0, none⟩, 2, h15, rfl, ⟨Nat.le_refl _, (fun e => by cases e), by decide⟩, RowAt.of_block hb15 ⟨[.int .i64 2, .int .i64 0, .int .i64 y.no, .int .i64 y.kind, .int .i64 (y.links - 1), .int .i64 y.size, .string y.target, .slice C5 y.entries.length f5, .slice C6 y.runs.length f6], _, rfl, ⟨C5, f5, C6, f6, rfl, H1.out, H2.out, H3.out.mono le15, H4.out, H5.out.mono le15⟩, [.int .i64 3, .int .i64 p.x.no, .int .i64 0, .int .i64 0, .int .i64 0, .int .i64 0, .string ⟨#[]⟩, .slice none 0 0, .slice none 0 0], [], rfl, ⟨none, 0, none, 0, rfl, Nat.zero_le _, ⟨Nat.le_refl _, fun _ => rfl, by decide⟩, RowAt.nil _ _, ⟨Nat.le_refl _, fun _ => rfl, by decide⟩, RowAt.nil _ _⟩, rfl⟩ (by show 2 ≤ 9223372036854775807; decide), E15⟩
    · have bk : (p.x.kind == 2) = false := by simpa using hk
      have bk2 : (p.x.kind != 2) = true := by simpa using hk
      have HQ := hid (show rmdirP s path = ([], 13) by unfold rmdirP; rw [HP.out, if_neg (by simp), if_pos hk])
      clear hk
      go_wp2_with fail
      go_ret2
      exact (by rw [HQ.out]; exact ⟨none, 0, h, rfl, ⟨Nat.zero_le _, fun _ => rfl, by decide⟩, RowAt.nil _ _, E4.out.back⟩)
  · have hb : (code == 0) = false := by simpa using hc
    have hb2 : (code != 0) = true := by simpa using hc
    have HQ := hid (show rmdirP s path = ([], code) by unfold rmdirP; rw [HP.out, if_pos hc])
    clear hc
    go_wp2_with fail
    go_ret2
    exact (by rw [HQ.out]; exact ⟨none, 0, h, rfl, ⟨Nat.zero_le _, fun _ => rfl, by decide⟩, RowAt.nil _ _, E4.out.back⟩)

end Go.Proofs.YtmljcjjhakhjaaaDoor
