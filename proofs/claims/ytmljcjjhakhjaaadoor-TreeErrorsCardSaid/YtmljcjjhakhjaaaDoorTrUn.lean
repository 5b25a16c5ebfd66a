import Derived.Test.YtmljcjjhakhjaaaDoorTrLk
namespace Go.Proofs.YtmljcjjhakhjaaaDoor
open Go.RowKit Go.Sort
set_option linter.unusedVariables false
theorem withoutP_mid {d : Inode} {name : ByteArray} (h : midI d) : midI (withoutP d name) := by
  unfold withoutP
  split
  · exact ⟨Nat.le_trans (remE_lenT _ _) h.1, h.2⟩
  · exact h
theorem deed_repT {h : FH} {d : Deed} {A5 A6 : Option Addr} {c5 c6 : Nat} (r : repInode h [.int .i64 d.inode.no, .int .i64 d.inode.kind, .int .i64 d.inode.links, .int .i64 d.inode.size, .string d.inode.target, .slice A5 d.inode.entries.length c5, .slice A6 d.inode.runs.length c6] d.inode) : repDeed h (.int .i64 d.kind :: .int .i64 d.no :: [.int .i64 d.inode.no, .int .i64 d.inode.kind, .int .i64 d.inode.links, .int .i64 d.inode.size, .string d.inode.target, .slice A5 d.inode.entries.length c5, .slice A6 d.inode.runs.length c6]) d := by
  obtain ⟨B5, b5, B6, b6, hq, s1⟩ := r
  injection hq with a1 hq; injection hq with a2 hq; injection hq with a3 hq; injection hq with a4 hq; injection hq with a5 hq; injection hq with a6 hq; injection hq with a7 hq
  injection a6 with b1 b2 b3; injection a7 with b4 b5 b6
  subst b1; subst b3; subst b4; subst b6
  exact ⟨_, _, _, _, rfl, s1⟩
def unlinkP (s : State) (path : ByteArray) (os : List Int) : List Deed × Int :=
  if (thereS s.inodes path).2 ≠ 0 then ([], (thereS s.inodes path).2)
  else if (thereS s.inodes path).1.x.kind = 2 then ([], 14)
  else ([putD (withoutP (thereS s.inodes path).1.dir (thereS s.inodes path).1.name), letGoP (thereS s.inodes path).1.x os], 0)
def rmdirP (s : State) (path : ByteArray) : List Deed × Int :=
  if (thereS s.inodes path).2 ≠ 0 then ([], (thereS s.inodes path).2)
  else if (thereS s.inodes path).1.x.kind ≠ 2 then ([], 13)
  else if 0 < (thereS s.inodes path).1.x.entries.length then ([], 15)
  else ([putD { withoutP (thereS s.inodes path).1.dir (thereS s.inodes path).1.name with links := (withoutP (thereS s.inodes path).1.dir (thereS s.inodes path).1.name).links - 1 }, ⟨3, (thereS s.inodes path).1.x.no, zeroI⟩], 0)

set_option maxHeartbeats 16000000 in
set_option maxRecDepth 100000 in
theorem tree_Unlink (s : State) (cs : List Value) (path : ByteArray) (hsz : path.size ≤ 9223372036854775807) (os : List Int) (AO : Option Addr) (cO : Nat) (hent : ∀ x ∈ s.inodes, midI x) (hfit : ∀ x ∈ s.inodes, fitI x) (h : FH) (w : World) (hs : Sits h w) (rS : repState h cs s) (ro : RowAt h AO os) :
    Calls Tryd.prog 14 #[.agg cs.toArray, .string path, .slice AO os.length cO] w fun e w' => RetDC h w (unlinkP s path os) e w' := by
  have HENT := hid hent
  clear hent
  have RS := hid rS
  have HFIT := hid hfit
  clear rS hfit
  obtain ⟨h1, E1, hb1, le1, hh1⟩ := (Ext.refl hs).boxF cs.toArray 26
  clear hh1
  obtain ⟨⟨p, code⟩, hf⟩ : ∃ fs, thereS s.inodes path = fs := ⟨_, rfl⟩
  have HP := hid hf
  have hpm := thereS_all midI_zero HENT.out path
  rw [hf] at hpm
  have HDM := hid hpm.1
  have HXM := hid hpm.2
  clear hpm hf
  go_enter Tryd.func14, Tryd.ntmps14
  go_upto_region 1 with (fail)
  generalize hgx : w.heap.size = gx at *
  with_reducible generalize w.alloc (.cells cs.toArray 26) = W2 at E1 ⊢
  clear hgx
  have E2 := hid E1
  have hb1 := hid hb1
  have le1 := hid le1
  clear E1
  have KT := hid (tree_there s _ path hsz HFIT.out p code HP.out h1 W2 E2.out.sits (repState.mono le1.out RS.out))
  go_upto_region 2 with (first | (refine wpList_load_row rfl 26 _ rfl gx rfl 26 cs.toArray (0, 0) _ (E2.out.sits _ _ hb1.out) Tryd.underlying26 rfl (info_State RS.out.len) ?_) | (go_at_call 36; refine KT.out.mono ?_; rintro e w3 ⟨pl, h3, rfl, rp, F3⟩; have E3 := hid (E2.out.trans F3); have l3 := hid F3.le; have rp := hid rp; clear F3) | (refine wpList_store_row rfl 61 _ _ rfl w3.heap.size pl.toArray rfl rfl 61 #[.int .i64 0, .int .i64 0, .int .i64 0, .int .i64 0, .string ⟨#[]⟩, .slice none 0 0, .slice none 0 0, .string ⟨#[]⟩, .int .i64 0, .int .i64 0, .int .i64 0, .int .i64 0, .string ⟨#[]⟩, .slice none 0 0, .slice none 0 0, .bool false] (heap_new w3 _) (info_Spot rp.out.len) (zs_size rp.out) (one_arr rp.out.one) ?_))
  rw [World.setRow_alloc_new]
  have BP4 := BoxU.new E3.out pl.toArray 61
  have E4 := E3.out.alloc (.cells pl.toArray 61)
  with_reducible generalize (w3.alloc (.cells pl.toArray 61)) = W4 at BP4 E4 ⊢
  have BP4 := hid BP4
  have E4 := hid E4
  generalize w3.heap.size = gp at *
  clear E3 KT
  obtain ⟨xl, rx, hxx⟩ := rp.out.xx
  have m9 := BP4.out.cell (hxx 1 _ rx.at1)
  by_cases hc : code = 0
  · subst hc
    by_cases hk : p.x.kind = 2
    · have bk : (p.x.kind == 2) = true := by simpa using hk
      have HQ := hid (show unlinkP s path os = ([], 14) by unfold unlinkP; rw [HP.out, if_neg (by simp), if_pos hk])
      clear hk
      go_wp2_with fail
      go_ret2
      exact (by rw [HQ.out]; exact ⟨none, 0, h, rfl, ⟨Nat.zero_le _, fun _ => rfl, by decide⟩, RowAt.nil _ _, E4.out.back⟩)
    · have bk : (p.x.kind == 2) = false := by simpa using hk
      obtain ⟨g, hg⟩ : ∃ g, letGoP p.x os = g := ⟨_, rfl⟩
      obtain ⟨y, hy⟩ : ∃ y, withoutP p.dir p.name = y := ⟨_, rfl⟩
      have HQ := hid (show unlinkP s path os = ([putD y, g], 0) by unfold unlinkP; rw [HP.out, if_neg (by simp), if_neg hk]; show ([putD (withoutP p.dir p.name), letGoP p.x os], (0 : Int)) = _; rw [hg, hy])
      have HG := hid hg
      have HY := hid hy
      clear hk hg hy
      go_upto_region 6 with (fail)
      clear m9
      obtain ⟨h12, E12, hb12, l12, -⟩ := BP4.out.freeze E4.out
      obtain ⟨dl, rd, hdd⟩ := rp.out.dir
      have rd := rd.mono l12
      have rx := rx.mono l12
      obtain ⟨A5, c5, A6, c6, rfl⟩ := rd.open
      obtain ⟨B5, d5, B6, d6, rfl⟩ := rx.open
      have KW := hid (fun (w' : World) (hs' : Sits h12 w') => tree_without p.dir A5 c5 A6 c6 HDM.out.1 p.name rp.out.nm.2 h12 w' hs' rd)
      have KLG := hid (fun (w' : World) (hs' : Sits h12 w') => tree_letGo p.x B5 d5 B6 d6 os AO cO HXM.out.2.1 HXM.out.2.2 h12 w' hs' rx (ro.mono (le1.out.trans (l3.out.trans l12))))
      have KPU := hid (fun (C5 : Option Addr) (f5 : Nat) (C6 : Option Addr) (f6 : Nat) (w' : World) (hs' : Sits h12 w') => (tree_put y C5 f5 C6 f6 h12 w' hs' : Calls Tryd.prog 24 #[.agg #[.int .i64 y.no, .int .i64 y.kind, .int .i64 y.links, .int .i64 y.size, .string y.target, .slice C5 y.entries.length f5, .slice C6 y.runs.length f6]] w' fun e w2 => e = .returned (.agg #[.int .i64 2, .int .i64 0, .int .i64 y.no, .int .i64 y.kind, .int .i64 y.links, .int .i64 y.size, .string y.target, .slice C5 y.entries.length f5, .slice C6 y.runs.length f6]) ∧ Ext h12 w' h12 w2))
      have hc0 : ∀ w' : World, Ext h w h12 w' → w'.cell? ⟨gp, 0, none⟩ = some (.int .i64 p.dir.no) := fun w' E => Sits_at E.sits hb12 (hdd 0 _ rfl)
      have hc1 : ∀ w' : World, Ext h w h12 w' → w'.cell? ⟨gp, 1, none⟩ = some (.int .i64 p.dir.kind) := fun w' E => Sits_at E.sits hb12 (hdd 1 _ rfl)
      have hc2 : ∀ w' : World, Ext h w h12 w' → w'.cell? ⟨gp, 2, none⟩ = some (.int .i64 p.dir.links) := fun w' E => Sits_at E.sits hb12 (hdd 2 _ rfl)
      have hc3 : ∀ w' : World, Ext h w h12 w' → w'.cell? ⟨gp, 3, none⟩ = some (.int .i64 p.dir.size) := fun w' E => Sits_at E.sits hb12 (hdd 3 _ rfl)
      have hc4 : ∀ w' : World, Ext h w h12 w' → w'.cell? ⟨gp, 4, none⟩ = some (.string p.dir.target) := fun w' E => Sits_at E.sits hb12 (hdd 4 _ rfl)
      have hc5 : ∀ w' : World, Ext h w h12 w' → w'.cell? ⟨gp, 5, none⟩ = some (.slice A5 p.dir.entries.length c5) := fun w' E => Sits_at E.sits hb12 (hdd 5 _ rfl)
      have hc6 : ∀ w' : World, Ext h w h12 w' → w'.cell? ⟨gp, 6, none⟩ = some (.slice A6 p.dir.runs.length c6) := fun w' E => Sits_at E.sits hb12 (hdd 6 _ rfl)
      have hn7 : ∀ w' : World, Ext h w h12 w' → w'.cell? ⟨gp, 7, none⟩ = some (.string p.name) := fun w' E => Sits_at E.sits hb12 rp.out.nm.1
      have hx0 : ∀ w' : World, Ext h w h12 w' → w'.cell? ⟨gp, 8, none⟩ = some (.int .i64 p.x.no) := fun w' E => Sits_at E.sits hb12 (hxx 0 _ rfl)
      have hx1 : ∀ w' : World, Ext h w h12 w' → w'.cell? ⟨gp, 9, none⟩ = some (.int .i64 p.x.kind) := fun w' E => Sits_at E.sits hb12 (hxx 1 _ rfl)
      have hx2 : ∀ w' : World, Ext h w h12 w' → w'.cell? ⟨gp, 10, none⟩ = some (.int .i64 p.x.links) := fun w' E => Sits_at E.sits hb12 (hxx 2 _ rfl)
      have hx3 : ∀ w' : World, Ext h w h12 w' → w'.cell? ⟨gp, 11, none⟩ = some (.int .i64 p.x.size) := fun w' E => Sits_at E.sits hb12 (hxx 3 _ rfl)
      have hx4 : ∀ w' : World, Ext h w h12 w' → w'.cell? ⟨gp, 12, none⟩ = some (.string p.x.target) := fun w' E => Sits_at E.sits hb12 (hxx 4 _ rfl)
      have hx5 : ∀ w' : World, Ext h w h12 w' → w'.cell? ⟨gp, 13, none⟩ = some (.slice B5 p.x.entries.length d5) := fun w' E => Sits_at E.sits hb12 (hxx 5 _ rfl)
      have hx6 : ∀ w' : World, Ext h w h12 w' → w'.cell? ⟨gp, 14, none⟩ = some (.slice B6 p.x.runs.length d6) := fun w' E => Sits_at E.sits hb12 (hxx 6 _ rfl)
      have E13 := E12.drew
      have Ec := hid E13
      clear hdd hxx rd rx BP4 E4 E12 hb12
      go_region_held3 (fun w' => Ext h w h12 w') (first | with_reducible assumption | with_reducible exact Eg | with_reducible exact Ext.alloc Eg _) (first | (go_at_call 37; (with_reducible refine (KW.out _ (Ext.sits (h := h) (h' := h12) (w := w) (by with_reducible assumption))).mono ?_); rintro e wf ⟨C5, f5, C6, f6, hz, rfl, rz, Fz⟩; rw [HY.out] at rz ⊢; have Eg := Ext.trans (h := h) (w := w) (h1 := h12) (by with_reducible assumption) Fz.back; have Ec := hid (Ec.out.trans Fz); have LE := hid Fz.le; have rz := hid rz; clear Fz) | (go_at_call 38; (with_reducible refine (KLG.out _ (Ext.sits (h := h) (h' := h12) (w := w) (by with_reducible assumption))).mono ?_); rintro e wf ⟨G5, g5, G6, g6, rfl, rg, Fl⟩; rw [HG.out] at rg ⊢; have Eg := Ext.trans (h := h) (w := w) (h1 := h12) (by with_reducible assumption) Fl; have Ec := hid (Ec.out.more Fl); have rg := hid rg; clear Fl) | (go_at_call 24; (with_reducible refine (KPU.out _ _ _ _ _ (Ext.sits (h := h) (h' := h12) (w := w) (by with_reducible assumption))).mono ?_); rintro e wf ⟨rfl, Fp⟩; have Eg := Ext.trans (h := h) (w := w) (h1 := h12) (by with_reducible assumption) Fp; have Ec := hid (Ec.out.more Fp); clear Fp))
      all_goals
        go_wp2_with fail
        obtain ⟨h15, E15, hb15, le15, hh15⟩ := Ec.out.boxF #[.int .i64 2, .int .i64 0, .int .i64 y.no, .int .i64 y.kind, .int .i64 y.links, .int .i64 y.size, .string y.target, .slice C5 y.entries.length f5, .slice C6 y.runs.length f6, .int .i64 g.kind, .int .i64 g.no, .int .i64 g.inode.no, .int .i64 g.inode.kind, .int .i64 g.inode.links, .int .i64 g.inode.size, .string g.inode.target, .slice G5 g.inode.entries.length g5, .slice G6 g.inode.runs.length g6] 69
        go_ret2
        rw [HQ.out]
        have rz2 := rz.out.mono le15
        have rg2 := rg.out.mono (LE.out.trans le15)
        exact ⟨some ⟨wf.heap.size, 0, none⟩, 2, h15, rfl, ⟨Nat.le_refl _, (fun e => by cases e), by decide⟩, RowAt.of_block hb15 ⟨[.int .i64 2, .int .i64 0, .int .i64 y.no, .int .i64 y.kind, .int .i64 y.links, .int .i64 y.size, .string y.target, .slice C5 y.entries.length f5, .slice C6 y.runs.length f6], _, rfl, putL_rep rz2, [.int .i64 g.kind, .int .i64 g.no, .int .i64 g.inode.no, .int .i64 g.inode.kind, .int .i64 g.inode.links, .int .i64 g.inode.size, .string g.inode.target, .slice G5 g.inode.entries.length g5, .slice G6 g.inode.runs.length g6], [], rfl, deed_repT rg2, rfl⟩ (by show 2 ≤ 9223372036854775807; decide), E15⟩
  · have hb : (code == 0) = false := by simpa using hc
    have hb2 : (code != 0) = true := by simpa using hc
    have HQ := hid (show unlinkP s path os = ([], code) by unfold unlinkP; rw [HP.out, if_pos hc])
    clear hc
    go_wp2_with fail
    go_ret2
    exact (by rw [HQ.out]; exact ⟨none, 0, h, rfl, ⟨Nat.zero_le _, fun _ => rfl, by decide⟩, RowAt.nil _ _, E4.out.back⟩)

end Go.Proofs.YtmljcjjhakhjaaaDoor
