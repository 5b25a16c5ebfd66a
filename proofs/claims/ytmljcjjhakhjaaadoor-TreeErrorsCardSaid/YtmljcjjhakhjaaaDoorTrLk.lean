import Derived.Test.YtmljcjjhakhjaaaDoorTrMk
namespace Go.Proofs.YtmljcjjhakhjaaaDoor
open Go.RowKit Go.Sort
set_option linter.unusedVariables false
/-- Deeds, and why not. -/
def RetDC (h : FH) (w : World) (r : List Deed × Int) (e : Ending) (w' : World) : Prop := ∃ A c h1, e = .returned (.tuple #[.slice A r.1.length c, .int .i64 r.2]) ∧ CapLe A r.1.length c ∧ RowAt h1 A r.1 ∧ Ext h w h1 w'
theorem zi_size {h : FH} {cs : List Value} {x : Inode} (r : repInode h cs x) : (#[.int .i64 0, .int .i64 0, .int .i64 0, .int .i64 0, .string ⟨#[]⟩, .slice none 0 0, .slice none 0 0] : Array Value).size = cs.toArray.size := by refine Eq.trans (b := 7) rfl ?_; rw [List.size_toArray, r.len]
theorem findI_all {Q : Inode → Prop} {xs : List Inode} (h0 : Q zeroI) (hq : ∀ x ∈ xs, Q x) (no : Int) : Q ((findI xs no).getD zeroI) := by
  cases h : findI xs no with
  | none => exact h0
  | some x => exact hq x (mem_of_findI h)
theorem findS_all {Q : Inode → Prop} {xs : List Inode} (h0 : Q zeroI) (hq : ∀ x ∈ xs, Q x) (path : ByteArray) : Q (findS xs path).1.dir ∧ Q (findS xs path).1.x := by
  unfold findS
  split
  · exact ⟨h0, h0⟩
  · unfold atS
    split
    · exact ⟨findI_all h0 hq _, h0⟩
    · exact ⟨findI_all h0 hq _, findI_all h0 hq _⟩
theorem thereS_all {Q : Inode → Prop} {xs : List Inode} (h0 : Q zeroI) (hq : ∀ x ∈ xs, Q x) (path : ByteArray) : Q (thereS xs path).1.dir ∧ Q (thereS xs path).1.x := by
  unfold thereS; split <;> exact findS_all h0 hq path
theorem freshS_all {Q : Inode → Prop} {xs : List Inode} (h0 : Q zeroI) (hq : ∀ x ∈ xs, Q x) (path : ByteArray) : Q (freshS xs path).1.dir ∧ Q (freshS xs path).1.x := by
  unfold freshS; split
  · exact findS_all h0 hq path
  · split <;> exact findS_all h0 hq path
def linkT (s : State) (x : Inode) (no : Int) (f : Spot × Int) : List Deed × Int :=
  if f.2 ≠ 0 then ([], f.2)
  else if 100 ≤ x.links then ([], 18)
  else if addC f.1.dir.entries ⟨f.1.name, no⟩ ≠ 0 then ([], addC f.1.dir.entries ⟨f.1.name, no⟩)
  else ([putD { f.1.dir with entries := addL f.1.dir.entries ⟨f.1.name, no⟩ }, putD { x with links := x.links + 1 }], 0)
def linkF (s : State) (v : Option Inode) (no : Int) (way : ByteArray) : List Deed × Int := match v with
    | none => ([], 11)
    | some x => if x.kind = 2 then ([], 14) else linkT s x no (freshS s.inodes way)
def linkP (s : State) (old way : ByteArray) : List Deed × Int :=
  if (resolveP s.inodes old false).2 ≠ 0 then ([], (resolveP s.inodes old false).2)
  else linkF s (findI s.inodes (resolveP s.inodes old false).1) (resolveP s.inodes old false).1 way
set_option maxHeartbeats 16000000 in
set_option maxRecDepth 100000 in
theorem tree_Link (s : State) (cs : List Value) (old way : ByteArray) (hso : old.size ≤ 9223372036854775807) (hsw : way.size ≤ 9223372036854775807) (hent : ∀ x ∈ s.inodes, midI x) (hfit : ∀ x ∈ s.inodes, fitI x) (h : FH) (w : World) (hs : Sits h w) (rS : repState h cs s) :
    Calls Tryd.prog 11 #[.agg cs.toArray, .string old, .string way] w fun e w' => RetDC h w (linkP s old way) e w' := by
  have HENT := hid hent
  clear hent
  have RS := hid rS
  have HFIT := hid hfit
  clear rS hfit
  obtain ⟨h1, E1, hb1, le1, hh1⟩ := (Ext.refl hs).boxF cs.toArray 26
  clear hh1
  go_enter Tryd.func11, Tryd.ntmps11
  go_upto_region 1 with (fail)
  generalize hgx : w.heap.size = gx at *
  with_reducible generalize w.alloc (.cells cs.toArray 26) = W2 at E1 ⊢
  clear hgx
  have E2 := hid E1
  have hb1 := hid hb1
  have le1 := hid le1
  clear E1
  obtain ⟨⟨no, code⟩, hres⟩ : ∃ r, resolveP s.inodes old false = r := ⟨_, rfl⟩
  have HR := hid hres
  have KR := hid (show Calls Tryd.prog 34 #[.agg cs.toArray, .string old, .bool false] W2 fun e w' => e = .returned (.tuple #[.int .i64 no, .int .i64 code]) ∧ Ext h1 W2 h1 w' from path_Resolve s _ old hso false _ hres h1 W2 E2.out.sits (repState.mono le1.out RS.out))
  clear hres
  go_upto_region 2 with (first | (refine wpList_load_row rfl 26 _ rfl gx rfl 26 cs.toArray (0, 0) _ (E2.out.sits _ _ hb1.out) Tryd.underlying26 rfl (info_State RS.out.len) ?_) | (go_at_call 34; refine KR.out.mono ?_; rintro e w3 ⟨rfl, F3⟩; have E3 := hid (E2.out.trans F3); clear F3))
  by_cases hc : code = 0
  · subst hc
    obtain ⟨v, hv⟩ : ∃ v, findI s.inodes no = v := ⟨_, rfl⟩
    have KF := hid (state_Find s _ no HFIT.out v hv h1 w3 E3.out.sits (repState.mono le1.out RS.out))
    have HLP := hid (show linkP s old way = linkF s v no way by unfold linkP; rw [HR.out, if_neg (by simp), hv])
    have HV := hid hv
    clear hv
    go_upto_region 5 with (first | (refine wpList_load_row rfl 26 _ rfl gx rfl 26 cs.toArray (0, 0) _ (E3.out.sits _ _ hb1.out) Tryd.underlying26 rfl (info_State RS.out.len) ?_) | (go_at_call 35; refine KF.out.mono ?_; rintro e w5 ⟨xl, h5, rfl, rx, F5⟩; have E5 := hid (E3.out.trans F5); have l5 := hid F5.le; have rx := hid rx; clear F5) | (refine wpList_store_row rfl 39 _ _ rfl w5.heap.size xl.toArray rfl rfl 39 #[.int .i64 0, .int .i64 0, .int .i64 0, .int .i64 0, .string ⟨#[]⟩, .slice none 0 0, .slice none 0 0] (heap_new w5 _) (info_Inode rx.out.len) (zi_size rx.out) (one_arr rx.out.one) ?_))
    rw [World.setRow_alloc_new]
    have BX6 := BoxU.new E5.out xl.toArray 39
    have E6 := E5.out.alloc (.cells xl.toArray 39)
    with_reducible generalize (w5.alloc (.cells xl.toArray 39)) = W6 at BX6 E6 ⊢
    have BX6 := hid BX6
    have E6 := hid E6
    generalize w5.heap.size = gi at *
    clear E5
    cases v with
    | none =>
      have HQ := hid (show linkP s old way = ([], 11) from HLP.out)
      dsimp only [Option.isSome_none] at *
      go_wp2_with fail
      go_ret2
      exact (by rw [HQ.out]; exact ⟨none, 0, h, rfl, ⟨Nat.zero_le _, fun _ => rfl, by decide⟩, RowAt.nil _ _, E6.out.back⟩)
    | some x =>
      dsimp only [Option.isSome_some, Option.getD_some] at *
      have m1 := BX6.out.cell (by rw [List.getElem?_toArray]; exact rx.out.at1)
      by_cases hk : x.kind = 2
      · have HQ := hid (show linkP s old way = ([], 14) by rw [HLP.out]; exact if_pos hk)
        have bk : (x.kind == 2) = true := by simpa using hk
        clear hk
        go_wp2_with fail
        go_ret2
        exact (by rw [HQ.out]; exact ⟨none, 0, h, rfl, ⟨Nat.zero_le _, fun _ => rfl, by decide⟩, RowAt.nil _ _, E6.out.back⟩)
      · have bk : (x.kind == 2) = false := by simpa using hk
        obtain ⟨⟨p, fc⟩, hf⟩ : ∃ r, freshS s.inodes way = r := ⟨_, rfl⟩
        have HL2 := hid (show linkP s old way = linkT s x no (p, fc) by rw [HLP.out, ← hf]; exact if_neg hk)
        have hpm : midI p.dir := by have q := (freshS_all midI_zero HENT.out way).1; rw [hf] at q; exact q
        have hxm : midI x := HENT.out x (mem_of_findI HV.out)
        have HPM := hid hpm
        have HXM := hid hxm
        have KG := hid (tree_fresh s _ way hsw HFIT.out p fc hf h5 W6 E6.out.sits (repState.mono (le1.out.trans l5.out) RS.out))
        clear hk hf hpm hxm
        go_upto_region 10 with (first | (refine wpList_load_row rfl 26 _ rfl gx rfl 26 cs.toArray (0, 0) _ (E6.out.sits _ _ (l5.out _ _ hb1.out)) Tryd.underlying26 rfl (info_State RS.out.len) ?_) | (go_at_call 22; refine KG.out.mono ?_; rintro e w7 ⟨pl, h7, rfl, rp, F7⟩; have E7 := hid (E6.out.trans F7); have BX7 := hid (BX6.out.ext F7); have l7 := hid F7.le; have rp := hid rp; clear F7 m1) | (refine wpList_store_row rfl 61 _ _ rfl w7.heap.size pl.toArray rfl rfl 61 #[.int .i64 0, .int .i64 0, .int .i64 0, .int .i64 0, .string ⟨#[]⟩, .slice none 0 0, .slice none 0 0, .string ⟨#[]⟩, .int .i64 0, .int .i64 0, .int .i64 0, .int .i64 0, .string ⟨#[]⟩, .slice none 0 0, .slice none 0 0, .bool false] (heap_new w7 _) (info_Spot rp.out.len) (zs_size rp.out) (one_arr rp.out.one) ?_))
        rw [World.setRow_alloc_new]
        have BP8 := BoxU.new E7.out pl.toArray 61
        have E8 := E7.out.alloc (.cells pl.toArray 61)
        have BX8 := BX7.out.alloc (.cells pl.toArray 61)
        have hne8 := hid (Nat.ne_of_lt BX7.out.lt)
        with_reducible generalize (w7.alloc (.cells pl.toArray 61)) = W8 at BP8 E8 BX8 ⊢
        have BP8 := hid BP8
        have E8 := hid E8
        have BX8 := hid BX8
        generalize w7.heap.size = gp at *
        clear E7 BX7
        by_cases hfc : fc = 0
        · subst hfc
          have m2 := BX8.out.cell (by rw [List.getElem?_toArray]; exact rx.out.at2)
          by_cases hl : 100 ≤ x.links
          · have HQ := hid (show linkP s old way = ([], 18) by rw [HL2.out]; unfold linkT; rw [if_neg (by simp), if_pos hl])
            go_wp2_with fail
            go_ret2
            exact (by rw [HQ.out]; exact ⟨none, 0, h, rfl, ⟨Nat.zero_le _, fun _ => rfl, by decide⟩, RowAt.nil _ _, E8.out.back⟩)
          · have HL3 := hid (show linkP s old way = if addC p.dir.entries ⟨p.name, no⟩ ≠ 0 then ([], addC p.dir.entries ⟨p.name, no⟩) else ([putD { p.dir with entries := addL p.dir.entries ⟨p.name, no⟩ }, putD { x with links := x.links + 1 }], 0) by rw [HL2.out]; unfold linkT; rw [if_neg (by simp), if_neg hl])
            obtain ⟨dl, rd, hdl⟩ := rp.out.dir
            obtain ⟨A5, c5, at5, k5, row5⟩ := rd.at5
            have hnz := rp.out.nm.2
            obtain ⟨ac, hac⟩ : ∃ ac, addC p.dir.entries ⟨p.name, no⟩ = ac := ⟨_, rfl⟩
            obtain ⟨al, hal⟩ : ∃ al, addL p.dir.entries ⟨p.name, no⟩ = al := ⟨_, rfl⟩
            have KA := entries_Add p.dir.entries A5 c5 HPM.out.1 ⟨p.name, no⟩ hnz h7 W8 E8.out.sits row5
            rw [hac, hal] at KA HL3
            have KA := hid KA
            have hall : al.length ≤ 1001 := by
              rw [← hal]; unfold addL; split
              · unfold insE; have := HPM.out.1; simp; omega
              · simp
            have m5 := BP8.out.cell (hdl 5 _ at5)
            have m7 := BP8.out.cell (rp.out.nm.1)
            clear hac hal hnz k5 row5
            go_upto_region 15 with (go_at_call 23; refine KA.out.mono ?_; rintro e w9 R; obtain ⟨A9, c9, h9, rfl, r9, F9, u0, u1, u2⟩ := R.stayX (by omega); have E9 := hid (E8.out.trans F9); have BP9 := hid (BP8.out.ext F9); have BX9 := hid (BX8.out.ext F9); have l9 := hid F9.le; have k9 := hid (show CapLe A9 al.length c9 from ⟨u1, u0, u2⟩); have r9 := hid r9; clear F9 u0 u1 u2 R m5 m7 m2; have m5 := BP9.out.cell (hdl 5 _ at5); have f5 := BP9.out.open_ 5)
            have BP10 := hid (BP9.out.set1 5 (.slice A9 al.length c9))
            have BX10 := hid (BX9.out.other1 hne8.out 5 (.slice A9 al.length c9))
            have E10 := hid (BP9.out.wr1 E9.out 5 (.slice A9 al.length c9))
            have RP10 := hid ((rp.out.mono l9.out).setEnt k9.out r9.out)
            with_reducible generalize w9.setCell ⟨gp, 5, none⟩ (.slice A9 al.length c9) = w10 at BP10 BX10 E10 ⊢
            clear m5 f5 at5 BP9 E9 BX9
            by_cases hac : ac = 0
            · subst hac
              have HL4 := hid (show linkP s old way = ([putD { p.dir with entries := al }, putD { x with links := x.links + 1 }], 0) by rw [HL3.out, if_neg (by simp)])
              have m2 := BX10.out.cell (by rw [List.getElem?_toArray]; exact rx.out.at2)
              have f2 := BX10.out.open_ 2
              have hwr : IntKind.i64.wrap (x.links + 1) = x.links + 1 := by have := HXM.out.2.1; rw [IntKind.wrap_i64]; omega
              go_upto_region 18 with (fail)
              have BX11 := BX10.out.set1 2 (.int .i64 (x.links + 1))
              have BP11 := BP10.out.other1 (fun e => hne8.out e.symm) 2 (.int .i64 (x.links + 1))
              have E11 := BX10.out.wr1 E10.out 2 (.int .i64 (x.links + 1))
              with_reducible generalize w10.setCell ⟨gi, 2, none⟩ (.int .i64 (x.links + 1)) = w11 at BX11 BP11 E11 ⊢
              obtain ⟨h12, E12, hb12, l12, k12⟩ := BP11.freeze E11
              obtain ⟨h13, E13, hb13, l13, -⟩ := (BX11.keep k12 hne8.out).freeze E12
              have hb13p := l13 _ _ hb12
              obtain ⟨dm, rdm, hd12⟩ := (RP10.out.mono (l12.trans l13)).dir
              obtain ⟨A9', c9', A6, c6, rfl, sz5, k9', r9', k6, row6⟩ := rdm
              have e5 : (Value.slice A9' al.length c9') = .slice A9 al.length c9 := by
                have q := hd12 5 _ rfl
                have q2 : (pl.set 5 (.slice A9 al.length c9)).toArray[5]? = some (.slice A9 al.length c9) := by
                  have hl := rp.out.len
                  simp [hl]
                rw [q2] at q; exact (Option.some.inj q).symm
              injection e5 with ea eb ec
              subst ea; subst ec
              obtain ⟨B5, d5, B6, d6, hxs, sx5, kx5, rwx5, kx6, rwx6⟩ := ((rx.out.mono (l7.out.trans (l9.out.trans (l12.trans l13)))).setLinks (x.links + 1))
              have hc0 : ∀ w' : World, Ext h w h13 w' → w'.cell? ⟨gp, 0, none⟩ = some (.int .i64 p.dir.no) := fun w' E => Sits_at E.sits hb13p (hd12 0 _ rfl)
              have hc1 : ∀ w' : World, Ext h w h13 w' → w'.cell? ⟨gp, 1, none⟩ = some (.int .i64 p.dir.kind) := fun w' E => Sits_at E.sits hb13p (hd12 1 _ rfl)
              have hc2 : ∀ w' : World, Ext h w h13 w' → w'.cell? ⟨gp, 2, none⟩ = some (.int .i64 p.dir.links) := fun w' E => Sits_at E.sits hb13p (hd12 2 _ rfl)
              have hc3 : ∀ w' : World, Ext h w h13 w' → w'.cell? ⟨gp, 3, none⟩ = some (.int .i64 p.dir.size) := fun w' E => Sits_at E.sits hb13p (hd12 3 _ rfl)
              have hc4 : ∀ w' : World, Ext h w h13 w' → w'.cell? ⟨gp, 4, none⟩ = some (.string p.dir.target) := fun w' E => Sits_at E.sits hb13p (hd12 4 _ rfl)
              have hc5 : ∀ w' : World, Ext h w h13 w' → w'.cell? ⟨gp, 5, none⟩ = some (.slice A9' al.length c9') := fun w' E => Sits_at E.sits hb13p (hd12 5 _ rfl)
              have hc6 : ∀ w' : World, Ext h w h13 w' → w'.cell? ⟨gp, 6, none⟩ = some (.slice A6 p.dir.runs.length c6) := fun w' E => Sits_at E.sits hb13p (hd12 6 _ rfl)
              have hx0 : ∀ w' : World, Ext h w h13 w' → w'.cell? ⟨gi, 0, none⟩ = some (.int .i64 x.no) := fun w' E => Sits_at E.sits hb13 (by rw [hxs]; rfl)
              have hx1 : ∀ w' : World, Ext h w h13 w' → w'.cell? ⟨gi, 1, none⟩ = some (.int .i64 x.kind) := fun w' E => Sits_at E.sits hb13 (by rw [hxs]; rfl)
              have hx2 : ∀ w' : World, Ext h w h13 w' → w'.cell? ⟨gi, 2, none⟩ = some (.int .i64 (x.links + 1)) := fun w' E => Sits_at E.sits hb13 (by rw [hxs]; rfl)
              have hx3 : ∀ w' : World, Ext h w h13 w' → w'.cell? ⟨gi, 3, none⟩ = some (.int .i64 x.size) := fun w' E => Sits_at E.sits hb13 (by rw [hxs]; rfl)
              have hx4 : ∀ w' : World, Ext h w h13 w' → w'.cell? ⟨gi, 4, none⟩ = some (.string x.target) := fun w' E => Sits_at E.sits hb13 (by rw [hxs]; rfl)
              have hx5 : ∀ w' : World, Ext h w h13 w' → w'.cell? ⟨gi, 5, none⟩ = some (.slice B5 x.entries.length d5) := fun w' E => Sits_at E.sits hb13 (by rw [hxs]; rfl)
              have hx6 : ∀ w' : World, Ext h w h13 w' → w'.cell? ⟨gi, 6, none⟩ = some (.slice B6 x.runs.length d6) := fun w' E => Sits_at E.sits hb13 (by rw [hxs]; rfl)
              have KPa := hid (fun (w' : World) (hs' : Sits h13 w') => (tree_put ⟨p.dir.no, p.dir.kind, p.dir.links, p.dir.size, p.dir.target, al, p.dir.runs⟩ A9' c9' A6 c6 h13 w' hs' : Calls Tryd.prog 24 #[.agg #[.int .i64 p.dir.no, .int .i64 p.dir.kind, .int .i64 p.dir.links, .int .i64 p.dir.size, .string p.dir.target, .slice A9' al.length c9', .slice A6 p.dir.runs.length c6]] w' fun e w2 => e = .returned (.agg #[.int .i64 2, .int .i64 0, .int .i64 p.dir.no, .int .i64 p.dir.kind, .int .i64 p.dir.links, .int .i64 p.dir.size, .string p.dir.target, .slice A9' al.length c9', .slice A6 p.dir.runs.length c6]) ∧ Ext h13 w' h13 w2))
              have KPb := hid (fun (w' : World) (hs' : Sits h13 w') => (tree_put ⟨x.no, x.kind, x.links + 1, x.size, x.target, x.entries, x.runs⟩ B5 d5 B6 d6 h13 w' hs' : Calls Tryd.prog 24 #[.agg #[.int .i64 x.no, .int .i64 x.kind, .int .i64 (x.links + 1), .int .i64 x.size, .string x.target, .slice B5 x.entries.length d5, .slice B6 x.runs.length d6]] w' fun e w2 => e = .returned (.agg #[.int .i64 2, .int .i64 0, .int .i64 x.no, .int .i64 x.kind, .int .i64 (x.links + 1), .int .i64 x.size, .string x.target, .slice B5 x.entries.length d5, .slice B6 x.runs.length d6]) ∧ Ext h13 w' h13 w2))
              have E14 := E13.drew
              have LALL := hid (le1.out.trans (l5.out.trans (l7.out.trans (l9.out.trans (l12.trans l13)))))
              have H1 := hid sz5
              have H2 := hid k9'
              have H3 := hid r9'
              have H4 := hid k6
              have H5 := hid row6
              have H6 := hid sx5
              have H7 := hid kx5
              have H8 := hid rwx5
              have H9 := hid kx6
              have H10 := hid rwx6
              clear hd12 hxs sz5 k9' r9' k6 row6 sx5 kx5 rwx5 kx6 rwx6 BX11 BP11 E11 BX10 BP10 E10 m2 f2 E12 hb12 l12 k12 hb13 hb13p l13
              go_region_held3 (fun w' => Ext h w h13 w') (first | with_reducible assumption | with_reducible exact Eg | with_reducible exact Ext.alloc Eg _) (first | (go_at_call 24; with_reducible refine (KPa.out _ (Ext.sits (h := h) (h' := h13) (w := w) (by with_reducible assumption))).mono ?_; rintro e wf ⟨rfl, Ef⟩; have Eg := Ext.trans (h := h) (w := w) (h1 := h13) (by with_reducible assumption) Ef; clear Ef) | (go_at_call 24; with_reducible refine (KPb.out _ (Ext.sits (h := h) (h' := h13) (w := w) (by with_reducible assumption))).mono ?_; rintro e wf ⟨rfl, Ef⟩; have Eg := Ext.trans (h := h) (w := w) (h1 := h13) (by with_reducible assumption) Ef; clear Ef))
              all_goals
                go_wp2_with fail
                obtain ⟨h15, E15, hb15, le15, hh15⟩ := Eg.boxF #[.int .i64 2, .int .i64 0, .int .i64 p.dir.no, .int .i64 p.dir.kind, .int .i64 p.dir.links, .int .i64 p.dir.size, .string p.dir.target, .slice A9' al.length c9', .slice A6 p.dir.runs.length c6, .int .i64 2, .int .i64 0, .int .i64 x.no, .int .i64 x.kind, .int .i64 (x.links + 1), .int .i64 x.size, .string x.target, .slice B5 x.entries.length d5, .slice B6 x.runs.length d6] 69
                go_ret2
                rw [HL4.out]
                exact ⟨some ⟨wf.heap.size, 0, none⟩, 2, h15, rfl, ⟨Nat.le_refl _, (fun e => by cases e), by decide⟩, RowAt.of_block hb15 ⟨[.int .i64 2, .int .i64 0, .int .i64 p.dir.no, .int .i64 p.dir.kind, .int .i64 p.dir.links, .int .i64 p.dir.size, .string p.dir.target, .slice A9' al.length c9', .slice A6 p.dir.runs.length c6], _, rfl, ⟨A9', c9', A6, c6, rfl, H1.out, H2.out, H3.out.mono le15, H4.out, H5.out.mono le15⟩, [.int .i64 2, .int .i64 0, .int .i64 x.no, .int .i64 x.kind, .int .i64 (x.links + 1), .int .i64 x.size, .string x.target, .slice B5 x.entries.length d5, .slice B6 x.runs.length d6], [], rfl, ⟨B5, d5, B6, d6, rfl, H6.out, H7.out, H8.out.mono le15, H9.out, H10.out.mono le15⟩, rfl⟩ (by show 2 ≤ 9223372036854775807; decide), E15⟩
            · have hb : (ac == 0) = false := by simpa using hac
              have hb2 : (ac != 0) = true := by simpa using hac
              have HQ := hid (show linkP s old way = ([], ac) by rw [HL3.out, if_pos hac])
              clear hac
              go_wp2_with fail
              go_ret2
              exact (by rw [HQ.out]; exact ⟨none, 0, h, rfl, ⟨Nat.zero_le _, fun _ => rfl, by decide⟩, RowAt.nil _ _, E10.out.back⟩)
        · have hb : (fc == 0) = false := by simpa using hfc
          have hb2 : (fc != 0) = true := by simpa using hfc
          have HQ := hid (show linkP s old way = ([], fc) by rw [HL2.out]; unfold linkT; rw [if_pos hfc])
          clear hfc
          go_wp2_with fail
          go_ret2
          exact (by rw [HQ.out]; exact ⟨none, 0, h, rfl, ⟨Nat.zero_le _, fun _ => rfl, by decide⟩, RowAt.nil _ _, E8.out.back⟩)
  · have hb : (code == 0) = false := by simpa using hc
    have hb2 : (code != 0) = true := by simpa using hc
    have HQ := hid (show linkP s old way = ([], code) by unfold linkP; rw [HR.out, if_pos hc])
    clear hc
    go_wp2_with fail
    go_ret2
    exact (by rw [HQ.out]; exact ⟨none, 0, h, rfl, ⟨Nat.zero_le _, fun _ => rfl, by decide⟩, RowAt.nil _ _, E3.out.back⟩)
end Go.Proofs.YtmljcjjhakhjaaaDoor
