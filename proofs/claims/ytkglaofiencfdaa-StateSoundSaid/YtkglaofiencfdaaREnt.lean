import Derived.Test.YtkglaofiencfdaaTrAll
namespace Go.Proofs.Ytkglaofiencfdaa
open Go.RowKit Go.Sort
set_option linter.unusedVariables false
theorem sits_rangeG {h : FH} {w : World} (hs : Sits h w) {g : Nat} {cs : Array Value} {T : TypeId} {fr : Nat × Nat} (hb : h g = some (.cells cs T fr)) {o : Nat} {vs : List Value} (hv : ∀ (j : Nat) (v : Value), vs[j]? = some v → cs[o + j]? = some v) : w.rangeAt g o vs := fun j v hj => by
  rw [cell_of_row _ _ _ _ _ _ (hs _ _ hb)]; exact hv j v hj
theorem sits_cellG {h : FH} {w : World} (hs : Sits h w) {g j : Nat} {cs : Array Value} {T : TypeId} {fr : Nat × Nat} (hb : h g = some (.cells cs T fr)) {v : Value} (hv : cs[j]? = some v) : w.cell? ⟨g, j, none⟩ = some v := by
  rw [cell_of_row _ _ _ _ _ _ (hs _ _ hb)]; exact hv
theorem sits_cellL {h : FH} {w : World} (hs : Sits h w) {g j : Nat} {cs : List Value} {T : TypeId} {fr : Nat × Nat} (hb : h g = some (.cells cs.toArray T fr)) {v : Value} (hv : cs[j]? = some v) : w.cell? ⟨g, j, none⟩ = some v := sits_cellG hs hb (by rw [List.getElem?_toArray]; exact hv)
theorem results_ctct {P : Program} {fn : Func} {p q r s : Tmp} {ty : TypeId} (h : fn.results = #[.cell p ty, .tmp q, .cell r ty, .tmp s]) (tmps : Array Value) (w : World) (g g2 : Nat) (t : TypeId) (cs ds : Array Value) (fr fr2 : Nat × Nat) (d : TypeDesc) (v u : Value)
    (hp : tmps.getD p undef = .pointer (some ⟨g, 0, none⟩)) (hr : tmps.getD r undef = .pointer (some ⟨g2, 0, none⟩)) (hq : tmps.getD q undef = v) (hs : tmps.getD s undef = u) (hg : w.heap[g]? = some (.cells cs t fr)) (hg2 : w.heap[g2]? = some (.cells ds t fr2))
    (hu : P.underlying ty = some d) (hd : (match d with | .struct _ | .array _ _ => true | _ => false) = true) (hi : (P.info? ty).map (·.size) = some cs.size) (hi2 : (P.info? ty).map (·.size) = some ds.size) :
    (results fn tmps).run P w = .ok (.tuple #[.agg cs, v, .agg ds, u]) w := by
  have hp' : tmps[p]?.getD undef = .pointer (some ⟨g, 0, none⟩) := by simpa using hp
  have hr' : tmps[r]?.getD undef = .pointer (some ⟨g2, 0, none⟩) := by simpa using hr
  have hq' : tmps[q]?.getD undef = v := by simpa using hq
  have hs' : tmps[s]?.getD undef = u := by simpa using hs
  simp [results, h, hp', hq', hr', hs', asAddr, run_loadVar_row w g t ty cs fr d hg hu hd hi, run_loadVar_row w g2 t ty ds fr2 d hg2 hu hd hi2]
/-- The directory, the name, the inode that it leads to, and why not. -/
def RetEnt (h : FH) (w : World) (p : Spot) (code : Int) (e : Ending) (w' : World) : Prop := ∃ dl xl h1, e = .returned (.tuple #[.agg dl.toArray, .string p.name, .agg xl.toArray, .int .i64 code]) ∧ repInode h1 dl p.dir ∧ repInode h1 xl p.x ∧ p.name.size ≤ 9223372036854775807 ∧ Ext h w h1 w'
theorem zi_sizeR {h : FH} {cs : List Value} {x : Inode} (r : repInode h cs x) : (#[.int .i64 0, .int .i64 0, .int .i64 0, .int .i64 0, .string ⟨#[]⟩, .slice none 0 0, .slice none 0 0] : Array Value).size = cs.toArray.size := by refine Eq.trans (b := 7) rfl ?_; rw [List.size_toArray, r.len]
theorem zi_oneR : (#[.int .i64 0, .int .i64 0, .int .i64 0, .int .i64 0, .string ⟨#[]⟩, .slice none 0 0, .slice none 0 0] : Array Value).all (·.oneCell') = true := one_arr (cs := zeroL) (zeroL_rep (fun _ => none)).one
theorem zi_infoR : (Try.prog.info? 37).map (·.size) = some (#[.int .i64 0, .int .i64 0, .int .i64 0, .int .i64 0, .string ⟨#[]⟩, .slice none 0 0, .slice none 0 0] : Array Value).size := by kernel_rfl
theorem thereS_err {xs : List Inode} {path : ByteArray} {no : Int} {name : ByteArray} {c : Int} (hp : parentP xs path = (no, name, c)) (hc : c ≠ 0) : thereS xs path = (zeroSpot, c) := by
  unfold thereS findS
  rw [hp]
  simp only [ne_eq, hc, not_false_eq_true, if_true, false_and, if_false]
theorem thereS_in {xs : List Inode} {path : ByteArray} {no : Int} {name : ByteArray} (hp : parentP xs path = (no, name, 0)) : thereS xs path = if (atS xs no name).is = false then (atS xs no name, 11) else (atS xs no name, 0) := by
  unfold thereS findS
  rw [hp]
  simp only [ne_eq, not_true_eq_false, if_false, true_and]
theorem atS_miss {xs : List Inode} {no : Int} {name : ByteArray} {d : Inode} (hd : (findI xs no).getD zeroI = d) {v : Option Int} (hv : findE d.entries name = v) (h : v = none ∨ ∃ t, v = some t ∧ findI xs t = none) : atS xs no name = ⟨d, name, zeroI, false⟩ := by
  unfold atS
  rw [hd, hv]
  rcases h with rfl | ⟨t, rfl, ht⟩
  · rfl
  · simp only [ht]; rfl
theorem atS_hit {xs : List Inode} {no t : Int} {name : ByteArray} {d x : Inode} (hd : (findI xs no).getD zeroI = d) (hv : findE d.entries name = some t) (hx : findI xs t = some x) : atS xs no name = ⟨d, name, x, true⟩ := by
  unfold atS
  rw [hd, hv]
  simp only [hx]; rfl

set_option maxHeartbeats 16000000 in
set_option maxRecDepth 100000 in
theorem ref_entry (s : State) (cs : List Value) (path : ByteArray) (hsz : path.size ≤ 9223372036854775807) (p : Spot) (code : Int) (hp : thereS s.inodes path = (p, code)) (h : FH) (w : World) (hs : Sits h w) (rS : repState h cs s) :
    Calls Try.prog 92 #[.agg cs.toArray, .string path] w fun e w' => RetEnt h w p code e w' := by
  have RS := hid rS
  obtain ⟨h1, E1, hb1, le1, hh1⟩ := (Ext.refl hs).boxF cs.toArray 31
  have BD := (BoxU.new E1 #[.int .i64 0, .int .i64 0, .int .i64 0, .int .i64 0, .string ⟨#[]⟩, .slice none 0 0, .slice none 0 0] 37).alloc (.cells #[.int .i64 0, .int .i64 0, .int .i64 0, .int .i64 0, .string ⟨#[]⟩, .slice none 0 0, .slice none 0 0] 37)
  have BX := BoxU.new (E1.alloc (.cells #[.int .i64 0, .int .i64 0, .int .i64 0, .int .i64 0, .string ⟨#[]⟩, .slice none 0 0, .slice none 0 0] 37)) #[.int .i64 0, .int .i64 0, .int .i64 0, .int .i64 0, .string ⟨#[]⟩, .slice none 0 0, .slice none 0 0] 37
  have E2 := (E1.alloc (.cells #[.int .i64 0, .int .i64 0, .int .i64 0, .int .i64 0, .string ⟨#[]⟩, .slice none 0 0, .slice none 0 0] 37)).alloc (.cells #[.int .i64 0, .int .i64 0, .int .i64 0, .int .i64 0, .string ⟨#[]⟩, .slice none 0 0, .slice none 0 0] 37)
  have hsz1 : (w.alloc (.cells cs.toArray 31)).heap.size = w.heap.size + 1 := by simp
  have hsz2 : ((w.alloc (.cells cs.toArray 31)).alloc (.cells #[.int .i64 0, .int .i64 0, .int .i64 0, .int .i64 0, .string ⟨#[]⟩, .slice none 0 0, .slice none 0 0] 37)).heap.size = w.heap.size + 1 + 1 := by simp
  rw [hsz1] at BD
  rw [hsz2] at BX
  clear hh1 E1 rS
  obtain ⟨par, hpar⟩ : ∃ par, parentP s.inodes path = par := ⟨_, rfl⟩
  obtain ⟨no, name, code1⟩ := par
  have HPAR := hid hpar
  have HP := hid hp
  clear hpar hp
  go_enter Try.func92, Try.ntmps92
  go_upto_region 1 with (fail)
  obtain ⟨gx, hgx⟩ : ∃ g, g = w.heap.size := ⟨_, rfl⟩
  obtain ⟨gD, hgD⟩ : ∃ g, g = w.heap.size + 1 := ⟨_, rfl⟩
  obtain ⟨gX, hgX⟩ : ∃ g, g = w.heap.size + 1 + 1 := ⟨_, rfl⟩
  have hDX : gD ≠ gX := by omega
  have hXD : gX ≠ gD := by omega
  rw [← hgx] at hb1
  rw [← hgD] at BD
  rw [← hgX] at BX
  rw [← hgX, ← hgD, ← hgx]
  with_reducible generalize ((w.alloc (.cells cs.toArray 31)).alloc (.cells #[.int .i64 0, .int .i64 0, .int .i64 0, .int .i64 0, .string ⟨#[]⟩, .slice none 0 0, .slice none 0 0] 37)).alloc (.cells #[.int .i64 0, .int .i64 0, .int .i64 0, .int .i64 0, .string ⟨#[]⟩, .slice none 0 0, .slice none 0 0] 37) = W2 at E2 BD BX ⊢
  clear hgx hgD hgX hsz1 hsz2
  have E2 := hid E2
  have BD := hid BD
  have BX := hid BX
  have hb1 := hid hb1
  have le1 := hid le1
  have KP := hid (show Calls Try.prog 88 #[.agg cs.toArray, .string path] W2 fun e w' => e = .returned (.tuple #[.int .i64 no, .string name, .int .i64 code1]) ∧ Ext h1 W2 h1 w' ∧ name.size ≤ 9223372036854775807 from ref_Parent s _ path hsz _ HPAR.out h1 W2 E2.out.sits (repState.mono le1.out RS.out))
  go_upto_region 2 with (first | (refine wpList_load_row rfl 31 _ rfl gx rfl 31 cs.toArray (0, 0) _ (E2.out.sits _ _ hb1.out) Try.underlying31 rfl (info_State RS.out.len) ?_) | (go_at_call 88; refine KP.out.mono ?_; rintro e w3 ⟨rfl, F3, hnz⟩; have E3 := hid (E2.out.trans F3); have BD3 := hid (BD.out.ext F3); have BX3 := hid (BX.out.ext F3); have HNZ := hid hnz; clear F3 hnz))
  by_cases hc : code1 = 0
  · subst hc
    have HPI := hid ((thereS_in HPAR.out).symm.trans HP.out)
    obtain ⟨v1, hv1⟩ : ∃ v, findI s.inodes no = v := ⟨_, rfl⟩
    obtain ⟨d, hd⟩ : ∃ d, v1.getD zeroI = d := ⟨_, rfl⟩
    have KF := hid (ref_FindInode s _ no v1 hv1 h1 w3 E3.out.sits (repState.mono le1.out RS.out))
    have HD1 := hid (show (findI s.inodes no).getD zeroI = d by rw [hv1]; exact hd)
    have HD := hid hd
    clear hv1 hd
    go_upto_region 5 with (first | (refine wpList_load_row rfl 31 _ rfl gx rfl 31 cs.toArray (0, 0) _ (E3.out.sits _ _ hb1.out) Try.underlying31 rfl (info_State RS.out.len) ?_) | (go_at_call 14; refine KF.out.mono ?_; rintro e w5 ⟨dl, h5, rfl, rd, F5⟩; rw [HD.out] at rd; have E5 := hid (E3.out.trans F5); have BD5 := hid (BD3.out.ext F5); have BX5 := hid (BX3.out.ext F5); have l5 := hid F5.le; have rd := hid rd; clear F5) | (refine wpList_store_row rfl 37 _ _ rfl w5.heap.size dl.toArray rfl rfl 37 #[.int .i64 0, .int .i64 0, .int .i64 0, .int .i64 0, .string ⟨#[]⟩, .slice none 0 0, .slice none 0 0] (heap_new w5 _) (info_Inode rd.out.len) (zi_sizeR rd.out) (one_arr rd.out.one) ?_))
    rw [World.setRow_alloc_new]
    have BY6 := BoxU.new E5.out dl.toArray 37
    have E6 := E5.out.alloc (.cells dl.toArray 37)
    have BD6 := BD5.out.alloc (.cells dl.toArray 37)
    have neD := hid (Nat.ne_of_lt BD5.out.lt)
    have BX6 := BX5.out.alloc (.cells dl.toArray 37)
    have neX := hid (Nat.ne_of_lt BX5.out.lt)
    with_reducible generalize (w5.alloc (.cells dl.toArray 37)) = W6 at BY6 E6 BD6 BX6 ⊢
    have BY6 := hid BY6
    have E6 := hid E6
    have BD6 := hid BD6
    have BX6 := hid BX6
    generalize w5.heap.size = gy at *
    clear E3 E5 BD3 BX3 BD5 BX5 KF KP
    obtain ⟨A5, c5, at5, k5, row5⟩ := rd.out.at5
    obtain ⟨v2, hv2⟩ : ∃ v, findE d.entries name = v := ⟨_, rfl⟩
    have KE := hid (ref_Find d.entries A5 c5 name HNZ.out v2 hv2 h5 W6 E6.out.sits row5)
    have m5 := BY6.out.cell (by rw [List.getElem?_toArray]; exact at5)
    have HV2 := hid hv2
    clear k5 row5 at5 hv2
    go_upto_region 6 with (go_at_call 89; refine KE.out.mono ?_; rintro e w7 ⟨rfl, F7⟩; have E7 := hid (E6.out.trans F7); have BD7 := hid (BD6.out.ext F7); have BX7 := hid (BX6.out.ext F7); have BY7 := hid (BY6.out.ext F7); clear F7 m5)
    clear E6 BD6 BX6 BY6 KE
    obtain ⟨v3, hv3⟩ : ∃ v, findI s.inodes (v2.getD 0) = v := ⟨_, rfl⟩
    obtain ⟨x, hx⟩ : ∃ x, v3.getD zeroI = x := ⟨_, rfl⟩
    have KF := hid (ref_FindInode s _ (v2.getD 0) v3 hv3 h5 w7 E7.out.sits (repState.mono (le1.out.trans l5.out) RS.out))
    have HV3 := hid hv3
    have HX := hid hx
    clear hv3 hx
    go_upto_region 7 with (first | (refine wpList_load_row rfl 31 _ rfl gx rfl 31 cs.toArray (0, 0) _ (E7.out.sits _ _ (l5.out _ _ hb1.out)) Try.underlying31 rfl (info_State RS.out.len) ?_) | (go_at_call 14; refine KF.out.mono ?_; rintro e w8 ⟨xl, h8, rfl, rx, F8⟩; rw [HX.out] at rx; have E8 := hid (E7.out.trans F8); have BD8 := hid (BD7.out.ext F8); have BX8 := hid (BX7.out.ext F8); have BY8 := hid (BY7.out.ext F8); have l8 := hid F8.le; have rx := hid rx; clear F8) | (refine wpList_store_row rfl 37 _ _ rfl w8.heap.size xl.toArray rfl rfl 37 #[.int .i64 0, .int .i64 0, .int .i64 0, .int .i64 0, .string ⟨#[]⟩, .slice none 0 0, .slice none 0 0] (heap_new w8 _) (info_Inode rx.out.len) (zi_sizeR rx.out) (one_arr rx.out.one) ?_))
    rw [World.setRow_alloc_new]
    have BZ9 := BoxU.new E8.out xl.toArray 37
    have E9 := E8.out.alloc (.cells xl.toArray 37)
    have BD9 := BD8.out.alloc (.cells xl.toArray 37)
    have neDz := hid (Nat.ne_of_lt BD8.out.lt)
    have BX9 := BX8.out.alloc (.cells xl.toArray 37)
    have neXz := hid (Nat.ne_of_lt BX8.out.lt)
    have BY9 := BY8.out.alloc (.cells xl.toArray 37)
    have neYz := hid (Nat.ne_of_lt BY8.out.lt)
    with_reducible generalize (w8.alloc (.cells xl.toArray 37)) = W9 at BZ9 E9 BD9 BX9 BY9 ⊢
    have BZ9 := hid BZ9
    have E9 := hid E9
    have BD9 := hid BD9
    have BX9 := hid BX9
    have BY9 := hid BY9
    generalize w8.heap.size = gz at *
    clear E7 E8 BD7 BX7 BY7 BD8 BX8 BY8 KF
    have rd8 := hid (rd.out.mono l8.out)
    have hmiss : (v2 = none ∨ ∃ t, v2 = some t ∧ findI s.inodes t = none) ∨ ∃ t x, v2 = some t ∧ v3 = some x := by
      cases v2 with
      | none => exact .inl (.inl rfl)
      | some t =>
        cases v3 with
        | none => exact .inl (.inr ⟨t, rfl, HV3.out⟩)
        | some x => exact .inr ⟨t, x, rfl, rfl⟩
    rcases hmiss with hmiss | ⟨t, x', rfl, rfl⟩
    · have HQ := hid (show p = ⟨d, name, zeroI, false⟩ ∧ code = 11 by
        have q := HPI.out
        rw [atS_miss HD1.out HV2.out hmiss, if_pos rfl] at q
        exact ⟨(congrArg Prod.fst q).symm, (congrArg Prod.snd q).symm⟩)
      have hb : v2.isSome = false ∨ (v2.isSome = true ∧ v3.isSome = false) := by
        rcases hmiss with rfl | ⟨t, rfl, ht⟩
        · exact .inl rfl
        · exact .inr ⟨rfl, by have q := HV3.out; have q2 : findI s.inodes t = v3 := q; rw [ht] at q2; rw [← q2]; rfl⟩
      have BDz := (BD9.out.setRow dl.toArray).rowOther hDX #[.int .i64 0, .int .i64 0, .int .i64 0, .int .i64 0, .string ⟨#[]⟩, .slice none 0 0, .slice none 0 0]
      have BXy := (BX9.out.rowOther hXD dl.toArray).setRow #[.int .i64 0, .int .i64 0, .int .i64 0, .int .i64 0, .string ⟨#[]⟩, .slice none 0 0, .slice none 0 0]
      have Ez := (BX9.out.rowOther hXD dl.toArray).wrRow (BD9.out.wrRow E9.out dl.toArray) #[.int .i64 0, .int .i64 0, .int .i64 0, .int .i64 0, .string ⟨#[]⟩, .slice none 0 0, .slice none 0 0]
      have BDz := hid BDz
      have BXy := hid BXy
      have Ez := hid Ez
      clear hmiss
      rcases hb with hb | ⟨hb, hb2⟩
      all_goals
        go_wp2_with (first | (refine wpList_load_row rfl 37 _ rfl gy rfl 37 dl.toArray (0, 0) _ BY9.out.row Try.underlying37 rfl (info_Inode rd.out.len) ?_) | (refine wpList_store_row rfl 37 _ _ rfl gD dl.toArray rfl rfl 37 #[.int .i64 0, .int .i64 0, .int .i64 0, .int .i64 0, .string ⟨#[]⟩, .slice none 0 0, .slice none 0 0] BD9.out.row (info_Inode rd.out.len) (zi_sizeR rd.out) (one_arr rd.out.one) ?_) | (refine wpList_store_row rfl 37 _ _ rfl gX #[.int .i64 0, .int .i64 0, .int .i64 0, .int .i64 0, .string ⟨#[]⟩, .slice none 0 0, .slice none 0 0] rfl rfl 37 #[.int .i64 0, .int .i64 0, .int .i64 0, .int .i64 0, .string ⟨#[]⟩, .slice none 0 0, .slice none 0 0] (BX9.out.rowOther hXD dl.toArray).row zi_infoR rfl zi_oneR ?_))
        have BDz := BDz.out
        have BXy := BXy.out
        refine bodyPost_ret (v := .tuple #[.agg dl.toArray, .string name, .agg #[.int .i64 0, .int .i64 0, .int .i64 0, .int .i64 0, .string ⟨#[]⟩, .slice none 0 0, .slice none 0 0], .int .i64 11]) (results_ctct (p := 4) (q := 5) (r := 6) (s := 7) (ty := 37) (by kernel_rfl) _ _ gD gX 37 dl.toArray #[.int .i64 0, .int .i64 0, .int .i64 0, .int .i64 0, .string ⟨#[]⟩, .slice none 0 0, .slice none 0 0] (0, 0) (0, 0) _ _ _ (by simp) (by simp) (by simp) (by simp) BDz.row BXy.row Try.underlying37 rfl (info_Inode rd.out.len) (by kernel_rfl)) rfl ?_
        rw [HQ.out.1, HQ.out.2]
        exact ⟨dl, [.int .i64 0, .int .i64 0, .int .i64 0, .int .i64 0, .string ⟨#[]⟩, .slice none 0 0, .slice none 0 0], h8, rfl, rd8.out, zeroI_rep _, HNZ.out, Ez.out⟩
    · have hx2 : x = x' := (show x' = x from HX.out).symm
      subst hx2
      have HQ := hid (show p = ⟨d, name, x, true⟩ ∧ code = 0 by
        have q := HPI.out
        rw [atS_hit HD1.out HV2.out HV3.out, if_neg (by simp)] at q
        exact ⟨(congrArg Prod.fst q).symm, (congrArg Prod.snd q).symm⟩)
      obtain ⟨A5, c5, A6, c6, rfl, -⟩ := id rd8.out
      obtain ⟨B5, d5, B6, d6, rfl, -⟩ := id rx.out
      have rx8 := rx
      have x0 := BY9.out.cell (j := 0) (v := .int .i64 d.no) rfl
      have x1 := BY9.out.cell (j := 1) (v := .int .i64 d.kind) rfl
      have x2 := BY9.out.cell (j := 2) (v := .int .i64 d.links) rfl
      have x3 := BY9.out.cell (j := 3) (v := .int .i64 d.size) rfl
      have x4 := BY9.out.cell (j := 4) (v := .string d.target) rfl
      have x5 := BY9.out.cell (j := 5) (v := .slice A5 d.entries.length c5) rfl
      have x6 := BY9.out.cell (j := 6) (v := .slice A6 d.runs.length c6) rfl
      have y0 := BZ9.out.cell (j := 0) (v := .int .i64 x.no) rfl
      have y1 := BZ9.out.cell (j := 1) (v := .int .i64 x.kind) rfl
      have y2 := BZ9.out.cell (j := 2) (v := .int .i64 x.links) rfl
      have y3 := BZ9.out.cell (j := 3) (v := .int .i64 x.size) rfl
      have y4 := BZ9.out.cell (j := 4) (v := .string x.target) rfl
      have y5 := BZ9.out.cell (j := 5) (v := .slice B5 x.entries.length d5) rfl
      have y6 := BZ9.out.cell (j := 6) (v := .slice B6 x.runs.length d6) rfl
      have u0 := BD9.out.cell (j := 0) (v := .int .i64 0) rfl
      have u1 := BD9.out.cell (j := 1) (v := .int .i64 0) rfl
      have u2 := BD9.out.cell (j := 2) (v := .int .i64 0) rfl
      have u3 := BD9.out.cell (j := 3) (v := .int .i64 0) rfl
      have u4 := BD9.out.cell (j := 4) (v := .string ⟨#[]⟩) rfl
      have u5 := BD9.out.cell (j := 5) (v := .slice none 0 0) rfl
      have u6 := BD9.out.cell (j := 6) (v := .slice none 0 0) rfl
      have fa0 := BD9.out.open_ 0
      have fa1 := BD9.out.open_ 1
      have fa2 := BD9.out.open_ 2
      have fa3 := BD9.out.open_ 3
      have fa4 := BD9.out.open_ 4
      have fa5 := BD9.out.open_ 5
      have fa6 := BD9.out.open_ 6
      have v0 := BX9.out.cell (j := 0) (v := .int .i64 0) rfl
      have v1 := BX9.out.cell (j := 1) (v := .int .i64 0) rfl
      have v2 := BX9.out.cell (j := 2) (v := .int .i64 0) rfl
      have v3 := BX9.out.cell (j := 3) (v := .int .i64 0) rfl
      have v4 := BX9.out.cell (j := 4) (v := .string ⟨#[]⟩) rfl
      have v5 := BX9.out.cell (j := 5) (v := .slice none 0 0) rfl
      have v6 := BX9.out.cell (j := 6) (v := .slice none 0 0) rfl
      have fb0 := BX9.out.open_ 0
      have fb1 := BX9.out.open_ 1
      have fb2 := BX9.out.open_ 2
      have fb3 := BX9.out.open_ 3
      have fb4 := BX9.out.open_ 4
      have fb5 := BX9.out.open_ 5
      have fb6 := BX9.out.open_ 6
      go_upto_region 9 with (fail)
      have i0 := neD.out
      have j0 : gy ≠ gD := fun e => neD.out e.symm
      have i1 := neX.out
      have j1 : gy ≠ gX := fun e => neX.out e.symm
      have i2 := neDz.out
      have j2 : gz ≠ gD := fun e => neDz.out e.symm
      have i3 := neXz.out
      have j3 : gz ≠ gX := fun e => neXz.out e.symm
      go_region
      have BDa : BoxU w h8 (((((((W9.setCell ⟨gD, 0, none⟩ (.int .i64 d.no)).setCell ⟨gD, 1, none⟩ (.int .i64 d.kind)).setCell ⟨gD, 2, none⟩ (.int .i64 d.links)).setCell ⟨gD, 3, none⟩ (.int .i64 d.size)).setCell ⟨gD, 4, none⟩ (.string d.target)).setCell ⟨gD, 5, none⟩ (.slice A5 d.entries.length c5)).setCell ⟨gD, 6, none⟩ (.slice A6 d.runs.length c6)) gD #[.int .i64 d.no, .int .i64 d.kind, .int .i64 d.links, .int .i64 d.size, .string d.target, .slice A5 d.entries.length c5, .slice A6 d.runs.length c6] 37 := BD9.out.sets [.int .i64 d.no, .int .i64 d.kind, .int .i64 d.links, .int .i64 d.size, .string d.target, .slice A5 d.entries.length c5, .slice A6 d.runs.length c6] rfl
      have BXa : BoxU w h8 (((((((W9.setCell ⟨gD, 0, none⟩ (.int .i64 d.no)).setCell ⟨gD, 1, none⟩ (.int .i64 d.kind)).setCell ⟨gD, 2, none⟩ (.int .i64 d.links)).setCell ⟨gD, 3, none⟩ (.int .i64 d.size)).setCell ⟨gD, 4, none⟩ (.string d.target)).setCell ⟨gD, 5, none⟩ (.slice A5 d.entries.length c5)).setCell ⟨gD, 6, none⟩ (.slice A6 d.runs.length c6)) gX #[.int .i64 0, .int .i64 0, .int .i64 0, .int .i64 0, .string ⟨#[]⟩, .slice none 0 0, .slice none 0 0] 37 := BX9.out.other hXD 0 [.int .i64 d.no, .int .i64 d.kind, .int .i64 d.links, .int .i64 d.size, .string d.target, .slice A5 d.entries.length c5, .slice A6 d.runs.length c6]
      have Ea : Ext h w h8 (((((((W9.setCell ⟨gD, 0, none⟩ (.int .i64 d.no)).setCell ⟨gD, 1, none⟩ (.int .i64 d.kind)).setCell ⟨gD, 2, none⟩ (.int .i64 d.links)).setCell ⟨gD, 3, none⟩ (.int .i64 d.size)).setCell ⟨gD, 4, none⟩ (.string d.target)).setCell ⟨gD, 5, none⟩ (.slice A5 d.entries.length c5)).setCell ⟨gD, 6, none⟩ (.slice A6 d.runs.length c6)) := BD9.out.wr E9.out 0 [.int .i64 d.no, .int .i64 d.kind, .int .i64 d.links, .int .i64 d.size, .string d.target, .slice A5 d.entries.length c5, .slice A6 d.runs.length c6]
      have BDb : BoxU w h8 ((((((((((((((W9.setCell ⟨gD, 0, none⟩ (.int .i64 d.no)).setCell ⟨gD, 1, none⟩ (.int .i64 d.kind)).setCell ⟨gD, 2, none⟩ (.int .i64 d.links)).setCell ⟨gD, 3, none⟩ (.int .i64 d.size)).setCell ⟨gD, 4, none⟩ (.string d.target)).setCell ⟨gD, 5, none⟩ (.slice A5 d.entries.length c5)).setCell ⟨gD, 6, none⟩ (.slice A6 d.runs.length c6)).setCell ⟨gX, 0, none⟩ (.int .i64 x.no)).setCell ⟨gX, 1, none⟩ (.int .i64 x.kind)).setCell ⟨gX, 2, none⟩ (.int .i64 x.links)).setCell ⟨gX, 3, none⟩ (.int .i64 x.size)).setCell ⟨gX, 4, none⟩ (.string x.target)).setCell ⟨gX, 5, none⟩ (.slice B5 x.entries.length d5)).setCell ⟨gX, 6, none⟩ (.slice B6 x.runs.length d6)) gD #[.int .i64 d.no, .int .i64 d.kind, .int .i64 d.links, .int .i64 d.size, .string d.target, .slice A5 d.entries.length c5, .slice A6 d.runs.length c6] 37 := BDa.other hDX 0 [.int .i64 x.no, .int .i64 x.kind, .int .i64 x.links, .int .i64 x.size, .string x.target, .slice B5 x.entries.length d5, .slice B6 x.runs.length d6]
      have BXb : BoxU w h8 ((((((((((((((W9.setCell ⟨gD, 0, none⟩ (.int .i64 d.no)).setCell ⟨gD, 1, none⟩ (.int .i64 d.kind)).setCell ⟨gD, 2, none⟩ (.int .i64 d.links)).setCell ⟨gD, 3, none⟩ (.int .i64 d.size)).setCell ⟨gD, 4, none⟩ (.string d.target)).setCell ⟨gD, 5, none⟩ (.slice A5 d.entries.length c5)).setCell ⟨gD, 6, none⟩ (.slice A6 d.runs.length c6)).setCell ⟨gX, 0, none⟩ (.int .i64 x.no)).setCell ⟨gX, 1, none⟩ (.int .i64 x.kind)).setCell ⟨gX, 2, none⟩ (.int .i64 x.links)).setCell ⟨gX, 3, none⟩ (.int .i64 x.size)).setCell ⟨gX, 4, none⟩ (.string x.target)).setCell ⟨gX, 5, none⟩ (.slice B5 x.entries.length d5)).setCell ⟨gX, 6, none⟩ (.slice B6 x.runs.length d6)) gX #[.int .i64 x.no, .int .i64 x.kind, .int .i64 x.links, .int .i64 x.size, .string x.target, .slice B5 x.entries.length d5, .slice B6 x.runs.length d6] 37 := BXa.sets [.int .i64 x.no, .int .i64 x.kind, .int .i64 x.links, .int .i64 x.size, .string x.target, .slice B5 x.entries.length d5, .slice B6 x.runs.length d6] rfl
      have Eb : Ext h w h8 ((((((((((((((W9.setCell ⟨gD, 0, none⟩ (.int .i64 d.no)).setCell ⟨gD, 1, none⟩ (.int .i64 d.kind)).setCell ⟨gD, 2, none⟩ (.int .i64 d.links)).setCell ⟨gD, 3, none⟩ (.int .i64 d.size)).setCell ⟨gD, 4, none⟩ (.string d.target)).setCell ⟨gD, 5, none⟩ (.slice A5 d.entries.length c5)).setCell ⟨gD, 6, none⟩ (.slice A6 d.runs.length c6)).setCell ⟨gX, 0, none⟩ (.int .i64 x.no)).setCell ⟨gX, 1, none⟩ (.int .i64 x.kind)).setCell ⟨gX, 2, none⟩ (.int .i64 x.links)).setCell ⟨gX, 3, none⟩ (.int .i64 x.size)).setCell ⟨gX, 4, none⟩ (.string x.target)).setCell ⟨gX, 5, none⟩ (.slice B5 x.entries.length d5)).setCell ⟨gX, 6, none⟩ (.slice B6 x.runs.length d6)) := BXa.wr Ea 0 [.int .i64 x.no, .int .i64 x.kind, .int .i64 x.links, .int .i64 x.size, .string x.target, .slice B5 x.entries.length d5, .slice B6 x.runs.length d6]
      have BDz := BDb.drew
      have BXz := BXb.drew
      have Ez := Eb.drew
      clear BDa BXa Ea BDb BXb Eb
      clear x0 y0 u0 v0 fa0 fb0 x1 y1 u1 v1 fa1 fb1 x2 y2 u2 v2 fa2 fb2 x3 y3 u3 v3 fa3 fb3 x4 y4 u4 v4 fa4 fb4 x5 y5 u5 v5 fa5 fb5 x6 y6 u6 v6 fa6 fb6
      with_reducible generalize World.drew ((((((((((((((W9.setCell ⟨gD, 0, none⟩ (.int .i64 d.no)).setCell ⟨gD, 1, none⟩ (.int .i64 d.kind)).setCell ⟨gD, 2, none⟩ (.int .i64 d.links)).setCell ⟨gD, 3, none⟩ (.int .i64 d.size)).setCell ⟨gD, 4, none⟩ (.string d.target)).setCell ⟨gD, 5, none⟩ (.slice A5 d.entries.length c5)).setCell ⟨gD, 6, none⟩ (.slice A6 d.runs.length c6)).setCell ⟨gX, 0, none⟩ (.int .i64 x.no)).setCell ⟨gX, 1, none⟩ (.int .i64 x.kind)).setCell ⟨gX, 2, none⟩ (.int .i64 x.links)).setCell ⟨gX, 3, none⟩ (.int .i64 x.size)).setCell ⟨gX, 4, none⟩ (.string x.target)).setCell ⟨gX, 5, none⟩ (.slice B5 x.entries.length d5)).setCell ⟨gX, 6, none⟩ (.slice B6 x.runs.length d6)) = Wz at BDz BXz Ez ⊢
      go_wp2_with fail
      refine bodyPost_ret (v := .tuple #[.agg #[.int .i64 d.no, .int .i64 d.kind, .int .i64 d.links, .int .i64 d.size, .string d.target, .slice A5 d.entries.length c5, .slice A6 d.runs.length c6], .string name, .agg #[.int .i64 x.no, .int .i64 x.kind, .int .i64 x.links, .int .i64 x.size, .string x.target, .slice B5 x.entries.length d5, .slice B6 x.runs.length d6], .int .i64 0]) (results_ctct (p := 4) (q := 5) (r := 6) (s := 7) (ty := 37) (by kernel_rfl) _ _ gD gX 37 #[.int .i64 d.no, .int .i64 d.kind, .int .i64 d.links, .int .i64 d.size, .string d.target, .slice A5 d.entries.length c5, .slice A6 d.runs.length c6] #[.int .i64 x.no, .int .i64 x.kind, .int .i64 x.links, .int .i64 x.size, .string x.target, .slice B5 x.entries.length d5, .slice B6 x.runs.length d6] (0, 0) (0, 0) _ _ _ (by simp) (by simp) (by simp) (by simp) BDz.row BXz.row Try.underlying37 rfl (by kernel_rfl) (by kernel_rfl)) rfl ?_
      rw [HQ.out.1, HQ.out.2]
      exact ⟨[.int .i64 d.no, .int .i64 d.kind, .int .i64 d.links, .int .i64 d.size, .string d.target, .slice A5 d.entries.length c5, .slice A6 d.runs.length c6], [.int .i64 x.no, .int .i64 x.kind, .int .i64 x.links, .int .i64 x.size, .string x.target, .slice B5 x.entries.length d5, .slice B6 x.runs.length d6], h8, rfl, rd8.out, rx8.out, HNZ.out, Ez⟩
  · have hb : (code1 == 0) = false := by simpa using hc
    have hb2 : (code1 != 0) = true := by simpa using hc
    have HQ := hid (show p = zeroSpot ∧ code = code1 by have q := (thereS_err HPAR.out hc).symm.trans HP.out; exact ⟨(congrArg Prod.fst q).symm, (congrArg Prod.snd q).symm⟩)
    have BXz := (BX3.out.rowOther hXD #[.int .i64 0, .int .i64 0, .int .i64 0, .int .i64 0, .string ⟨#[]⟩, .slice none 0 0, .slice none 0 0]).row
    have BDz := (BD3.out.setRow #[.int .i64 0, .int .i64 0, .int .i64 0, .int .i64 0, .string ⟨#[]⟩, .slice none 0 0, .slice none 0 0]).rowOther hDX #[.int .i64 0, .int .i64 0, .int .i64 0, .int .i64 0, .string ⟨#[]⟩, .slice none 0 0, .slice none 0 0]
    have BXy := (BX3.out.rowOther hXD #[.int .i64 0, .int .i64 0, .int .i64 0, .int .i64 0, .string ⟨#[]⟩, .slice none 0 0, .slice none 0 0]).setRow #[.int .i64 0, .int .i64 0, .int .i64 0, .int .i64 0, .string ⟨#[]⟩, .slice none 0 0, .slice none 0 0]
    have Ez := (BX3.out.rowOther hXD #[.int .i64 0, .int .i64 0, .int .i64 0, .int .i64 0, .string ⟨#[]⟩, .slice none 0 0, .slice none 0 0]).wrRow (BD3.out.wrRow E3.out #[.int .i64 0, .int .i64 0, .int .i64 0, .int .i64 0, .string ⟨#[]⟩, .slice none 0 0, .slice none 0 0]) #[.int .i64 0, .int .i64 0, .int .i64 0, .int .i64 0, .string ⟨#[]⟩, .slice none 0 0, .slice none 0 0]
    clear hc
    go_wp2_with (first | (refine wpList_store_row rfl 37 _ _ rfl gD #[.int .i64 0, .int .i64 0, .int .i64 0, .int .i64 0, .string ⟨#[]⟩, .slice none 0 0, .slice none 0 0] rfl rfl 37 #[.int .i64 0, .int .i64 0, .int .i64 0, .int .i64 0, .string ⟨#[]⟩, .slice none 0 0, .slice none 0 0] BD3.out.row zi_infoR rfl zi_oneR ?_) | (refine wpList_store_row rfl 37 _ _ rfl gX #[.int .i64 0, .int .i64 0, .int .i64 0, .int .i64 0, .string ⟨#[]⟩, .slice none 0 0, .slice none 0 0] rfl rfl 37 #[.int .i64 0, .int .i64 0, .int .i64 0, .int .i64 0, .string ⟨#[]⟩, .slice none 0 0, .slice none 0 0] BXz zi_infoR rfl zi_oneR ?_))
    refine bodyPost_ret (v := .tuple #[.agg #[.int .i64 0, .int .i64 0, .int .i64 0, .int .i64 0, .string ⟨#[]⟩, .slice none 0 0, .slice none 0 0], .string ⟨#[]⟩, .agg #[.int .i64 0, .int .i64 0, .int .i64 0, .int .i64 0, .string ⟨#[]⟩, .slice none 0 0, .slice none 0 0], .int .i64 code1]) (results_ctct (p := 4) (q := 5) (r := 6) (s := 7) (ty := 37) (by kernel_rfl) _ _ gD gX 37 #[.int .i64 0, .int .i64 0, .int .i64 0, .int .i64 0, .string ⟨#[]⟩, .slice none 0 0, .slice none 0 0] #[.int .i64 0, .int .i64 0, .int .i64 0, .int .i64 0, .string ⟨#[]⟩, .slice none 0 0, .slice none 0 0] (0, 0) (0, 0) _ _ _ (by simp) (by simp) (by simp) (by simp) BDz.row BXy.row Try.underlying37 rfl (by kernel_rfl) (by kernel_rfl)) rfl ?_
    rw [HQ.out.1, HQ.out.2]
    exact ⟨[.int .i64 0, .int .i64 0, .int .i64 0, .int .i64 0, .string ⟨#[]⟩, .slice none 0 0, .slice none 0 0], [.int .i64 0, .int .i64 0, .int .i64 0, .int .i64 0, .string ⟨#[]⟩, .slice none 0 0, .slice none 0 0], h1, rfl, zeroI_rep _, zeroI_rep _, Nat.zero_le _, Ez⟩
end Go.Proofs.Ytkglaofiencfdaa
