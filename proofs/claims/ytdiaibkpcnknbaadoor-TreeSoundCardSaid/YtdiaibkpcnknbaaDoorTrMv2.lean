import Derived.Test.YtdiaibkpcnknbaaDoorTrMov
namespace Go.Proofs.YtdiaibkpcnknbaaDoor
open Go.RowKit Go.Sort
set_option linter.unusedVariables false
theorem results_2cell_tmp {P : Program} {fn : Func} {p r q : Tmp} {ty : TypeId} (h : fn.results = #[.cell p ty, .cell r ty, .tmp q]) (tmps : Array Value) (w : World) (g g2 : Nat) (t : TypeId) (cs ds : Array Value) (fr fr2 : Nat × Nat) (d : TypeDesc) (v : Value)
    (hp : tmps.getD p undef = .pointer (some ⟨g, 0, none⟩)) (hr : tmps.getD r undef = .pointer (some ⟨g2, 0, none⟩)) (hq : tmps.getD q undef = v) (hg : w.heap[g]? = some (.cells cs t fr)) (hg2 : w.heap[g2]? = some (.cells ds t fr2))
    (hu : P.underlying ty = some d) (hd : (match d with | .struct _ | .array _ _ => true | _ => false) = true) (hi : (P.info? ty).map (·.size) = some cs.size) (hi2 : (P.info? ty).map (·.size) = some ds.size) :
    (results fn tmps).run P w = .ok (.tuple #[.agg cs, .agg ds, v]) w := by
  have hp' : tmps[p]?.getD undef = .pointer (some ⟨g, 0, none⟩) := by simpa using hp
  have hr' : tmps[r]?.getD undef = .pointer (some ⟨g2, 0, none⟩) := by simpa using hr
  have hq' : tmps[q]?.getD undef = v := by simpa using hq
  simp [results, h, hp', hq', hr', asAddr, run_loadVar_row w g t ty cs fr d hg hu hd hi, run_loadVar_row w g2 t ty ds fr2 d hg2 hu hd hi2]
def movedP (a b : Spot) : Inode × Inode × Int :=
  let to_ := withoutP (if a.dir.no = b.dir.no then withoutP a.dir a.name else b.dir) b.name
  if addC to_.entries ⟨b.name, a.x.no⟩ ≠ 0 then (withoutP a.dir a.name, to_, addC to_.entries ⟨b.name, a.x.no⟩)
  else (withoutP a.dir a.name, { to_ with entries := addL to_.entries ⟨b.name, a.x.no⟩ }, 0)
def RetMv (h : FH) (w : World) (r : Inode × Inode × Int) (e : Ending) (w' : World) : Prop := ∃ cf ct h1, e = .returned (.tuple #[.agg cf.toArray, .agg ct.toArray, .int .i64 r.2.2]) ∧ repInode h1 cf r.1 ∧ repInode h1 ct r.2.1 ∧ Ext h w h1 w'

theorem sz7 {h h' : FH} {cs ds : List Value} {x y : Inode} (r : repInode h cs x) (r' : repInode h' ds y) : cs.toArray.size = ds.toArray.size := by rw [List.size_toArray, List.size_toArray, r.len, r'.len]
set_option maxHeartbeats 16000000 in
set_option maxRecDepth 100000 in
theorem tree_moved (a b : Spot) (la lb : List Value) (hma : midI a.dir) (hmb : midI b.dir) (h : FH) (w : World) (hs : Sits h w) (ra : repSpot h la a) (rb : repSpot h lb b) :
    Calls Tryd.prog 26 #[.agg la.toArray, .agg lb.toArray] w fun e w' => RetMv h w (movedP a b) e w' := by
  obtain ⟨h1, E1, hb1, le1, hh1⟩ := (Ext.refl hs).boxF la.toArray 55
  obtain ⟨h2, E2, hb2, le2, hh2⟩ := E1.boxF lb.toArray 55
  have BF := (BoxU.new E2 #[.int .i64 0, .int .i64 0, .int .i64 0, .int .i64 0, .string ⟨#[]⟩, .slice none 0 0, .slice none 0 0] 51).alloc (.cells #[.int .i64 0, .int .i64 0, .int .i64 0, .int .i64 0, .string ⟨#[]⟩, .slice none 0 0, .slice none 0 0] 51)
  have BT := BoxU.new (E2.alloc (.cells #[.int .i64 0, .int .i64 0, .int .i64 0, .int .i64 0, .string ⟨#[]⟩, .slice none 0 0, .slice none 0 0] 51)) #[.int .i64 0, .int .i64 0, .int .i64 0, .int .i64 0, .string ⟨#[]⟩, .slice none 0 0, .slice none 0 0] 51
  have E4 := (E2.alloc (.cells #[.int .i64 0, .int .i64 0, .int .i64 0, .int .i64 0, .string ⟨#[]⟩, .slice none 0 0, .slice none 0 0] 51)).alloc (.cells #[.int .i64 0, .int .i64 0, .int .i64 0, .int .i64 0, .string ⟨#[]⟩, .slice none 0 0, .slice none 0 0] 51)
  have hsz1 : (w.alloc (.cells la.toArray 55)).heap.size = w.heap.size + 1 := by simp
  have hsz2 : ((w.alloc (.cells la.toArray 55)).alloc (.cells lb.toArray 55)).heap.size = w.heap.size + 1 + 1 := by simp
  have hsz3 : (((w.alloc (.cells la.toArray 55)).alloc (.cells lb.toArray 55)).alloc (.cells #[.int .i64 0, .int .i64 0, .int .i64 0, .int .i64 0, .string ⟨#[]⟩, .slice none 0 0, .slice none 0 0] 51)).heap.size = w.heap.size + 1 + 1 + 1 := by simp
  rw [hsz1] at hb2
  rw [hsz2] at BF
  rw [hsz3] at BT
  have hb1 := le2 _ _ hb1
  clear hh1 hh2 E1 E2
  obtain ⟨xa, rxa, hxa⟩ := ra.xx
  obtain ⟨da, rda, hda⟩ := ra.dir
  obtain ⟨db, rdb, hdb⟩ := rb.dir
  have HXA := hid hxa
  have HDA := hid hda
  have HDB := hid hdb
  have HMA := hid hma
  have HMB := hid hmb
  clear hxa hda hdb hma hmb
  go_enter Tryd.func26, Tryd.ntmps26
  go_upto_region 1 with (fail)
  obtain ⟨gA, hgA⟩ : ∃ g, g = w.heap.size := ⟨_, rfl⟩
  obtain ⟨gB, hgB⟩ : ∃ g, g = w.heap.size + 1 := ⟨_, rfl⟩
  obtain ⟨gF, hgF⟩ : ∃ g, g = w.heap.size + 1 + 1 := ⟨_, rfl⟩
  obtain ⟨gT, hgT⟩ : ∃ g, g = w.heap.size + 1 + 1 + 1 := ⟨_, rfl⟩
  have hFT := hid (show gF ≠ gT by omega)
  rw [← hgA] at hb1
  rw [← hgB] at hb2
  rw [← hgF] at BF
  rw [← hgT] at BT
  rw [← hgT, ← hgF, ← hgB, ← hgA]
  with_reducible generalize (((w.alloc (.cells la.toArray 55)).alloc (.cells lb.toArray 55)).alloc (.cells #[.int .i64 0, .int .i64 0, .int .i64 0, .int .i64 0, .string ⟨#[]⟩, .slice none 0 0, .slice none 0 0] 51)).alloc (.cells #[.int .i64 0, .int .i64 0, .int .i64 0, .int .i64 0, .string ⟨#[]⟩, .slice none 0 0, .slice none 0 0] 51) = W2 at E4 BF BT ⊢
  clear hgA hgB hgF hgT hsz1 hsz2 hsz3
  have E2 := hid E4
  have BF := hid BF
  have BT := hid BT
  have hb1 := hid hb1
  have hb2 := hid hb2
  have L2 := hid (le1.trans le2)
  clear le1 le2 E4
  obtain ⟨f, hf⟩ : ∃ f, withoutP a.dir a.name = f := ⟨_, rfl⟩
  have HFE := hid hf
  have KW := hid (by have q := tree_withoutL (rda.mono L2.out) HMA.out.1 a.name ra.nm.2 W2 E2.out.sits; rw [hf] at q; exact q : Calls Tryd.prog 28 #[.agg da.toArray, .string a.name] W2 fun e w' => ∃ cs' h1, e = .returned (.agg cs'.toArray) ∧ repInode h1 cs' f ∧ Ext h2 W2 h1 w')
  have HFM := hid (show midI f by rw [← hf]; exact withoutP_mid HMA.out)
  clear hf
  have m7 := sits_cellF E2.out.sits hb1.out ra.nm.1
  go_upto_region 2 with (first | (refine wpList_load_mid rfl 51 _ rfl gA 0 rfl da _ (sits_rangeF E2.out.sits hb1.out (zero_plus HDA.out)) Tryd.underlying51 rfl (infoL_Inode rda.len) ?_) | (go_at_call 28; refine KW.out.mono ?_; rintro e w3 ⟨fl, h3, rfl, rf, F3⟩; have E3 := hid (E2.out.trans F3); have BF3 := hid (BF.out.ext F3); have BT3 := hid (BT.out.ext F3); have l3 := hid F3.le; have rf := hid rf; clear F3 m7) | (refine wpList_store_row rfl 51 _ _ rfl w3.heap.size fl.toArray rfl rfl 51 #[.int .i64 0, .int .i64 0, .int .i64 0, .int .i64 0, .string ⟨#[]⟩, .slice none 0 0, .slice none 0 0] (heap_new w3 _) (info_Inode rf.out.len) (zi_size rf.out) (one_arr rf.out.one) ?_))
  rw [World.setRow_alloc_new]
  have BX4 := BoxU.new E3.out fl.toArray 51
  have E4 := E3.out.alloc (.cells fl.toArray 51)
  have BF4 := BF3.out.alloc (.cells fl.toArray 51)
  have hneF := hid (Nat.ne_of_lt BF3.out.lt)
  have BT4 := BT3.out.alloc (.cells fl.toArray 51)
  have hneT := hid (Nat.ne_of_lt BT3.out.lt)
  with_reducible generalize (w3.alloc (.cells fl.toArray 51)) = W4 at BX4 E4 BF4 BT4 ⊢
  have BX4 := hid BX4
  have E4 := hid E4
  have BF4 := hid BF4
  have BT4 := hid BT4
  generalize w3.heap.size = gf at *
  clear E3 BF3 BT3 BF BT KW
  go_upto_region 3 with (first | (refine wpList_load_mid rfl 51 _ rfl gB 0 rfl db _ (sits_rangeF E4.out.sits (l3.out _ _ hb2.out) (zero_plus HDB.out)) Tryd.underlying51 rfl (infoL_Inode rdb.len) ?_) | (refine wpList_store_row rfl 51 _ _ rfl W4.heap.size db.toArray rfl rfl 51 #[.int .i64 0, .int .i64 0, .int .i64 0, .int .i64 0, .string ⟨#[]⟩, .slice none 0 0, .slice none 0 0] (heap_new W4 _) (info_Inode rdb.len) (zi_size rdb) (one_arr rdb.one) ?_))
  rw [World.setRow_alloc_new]
  have BY5 := BoxU.new E4.out db.toArray 51
  have E5 := E4.out.alloc (.cells db.toArray 51)
  have BX5 := BX4.out.alloc (.cells db.toArray 51)
  have hneX := hid (Nat.ne_of_lt BX4.out.lt)
  have BF5 := BF4.out.alloc (.cells db.toArray 51)
  have hneF2 := hid (Nat.ne_of_lt BF4.out.lt)
  have BT5 := BT4.out.alloc (.cells db.toArray 51)
  have hneT2 := hid (Nat.ne_of_lt BT4.out.lt)
  with_reducible generalize (W4.alloc (.cells db.toArray 51)) = W5 at BY5 E5 BX5 BF5 BT5 ⊢
  have BY5 := hid BY5
  have E5 := hid E5
  have BX5 := hid BX5
  have BF5 := hid BF5
  have BT5 := hid BT5
  generalize W4.heap.size = gt at *
  clear E4 BX4 BF4 BT4
  have n1 := sits_cellF E5.out.sits (l3.out _ _ hb1.out) (HDA.out 0 _ rda.at0)
  have n2 := sits_cellF E5.out.sits (l3.out _ _ hb2.out) (HDB.out 0 _ rdb.at0)
  obtain ⟨t0, ht0⟩ : ∃ t, (if a.dir.no = b.dir.no then f else b.dir) = t := ⟨_, rfl⟩
  have HT0 := hid ht0
  have L3 := hid (L2.out.trans l3.out)
  go_upto_if 24 with (fail)
  go_cut [0] (fun s0 wx => ∃ tl : List Value, Hid (repInode h3 tl t0) ∧ Hid (Ext h w h3 wx) ∧ Hid (BoxU w h3 wx gt tl.toArray 51) ∧ Hid (BoxU w h3 wx gf fl.toArray 51) ∧ Hid (BoxU w h3 wx gF #[.int .i64 0, .int .i64 0, .int .i64 0, .int .i64 0, .string ⟨#[]⟩, .slice none 0 0, .slice none 0 0] 51) ∧ Hid (BoxU w h3 wx gT #[.int .i64 0, .int .i64 0, .int .i64 0, .int .i64 0, .string ⟨#[]⟩, .slice none 0 0, .slice none 0 0] 51))
  case first =>
    by_cases hno : a.dir.no = b.dir.no
    · have bno : (a.dir.no == b.dir.no) = true := by simpa using hno
      have HTE := hid (show f = t0 by rw [← HT0.out, if_pos hno])
      clear hno ht0
      go_wp2_with (first | (refine wpList_load_row rfl 51 _ rfl gf rfl 51 fl.toArray (0, 0) _ BX5.out.row Tryd.underlying51 rfl (info_Inode rf.out.len) ?_) | (refine wpList_store_row rfl 51 _ _ rfl gt fl.toArray rfl rfl 51 db.toArray BY5.out.row (info_Inode rf.out.len) (sz7 rdb rf.out) (one_arr rf.out.one) ?_))
      go_meet
      exact ⟨fl, hid (by rw [← HTE.out]; exact rf.out), hid (BY5.out.wrRow E5.out _), hid (BY5.out.setRow _), hid (BX5.out.rowOther hneX.out _), hid (BF5.out.rowOther hneF2.out _), hid (BT5.out.rowOther hneT2.out _)⟩
    · have bno : (a.dir.no == b.dir.no) = false := by simpa using hno
      have HTE := hid (show b.dir = t0 by rw [← HT0.out, if_neg hno])
      clear hno ht0
      go_wp2_with fail
      go_meet
      exact ⟨db, hid (by rw [← HTE.out]; exact rdb.mono L3.out), E5, BY5, BX5, BF5, BT5⟩
  case rest =>
  obtain ⟨tl, rt, E6, BY6, BX6, BF6, BT6⟩ := hcut
  clear E5 BY5 BX5 BF5 BT5 n1 n2 ht0
  have HT0M := hid (show midI t0 by rw [← HT0.out]; split; exact HFM.out; exact HMB.out)
  obtain ⟨y, hy⟩ : ∃ y, withoutP t0 b.name = y := ⟨_, rfl⟩
  have HYE := hid hy
  have HYM := hid (show midI y by rw [← hy]; exact withoutP_mid HT0M.out)
  have KW := hid (by have q := tree_withoutL rt.out HT0M.out.1 b.name rb.nm.2 wc E6.out.sits; rw [hy] at q; exact q : Calls Tryd.prog 28 #[.agg tl.toArray, .string b.name] wc fun e w' => ∃ cs' h1, e = .returned (.agg cs'.toArray) ∧ repInode h1 cs' y ∧ Ext h3 wc h1 w')
  clear hy
  have m7 := sits_cellF E6.out.sits (l3.out _ _ hb2.out) rb.nm.1
  go_upto_region 6 with (first | (refine wpList_load_row rfl 51 _ rfl gt rfl 51 tl.toArray (0, 0) _ BY6.out.row Tryd.underlying51 rfl (info_Inode rt.out.len) ?_) | (go_at_call 28; refine KW.out.mono ?_; rintro e w7 ⟨yl, h7, rfl, ry, F7⟩; have E7 := hid (E6.out.trans F7); have BY7 := hid (BY6.out.ext F7); have BX7 := hid (BX6.out.ext F7); have BF7 := hid (BF6.out.ext F7); have BT7 := hid (BT6.out.ext F7); have l7 := hid F7.le; have ry := hid ry; clear F7 m7) | (refine wpList_store_row rfl 51 _ _ rfl gt yl.toArray rfl rfl 51 tl.toArray BY7.out.row (info_Inode ry.out.len) (sz7 rt.out ry.out) (one_arr ry.out.one) ?_))
  have BY8 := BY7.out.setRow yl.toArray
  have E8 := BY7.out.wrRow E7.out yl.toArray
  have BX8 := BX7.out.rowOther hneX.out yl.toArray
  have BF8 := BF7.out.rowOther hneF2.out yl.toArray
  have BT8 := BT7.out.rowOther hneT2.out yl.toArray
  with_reducible generalize w7.setRow gt yl.toArray = w8 at BY8 E8 BX8 BF8 BT8 ⊢
  have BY8 := hid BY8
  have E8 := hid E8
  have BX8 := hid BX8
  have BF8 := hid BF8
  have BT8 := hid BT8
  clear E6 E7 BY6 BY7 BX6 BX7 BF6 BF7 BT6 BT7
  obtain ⟨C5, k5, aty, ky5, rowy⟩ := ry.out.at5
  obtain ⟨ac, hac⟩ : ∃ ac, addC y.entries ⟨b.name, a.x.no⟩ = ac := ⟨_, rfl⟩
  obtain ⟨al, hal⟩ : ∃ al, addL y.entries ⟨b.name, a.x.no⟩ = al := ⟨_, rfl⟩
  have HMP := hid (show movedP a b = if ac ≠ 0 then (f, y, ac) else (f, { y with entries := al }, 0) by
    unfold movedP; simp only [HFE.out, HT0.out, HYE.out, hac, hal])
  have KA := entries_Add y.entries C5 k5 HYM.out.1 ⟨b.name, a.x.no⟩ rb.nm.2 h7 w8 E8.out.sits rowy
  rw [hac, hal] at KA
  have KA := hid KA
  have hall : al.length ≤ 1001 := by
    rw [← hal]; unfold addL; split
    · unfold insE; have := HYM.out.1; simp; omega
    · simp
  have L7 := hid (l3.out.trans l7.out)
  have q5 := BY8.out.cell (by rw [List.getElem?_toArray]; exact aty)
  have q7 := sits_cellF E8.out.sits (L7.out _ _ hb2.out) rb.nm.1
  have q0 := sits_cellF E8.out.sits (L7.out _ _ hb1.out) (HXA.out 0 _ rxa.at0)
  clear hac hal ky5 rowy aty
  go_upto_region 7 with (go_at_call 18; refine KA.out.mono ?_; rintro e w9 R; obtain ⟨A9, c9, h9, rfl, r9, F9, u0, u1, u2⟩ := R.stayX (by omega); have E9 := hid (E8.out.trans F9); have BY9 := hid (BY8.out.ext F9); have BX9 := hid (BX8.out.ext F9); have BF9 := hid (BF8.out.ext F9); have BT9 := hid (BT8.out.ext F9); have l9 := hid F9.le; have k9 := hid (show CapLe A9 al.length c9 from ⟨u1, u0, u2⟩); have r9 := hid r9; clear F9 u0 u1 u2 R q0 q5 q7)
  clear E8 BY8 BX8 BF8 BT8 KA KW
  have ry9 := hid (ry.out.mono l9.out)
  have rf9 := hid (rf.out.mono (l7.out.trans l9.out))
  have HOF := rf9.out
  have HOY := ry9.out
  obtain ⟨F5, f5, F6, f6, rfl, -⟩ := HOF
  obtain ⟨C5, k5, C6, k6, rfl, -⟩ := HOY
  by_cases hac : ac = 0
  · subst hac
    have HM := hid (show movedP a b = (f, ⟨y.no, y.kind, y.links, y.size, y.target, al, y.runs⟩, 0) by rw [HMP.out, if_neg (by simp)])
    have y5 := BY9.out.cell (j := 5) (v := .slice C5 y.entries.length k5) rfl
    have fy5 := BY9.out.open_ 5
    go_upto_region 10 with (fail)
    have BY10 := BY9.out.set1 5 (.slice A9 al.length c9)
    have BX10 := BX9.out.other1 hneX.out 5 (.slice A9 al.length c9)
    have BF10 := BF9.out.other1 hneF2.out 5 (.slice A9 al.length c9)
    have BT10 := BT9.out.other1 hneT2.out 5 (.slice A9 al.length c9)
    have E10 := BY9.out.wr1 E9.out 5 (.slice A9 al.length c9)
    have BY10 : BoxU w h9 (w9.setCell ⟨gt, 5, none⟩ (.slice A9 al.length c9)) gt ([.int .i64 y.no, .int .i64 y.kind, .int .i64 y.links, .int .i64 y.size, .string y.target, .slice A9 al.length c9, .slice C6 y.runs.length k6] : List Value).toArray 51 := BY10
    clear y5 fy5 BY9 BX9 BF9 BT9 E9
    with_reducible generalize w9.setCell ⟨gt, 5, none⟩ (.slice A9 al.length c9) = w9 at BY10 BX10 BF10 BT10 E10 ⊢
    have BY9 := hid BY10
    have BX9 := hid BX10
    have BF9 := hid BF10
    have BT9 := hid BT10
    have E9 := hid E10
    clear BY10 BX10 BF10 BT10 E10
    have ry10 := hid (show repInode h9 [.int .i64 y.no, .int .i64 y.kind, .int .i64 y.links, .int .i64 y.size, .string y.target, .slice A9 al.length c9, .slice C6 y.runs.length k6] ⟨y.no, y.kind, y.links, y.size, y.target, al, y.runs⟩ from ry9.out.setEnt k9.out r9.out)
    have x0 := BX9.out.cell (j := 0) (v := .int .i64 f.no) rfl
    have x1 := BX9.out.cell (j := 1) (v := .int .i64 f.kind) rfl
    have x2 := BX9.out.cell (j := 2) (v := .int .i64 f.links) rfl
    have x3 := BX9.out.cell (j := 3) (v := .int .i64 f.size) rfl
    have x4 := BX9.out.cell (j := 4) (v := .string f.target) rfl
    have x5 := BX9.out.cell (j := 5) (v := .slice F5 f.entries.length f5) rfl
    have x6 := BX9.out.cell (j := 6) (v := .slice F6 f.runs.length f6) rfl
    have y0 := BY9.out.cell (j := 0) (v := .int .i64 y.no) rfl
    have y1 := BY9.out.cell (j := 1) (v := .int .i64 y.kind) rfl
    have y2 := BY9.out.cell (j := 2) (v := .int .i64 y.links) rfl
    have y3 := BY9.out.cell (j := 3) (v := .int .i64 y.size) rfl
    have y4 := BY9.out.cell (j := 4) (v := .string y.target) rfl
    have y5 := BY9.out.cell (j := 5) (v := .slice A9 al.length c9) rfl
    have y6 := BY9.out.cell (j := 6) (v := .slice C6 y.runs.length k6) rfl
    have u0 := BF9.out.cell (j := 0) (v := .int .i64 0) rfl
    have u1 := BF9.out.cell (j := 1) (v := .int .i64 0) rfl
    have u2 := BF9.out.cell (j := 2) (v := .int .i64 0) rfl
    have u3 := BF9.out.cell (j := 3) (v := .int .i64 0) rfl
    have u4 := BF9.out.cell (j := 4) (v := .string ⟨#[]⟩) rfl
    have u5 := BF9.out.cell (j := 5) (v := .slice none 0 0) rfl
    have u6 := BF9.out.cell (j := 6) (v := .slice none 0 0) rfl
    have fa0 := BF9.out.open_ 0
    have fa1 := BF9.out.open_ 1
    have fa2 := BF9.out.open_ 2
    have fa3 := BF9.out.open_ 3
    have fa4 := BF9.out.open_ 4
    have fa5 := BF9.out.open_ 5
    have fa6 := BF9.out.open_ 6
    have v0 := BT9.out.cell (j := 0) (v := .int .i64 0) rfl
    have v1 := BT9.out.cell (j := 1) (v := .int .i64 0) rfl
    have v2 := BT9.out.cell (j := 2) (v := .int .i64 0) rfl
    have v3 := BT9.out.cell (j := 3) (v := .int .i64 0) rfl
    have v4 := BT9.out.cell (j := 4) (v := .string ⟨#[]⟩) rfl
    have v5 := BT9.out.cell (j := 5) (v := .slice none 0 0) rfl
    have v6 := BT9.out.cell (j := 6) (v := .slice none 0 0) rfl
    have fb0 := BT9.out.open_ 0
    have fb1 := BT9.out.open_ 1
    have fb2 := BT9.out.open_ 2
    have fb3 := BT9.out.open_ 3
    have fb4 := BT9.out.open_ 4
    have fb5 := BT9.out.open_ 5
    have fb6 := BT9.out.open_ 6
    have hFT1 : gF ≠ gT := hFT.out
    have hTF1 : gT ≠ gF := fun e => hFT.out e.symm
    have i0 := hneF2.out
    have j0 : gt ≠ gF := fun e => hneF2.out e.symm
    have i1 := hneT2.out
    have j1 : gt ≠ gT := fun e => hneT2.out e.symm
    have i2 := hneF.out
    have j2 : gf ≠ gF := fun e => hneF.out e.symm
    have i3 := hneT.out
    have j3 : gf ≠ gT := fun e => hneT.out e.symm
    go_region
    have BFa : BoxU w h9 (((((((w9.setCell ⟨gF, 0, none⟩ (.int .i64 f.no)).setCell ⟨gF, 1, none⟩ (.int .i64 f.kind)).setCell ⟨gF, 2, none⟩ (.int .i64 f.links)).setCell ⟨gF, 3, none⟩ (.int .i64 f.size)).setCell ⟨gF, 4, none⟩ (.string f.target)).setCell ⟨gF, 5, none⟩ (.slice F5 f.entries.length f5)).setCell ⟨gF, 6, none⟩ (.slice F6 f.runs.length f6)) gF #[.int .i64 f.no, .int .i64 f.kind, .int .i64 f.links, .int .i64 f.size, .string f.target, .slice F5 f.entries.length f5, .slice F6 f.runs.length f6] 51 := BF9.out.sets [.int .i64 f.no, .int .i64 f.kind, .int .i64 f.links, .int .i64 f.size, .string f.target, .slice F5 f.entries.length f5, .slice F6 f.runs.length f6] rfl
    have BTa : BoxU w h9 (((((((w9.setCell ⟨gF, 0, none⟩ (.int .i64 f.no)).setCell ⟨gF, 1, none⟩ (.int .i64 f.kind)).setCell ⟨gF, 2, none⟩ (.int .i64 f.links)).setCell ⟨gF, 3, none⟩ (.int .i64 f.size)).setCell ⟨gF, 4, none⟩ (.string f.target)).setCell ⟨gF, 5, none⟩ (.slice F5 f.entries.length f5)).setCell ⟨gF, 6, none⟩ (.slice F6 f.runs.length f6)) gT #[.int .i64 0, .int .i64 0, .int .i64 0, .int .i64 0, .string ⟨#[]⟩, .slice none 0 0, .slice none 0 0] 51 := BT9.out.other hTF1 0 [.int .i64 f.no, .int .i64 f.kind, .int .i64 f.links, .int .i64 f.size, .string f.target, .slice F5 f.entries.length f5, .slice F6 f.runs.length f6]
    have Ea : Ext h w h9 (((((((w9.setCell ⟨gF, 0, none⟩ (.int .i64 f.no)).setCell ⟨gF, 1, none⟩ (.int .i64 f.kind)).setCell ⟨gF, 2, none⟩ (.int .i64 f.links)).setCell ⟨gF, 3, none⟩ (.int .i64 f.size)).setCell ⟨gF, 4, none⟩ (.string f.target)).setCell ⟨gF, 5, none⟩ (.slice F5 f.entries.length f5)).setCell ⟨gF, 6, none⟩ (.slice F6 f.runs.length f6)) := BF9.out.wr E9.out 0 [.int .i64 f.no, .int .i64 f.kind, .int .i64 f.links, .int .i64 f.size, .string f.target, .slice F5 f.entries.length f5, .slice F6 f.runs.length f6]
    have BFb : BoxU w h9 ((((((((((((((w9.setCell ⟨gF, 0, none⟩ (.int .i64 f.no)).setCell ⟨gF, 1, none⟩ (.int .i64 f.kind)).setCell ⟨gF, 2, none⟩ (.int .i64 f.links)).setCell ⟨gF, 3, none⟩ (.int .i64 f.size)).setCell ⟨gF, 4, none⟩ (.string f.target)).setCell ⟨gF, 5, none⟩ (.slice F5 f.entries.length f5)).setCell ⟨gF, 6, none⟩ (.slice F6 f.runs.length f6)).setCell ⟨gT, 0, none⟩ (.int .i64 y.no)).setCell ⟨gT, 1, none⟩ (.int .i64 y.kind)).setCell ⟨gT, 2, none⟩ (.int .i64 y.links)).setCell ⟨gT, 3, none⟩ (.int .i64 y.size)).setCell ⟨gT, 4, none⟩ (.string y.target)).setCell ⟨gT, 5, none⟩ (.slice A9 al.length c9)).setCell ⟨gT, 6, none⟩ (.slice C6 y.runs.length k6)) gF #[.int .i64 f.no, .int .i64 f.kind, .int .i64 f.links, .int .i64 f.size, .string f.target, .slice F5 f.entries.length f5, .slice F6 f.runs.length f6] 51 := BFa.other hFT1 0 [.int .i64 y.no, .int .i64 y.kind, .int .i64 y.links, .int .i64 y.size, .string y.target, .slice A9 al.length c9, .slice C6 y.runs.length k6]
    have BTb : BoxU w h9 ((((((((((((((w9.setCell ⟨gF, 0, none⟩ (.int .i64 f.no)).setCell ⟨gF, 1, none⟩ (.int .i64 f.kind)).setCell ⟨gF, 2, none⟩ (.int .i64 f.links)).setCell ⟨gF, 3, none⟩ (.int .i64 f.size)).setCell ⟨gF, 4, none⟩ (.string f.target)).setCell ⟨gF, 5, none⟩ (.slice F5 f.entries.length f5)).setCell ⟨gF, 6, none⟩ (.slice F6 f.runs.length f6)).setCell ⟨gT, 0, none⟩ (.int .i64 y.no)).setCell ⟨gT, 1, none⟩ (.int .i64 y.kind)).setCell ⟨gT, 2, none⟩ (.int .i64 y.links)).setCell ⟨gT, 3, none⟩ (.int .i64 y.size)).setCell ⟨gT, 4, none⟩ (.string y.target)).setCell ⟨gT, 5, none⟩ (.slice A9 al.length c9)).setCell ⟨gT, 6, none⟩ (.slice C6 y.runs.length k6)) gT #[.int .i64 y.no, .int .i64 y.kind, .int .i64 y.links, .int .i64 y.size, .string y.target, .slice A9 al.length c9, .slice C6 y.runs.length k6] 51 := BTa.sets [.int .i64 y.no, .int .i64 y.kind, .int .i64 y.links, .int .i64 y.size, .string y.target, .slice A9 al.length c9, .slice C6 y.runs.length k6] rfl
    have Eb : Ext h w h9 ((((((((((((((w9.setCell ⟨gF, 0, none⟩ (.int .i64 f.no)).setCell ⟨gF, 1, none⟩ (.int .i64 f.kind)).setCell ⟨gF, 2, none⟩ (.int .i64 f.links)).setCell ⟨gF, 3, none⟩ (.int .i64 f.size)).setCell ⟨gF, 4, none⟩ (.string f.target)).setCell ⟨gF, 5, none⟩ (.slice F5 f.entries.length f5)).setCell ⟨gF, 6, none⟩ (.slice F6 f.runs.length f6)).setCell ⟨gT, 0, none⟩ (.int .i64 y.no)).setCell ⟨gT, 1, none⟩ (.int .i64 y.kind)).setCell ⟨gT, 2, none⟩ (.int .i64 y.links)).setCell ⟨gT, 3, none⟩ (.int .i64 y.size)).setCell ⟨gT, 4, none⟩ (.string y.target)).setCell ⟨gT, 5, none⟩ (.slice A9 al.length c9)).setCell ⟨gT, 6, none⟩ (.slice C6 y.runs.length k6)) := BTa.wr Ea 0 [.int .i64 y.no, .int .i64 y.kind, .int .i64 y.links, .int .i64 y.size, .string y.target, .slice A9 al.length c9, .slice C6 y.runs.length k6]
    have BFz := BFb.drew
    have BTz := BTb.drew
    have Ez := Eb.drew
    clear BFa BTa Ea BFb BTb Eb
    clear x0 y0 u0 v0 fa0 fb0 x1 y1 u1 v1 fa1 fb1 x2 y2 u2 v2 fa2 fb2 x3 y3 u3 v3 fa3 fb3 x4 y4 u4 v4 fa4 fb4 x5 y5 u5 v5 fa5 fb5 x6 y6 u6 v6 fa6 fb6
    with_reducible generalize World.drew ((((((((((((((w9.setCell ⟨gF, 0, none⟩ (.int .i64 f.no)).setCell ⟨gF, 1, none⟩ (.int .i64 f.kind)).setCell ⟨gF, 2, none⟩ (.int .i64 f.links)).setCell ⟨gF, 3, none⟩ (.int .i64 f.size)).setCell ⟨gF, 4, none⟩ (.string f.target)).setCell ⟨gF, 5, none⟩ (.slice F5 f.entries.length f5)).setCell ⟨gF, 6, none⟩ (.slice F6 f.runs.length f6)).setCell ⟨gT, 0, none⟩ (.int .i64 y.no)).setCell ⟨gT, 1, none⟩ (.int .i64 y.kind)).setCell ⟨gT, 2, none⟩ (.int .i64 y.links)).setCell ⟨gT, 3, none⟩ (.int .i64 y.size)).setCell ⟨gT, 4, none⟩ (.string y.target)).setCell ⟨gT, 5, none⟩ (.slice A9 al.length c9)).setCell ⟨gT, 6, none⟩ (.slice C6 y.runs.length k6)) = Wz at BFz BTz Ez ⊢
    go_wp2_with fail
    refine bodyPost_ret (v := .tuple #[.agg #[.int .i64 f.no, .int .i64 f.kind, .int .i64 f.links, .int .i64 f.size, .string f.target, .slice F5 f.entries.length f5, .slice F6 f.runs.length f6], .agg #[.int .i64 y.no, .int .i64 y.kind, .int .i64 y.links, .int .i64 y.size, .string y.target, .slice A9 al.length c9, .slice C6 y.runs.length k6], .int .i64 0]) (results_2cell_tmp (p := 4) (r := 5) (q := 6) (ty := 51) (by kernel_rfl) _ _ gF gT 51 #[.int .i64 f.no, .int .i64 f.kind, .int .i64 f.links, .int .i64 f.size, .string f.target, .slice F5 f.entries.length f5, .slice F6 f.runs.length f6] #[.int .i64 y.no, .int .i64 y.kind, .int .i64 y.links, .int .i64 y.size, .string y.target, .slice A9 al.length c9, .slice C6 y.runs.length k6] (0, 0) (0, 0) _ _ (by simp) (by simp) (by simp) BFz.row BTz.row Tryd.underlying51 rfl (by kernel_rfl) (by kernel_rfl)) rfl ?_
    rw [HM.out]
    exact ⟨[.int .i64 f.no, .int .i64 f.kind, .int .i64 f.links, .int .i64 f.size, .string f.target, .slice F5 f.entries.length f5, .slice F6 f.runs.length f6], [.int .i64 y.no, .int .i64 y.kind, .int .i64 y.links, .int .i64 y.size, .string y.target, .slice A9 al.length c9, .slice C6 y.runs.length k6], h9, rfl, rf9.out, ry10.out, Ez⟩
  · have hb : (ac == 0) = false := by simpa using hac
    have hb2 : (ac != 0) = true := by simpa using hac
    have HM := hid (show movedP a b = (f, y, ac) by rw [HMP.out, if_pos hac])
    clear hac
    have x0 := BX9.out.cell (j := 0) (v := .int .i64 f.no) rfl
    have x1 := BX9.out.cell (j := 1) (v := .int .i64 f.kind) rfl
    have x2 := BX9.out.cell (j := 2) (v := .int .i64 f.links) rfl
    have x3 := BX9.out.cell (j := 3) (v := .int .i64 f.size) rfl
    have x4 := BX9.out.cell (j := 4) (v := .string f.target) rfl
    have x5 := BX9.out.cell (j := 5) (v := .slice F5 f.entries.length f5) rfl
    have x6 := BX9.out.cell (j := 6) (v := .slice F6 f.runs.length f6) rfl
    have y0 := BY9.out.cell (j := 0) (v := .int .i64 y.no) rfl
    have y1 := BY9.out.cell (j := 1) (v := .int .i64 y.kind) rfl
    have y2 := BY9.out.cell (j := 2) (v := .int .i64 y.links) rfl
    have y3 := BY9.out.cell (j := 3) (v := .int .i64 y.size) rfl
    have y4 := BY9.out.cell (j := 4) (v := .string y.target) rfl
    have y5 := BY9.out.cell (j := 5) (v := .slice C5 y.entries.length k5) rfl
    have y6 := BY9.out.cell (j := 6) (v := .slice C6 y.runs.length k6) rfl
    have u0 := BF9.out.cell (j := 0) (v := .int .i64 0) rfl
    have u1 := BF9.out.cell (j := 1) (v := .int .i64 0) rfl
    have u2 := BF9.out.cell (j := 2) (v := .int .i64 0) rfl
    have u3 := BF9.out.cell (j := 3) (v := .int .i64 0) rfl
    have u4 := BF9.out.cell (j := 4) (v := .string ⟨#[]⟩) rfl
    have u5 := BF9.out.cell (j := 5) (v := .slice none 0 0) rfl
    have u6 := BF9.out.cell (j := 6) (v := .slice none 0 0) rfl
    have fa0 := BF9.out.open_ 0
    have fa1 := BF9.out.open_ 1
    have fa2 := BF9.out.open_ 2
    have fa3 := BF9.out.open_ 3
    have fa4 := BF9.out.open_ 4
    have fa5 := BF9.out.open_ 5
    have fa6 := BF9.out.open_ 6
    have v0 := BT9.out.cell (j := 0) (v := .int .i64 0) rfl
    have v1 := BT9.out.cell (j := 1) (v := .int .i64 0) rfl
    have v2 := BT9.out.cell (j := 2) (v := .int .i64 0) rfl
    have v3 := BT9.out.cell (j := 3) (v := .int .i64 0) rfl
    have v4 := BT9.out.cell (j := 4) (v := .string ⟨#[]⟩) rfl
    have v5 := BT9.out.cell (j := 5) (v := .slice none 0 0) rfl
    have v6 := BT9.out.cell (j := 6) (v := .slice none 0 0) rfl
    have fb0 := BT9.out.open_ 0
    have fb1 := BT9.out.open_ 1
    have fb2 := BT9.out.open_ 2
    have fb3 := BT9.out.open_ 3
    have fb4 := BT9.out.open_ 4
    have fb5 := BT9.out.open_ 5
    have fb6 := BT9.out.open_ 6
    go_upto_region 8 with (fail)
    have hFT1 : gF ≠ gT := hFT.out
    have hTF1 : gT ≠ gF := fun e => hFT.out e.symm
    have i0 := hneF2.out
    have j0 : gt ≠ gF := fun e => hneF2.out e.symm
    have i1 := hneT2.out
    have j1 : gt ≠ gT := fun e => hneT2.out e.symm
    have i2 := hneF.out
    have j2 : gf ≠ gF := fun e => hneF.out e.symm
    have i3 := hneT.out
    have j3 : gf ≠ gT := fun e => hneT.out e.symm
    go_region
    have BFa : BoxU w h9 (((((((w9.setCell ⟨gF, 0, none⟩ (.int .i64 f.no)).setCell ⟨gF, 1, none⟩ (.int .i64 f.kind)).setCell ⟨gF, 2, none⟩ (.int .i64 f.links)).setCell ⟨gF, 3, none⟩ (.int .i64 f.size)).setCell ⟨gF, 4, none⟩ (.string f.target)).setCell ⟨gF, 5, none⟩ (.slice F5 f.entries.length f5)).setCell ⟨gF, 6, none⟩ (.slice F6 f.runs.length f6)) gF #[.int .i64 f.no, .int .i64 f.kind, .int .i64 f.links, .int .i64 f.size, .string f.target, .slice F5 f.entries.length f5, .slice F6 f.runs.length f6] 51 := BF9.out.sets [.int .i64 f.no, .int .i64 f.kind, .int .i64 f.links, .int .i64 f.size, .string f.target, .slice F5 f.entries.length f5, .slice F6 f.runs.length f6] rfl
    have BTa : BoxU w h9 (((((((w9.setCell ⟨gF, 0, none⟩ (.int .i64 f.no)).setCell ⟨gF, 1, none⟩ (.int .i64 f.kind)).setCell ⟨gF, 2, none⟩ (.int .i64 f.links)).setCell ⟨gF, 3, none⟩ (.int .i64 f.size)).setCell ⟨gF, 4, none⟩ (.string f.target)).setCell ⟨gF, 5, none⟩ (.slice F5 f.entries.length f5)).setCell ⟨gF, 6, none⟩ (.slice F6 f.runs.length f6)) gT #[.int .i64 0, .int .i64 0, .int .i64 0, .int .i64 0, .string ⟨#[]⟩, .slice none 0 0, .slice none 0 0] 51 := BT9.out.other hTF1 0 [.int .i64 f.no, .int .i64 f.kind, .int .i64 f.links, .int .i64 f.size, .string f.target, .slice F5 f.entries.length f5, .slice F6 f.runs.length f6]
    have Ea : Ext h w h9 (((((((w9.setCell ⟨gF, 0, none⟩ (.int .i64 f.no)).setCell ⟨gF, 1, none⟩ (.int .i64 f.kind)).setCell ⟨gF, 2, none⟩ (.int .i64 f.links)).setCell ⟨gF, 3, none⟩ (.int .i64 f.size)).setCell ⟨gF, 4, none⟩ (.string f.target)).setCell ⟨gF, 5, none⟩ (.slice F5 f.entries.length f5)).setCell ⟨gF, 6, none⟩ (.slice F6 f.runs.length f6)) := BF9.out.wr E9.out 0 [.int .i64 f.no, .int .i64 f.kind, .int .i64 f.links, .int .i64 f.size, .string f.target, .slice F5 f.entries.length f5, .slice F6 f.runs.length f6]
    have BFb : BoxU w h9 ((((((((((((((w9.setCell ⟨gF, 0, none⟩ (.int .i64 f.no)).setCell ⟨gF, 1, none⟩ (.int .i64 f.kind)).setCell ⟨gF, 2, none⟩ (.int .i64 f.links)).setCell ⟨gF, 3, none⟩ (.int .i64 f.size)).setCell ⟨gF, 4, none⟩ (.string f.target)).setCell ⟨gF, 5, none⟩ (.slice F5 f.entries.length f5)).setCell ⟨gF, 6, none⟩ (.slice F6 f.runs.length f6)).setCell ⟨gT, 0, none⟩ (.int .i64 y.no)).setCell ⟨gT, 1, none⟩ (.int .i64 y.kind)).setCell ⟨gT, 2, none⟩ (.int .i64 y.links)).setCell ⟨gT, 3, none⟩ (.int .i64 y.size)).setCell ⟨gT, 4, none⟩ (.string y.target)).setCell ⟨gT, 5, none⟩ (.slice C5 y.entries.length k5)).setCell ⟨gT, 6, none⟩ (.slice C6 y.runs.length k6)) gF #[.int .i64 f.no, .int .i64 f.kind, .int .i64 f.links, .int .i64 f.size, .string f.target, .slice F5 f.entries.length f5, .slice F6 f.runs.length f6] 51 := BFa.other hFT1 0 [.int .i64 y.no, .int .i64 y.kind, .int .i64 y.links, .int .i64 y.size, .string y.target, .slice C5 y.entries.length k5, .slice C6 y.runs.length k6]
    have BTb : BoxU w h9 ((((((((((((((w9.setCell ⟨gF, 0, none⟩ (.int .i64 f.no)).setCell ⟨gF, 1, none⟩ (.int .i64 f.kind)).setCell ⟨gF, 2, none⟩ (.int .i64 f.links)).setCell ⟨gF, 3, none⟩ (.int .i64 f.size)).setCell ⟨gF, 4, none⟩ (.string f.target)).setCell ⟨gF, 5, none⟩ (.slice F5 f.entries.length f5)).setCell ⟨gF, 6, none⟩ (.slice F6 f.runs.length f6)).setCell ⟨gT, 0, none⟩ (.int .i64 y.no)).setCell ⟨gT, 1, none⟩ (.int .i64 y.kind)).setCell ⟨gT, 2, none⟩ (.int .i64 y.links)).setCell ⟨gT, 3, none⟩ (.int .i64 y.size)).setCell ⟨gT, 4, none⟩ (.string y.target)).setCell ⟨gT, 5, none⟩ (.slice C5 y.entries.length k5)).setCell ⟨gT, 6, none⟩ (.slice C6 y.runs.length k6)) gT #[.int .i64 y.no, .int .i64 y.kind, .int .i64 y.links, .int .i64 y.size, .string y.target, .slice C5 y.entries.length k5, .slice C6 y.runs.length k6] 51 := BTa.sets [.int .i64 y.no, .int .i64 y.kind, .int .i64 y.links, .int .i64 y.size, .string y.target, .slice C5 y.entries.length k5, .slice C6 y.runs.length k6] rfl
    have Eb : Ext h w h9 ((((((((((((((w9.setCell ⟨gF, 0, none⟩ (.int .i64 f.no)).setCell ⟨gF, 1, none⟩ (.int .i64 f.kind)).setCell ⟨gF, 2, none⟩ (.int .i64 f.links)).setCell ⟨gF, 3, none⟩ (.int .i64 f.size)).setCell ⟨gF, 4, none⟩ (.string f.target)).setCell ⟨gF, 5, none⟩ (.slice F5 f.entries.length f5)).setCell ⟨gF, 6, none⟩ (.slice F6 f.runs.length f6)).setCell ⟨gT, 0, none⟩ (.int .i64 y.no)).setCell ⟨gT, 1, none⟩ (.int .i64 y.kind)).setCell ⟨gT, 2, none⟩ (.int .i64 y.links)).setCell ⟨gT, 3, none⟩ (.int .i64 y.size)).setCell ⟨gT, 4, none⟩ (.string y.target)).setCell ⟨gT, 5, none⟩ (.slice C5 y.entries.length k5)).setCell ⟨gT, 6, none⟩ (.slice C6 y.runs.length k6)) := BTa.wr Ea 0 [.int .i64 y.no, .int .i64 y.kind, .int .i64 y.links, .int .i64 y.size, .string y.target, .slice C5 y.entries.length k5, .slice C6 y.runs.length k6]
    have BFz := BFb.drew
    have BTz := BTb.drew
    have Ez := Eb.drew
    clear BFa BTa Ea BFb BTb Eb
    clear x0 y0 u0 v0 fa0 fb0 x1 y1 u1 v1 fa1 fb1 x2 y2 u2 v2 fa2 fb2 x3 y3 u3 v3 fa3 fb3 x4 y4 u4 v4 fa4 fb4 x5 y5 u5 v5 fa5 fb5 x6 y6 u6 v6 fa6 fb6
    with_reducible generalize World.drew ((((((((((((((w9.setCell ⟨gF, 0, none⟩ (.int .i64 f.no)).setCell ⟨gF, 1, none⟩ (.int .i64 f.kind)).setCell ⟨gF, 2, none⟩ (.int .i64 f.links)).setCell ⟨gF, 3, none⟩ (.int .i64 f.size)).setCell ⟨gF, 4, none⟩ (.string f.target)).setCell ⟨gF, 5, none⟩ (.slice F5 f.entries.length f5)).setCell ⟨gF, 6, none⟩ (.slice F6 f.runs.length f6)).setCell ⟨gT, 0, none⟩ (.int .i64 y.no)).setCell ⟨gT, 1, none⟩ (.int .i64 y.kind)).setCell ⟨gT, 2, none⟩ (.int .i64 y.links)).setCell ⟨gT, 3, none⟩ (.int .i64 y.size)).setCell ⟨gT, 4, none⟩ (.string y.target)).setCell ⟨gT, 5, none⟩ (.slice C5 y.entries.length k5)).setCell ⟨gT, 6, none⟩ (.slice C6 y.runs.length k6)) = Wz at BFz BTz Ez ⊢
    go_wp2_with fail
    refine bodyPost_ret (v := .tuple #[.agg #[.int .i64 f.no, .int .i64 f.kind, .int .i64 f.links, .int .i64 f.size, .string f.target, .slice F5 f.entries.length f5, .slice F6 f.runs.length f6], .agg #[.int .i64 y.no, .int .i64 y.kind, .int .i64 y.links, .int .i64 y.size, .string y.target, .slice C5 y.entries.length k5, .slice C6 y.runs.length k6], .int .i64 ac]) (results_2cell_tmp (p := 4) (r := 5) (q := 6) (ty := 51) (by kernel_rfl) _ _ gF gT 51 #[.int .i64 f.no, .int .i64 f.kind, .int .i64 f.links, .int .i64 f.size, .string f.target, .slice F5 f.entries.length f5, .slice F6 f.runs.length f6] #[.int .i64 y.no, .int .i64 y.kind, .int .i64 y.links, .int .i64 y.size, .string y.target, .slice C5 y.entries.length k5, .slice C6 y.runs.length k6] (0, 0) (0, 0) _ _ (by simp) (by simp) (by simp) BFz.row BTz.row Tryd.underlying51 rfl (by kernel_rfl) (by kernel_rfl)) rfl ?_
    rw [HM.out]
    exact ⟨[.int .i64 f.no, .int .i64 f.kind, .int .i64 f.links, .int .i64 f.size, .string f.target, .slice F5 f.entries.length f5, .slice F6 f.runs.length f6], [.int .i64 y.no, .int .i64 y.kind, .int .i64 y.links, .int .i64 y.size, .string y.target, .slice C5 y.entries.length k5, .slice C6 y.runs.length k6], h9, rfl, rf9.out, ry9.out, Ez⟩
end Go.Proofs.YtdiaibkpcnknbaaDoor
