import Derived.Test.YtmljcjjhakhjaaaDoorTrA
import Derived.Test.YtmljcjjhakhjaaaDoorBx2
import Derived.Test.YtmljcjjhakhjaaaDoorPkN
namespace Go.Proofs.YtmljcjjhakhjaaaDoor
open Go.RowKit Go.Sort
set_option linter.unusedVariables false
/-! ### package tree: find, there, fresh -/
structure Spot where
  dir : Inode
  name : ByteArray
  x : Inode
  is : Bool
def zeroSpot : Spot := ⟨zeroI, ⟨#[]⟩, zeroI, false⟩
/-- A spot, in the memory. -/
def repSpot (h : FH) (cs : List Value) (p : Spot) : Prop := ∃ dl xl, cs = spotL dl p.name xl p.is ∧ repInode h dl p.dir ∧ repInode h xl p.x ∧ p.name.size ≤ 9223372036854775807
theorem repSpot.mono {h h' : FH} {cs : List Value} {p : Spot} (l : FLe h h') (r : repSpot h cs p) : repSpot h' cs p := by
  obtain ⟨dl, xl, e, r1, r2, r3⟩ := r
  exact ⟨dl, xl, e, r1.mono l, r2.mono l, r3⟩
theorem repSpot.len {h : FH} {cs : List Value} {p : Spot} (r : repSpot h cs p) : cs.length = 16 := by
  obtain ⟨dl, xl, rfl, r1, r2, r3⟩ := r
  exact spotL_len r1.len r2.len _ _
theorem repSpot.one {h : FH} {cs : List Value} {p : Spot} (r : repSpot h cs p) : ∀ u ∈ cs, u.oneCell' = true := by
  obtain ⟨dl, xl, rfl, r1, r2, r3⟩ := r
  exact spotL_one r1.one r2.one _ _
theorem info_Spot {cs : List Value} (h : cs.length = 16) : (Tryd.prog.info? 61).map (·.size) = some cs.toArray.size := by rw [List.size_toArray, h]; kernel_rfl
/-- Where a way's last name stands. -/
def RetSpot (h : FH) (w : World) (p : Spot) (code : Int) (e : Ending) (w' : World) : Prop := ∃ cs h1, e = .returned (.tuple #[.agg cs.toArray, .int .i64 code]) ∧ repSpot h1 cs p ∧ Ext h w h1 w'
def atS (xs : List Inode) (no : Int) (name : ByteArray) : Spot :=
  match findE ((findI xs no).getD zeroI).entries name with
  | none => ⟨(findI xs no).getD zeroI, name, zeroI, false⟩
  | some to_ => ⟨(findI xs no).getD zeroI, name, (findI xs to_).getD zeroI, (findI xs to_).isSome⟩
def findS (xs : List Inode) (path : ByteArray) : Spot × Int :=
  if (parentP xs path).2.2 ≠ 0 then (zeroSpot, (parentP xs path).2.2) else (atS xs (parentP xs path).1 (parentP xs path).2.1, 0)
theorem zeroSpot_rep (h : FH) : repSpot h (spotL zeroL ⟨#[]⟩ zeroL false) zeroSpot := ⟨zeroL, zeroL, rfl, zeroL_rep h, zeroL_rep h, Nat.zero_le _⟩

set_option maxHeartbeats 16000000 in
set_option maxRecDepth 100000 in
theorem tree_find (s : State) (cs : List Value) (path : ByteArray) (hsz : path.size ≤ 9223372036854775807) (hfit : ∀ x ∈ s.inodes, fitI x) (p : Spot) (code : Int) (hp : findS s.inodes path = (p, code)) (h : FH) (w : World) (hs : Sits h w) (rS : repState h cs s) :
    Calls Tryd.prog 39 #[.agg cs.toArray, .string path] w fun e w' => RetSpot h w p code e w' := by
  have RS := hid rS
  have HFIT := hid hfit
  clear rS hfit
  obtain ⟨h1, E1, hb1, le1, hh1⟩ := (Ext.refl hs).boxF cs.toArray 26
  have BR := BoxU.new E1 #[.int .i64 0, .int .i64 0, .int .i64 0, .int .i64 0, .string ⟨#[]⟩, .slice none 0 0, .slice none 0 0, .string ⟨#[]⟩, .int .i64 0, .int .i64 0, .int .i64 0, .int .i64 0, .string ⟨#[]⟩, .slice none 0 0, .slice none 0 0, .bool false] 61
  have E2 := E1.alloc (.cells #[.int .i64 0, .int .i64 0, .int .i64 0, .int .i64 0, .string ⟨#[]⟩, .slice none 0 0, .slice none 0 0, .string ⟨#[]⟩, .int .i64 0, .int .i64 0, .int .i64 0, .int .i64 0, .string ⟨#[]⟩, .slice none 0 0, .slice none 0 0, .bool false] 61)
  have hszR : (w.alloc (.cells cs.toArray 26)).heap.size = w.heap.size + 1 := by simp
  rw [hszR] at BR
  clear hh1 E1
  obtain ⟨par, hpar⟩ : ∃ par, parentP s.inodes path = par := ⟨_, rfl⟩
  obtain ⟨no, name, code1⟩ := par
  have HPA := hid (show (if code1 ≠ 0 then (zeroSpot, code1) else (atS s.inodes no name, 0)) = (p, code) by rw [← hp]; unfold findS; rw [hpar])
  have HPAR := hid hpar
  clear hpar hp
  go_enter Tryd.func39, Tryd.ntmps39
  go_upto_region 1 with (fail)
  obtain ⟨gx, hgx⟩ : ∃ gx, gx = w.heap.size := ⟨_, rfl⟩
  obtain ⟨gR, hgR⟩ : ∃ gR, gR = w.heap.size + 1 := ⟨_, rfl⟩
  rw [← hgx] at hb1
  rw [← hgR] at BR
  rw [← hgR, ← hgx]
  with_reducible generalize (w.alloc (.cells cs.toArray 26)).alloc (.cells #[.int .i64 0, .int .i64 0, .int .i64 0, .int .i64 0, .string ⟨#[]⟩, .slice none 0 0, .slice none 0 0, .string ⟨#[]⟩, .int .i64 0, .int .i64 0, .int .i64 0, .int .i64 0, .string ⟨#[]⟩, .slice none 0 0, .slice none 0 0, .bool false] 61) = W2 at E2 BR ⊢
  clear hgx hgR hszR
  have E2 := hid E2
  have BR := hid BR
  have hb1 := hid hb1
  have le1 := hid le1
  have KP := hid (show Calls Tryd.prog 64 #[.agg cs.toArray, .string path] W2 fun e w' => e = .returned (.tuple #[.int .i64 no, .string name, .int .i64 code1]) ∧ Ext h1 W2 h1 w' ∧ name.size ≤ 9223372036854775807 from path_Parent s _ path hsz _ HPAR.out h1 W2 E2.out.sits (repState.mono le1.out RS.out))
  go_upto_region 2 with (first | (refine wpList_load_row rfl 26 _ rfl gx rfl 26 cs.toArray (0, 0) _ (E2.out.sits _ _ hb1.out) Tryd.underlying26 rfl (info_State RS.out.len) ?_) | (go_at_call 64; refine KP.out.mono ?_; rintro e w3 ⟨rfl, F3, hnz⟩; have E3 := hid (E2.out.trans F3); have BR3 := hid (BR.out.ext F3); clear F3))
  by_cases hc : code1 = 0
  · subst hc
    have HPP := hid (show p = atS s.inodes no name ∧ code = 0 by have q := HPA.out; rw [if_neg (by simp)] at q; exact ⟨(congrArg Prod.fst q).symm, (congrArg Prod.snd q).symm⟩)
    have HNZ := hid hnz
    clear hnz
    go_upto_region 5 with (fail)
    have BP4 := BoxU.new E3.out #[.int .i64 0, .int .i64 0, .int .i64 0, .int .i64 0, .string ⟨#[]⟩, .slice none 0 0, .slice none 0 0, .string name, .int .i64 0, .int .i64 0, .int .i64 0, .int .i64 0, .string ⟨#[]⟩, .slice none 0 0, .slice none 0 0, .bool false] 61
    have E4 := E3.out.alloc (.cells #[.int .i64 0, .int .i64 0, .int .i64 0, .int .i64 0, .string ⟨#[]⟩, .slice none 0 0, .slice none 0 0, .string name, .int .i64 0, .int .i64 0, .int .i64 0, .int .i64 0, .string ⟨#[]⟩, .slice none 0 0, .slice none 0 0, .bool false] 61)
    have BR4 := BR3.out.alloc (.cells #[.int .i64 0, .int .i64 0, .int .i64 0, .int .i64 0, .string ⟨#[]⟩, .slice none 0 0, .slice none 0 0, .string name, .int .i64 0, .int .i64 0, .int .i64 0, .int .i64 0, .string ⟨#[]⟩, .slice none 0 0, .slice none 0 0, .bool false] 61)
    have hne4 := hid (Nat.ne_of_lt BR3.out.lt)
    with_reducible generalize (w3.alloc (.cells #[.int .i64 0, .int .i64 0, .int .i64 0, .int .i64 0, .string ⟨#[]⟩, .slice none 0 0, .slice none 0 0, .string name, .int .i64 0, .int .i64 0, .int .i64 0, .int .i64 0, .string ⟨#[]⟩, .slice none 0 0, .slice none 0 0, .bool false] 61)) = W4 at BP4 E4 BR4 ⊢
    have BP4 := hid BP4
    have E4 := hid E4
    have BR4 := hid BR4
    generalize w3.heap.size = gp at *
    have BP4 := hid (show BoxU w h1 W4 gp (spotL zeroL name zeroL false).toArray 61 from BP4.out)
    clear BR3 E3
    obtain ⟨v1, hv1⟩ : ∃ v, findI s.inodes no = v := ⟨_, rfl⟩
    obtain ⟨d, hd⟩ : ∃ d, v1.getD zeroI = d := ⟨_, rfl⟩
    have HAT := hid (show p = (match findE d.entries name with | none => ⟨d, name, zeroI, false⟩ | some to_ => ⟨d, name, (findI s.inodes to_).getD zeroI, (findI s.inodes to_).isSome⟩) by rw [HPP.out.1]; unfold atS; rw [hv1, hd])
    have KF := hid (state_Find s _ no HFIT.out v1 hv1 h1 W4 E4.out.sits (repState.mono le1.out RS.out))
    have HD := hid hd
    clear hv1 hd
    go_upto_region 6 with (first | (refine wpList_load_row rfl 26 _ rfl gx rfl 26 cs.toArray (0, 0) _ (E4.out.sits _ _ hb1.out) Tryd.underlying26 rfl (info_State RS.out.len) ?_) | (go_at_call 35; refine KF.out.mono ?_; rintro e w5 ⟨dl, h5, rfl, r5, F5⟩; rw [HD.out] at r5; have E5 := hid (E4.out.trans F5); have BP5 := hid (BP4.out.ext F5); have BR5 := hid (BR4.out.ext F5); have le5 := hid F5.le; have r5 := hid r5; have hth5 : 0 + dl.toArray.size ≤ (spotL zeroL name zeroL false).toArray.size := (by rw [List.size_toArray, List.size_toArray, r5.out.len, spotL_len rfl rfl]; decide); clear F5) | (refine wpList_store_mid rfl 39 _ _ rfl gp 0 dl.toArray rfl rfl (BP5.out.there_ 0 _ hth5) (info_Inode r5.out.len) (one_arr r5.out.one) ?_))
    have BP6 := (BP5.out.part 0 dl (by rw [List.size_toArray, r5.out.len, spotL_len rfl rfl]; decide))
    rw [spotL_setDir rfl r5.out.len] at BP6
    have E6 := BP5.out.wr E5.out 0 dl
    have BR6 := BR5.out.other hne4.out 0 dl
    try rw [List.toList_toArray]
    with_reducible generalize w5.setCells gp 0 dl = W6 at BP6 E6 BR6 ⊢
    have BP6 := hid BP6
    have E6 := hid E6
    have BR6 := hid BR6
    clear BP5 BR5 E5 hth5
    obtain ⟨A5, c5, at5, k5, row5⟩ := r5.out.at5
    obtain ⟨v2, hv2⟩ : ∃ v, findE d.entries name = v := ⟨_, rfl⟩
    have KE := hid (entries_Find d.entries A5 c5 name HNZ.out v2 hv2 h5 W6 E6.out.sits row5)
    rw [hv2] at HAT
    have m5 := BP6.out.cell (spotL_dir (xl := zeroL) (name := name) (is := false) 5 _ at5)
    clear hv2 k5 row5 at5
    go_upto_region 7 with (go_at_call 48; refine KE.out.mono ?_; rintro e w7 ⟨rfl, F7⟩; have E7 := hid (E6.out.trans F7); have BP7 := hid (BP6.out.ext F7); have BR7 := hid (BR6.out.ext F7); clear F7 m5)
    cases v2 with
    | none =>
      dsimp only [Option.isSome_none, Option.getD_none] at *
      have RP7 := hid (show repSpot h5 (spotL dl name zeroL false) ⟨d, name, zeroI, false⟩ from ⟨dl, zeroL, rfl, r5.out, zeroL_rep _, HNZ.out⟩)
      have hinf := info_Spot (cs := spotL dl name zeroL false) RP7.out.len
      have hone := one_arr RP7.out.one
      have hsz16 : (#[.int .i64 0, .int .i64 0, .int .i64 0, .int .i64 0, .string ⟨#[]⟩, .slice none 0 0, .slice none 0 0, .string ⟨#[]⟩, .int .i64 0, .int .i64 0, .int .i64 0, .int .i64 0, .string ⟨#[]⟩, .slice none 0 0, .slice none 0 0, .bool false] : Array Value).size = (spotL dl name zeroL false).toArray.size := by refine Eq.trans (b := 16) rfl ?_; rw [List.size_toArray, RP7.out.len]
      go_wp2_with (first | (refine wpList_load_row rfl 61 _ rfl gp rfl 61 (spotL dl name zeroL false).toArray (0, 0) _ BP7.out.row Tryd.underlying61 rfl hinf ?_) | (refine wpList_store_row rfl 61 _ _ rfl gR (spotL dl name zeroL false).toArray rfl rfl 61 #[.int .i64 0, .int .i64 0, .int .i64 0, .int .i64 0, .string ⟨#[]⟩, .slice none 0 0, .slice none 0 0, .string ⟨#[]⟩, .int .i64 0, .int .i64 0, .int .i64 0, .int .i64 0, .string ⟨#[]⟩, .slice none 0 0, .slice none 0 0, .bool false] BR7.out.row hinf hsz16 hone ?_))
      have BRz := BR7.out.setRow (spotL dl name zeroL false).toArray
      have Ez := BR7.out.wrRow E7.out (spotL dl name zeroL false).toArray
      refine bodyPost_ret (v := .tuple #[.agg (spotL dl name zeroL false).toArray, .int .i64 0]) (results_cell_tmp (p := 4) (q := 5) (ty := 61) (by kernel_rfl) _ _ gR 61 (spotL dl name zeroL false).toArray (0, 0) _ _ (by simp) (by simp) BRz.row Tryd.underlying61 rfl hinf) rfl ?_
      rw [HAT.out, HPP.out.2]
      exact ⟨_, h5, rfl, RP7.out, Ez⟩
    | some to_ =>
      dsimp only [Option.isSome_some, Option.getD_some] at *
      obtain ⟨v3, hv3⟩ : ∃ v, findI s.inodes to_ = v := ⟨_, rfl⟩
      obtain ⟨x, hx⟩ : ∃ x, v3.getD zeroI = x := ⟨_, rfl⟩
      have HAX := hid (show p = ⟨d, name, x, v3.isSome⟩ by rw [HAT.out, hv3, hx])
      have KF3 := hid (state_Find s _ to_ HFIT.out v3 hv3 h5 w7 E7.out.sits (repState.mono (le1.out.trans le5.out) RS.out))
      have HX := hid hx
      clear hv3 hx
      go_upto_region 9 with (first | (refine wpList_load_row rfl 26 _ rfl gx rfl 26 cs.toArray (0, 0) _ (E7.out.sits _ _ (le5.out _ _ hb1.out)) Tryd.underlying26 rfl (info_State RS.out.len) ?_) | (go_at_call 35; refine KF3.out.mono ?_; rintro e w8 ⟨xl, h8, rfl, r8, F8⟩; rw [HX.out] at r8; have E8 := hid (E7.out.trans F8); have BP8 := hid (BP7.out.ext F8); have BR8 := hid (BR7.out.ext F8); have le8 := hid F8.le; have r8 := hid r8; have hth8 : 8 + xl.toArray.size ≤ (spotL dl name zeroL false).toArray.size := (by rw [List.size_toArray, List.size_toArray, r8.out.len, spotL_len r5.out.len rfl]; decide); have BP8a := BP8.out.part 8 xl (by rw [List.size_toArray, r8.out.len, spotL_len r5.out.len rfl]; decide); (rw [spotL_setX r5.out.len rfl r8.out.len] at BP8a); have m15 := BP8a.cell (spotL_is r5.out.len r8.out.len); have f15 := BP8a.open_ 15; have BP8a := hid BP8a; clear F8) | (refine wpList_store_mid rfl 39 _ _ rfl gp 8 xl.toArray rfl rfl (BP8.out.there_ 8 _ hth8) (info_Inode r8.out.len) (one_arr r8.out.one) ?_))
      have BP9 := hid (show BoxU w h8 _ gp (spotL dl name xl v3.isSome).toArray 61 from (spotL_setIs (name := name) (is := false) (b := v3.isSome) r5.out.len r8.out.len) ▸ (⟨box_set (i := 15) BP8a.out.row (.bool v3.isSome), BP8a.out.free, BP8a.out.base⟩ : BoxU w h8 _ gp _ 61))
      have E9 := hid ((BP8.out.wr E8.out 8 xl).setCell (p := ⟨gp, 15, none⟩) BP8.out.base BP8.out.free (.bool v3.isSome))
      have BR9 := hid ((BR8.out.other hne4.out 8 xl).other hne4.out 15 [.bool v3.isSome])
      have RP9 := hid (show repSpot h8 (spotL dl name xl v3.isSome) ⟨d, name, x, v3.isSome⟩ from ⟨dl, xl, rfl, r5.out.mono le8.out, r8.out, HNZ.out⟩)
      have e9 : (w8.setCells gp 8 xl).setCells gp 15 [.bool v3.isSome] = (w8.setCells gp 8 xl).setCell ⟨gp, 15, none⟩ (.bool v3.isSome) := rfl
      rw [e9] at BR9
      try rw [List.toList_toArray]
      with_reducible generalize (w8.setCells gp 8 xl).setCell ⟨gp, 15, none⟩ (.bool v3.isSome) = W9 at BP9 E9 BR9 ⊢
      clear BP8 BR8 E8 BP8a m15 f15 hth8 e9
      have hinf := info_Spot (cs := spotL dl name xl v3.isSome) RP9.out.len
      have hone := one_arr RP9.out.one
      have hsz16 : (#[.int .i64 0, .int .i64 0, .int .i64 0, .int .i64 0, .string ⟨#[]⟩, .slice none 0 0, .slice none 0 0, .string ⟨#[]⟩, .int .i64 0, .int .i64 0, .int .i64 0, .int .i64 0, .string ⟨#[]⟩, .slice none 0 0, .slice none 0 0, .bool false] : Array Value).size = (spotL dl name xl v3.isSome).toArray.size := by refine Eq.trans (b := 16) rfl ?_; rw [List.size_toArray, RP9.out.len]
      go_wp2_with (first | (refine wpList_load_row rfl 61 _ rfl gp rfl 61 (spotL dl name xl v3.isSome).toArray (0, 0) _ BP9.out.row Tryd.underlying61 rfl hinf ?_) | (refine wpList_store_row rfl 61 _ _ rfl gR (spotL dl name xl v3.isSome).toArray rfl rfl 61 #[.int .i64 0, .int .i64 0, .int .i64 0, .int .i64 0, .string ⟨#[]⟩, .slice none 0 0, .slice none 0 0, .string ⟨#[]⟩, .int .i64 0, .int .i64 0, .int .i64 0, .int .i64 0, .string ⟨#[]⟩, .slice none 0 0, .slice none 0 0, .bool false] BR9.out.row hinf hsz16 hone ?_))
      have BRz := BR9.out.setRow (spotL dl name xl v3.isSome).toArray
      have Ez := BR9.out.wrRow E9.out (spotL dl name xl v3.isSome).toArray
      refine bodyPost_ret (v := .tuple #[.agg (spotL dl name xl v3.isSome).toArray, .int .i64 0]) (results_cell_tmp (p := 4) (q := 5) (ty := 61) (by kernel_rfl) _ _ gR 61 (spotL dl name xl v3.isSome).toArray (0, 0) _ _ (by simp) (by simp) BRz.row Tryd.underlying61 rfl hinf) rfl ?_
      rw [HAX.out, HPP.out.2]
      exact ⟨_, h8, rfl, RP9.out, Ez⟩
  · have hb : (code1 == 0) = false := by simpa using hc
    have hb2 : (code1 != 0) = true := by simpa using hc
    have HPP := hid (show p = zeroSpot ∧ code = code1 by have q := HPA.out; rw [if_pos hc] at q; exact ⟨(congrArg Prod.fst q).symm, (congrArg Prod.snd q).symm⟩)
    clear hc
    have hinf := info_Spot (cs := spotL zeroL ⟨#[]⟩ zeroL false) (zeroSpot_rep h1).len
    have hone := one_arr (zeroSpot_rep h1).one
    go_wp2_with (refine wpList_store_row rfl 61 _ _ rfl gR (spotL zeroL ⟨#[]⟩ zeroL false).toArray rfl rfl 61 #[.int .i64 0, .int .i64 0, .int .i64 0, .int .i64 0, .string ⟨#[]⟩, .slice none 0 0, .slice none 0 0, .string ⟨#[]⟩, .int .i64 0, .int .i64 0, .int .i64 0, .int .i64 0, .string ⟨#[]⟩, .slice none 0 0, .slice none 0 0, .bool false] BR3.out.row hinf rfl hone ?_)
    have BRz := BR3.out.setRow (spotL zeroL ⟨#[]⟩ zeroL false).toArray
    have Ez := BR3.out.wrRow E3.out (spotL zeroL ⟨#[]⟩ zeroL false).toArray
    refine bodyPost_ret (v := .tuple #[.agg (spotL zeroL ⟨#[]⟩ zeroL false).toArray, .int .i64 code1]) (results_cell_tmp (p := 4) (q := 5) (ty := 61) (by kernel_rfl) _ _ gR 61 (spotL zeroL ⟨#[]⟩ zeroL false).toArray (0, 0) _ _ (by simp) (by simp) BRz.row Tryd.underlying61 rfl hinf) rfl ?_
    rw [HPP.out.1, HPP.out.2]
    exact ⟨_, h1, rfl, zeroSpot_rep _, Ez⟩
end Go.Proofs.YtmljcjjhakhjaaaDoor
