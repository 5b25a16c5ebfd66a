import Derived.Test.YtmljcjjhakhjaaaDoorTrF
namespace Go.Proofs.YtmljcjjhakhjaaaDoor
open Go.RowKit Go.Sort
set_option linter.unusedVariables false
theorem repSpot.dir {h : FH} {cs : List Value} {p : Spot} (r : repSpot h cs p) : ∃ dl : List Value, repInode h dl p.dir ∧ ∀ (j : Nat) (v : Value), dl[j]? = some v → cs.toArray[j]? = some v := by
  obtain ⟨dl, xl, rfl, r1, r2, r3⟩ := r
  exact ⟨dl, r1, spotL_dir⟩
theorem repSpot.xx {h : FH} {cs : List Value} {p : Spot} (r : repSpot h cs p) : ∃ xl : List Value, repInode h xl p.x ∧ ∀ (j : Nat) (v : Value), xl[j]? = some v → cs.toArray[8 + j]? = some v := by
  obtain ⟨dl, xl, rfl, r1, r2, r3⟩ := r
  exact ⟨xl, r2, spotL_x r1.len⟩
theorem repSpot.nm {h : FH} {cs : List Value} {p : Spot} (r : repSpot h cs p) : cs.toArray[7]? = some (.string p.name) ∧ p.name.size ≤ 9223372036854775807 := by
  obtain ⟨dl, xl, rfl, r1, r2, r3⟩ := r
  exact ⟨spotL_name r1.len, r3⟩
theorem repSpot.iss {h : FH} {cs : List Value} {p : Spot} (r : repSpot h cs p) : cs.toArray[15]? = some (.bool p.is) := by
  obtain ⟨dl, xl, rfl, r1, r2, r3⟩ := r
  exact spotL_is r1.len r2.len
theorem zs_size {h : FH} {cs : List Value} {p : Spot} (r : repSpot h cs p) : (#[.int .i64 0, .int .i64 0, .int .i64 0, .int .i64 0, .string ⟨#[]⟩, .slice none 0 0, .slice none 0 0, .string ⟨#[]⟩, .int .i64 0, .int .i64 0, .int .i64 0, .int .i64 0, .string ⟨#[]⟩, .slice none 0 0, .slice none 0 0, .bool false] : Array Value).size = cs.toArray.size := by refine Eq.trans (b := 16) rfl ?_; rw [List.size_toArray, r.len]
/-- put, without, letGo: their cells behind letters. -/
theorem putL_rep {h : FH} {cs : List Value} {x : Inode} (r : repInode h cs x) : repDeed h (.int .i64 2 :: .int .i64 0 :: cs) ⟨2, 0, x⟩ := by
  obtain ⟨A5, c5, A6, c6, rfl, s⟩ := r
  exact ⟨A5, c5, A6, c6, rfl, s⟩
theorem tree_putL {h : FH} {cs : List Value} {x : Inode} (r : repInode h cs x) (w : World) (hs : Sits h w) :
    Calls Tryd.prog 24 #[.agg cs.toArray] w fun e w' => e = .returned (.agg (Value.int .i64 2 :: Value.int .i64 0 :: cs).toArray) ∧ Ext h w h w' := by
  obtain ⟨A5, c5, A6, c6, rfl, s⟩ := r
  exact tree_put x A5 c5 A6 c6 h w hs
theorem tree_withoutL {h : FH} {cs : List Value} {d : Inode} (r : repInode h cs d) (hbig : d.entries.length ≤ 1000) (name : ByteArray) (hsz : name.size ≤ 9223372036854775807) (w : World) (hs : Sits h w) :
    Calls Tryd.prog 37 #[.agg cs.toArray, .string name] w fun e w' => ∃ cs' h1, e = .returned (.agg cs'.toArray) ∧ repInode h1 cs' (withoutP d name) ∧ Ext h w h1 w' := by
  have r' := r
  obtain ⟨A5, c5, A6, c6, rfl, s⟩ := r'
  refine (tree_without d A5 c5 A6 c6 hbig name hsz h w hs r).mono ?_
  rintro e w' ⟨B5, b5, B6, b6, h1, rfl, r1, E⟩
  exact ⟨_, h1, rfl, r1, E⟩
def thereS (xs : List Inode) (path : ByteArray) : Spot × Int := if (findS xs path).2 = 0 ∧ (findS xs path).1.is = false then ((findS xs path).1, 11) else findS xs path
def freshS (xs : List Inode) (path : ByteArray) : Spot × Int := if (findS xs path).2 ≠ 0 then findS xs path else if (findE (findS xs path).1.dir.entries (findS xs path).1.name).isSome = true then ((findS xs path).1, 12) else ((findS xs path).1, 0)

set_option maxHeartbeats 16000000 in
set_option maxRecDepth 100000 in
theorem tree_there (s : State) (cs : List Value) (path : ByteArray) (hsz : path.size ≤ 9223372036854775807) (hfit : ∀ x ∈ s.inodes, fitI x) (p' : Spot) (code' : Int) (hp' : thereS s.inodes path = (p', code')) (h : FH) (w : World) (hs : Sits h w) (rS : repState h cs s) :
    Calls Tryd.prog 36 #[.agg cs.toArray, .string path] w fun e w' => RetSpot h w p' code' e w' := by
  have RS := hid rS
  have HFIT := hid hfit
  clear rS hfit
  obtain ⟨h1, E1, hb1, le1, hh1⟩ := (Ext.refl hs).boxF cs.toArray 26
  have BR := BoxU.new E1 #[.int .i64 0, .int .i64 0, .int .i64 0, .int .i64 0, .string ⟨#[]⟩, .slice none 0 0, .slice none 0 0, .string ⟨#[]⟩, .int .i64 0, .int .i64 0, .int .i64 0, .int .i64 0, .string ⟨#[]⟩, .slice none 0 0, .slice none 0 0, .bool false] 61
  have E2 := E1.alloc (.cells #[.int .i64 0, .int .i64 0, .int .i64 0, .int .i64 0, .string ⟨#[]⟩, .slice none 0 0, .slice none 0 0, .string ⟨#[]⟩, .int .i64 0, .int .i64 0, .int .i64 0, .int .i64 0, .string ⟨#[]⟩, .slice none 0 0, .slice none 0 0, .bool false] 61)
  have hszR : (w.alloc (.cells cs.toArray 26)).heap.size = w.heap.size + 1 := by simp
  rw [hszR] at BR
  clear hh1 E1
  obtain ⟨⟨p, code⟩, hf⟩ : ∃ fs, findS s.inodes path = fs := ⟨_, rfl⟩
  have HP := hid hf
  rw [thereS, hf] at hp'
  have HT := hid hp'
  clear hf hp'
  go_enter Tryd.func36, Tryd.ntmps36
  go_upto_region 1 with (fail)
  obtain ⟨gx, hgx⟩ : ∃ gx, gx = w.heap.size := ⟨_, rfl⟩
  obtain ⟨gR, hgR⟩ : ∃ gR, gR = w.heap.size + 1 := ⟨_, rfl⟩
  rw [← hgx] at hb1
  rw [← hgR] at BR
  rw [← hgR, ← hgx]
  with_reducible generalize (w.alloc (.cells cs.toArray 26)).alloc (.cells #[.int .i64 0, .int .i64 0, .int .i64 0, .int .i64 0, .string ⟨#[]⟩, .slice none 0 0, .slice none 0 0, .string ⟨#[]⟩, .int .i64 0, .int .i64 0, .int .i64 0, .int .i64 0, .string ⟨#[]⟩, .slice none 0 0, .slice none 0 0, .bool false] 61) = W2 at E2 BR ⊢
  clear hgx hgR hszR
  have E2 := hid E2
  have BR := hid BR
  have hb1 := hid hb1
  have le1 := hid le1
  have KF := hid (tree_find s _ path hsz HFIT.out p code HP.out h1 W2 E2.out.sits (repState.mono le1.out RS.out))
  go_upto_region 2 with (first | (refine wpList_load_row rfl 26 _ rfl gx rfl 26 cs.toArray (0, 0) _ (E2.out.sits _ _ hb1.out) Tryd.underlying26 rfl (info_State RS.out.len) ?_) | (go_at_call 39; refine KF.out.mono ?_; rintro e w3 ⟨pl, h3, rfl, rp, F3⟩; have E3 := hid (E2.out.trans F3); have BR3 := hid (BR.out.ext F3); have rp := hid rp; clear F3) | (refine wpList_store_row rfl 61 _ _ rfl w3.heap.size pl.toArray rfl rfl 61 #[.int .i64 0, .int .i64 0, .int .i64 0, .int .i64 0, .string ⟨#[]⟩, .slice none 0 0, .slice none 0 0, .string ⟨#[]⟩, .int .i64 0, .int .i64 0, .int .i64 0, .int .i64 0, .string ⟨#[]⟩, .slice none 0 0, .slice none 0 0, .bool false] (heap_new w3 _) (info_Spot rp.out.len) (zs_size rp.out) (one_arr rp.out.one) ?_))
  rw [World.setRow_alloc_new]
  have BP4 := BoxU.new E3.out pl.toArray 61
  have E4 := E3.out.alloc (.cells pl.toArray 61)
  have BR4 := BR3.out.alloc (.cells pl.toArray 61)
  have hne4 := hid (Nat.ne_of_lt BR3.out.lt)
  with_reducible generalize (w3.alloc (.cells pl.toArray 61)) = W4 at BP4 E4 BR4 ⊢
  have BP4 := hid BP4
  have E4 := hid E4
  have BR4 := hid BR4
  generalize w3.heap.size = gp at *
  clear BR3 E3
  by_cases hc : code = 0
  · subst hc
    obtain ⟨b, hb⟩ : ∃ b, p.is = b := ⟨_, rfl⟩
    have m15 := BP4.out.cell (rp.out.iss)
    rw [hb] at m15
    have HB := hid hb
    clear hb
    cases b
    · have HQ := hid (show p' = p ∧ code' = 11 by have q := HT.out; rw [if_pos ⟨rfl, HB.out⟩] at q; exact ⟨(congrArg Prod.fst q).symm, (congrArg Prod.snd q).symm⟩)
      go_upto_region 4 with (fail)
      clear m15
      have hinf := info_Spot (cs := pl) rp.out.len
      have hone := one_arr rp.out.one
      have hsz16 := zs_size rp.out
      go_wp2_with (first | (refine wpList_load_row rfl 61 _ rfl gp rfl 61 pl.toArray (0, 0) _ BP4.out.row Tryd.underlying61 rfl hinf ?_) | (refine wpList_store_row rfl 61 _ _ rfl gR pl.toArray rfl rfl 61 #[.int .i64 0, .int .i64 0, .int .i64 0, .int .i64 0, .string ⟨#[]⟩, .slice none 0 0, .slice none 0 0, .string ⟨#[]⟩, .int .i64 0, .int .i64 0, .int .i64 0, .int .i64 0, .string ⟨#[]⟩, .slice none 0 0, .slice none 0 0, .bool false] BR4.out.row hinf hsz16 hone ?_))
      have BRz := BR4.out.setRow pl.toArray
      have Ez := BR4.out.wrRow E4.out pl.toArray
      refine bodyPost_ret (v := .tuple #[.agg pl.toArray, .int .i64 11]) (results_cell_tmp (p := 4) (q := 5) (ty := 61) (by kernel_rfl) _ _ gR 61 pl.toArray (0, 0) _ _ (by simp) (by simp) BRz.row Tryd.underlying61 rfl hinf) rfl ?_
      rw [HQ.out.1, HQ.out.2]
      exact ⟨pl, h3, rfl, rp.out, Ez⟩
    · have HQ := hid (show p' = p ∧ code' = 0 by have q := HT.out; rw [if_neg (by simp [HB.out])] at q; exact ⟨(congrArg Prod.fst q).symm, (congrArg Prod.snd q).symm⟩)
      go_upto_region 4 with (fail)
      clear m15
      have hinf := info_Spot (cs := pl) rp.out.len
      have hone := one_arr rp.out.one
      have hsz16 := zs_size rp.out
      go_wp2_with (first | (refine wpList_load_row rfl 61 _ rfl gp rfl 61 pl.toArray (0, 0) _ BP4.out.row Tryd.underlying61 rfl hinf ?_) | (refine wpList_store_row rfl 61 _ _ rfl gR pl.toArray rfl rfl 61 #[.int .i64 0, .int .i64 0, .int .i64 0, .int .i64 0, .string ⟨#[]⟩, .slice none 0 0, .slice none 0 0, .string ⟨#[]⟩, .int .i64 0, .int .i64 0, .int .i64 0, .int .i64 0, .string ⟨#[]⟩, .slice none 0 0, .slice none 0 0, .bool false] BR4.out.row hinf hsz16 hone ?_))
      have BRz := BR4.out.setRow pl.toArray
      have Ez := BR4.out.wrRow E4.out pl.toArray
      refine bodyPost_ret (v := .tuple #[.agg pl.toArray, .int .i64 0]) (results_cell_tmp (p := 4) (q := 5) (ty := 61) (by kernel_rfl) _ _ gR 61 pl.toArray (0, 0) _ _ (by simp) (by simp) BRz.row Tryd.underlying61 rfl hinf) rfl ?_
      rw [HQ.out.1, HQ.out.2]
      exact ⟨pl, h3, rfl, rp.out, Ez⟩
  · have hb : (code == 0) = false := by simpa using hc
    have HQ := hid (show p' = p ∧ code' = code by have q := HT.out; rw [if_neg (by intro q1; exact hc q1.1)] at q; exact ⟨(congrArg Prod.fst q).symm, (congrArg Prod.snd q).symm⟩)
    clear hc
    have hinf := info_Spot (cs := pl) rp.out.len
    have hone := one_arr rp.out.one
    have hsz16 := zs_size rp.out
    go_wp2_with (first | (refine wpList_load_row rfl 61 _ rfl gp rfl 61 pl.toArray (0, 0) _ BP4.out.row Tryd.underlying61 rfl hinf ?_) | (refine wpList_store_row rfl 61 _ _ rfl gR pl.toArray rfl rfl 61 #[.int .i64 0, .int .i64 0, .int .i64 0, .int .i64 0, .string ⟨#[]⟩, .slice none 0 0, .slice none 0 0, .string ⟨#[]⟩, .int .i64 0, .int .i64 0, .int .i64 0, .int .i64 0, .string ⟨#[]⟩, .slice none 0 0, .slice none 0 0, .bool false] BR4.out.row hinf hsz16 hone ?_))
    have BRz := BR4.out.setRow pl.toArray
    have Ez := BR4.out.wrRow E4.out pl.toArray
    refine bodyPost_ret (v := .tuple #[.agg pl.toArray, .int .i64 code]) (results_cell_tmp (p := 4) (q := 5) (ty := 61) (by kernel_rfl) _ _ gR 61 pl.toArray (0, 0) _ _ (by simp) (by simp) BRz.row Tryd.underlying61 rfl hinf) rfl ?_
    rw [HQ.out.1, HQ.out.2]
    exact ⟨pl, h3, rfl, rp.out, Ez⟩

set_option maxHeartbeats 16000000 in
set_option maxRecDepth 100000 in
theorem tree_fresh (s : State) (cs : List Value) (path : ByteArray) (hsz : path.size ≤ 9223372036854775807) (hfit : ∀ x ∈ s.inodes, fitI x) (p' : Spot) (code' : Int) (hp' : freshS s.inodes path = (p', code')) (h : FH) (w : World) (hs : Sits h w) (rS : repState h cs s) :
    Calls Tryd.prog 22 #[.agg cs.toArray, .string path] w fun e w' => RetSpot h w p' code' e w' := by
  have RS := hid rS
  have HFIT := hid hfit
  clear rS hfit
  obtain ⟨h1, E1, hb1, le1, hh1⟩ := (Ext.refl hs).boxF cs.toArray 26
  have BR := BoxU.new E1 #[.int .i64 0, .int .i64 0, .int .i64 0, .int .i64 0, .string ⟨#[]⟩, .slice none 0 0, .slice none 0 0, .string ⟨#[]⟩, .int .i64 0, .int .i64 0, .int .i64 0, .int .i64 0, .string ⟨#[]⟩, .slice none 0 0, .slice none 0 0, .bool false] 61
  have E2 := E1.alloc (.cells #[.int .i64 0, .int .i64 0, .int .i64 0, .int .i64 0, .string ⟨#[]⟩, .slice none 0 0, .slice none 0 0, .string ⟨#[]⟩, .int .i64 0, .int .i64 0, .int .i64 0, .int .i64 0, .string ⟨#[]⟩, .slice none 0 0, .slice none 0 0, .bool false] 61)
  have hszR : (w.alloc (.cells cs.toArray 26)).heap.size = w.heap.size + 1 := by simp
  rw [hszR] at BR
  clear hh1 E1
  obtain ⟨⟨p, code⟩, hf⟩ : ∃ fs, findS s.inodes path = fs := ⟨_, rfl⟩
  have HP := hid hf
  rw [freshS, hf] at hp'
  have HT := hid hp'
  clear hf hp'
  go_enter Tryd.func22, Tryd.ntmps22
  go_upto_region 1 with (fail)
  obtain ⟨gx, hgx⟩ : ∃ gx, gx = w.heap.size := ⟨_, rfl⟩
  obtain ⟨gR, hgR⟩ : ∃ gR, gR = w.heap.size + 1 := ⟨_, rfl⟩
  rw [← hgx] at hb1
  rw [← hgR] at BR
  rw [← hgR, ← hgx]
  with_reducible generalize (w.alloc (.cells cs.toArray 26)).alloc (.cells #[.int .i64 0, .int .i64 0, .int .i64 0, .int .i64 0, .string ⟨#[]⟩, .slice none 0 0, .slice none 0 0, .string ⟨#[]⟩, .int .i64 0, .int .i64 0, .int .i64 0, .int .i64 0, .string ⟨#[]⟩, .slice none 0 0, .slice none 0 0, .bool false] 61) = W2 at E2 BR ⊢
  clear hgx hgR hszR
  have E2 := hid E2
  have BR := hid BR
  have hb1 := hid hb1
  have le1 := hid le1
  have KF := hid (tree_find s _ path hsz HFIT.out p code HP.out h1 W2 E2.out.sits (repState.mono le1.out RS.out))
  go_upto_region 2 with (first | (refine wpList_load_row rfl 26 _ rfl gx rfl 26 cs.toArray (0, 0) _ (E2.out.sits _ _ hb1.out) Tryd.underlying26 rfl (info_State RS.out.len) ?_) | (go_at_call 39; refine KF.out.mono ?_; rintro e w3 ⟨pl, h3, rfl, rp, F3⟩; have E3 := hid (E2.out.trans F3); have BR3 := hid (BR.out.ext F3); have rp := hid rp; clear F3) | (refine wpList_store_row rfl 61 _ _ rfl w3.heap.size pl.toArray rfl rfl 61 #[.int .i64 0, .int .i64 0, .int .i64 0, .int .i64 0, .string ⟨#[]⟩, .slice none 0 0, .slice none 0 0, .string ⟨#[]⟩, .int .i64 0, .int .i64 0, .int .i64 0, .int .i64 0, .string ⟨#[]⟩, .slice none 0 0, .slice none 0 0, .bool false] (heap_new w3 _) (info_Spot rp.out.len) (zs_size rp.out) (one_arr rp.out.one) ?_))
  rw [World.setRow_alloc_new]
  have BP4 := BoxU.new E3.out pl.toArray 61
  have E4 := E3.out.alloc (.cells pl.toArray 61)
  have BR4 := BR3.out.alloc (.cells pl.toArray 61)
  have hne4 := hid (Nat.ne_of_lt BR3.out.lt)
  with_reducible generalize (w3.alloc (.cells pl.toArray 61)) = W4 at BP4 E4 BR4 ⊢
  have BP4 := hid BP4
  have E4 := hid E4
  have BR4 := hid BR4
  generalize w3.heap.size = gp at *
  clear BR3 E3
  by_cases hc : code = 0
  · subst hc
    obtain ⟨dl, rd, hd⟩ := rp.out.dir
    obtain ⟨A5, c5, at5, k5, row5⟩ := rd.at5
    obtain ⟨v, hv⟩ : ∃ v, findE p.dir.entries p.name = v := ⟨_, rfl⟩
    have KE := hid (entries_Find p.dir.entries A5 c5 p.name rp.out.nm.2 v hv h3 W4 E4.out.sits row5)
    have HT2 := hid (show p' = p ∧ code' = if v.isSome = true then 12 else 0 by have q := HT.out; rw [if_neg (by simp), hv] at q; split at q <;> simp_all)
    have m5 := BP4.out.cell (hd 5 _ at5)
    have m7 := BP4.out.cell (rp.out.nm.1)
    clear hv k5 row5 at5 rd hd
    go_upto_region 5 with (go_at_call 48; refine KE.out.mono ?_; rintro e w5 ⟨rfl, F5⟩; have E5 := hid (E4.out.trans F5); have BP5 := hid (BP4.out.ext F5); have BR5 := hid (BR4.out.ext F5); clear F5 m5 m7)
    cases v with
    | none =>
      dsimp only [Option.isSome_none, Option.getD_none] at *
      have HQ := hid (show p' = p ∧ code' = 0 from ⟨HT2.out.1, by rw [HT2.out.2, if_neg (by simp)]⟩)
      have hinf := info_Spot (cs := pl) rp.out.len
      have hone := one_arr rp.out.one
      have hsz16 := zs_size rp.out
      go_wp2_with (first | (refine wpList_load_row rfl 61 _ rfl gp rfl 61 pl.toArray (0, 0) _ BP5.out.row Tryd.underlying61 rfl hinf ?_) | (refine wpList_store_row rfl 61 _ _ rfl gR pl.toArray rfl rfl 61 #[.int .i64 0, .int .i64 0, .int .i64 0, .int .i64 0, .string ⟨#[]⟩, .slice none 0 0, .slice none 0 0, .string ⟨#[]⟩, .int .i64 0, .int .i64 0, .int .i64 0, .int .i64 0, .string ⟨#[]⟩, .slice none 0 0, .slice none 0 0, .bool false] BR5.out.row hinf hsz16 hone ?_))
      have BRz := BR5.out.setRow pl.toArray
      have Ez := BR5.out.wrRow E5.out pl.toArray
      refine bodyPost_ret (v := .tuple #[.agg pl.toArray, .int .i64 0]) (results_cell_tmp (p := 4) (q := 5) (ty := 61) (by kernel_rfl) _ _ gR 61 pl.toArray (0, 0) _ _ (by simp) (by simp) BRz.row Tryd.underlying61 rfl hinf) rfl ?_
      rw [HQ.out.1, HQ.out.2]
      exact ⟨pl, h3, rfl, rp.out, Ez⟩
    | some to_ =>
      dsimp only [Option.isSome_some, Option.getD_some] at *
      have HQ := hid (show p' = p ∧ code' = 12 from ⟨HT2.out.1, by rw [HT2.out.2, if_pos rfl]⟩)
      have hinf := info_Spot (cs := pl) rp.out.len
      have hone := one_arr rp.out.one
      have hsz16 := zs_size rp.out
      go_wp2_with (first | (refine wpList_load_row rfl 61 _ rfl gp rfl 61 pl.toArray (0, 0) _ BP5.out.row Tryd.underlying61 rfl hinf ?_) | (refine wpList_store_row rfl 61 _ _ rfl gR pl.toArray rfl rfl 61 #[.int .i64 0, .int .i64 0, .int .i64 0, .int .i64 0, .string ⟨#[]⟩, .slice none 0 0, .slice none 0 0, .string ⟨#[]⟩, .int .i64 0, .int .i64 0, .int .i64 0, .int .i64 0, .string ⟨#[]⟩, .slice none 0 0, .slice none 0 0, .bool false] BR5.out.row hinf hsz16 hone ?_))
      have BRz := BR5.out.setRow pl.toArray
      have Ez := BR5.out.wrRow E5.out pl.toArray
      refine bodyPost_ret (v := .tuple #[.agg pl.toArray, .int .i64 12]) (results_cell_tmp (p := 4) (q := 5) (ty := 61) (by kernel_rfl) _ _ gR 61 pl.toArray (0, 0) _ _ (by simp) (by simp) BRz.row Tryd.underlying61 rfl hinf) rfl ?_
      rw [HQ.out.1, HQ.out.2]
      exact ⟨pl, h3, rfl, rp.out, Ez⟩
  · have hb : (code == 0) = false := by simpa using hc
    have hb2 : (code != 0) = true := by simpa using hc
    have HQ := hid (show p' = p ∧ code' = code by have q := HT.out; rw [if_pos hc] at q; exact ⟨(congrArg Prod.fst q).symm, (congrArg Prod.snd q).symm⟩)
    clear hc
    have hinf := info_Spot (cs := pl) rp.out.len
    have hone := one_arr rp.out.one
    have hsz16 := zs_size rp.out
    go_wp2_with (first | (refine wpList_load_row rfl 61 _ rfl gp rfl 61 pl.toArray (0, 0) _ BP4.out.row Tryd.underlying61 rfl hinf ?_) | (refine wpList_store_row rfl 61 _ _ rfl gR pl.toArray rfl rfl 61 #[.int .i64 0, .int .i64 0, .int .i64 0, .int .i64 0, .string ⟨#[]⟩, .slice none 0 0, .slice none 0 0, .string ⟨#[]⟩, .int .i64 0, .int .i64 0, .int .i64 0, .int .i64 0, .string ⟨#[]⟩, .slice none 0 0, .slice none 0 0, .bool false] BR4.out.row hinf hsz16 hone ?_))
    have BRz := BR4.out.setRow pl.toArray
    have Ez := BR4.out.wrRow E4.out pl.toArray
    refine bodyPost_ret (v := .tuple #[.agg pl.toArray, .int .i64 code]) (results_cell_tmp (p := 4) (q := 5) (ty := 61) (by kernel_rfl) _ _ gR 61 pl.toArray (0, 0) _ _ (by simp) (by simp) BRz.row Tryd.underlying61 rfl hinf) rfl ?_
    rw [HQ.out.1, HQ.out.2]
    exact ⟨pl, h3, rfl, rp.out, Ez⟩
end Go.Proofs.YtmljcjjhakhjaaaDoor
