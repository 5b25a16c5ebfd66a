import Derived.Test.YtdiaibkpcnknbaaDoorTrMay
namespace Go.Proofs.YtdiaibkpcnknbaaDoor
open Go.RowKit Go.Sort
set_option linter.unusedVariables false
theorem sits_rangeF {h : FH} {w : World} (hs : Sits h w) {g : Nat} {cs : Array Value} {T : TypeId} {fr : Nat × Nat} (hb : h g = some (.cells cs T fr)) {o : Nat} {vs : List Value} (hv : ∀ (j : Nat) (v : Value), vs[j]? = some v → cs[o + j]? = some v) : w.rangeAt g o vs := fun j v hj => by
  rw [cell_of_row _ _ _ _ _ _ (hs _ _ hb)]; exact hv j v hj
theorem sits_cellF {h : FH} {w : World} (hs : Sits h w) {g j : Nat} {cs : Array Value} {T : TypeId} {fr : Nat × Nat} (hb : h g = some (.cells cs T fr)) {v : Value} (hv : cs[j]? = some v) : w.cell? ⟨g, j, none⟩ = some v := by
  rw [cell_of_row _ _ _ _ _ _ (hs _ _ hb)]; exact hv
theorem zero_plus {cs : Array Value} {vs : List Value} (hv : ∀ (j : Nat) (v : Value), vs[j]? = some v → cs[j]? = some v) : ∀ (j : Nat) (v : Value), vs[j]? = some v → cs[0 + j]? = some v := fun j v hj => by rw [Nat.zero_add]; exact hv j v hj
def mayP (s : State) (a b : Spot) : Int := if a.x.kind = 2 ∧ insideP s.inodes b.dir.no a.x.no = true then 22 else if b.is = true then takenP a.x b.x else if a.x.kind = 2 ∧ a.dir.no ≠ b.dir.no ∧ 100 ≤ b.dir.links then 18 else 0
set_option maxHeartbeats 16000000 in
set_option maxRecDepth 100000 in
theorem tree_may (s : State) (cs : List Value) (a b : Spot) (la lb : List Value) (hlen : s.inodes.length ≤ 1000) (h : FH) (w : World) (hs : Sits h w) (rS : repState h cs s) (ra : repSpot h la a) (rb : repSpot h lb b) :
    Calls Tryd.prog 25 #[.agg cs.toArray, .agg la.toArray, .agg lb.toArray] w fun e w' => e = .returned (.int .i64 (mayP s a b)) ∧ Ext h w h w' := by
  have RS := hid rS
  obtain ⟨h1, E1, hb1, le1, hh1⟩ := (Ext.refl hs).boxF cs.toArray 31
  obtain ⟨h2, E2, hb2, le2, hh2⟩ := E1.boxF la.toArray 55
  obtain ⟨h3, E3, hb3, le3, hh3⟩ := E2.boxF lb.toArray 55
  have hsz1 : (w.alloc (.cells cs.toArray 31)).heap.size = w.heap.size + 1 := by simp
  have hsz2 : ((w.alloc (.cells cs.toArray 31)).alloc (.cells la.toArray 55)).heap.size = w.heap.size + 1 + 1 := by simp
  rw [hsz1] at hb2
  rw [hsz2] at hb3
  have hb1 := le3 _ _ (le2 _ _ hb1)
  have hb2 := le3 _ _ hb2
  have L3 := hid (le1.trans (le2.trans le3))
  clear hh1 hh2 hh3 E1 E2 rS
  obtain ⟨xa, rxa, hxa⟩ := ra.xx
  obtain ⟨xb, rxb, hxb⟩ := rb.xx
  obtain ⟨da, rda, hda⟩ := ra.dir
  obtain ⟨db, rdb, hdb⟩ := rb.dir
  go_enter Tryd.func25, Tryd.ntmps25
  go_upto_region 1 with (fail)
  obtain ⟨gx, hgx⟩ : ∃ gx, gx = w.heap.size := ⟨_, rfl⟩
  obtain ⟨gA, hgA⟩ : ∃ gA, gA = w.heap.size + 1 := ⟨_, rfl⟩
  obtain ⟨gB, hgB⟩ : ∃ gB, gB = w.heap.size + 1 + 1 := ⟨_, rfl⟩
  rw [← hgx] at hb1
  rw [← hgA] at hb2
  rw [← hgB] at hb3
  rw [← hgB, ← hgA, ← hgx]
  with_reducible generalize ((w.alloc (.cells cs.toArray 31)).alloc (.cells la.toArray 55)).alloc (.cells lb.toArray 55) = W2 at E3 ⊢
  clear hgx hgA hgB hsz1 hsz2
  have E2 := hid E3
  have hb1 := hid hb1
  have hb2 := hid hb2
  have hb3 := hid hb3
  have HXA := hid hxa
  have HXB := hid hxb
  have HDA := hid hda
  have HDB := hid hdb
  clear E3 hxa hxb hda hdb le1 le2 le3
  have mk := sits_cellF E2.out.sits hb2.out (HXA.out 1 _ rxa.at1)
  have mn := sits_cellF E2.out.sits hb2.out (HXA.out 0 _ rxa.at0)
  have md := sits_cellF E2.out.sits hb3.out (HDB.out 0 _ rdb.at0)
  obtain ⟨q, hq⟩ : ∃ q, (a.x.kind == 2) = q := ⟨_, rfl⟩
  obtain ⟨ins, hins⟩ : ∃ t, insideP s.inodes b.dir.no a.x.no = t := ⟨_, rfl⟩
  have HQ := hid hq
  have KI := hid (path_Inside s cs b.dir.no a.x.no ins hins hlen h3 W2 E2.out.sits (repState.mono L3.out RS.out))
  have HM := hid (show mayP s a b = if q = true ∧ ins = true then 22 else if b.is = true then takenP a.x b.x else if q = true ∧ a.dir.no ≠ b.dir.no ∧ 100 ≤ b.dir.links then 18 else 0 by
    unfold mayP; rw [hins, ← hq]; simp only [beq_iff_eq])
  clear hins
  go_upto_region 2 with (fail)
  go_cut [12] (fun s12 wx => s12 = .bool (q && ins) ∧ Hid (Ext h w h3 wx))
  case first =>
    cases q
    · go_wp2_with fail
      go_meet
      exact ⟨rfl, E2⟩
    · obtain ⟨A1, c1, A2, c2, rfl, -⟩ := id RS.out
      have s0 := sits_cellF E2.out.sits hb1.out (j := 0) (v := .int .i64 s.next) rfl
      have s1 := sits_cellF E2.out.sits hb1.out (j := 1) (v := .slice A1 s.inodes.length c1) rfl
      have s2 := sits_cellF E2.out.sits hb1.out (j := 2) (v := .slice A2 s.bads.length c2) rfl
      go_wp2_with (first | (go_at_call 49; refine KI.out.mono ?_; rintro e w3 ⟨rfl, F3⟩; have E3 := hid (E2.out.trans F3); clear F3))
      go_meet
      exact ⟨by simp, E3⟩
  case rest =>
    obtain ⟨rfl, E3⟩ := hcut
    clear E2 KI mk mn md
    obtain ⟨z, hz⟩ : ∃ z, (q && ins) = z := ⟨_, rfl⟩
    rw [hz]
    cases z
    · have HM2 := hid (show mayP s a b = if b.is = true then takenP a.x b.x else if q = true ∧ a.dir.no ≠ b.dir.no ∧ 100 ≤ b.dir.links then 18 else 0 by
        rw [HM.out, if_neg (by rintro ⟨rfl, rfl⟩; cases hz)])
      clear hz
      have m15 := sits_cellF E3.out.sits hb3.out rb.iss
      obtain ⟨bi, hbi⟩ : ∃ bi, b.is = bi := ⟨_, rfl⟩
      rw [hbi] at m15
      have HBI := hid hbi
      clear hbi
      cases bi
      · have HM3 := hid (show mayP s a b = if q = true ∧ a.dir.no ≠ b.dir.no ∧ 100 ≤ b.dir.links then 18 else 0 by rw [HM2.out, if_neg (by rw [HBI.out]; simp)])
        have ma := sits_cellF E3.out.sits hb2.out (HDA.out 0 _ rda.at0)
        have mb := sits_cellF E3.out.sits hb3.out (HDB.out 0 _ rdb.at0)
        have ml := sits_cellF E3.out.sits hb3.out (HDB.out 2 _ rdb.at2)
        cases q
        · have HQ2 := hid (show mayP s a b = 0 by rw [HM3.out, if_neg (by simp)])
          go_wp2_with fail
          go_ret
          exact ⟨by rw [HQ2.out]; rfl, E3.out.back⟩
        · by_cases hno : a.dir.no = b.dir.no
          · have HQ2 := hid (show mayP s a b = 0 by rw [HM3.out, if_neg (by simp [hno])])
            have bno : (a.dir.no == b.dir.no) = true := by simpa using hno
            have bno2 : (a.dir.no != b.dir.no) = false := by simpa using hno
            clear hno
            go_wp2_with fail
            go_ret
            exact ⟨by rw [HQ2.out]; rfl, E3.out.back⟩
          · have bno : (a.dir.no == b.dir.no) = false := by simpa using hno
            have bno2 : (a.dir.no != b.dir.no) = true := by simpa using hno
            by_cases hl : 100 ≤ b.dir.links
            · have HQ2 := hid (show mayP s a b = 18 by rw [HM3.out, if_pos ⟨rfl, hno, hl⟩])
              clear hno
              go_wp2_with fail
              go_ret
              exact ⟨by rw [HQ2.out]; rfl, E3.out.back⟩
            · have HQ2 := hid (show mayP s a b = 0 by rw [HM3.out, if_neg (by intro q; exact hl q.2.2)])
              clear hno
              go_wp2_with fail
              go_ret
              exact ⟨by rw [HQ2.out]; rfl, E3.out.back⟩
      · have HQ2 := hid (show mayP s a b = takenP a.x b.x by rw [HM2.out, if_pos HBI.out])
        have KT := hid (tree_taken a.x b.x xa xb h3 wc E3.out.sits (rxa.mono L3.out) (rxb.mono L3.out))
        go_wp2_with (first | (refine wpList_load_mid rfl 51 _ rfl gA 8 rfl xa _ (sits_rangeF E3.out.sits hb2.out HXA.out) Tryd.underlying51 rfl (infoL_Inode rxa.len) ?_) | (refine wpList_load_mid rfl 51 _ rfl gB 8 rfl xb _ (sits_rangeF E3.out.sits hb3.out HXB.out) Tryd.underlying51 rfl (infoL_Inode rxb.len) ?_) | (go_at_call 50; refine KT.out.mono ?_; rintro e w4 ⟨rfl, F4⟩; have E4 := hid (E3.out.trans F4); clear F4))
        go_ret
        exact ⟨by rw [HQ2.out]; rfl, E4.out.back⟩
    · have HQ2 := hid (show mayP s a b = 22 by rw [HM.out, if_pos (by simpa using hz)])
      go_wp2_with fail
      go_ret
      exact ⟨by rw [HQ2.out]; rfl, E3.out.back⟩

end Go.Proofs.YtdiaibkpcnknbaaDoor
