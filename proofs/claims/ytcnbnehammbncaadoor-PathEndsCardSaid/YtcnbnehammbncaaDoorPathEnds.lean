/- The walk of the law PathEnds: it returns true, and writes nothing that was there. -/
import Derived.Test.YtcnbnehammbncaaDoorPathP
namespace Go.Proofs.YtcnbnehammbncaaDoor
open Go.RowKit Go.Sort
set_option linter.unusedVariables false
theorem repState.open {h : FH} {cs : List Value} {s : State} (r : repState h cs s) : ∃ A1 c1 A2 c2, cs = [.int .i64 s.next, .slice A1 s.inodes.length c1, .slice A2 s.bads.length c2] := by
  obtain ⟨A1, c1, A2, c2, e, _⟩ := r; exact ⟨A1, c1, A2, c2, e⟩
theorem newS_mid : ∀ x ∈ newS.inodes, midI x := by
  intro x hx
  simp only [newS, List.mem_singleton] at hx
  subst hx
  exact ⟨by decide, by decide, by decide⟩
set_option maxHeartbeats 16000000 in
set_option maxRecDepth 100000 in
theorem PathEnds_walk (name : ByteArray) (W : World) (hsz : name.size ≤ 9223372036854775807) :
    Calls Tryd.prog 5 #[.string name] W fun e w' => e = .returned (.bool true) ∧ Ext (fhOf W) W (fhOf W) w' := by
  have hs := Sits.all W
  obtain ⟨q, hq⟩ : ∃ q, nameB name = q := ⟨_, rfl⟩
  have KQ := hid (ref_RightName name hsz q hq (fhOf W) W hs)
  have HQ := hid hq
  clear hq
  cases q
  · go_enter Tryd.func5, Tryd.ntmps5
    go_wp2_with (first
      | (go_at_call 24; refine KQ.out.mono ?_; rintro e w1 ⟨rfl, E1⟩; have E1 := hid E1)
      | (go_at_call 9; refine (law15_awake _ _ E1.out.sits).mono ?_; rintro e w2 ⟨rfl, F2⟩; have E2 := hid (E1.out.trans F2)))
    go_ret
    exact ⟨rfl, E2.out⟩
  · have hnz : name.size ≤ 32 := (good_facts (end_good HQ.out)).2.2.1
    have KN := hid (fun (w' : World) (hs' : Sits (fhOf W) w') => ref_NewState (fhOf W) w' hs')
    go_enter Tryd.func5, Tryd.ntmps5
    go_upto_region 4 with (first
      | (go_at_call 24; refine KQ.out.mono ?_; rintro e w0 ⟨rfl, E0⟩; have E0 := hid E0)
      | (go_at_call 19; refine (KN.out _ E0.out.sits).mono ?_; rintro e w1 ⟨cs, h1, rfl, rs, F1⟩; obtain ⟨A1, c1, A2, c2, rfl⟩ := rs.open; have RS0 := hid rs; have E1 := hid (E0.out.trans F1); clear F1))
    have E2 := E1.out.alloc (.cells #[.int .i64 newS.next, .slice A1 newS.inodes.length c1, .slice A2 newS.bads.length c2] 28)
    have hb2 := heap_new w1 (.cells #[.int .i64 newS.next, .slice A1 newS.inodes.length c1, .slice A2 newS.bads.length c2] 28)
    have n2 := hid (E1.out.sits.none (Nat.le_refl _))
    have hg2 := hid E1.out.size
    generalize w1.heap.size = gS at *
    with_reducible generalize w1.alloc (.cells #[.int .i64 newS.next, .slice A1 newS.inodes.length c1, .slice A2 newS.bads.length c2] 28) = w2 at E2 hb2 ⊢
    have s0 : w2.cell? ⟨gS, 0, none⟩ = some (.int .i64 newS.next) := box_cell (j := 0) hb2 rfl
    have s1 : w2.cell? ⟨gS, 1, none⟩ = some (.slice A1 newS.inodes.length c1) := box_cell (j := 1) hb2 rfl
    have s2 : w2.cell? ⟨gS, 2, none⟩ = some (.slice A2 newS.bads.length c2) := box_cell (j := 2) hb2 rfl
    have hb2 := hid hb2
    have KM := hid (ref_Make newS _ (⟨#[47]⟩ ++ name) (by rw [ByteArray.size_append]; show 1 + name.size ≤ 9223372036854775807; omega) 1 ⟨#[]⟩ (by decide) (by decide) (by decide) newS_mid h1 w2 E2.sits RS0.out)
    rw [end_make HQ.out] at KM
    have E2 := hid E2
    go_upto_region 5 with (go_at_call 20; refine KM.out.mono ?_; rintro e w3 ⟨Ad, cd, h3, rfl, kd, rd, F3⟩; have E3 := hid (E2.out.trans F3); have hb3 := hid (F3.row hb2.out); have n3 := hid (F3.none n2.out (Array.getElem?_eq_some_iff.1 hb2.out).1); have RS3 := hid (repState.mono F3.le RS0.out); have rd := hid rd; clear F3 s0 s1 s2)
    have t0 : w3.cell? ⟨gS, 0, none⟩ = some (.int .i64 newS.next) := box_cell (j := 0) hb3.out rfl
    have t1 : w3.cell? ⟨gS, 1, none⟩ = some (.slice A1 newS.inodes.length c1) := box_cell (j := 1) hb3.out rfl
    have t2 : w3.cell? ⟨gS, 2, none⟩ = some (.slice A2 newS.bads.length c2) := box_cell (j := 2) hb3.out rfl
    have KA := ref_Apply newS _ [⟨1, 3, zeroI⟩, putD (endD name), putD endF] Ad cd (by show 1 + 3 ≤ 900; decide) (by show 0 + 3 ≤ 900; decide) h3 w3 E3.out.sits RS3.out rd.out
    rw [show applyS newS [⟨1, 3, zeroI⟩, putD (endD name), putD endF] = endS name from rfl] at KA
    have KA := hid KA
    go_upto_region 6 with (go_at_call 21; refine KA.out.mono ?_; rintro e w4 ⟨cs4, h4, rfl, rs4, F4⟩; obtain ⟨A3, c3, A4, c4, rfl⟩ := rs4.open; have RS4 := hid rs4; have E4 := hid (E3.out.trans F4); have hb4 := F4.row hb3.out; have n4 := hid (F4.none n3.out (Array.getElem?_eq_some_iff.1 hb3.out).1); have u0 := box_cell (j := 0) (v := .int .i64 newS.next) hb4 rfl; have u1 := box_cell (j := 1) (v := .slice A1 newS.inodes.length c1) hb4 rfl; have u2 := box_cell (j := 2) (v := .slice A2 newS.bads.length c2) hb4 rfl; have f0 := box_free (j := 0) hb4; have f1 := box_free (j := 1) hb4; have f2 := box_free (j := 2) hb4; have hb4 := hid hb4; clear F4 t0 t1 t2)
    have R5 : ((((w4.setCell ⟨gS, 0, none⟩ (.int .i64 (endS name).next)).setCell ⟨gS, 1, none⟩ (.slice A3 (endS name).inodes.length c3)).setCell ⟨gS, 2, none⟩ (.slice A4 (endS name).bads.length c4))).heap[gS]? = some (.cells #[.int .i64 (endS name).next, .slice A3 (endS name).inodes.length c3, .slice A4 (endS name).bads.length c4] 28 (0, 0)) := setCells_row [.int .i64 (endS name).next, .slice A3 (endS name).inodes.length c3, .slice A4 (endS name).bads.length c4] hb4.out rfl
    have E5 : Ext (fhOf W) W h4 (((w4.setCell ⟨gS, 0, none⟩ (.int .i64 (endS name).next)).setCell ⟨gS, 1, none⟩ (.slice A3 (endS name).inodes.length c3)).setCell ⟨gS, 2, none⟩ (.slice A4 (endS name).bads.length c4)) := Ext.setCells (g := gS) hg2.out n4.out [.int .i64 (endS name).next, .slice A3 (endS name).inodes.length c3, .slice A4 (endS name).bads.length c4] 0 _ E4.out
    with_reducible generalize (((w4.setCell ⟨gS, 0, none⟩ (.int .i64 (endS name).next)).setCell ⟨gS, 1, none⟩ (.slice A3 (endS name).inodes.length c3)).setCell ⟨gS, 2, none⟩ (.slice A4 (endS name).bads.length c4)) = w5 at R5 E5 ⊢
    have E6 := E5.add R5 n4.out hg2.out
    have hb6 := FH.add_same h4 gS (.cells #[.int .i64 (endS name).next, .slice A3 (endS name).inodes.length c3, .slice A4 (endS name).bads.length c4] 28 (0, 0))
    have RS := hid (repState.mono (FLe.add n4.out (.cells #[.int .i64 (endS name).next, .slice A3 (endS name).inodes.length c3, .slice A4 (endS name).bads.length c4] 28 (0, 0))) RS4.out)
    generalize h4.add gS (.cells #[.int .i64 (endS name).next, .slice A3 (endS name).inodes.length c3, .slice A4 (endS name).bads.length c4] 28 (0, 0)) = h6 at *
    have E6 := hid E6
    clear u0 u1 u2 f0 f1 f2 R5 E5
    obtain ⟨r9, hr9⟩ : ∃ r9, (if name = ⟨#[122, 122]⟩ then (13 : Int) else 11) = r9 := ⟨_, rfl⟩
    have HR9 := hid ((end_r9 HQ.out).trans (by rw [hr9]))
    have H9 := hid hr9
    clear hr9
    have hz2 : (⟨#[47]⟩ ++ name : ByteArray).size ≤ 33 := by rw [ByteArray.size_append]; show 1 + name.size ≤ 33; omega
    have hz3 : (⟨#[47, 46, 47]⟩ ++ name : ByteArray).size ≤ 35 := by rw [ByteArray.size_append]; show 3 + name.size ≤ 35; omega
    have s0 : w5.cell? ⟨gS, 0, none⟩ = some (.int .i64 (endS name).next) := Sits_at E6.out.sits hb6 rfl
    have s1 : w5.cell? ⟨gS, 1, none⟩ = some (.slice A3 (endS name).inodes.length c3) := Sits_at E6.out.sits hb6 rfl
    have s2 : w5.cell? ⟨gS, 2, none⟩ = some (.slice A4 (endS name).bads.length c4) := Sits_at E6.out.sits hb6 rfl
    have KX0 := hid (path_Resolve (endS name) _ (⟨#[47, 46, 46, 47, 46, 46, 47]⟩ ++ name) (by rw [ByteArray.size_append]; show 7 + name.size ≤ 9223372036854775807; omega) true _ (end_r3 HQ.out) h6 w5 E6.out.sits RS.out)
    go_upto_region 7 with (go_at_call 13; refine KX0.out.mono ?_; rintro e v0 ⟨rfl, F⟩; have G0 := hid (E6.out.trans F); clear F s0 s1 s2)
    have s0 : v0.cell? ⟨gS, 0, none⟩ = some (.int .i64 (endS name).next) := Sits_at G0.out.sits hb6 rfl
    have s1 : v0.cell? ⟨gS, 1, none⟩ = some (.slice A3 (endS name).inodes.length c3) := Sits_at G0.out.sits hb6 rfl
    have s2 : v0.cell? ⟨gS, 2, none⟩ = some (.slice A4 (endS name).bads.length c4) := Sits_at G0.out.sits hb6 rfl
    have KX1 := hid (path_Resolve (endS name) _ (⟨#[47]⟩ ++ name ++ ⟨#[47, 120]⟩) (by rw [ByteArray.size_append, ByteArray.size_append]; show 1 + name.size + 2 ≤ 9223372036854775807; omega) true _ (end_r4 HQ.out) h6 v0 G0.out.sits RS.out)
    go_upto_region 8 with (go_at_call 13; refine KX1.out.mono ?_; rintro e v1 ⟨rfl, F⟩; have G1 := hid (G0.out.trans F); clear F s0 s1 s2)
    have s0 : v1.cell? ⟨gS, 0, none⟩ = some (.int .i64 (endS name).next) := Sits_at G1.out.sits hb6 rfl
    have s1 : v1.cell? ⟨gS, 1, none⟩ = some (.slice A3 (endS name).inodes.length c3) := Sits_at G1.out.sits hb6 rfl
    have s2 : v1.cell? ⟨gS, 2, none⟩ = some (.slice A4 (endS name).bads.length c4) := Sits_at G1.out.sits hb6 rfl
    have KX2 := hid (path_Resolve (endS name) _ (⟨#[47]⟩ ++ name ++ ⟨#[47, 46, 46]⟩) (by rw [ByteArray.size_append, ByteArray.size_append]; show 1 + name.size + 3 ≤ 9223372036854775807; omega) true _ (end_r5 HQ.out) h6 v1 G1.out.sits RS.out)
    go_upto_region 9 with (go_at_call 13; refine KX2.out.mono ?_; rintro e v2 ⟨rfl, F⟩; have G2 := hid (G1.out.trans F); clear F s0 s1 s2)
    have s0 : v2.cell? ⟨gS, 0, none⟩ = some (.int .i64 (endS name).next) := Sits_at G2.out.sits hb6 rfl
    have s1 : v2.cell? ⟨gS, 1, none⟩ = some (.slice A3 (endS name).inodes.length c3) := Sits_at G2.out.sits hb6 rfl
    have s2 : v2.cell? ⟨gS, 2, none⟩ = some (.slice A4 (endS name).bads.length c4) := Sits_at G2.out.sits hb6 rfl
    have KX3 := hid (path_Parent (endS name) _ ⟨#[47, 46, 46]⟩ (by decide)  _ (end_r6) h6 v2 G2.out.sits RS.out)
    go_upto_region 10 with (go_at_call 15; refine KX3.out.mono ?_; rintro e v3 ⟨rfl, F, _⟩; have G3 := hid (G2.out.trans F); clear F s0 s1 s2)
    have s0 : v3.cell? ⟨gS, 0, none⟩ = some (.int .i64 (endS name).next) := Sits_at G3.out.sits hb6 rfl
    have s1 : v3.cell? ⟨gS, 1, none⟩ = some (.slice A3 (endS name).inodes.length c3) := Sits_at G3.out.sits hb6 rfl
    have s2 : v3.cell? ⟨gS, 2, none⟩ = some (.slice A4 (endS name).bads.length c4) := Sits_at G3.out.sits hb6 rfl
    have KX4 := hid (path_Parent (endS name) _ ⟨#[47, 47, 46]⟩ (by decide)  _ (end_r7) h6 v3 G3.out.sits RS.out)
    go_upto_region 11 with (go_at_call 15; refine KX4.out.mono ?_; rintro e v4 ⟨rfl, F, _⟩; have G4 := hid (G3.out.trans F); clear F s0 s1 s2)
    have s0 : v4.cell? ⟨gS, 0, none⟩ = some (.int .i64 (endS name).next) := Sits_at G4.out.sits hb6 rfl
    have s1 : v4.cell? ⟨gS, 1, none⟩ = some (.slice A3 (endS name).inodes.length c3) := Sits_at G4.out.sits hb6 rfl
    have s2 : v4.cell? ⟨gS, 2, none⟩ = some (.slice A4 (endS name).bads.length c4) := Sits_at G4.out.sits hb6 rfl
    have KX5 := hid (path_Parent (endS name) _ (⟨#[47]⟩ ++ name ++ ⟨#[47, 120]⟩) (by rw [ByteArray.size_append, ByteArray.size_append]; show 1 + name.size + 2 ≤ 9223372036854775807; omega)  _ (end_r8 HQ.out) h6 v4 G4.out.sits RS.out)
    go_upto_region 12 with (go_at_call 15; refine KX5.out.mono ?_; rintro e v5 ⟨rfl, F, _⟩; have G5 := hid (G4.out.trans F); clear F s0 s1 s2)
    have s0 : v5.cell? ⟨gS, 0, none⟩ = some (.int .i64 (endS name).next) := Sits_at G5.out.sits hb6 rfl
    have s1 : v5.cell? ⟨gS, 1, none⟩ = some (.slice A3 (endS name).inodes.length c3) := Sits_at G5.out.sits hb6 rfl
    have s2 : v5.cell? ⟨gS, 2, none⟩ = some (.slice A4 (endS name).bads.length c4) := Sits_at G5.out.sits hb6 rfl
    have KX6 := hid (path_Resolve (endS name) _ (⟨#[47, 122, 122, 47]⟩ ++ name) (by rw [ByteArray.size_append]; show 4 + name.size ≤ 9223372036854775807; omega) true _ (HR9.out) h6 v5 G5.out.sits RS.out)
    go_upto_region 13 with (go_at_call 13; refine KX6.out.mono ?_; rintro e v6 ⟨rfl, F⟩; have G6 := hid (G5.out.trans F); clear F s0 s1 s2)
    have s0 : v6.cell? ⟨gS, 0, none⟩ = some (.int .i64 (endS name).next) := Sits_at G6.out.sits hb6 rfl
    have s1 : v6.cell? ⟨gS, 1, none⟩ = some (.slice A3 (endS name).inodes.length c3) := Sits_at G6.out.sits hb6 rfl
    have s2 : v6.cell? ⟨gS, 2, none⟩ = some (.slice A4 (endS name).bads.length c4) := Sits_at G6.out.sits hb6 rfl
    have KX7 := hid (path_Parent (endS name) _ (⟨#[47, 46, 47]⟩ ++ name ++ ⟨#[47, 47]⟩) (by rw [ByteArray.size_append, ByteArray.size_append]; show 3 + name.size + 2 ≤ 9223372036854775807; omega)  _ (end_r10 HQ.out) h6 v6 G6.out.sits RS.out)
    go_upto_region 14 with (go_at_call 15; refine KX7.out.mono ?_; rintro e v7 ⟨rfl, F, _⟩; have G7 := hid (G6.out.trans F); clear F s0 s1 s2)
    have HB := hid G7.out.back
    have hself : (name.toList == name.toList) = true := beq_self_eq_true _
    by_cases e : name = ⟨#[122, 122]⟩
    · have h9 : r9 = 13 := by rw [← H9.out, if_pos e]
      have hb : (name.toList == [122, 122]) = true := by rw [e]; decide +kernel
      subst h9
      clear e
      go_wp2_with (go_at_call 9; refine (law15_awake _ _ HB.out.sits).mono ?_; rintro e w9 ⟨rfl, F9⟩; have E9 := hid (HB.out.trans F9))
      go_ret
      exact ⟨rfl, E9.out⟩
    · have h9 : r9 = 11 := by rw [← H9.out, if_neg e]
      subst h9
      clear e
      go_wp2_with (go_at_call 9; refine (law15_awake _ _ HB.out.sits).mono ?_; rintro e w9 ⟨rfl, F9⟩; have E9 := hid (HB.out.trans F9))
      go_ret
      exact ⟨rfl, E9.out⟩
end Go.Proofs.YtcnbnehammbncaaDoor
