/- The walk of the law PathSame: it returns true, and writes nothing that was there. -/
import Derived.Test.YtcnbnehammbncaaDoorSameW
import Derived.Test.YtcnbnehammbncaaDoorGrw
namespace Go.Proofs.YtcnbnehammbncaaDoor
open Go.RowKit Go.Sort
set_option linter.unusedVariables false
set_option maxHeartbeats 16000000 in
set_option maxRecDepth 100000 in
theorem PathSame_walk (ops : List POp) (A : Option Addr) (c : Nat) (n0 : Int) (W : World) (ra : RowAt (fhOf W) A ops) :
    Calls Tryd.prog 7 #[.slice A ops.length c, .int .i64 n0] W fun e w' => e = .returned (.bool true) ∧ Ext (fhOf W) W (fhOf W) w' := by
  have hs := Sits.all W
  have KS := hid (play_Small ops A c (fhOf W) W hs ra)
  have RA := hid ra
  clear ra
  go_enter Tryd.func7, Tryd.ntmps7
  go_upto_if 22 with (go_at_call 8; refine KS.out.mono ?_; rintro e w1 ⟨b, rfl, F1⟩; have E1 := hid F1; clear F1; cases b)
  · go_wp2_with (go_at_call 9; refine (law15_awake _ _ E1.out.sits).mono ?_; rintro e w2 ⟨rfl, F2⟩; have E2 := hid (E1.out.trans F2))
    go_ret
    exact ⟨rfl, E2.out⟩
  · have KG := hid (play_Grown ops A c [] none 0 (fhOf W) w1 E1.out.sits RA.out (RowAt.nil _ _))
    go_upto_region 4 with (first | (go_at_call 10; refine KG.out.mono ?_; rintro e w2 ⟨cs, h2, rfl, R2, F2⟩; have R2 := hid R2; have E2 := hid (E1.out.trans F2); clear F2) | (refine wpList_store_row rfl 28 _ _ rfl w2.heap.size cs.toArray rfl rfl 28 #[.int .i64 0, .slice none 0 0, .slice none 0 0] (heap_new w2 _) (info_State R2.out.len) (szG3 R2.out.len) (one_arr R2.out.one) ?_))
    rw [World.setRow_alloc_new]
    obtain ⟨s, hs'⟩ : ∃ s, grownP [] ops = s := ⟨_, rfl⟩
    rw [hs'] at R2
    clear hs'
    obtain ⟨h4, E4, hb4, le4, -⟩ := E2.out.boxF cs.toArray 28
    have hbS := hid hb4
    have RS := hid (repState.mono le4 R2.out)
    with_reducible generalize w2.alloc (.cells cs.toArray 28) = w4 at E4 ⊢
    generalize w2.heap.size = gS at *
    have E4 := hid E4
    clear hb4 le4 KG KS E1 E2 R2 RA
    obtain ⟨r, hr, hr5⟩ : ∃ r : Nat, (IntKind.u64.wrap n0).tmod 5 = r ∧ r < 5 := by
      have h0 : 0 ≤ IntKind.u64.wrap n0 := by rw [IntKind.wrap_u64]; omega
      rw [Int.tmod_eq_emod_of_nonneg h0]
      exact ⟨(IntKind.u64.wrap n0 % 5).toNat, by omega, by omega⟩
    have hw1 : wrap64 (r : Int) = r := IntWalk.wrap64_in _ (by omega)
    go_upto_region 5 with (fail)
    have hb5 := heap_new w4 (.cells #[.string ⟨#[47, 97]⟩, .string ⟨#[47, 98]⟩, .string ⟨#[47, 100]⟩, .string ⟨#[47, 100, 47, 97]⟩, .string ⟨#[47, 100, 47, 98]⟩] 9)
    have E5 := hid (E4.out.alloc (.cells #[.string ⟨#[47, 97]⟩, .string ⟨#[47, 98]⟩, .string ⟨#[47, 100]⟩, .string ⟨#[47, 100, 47, 97]⟩, .string ⟨#[47, 100, 47, 98]⟩] 9))
    with_reducible generalize w4.alloc (.cells #[.string ⟨#[47, 97]⟩, .string ⟨#[47, 98]⟩, .string ⟨#[47, 100]⟩, .string ⟨#[47, 100, 47, 97]⟩, .string ⟨#[47, 100, 47, 98]⟩] 9) = w5 at hb5 E5 ⊢
    go_cut [7] (fun s7 wx => ∃ wv, s7 = .string wv ∧ Hid (SaysSame wv) ∧ wx = w5)
    case first =>
      obtain rfl | rfl | rfl | rfl | rfl : r = 0 ∨ r = 1 ∨ r = 2 ∨ r = 3 ∨ r = 4 := by omega
      · have c0 := box_cell (j := 0) (v := .string ⟨#[47, 97]⟩) hb5 rfl
        go_wp2_with fail
        go_meet
        exact ⟨_, rfl, hid (five_same _ (by simp [fiveW])), rfl⟩
      · have c0 := box_cell (j := 1) (v := .string ⟨#[47, 98]⟩) hb5 rfl
        go_wp2_with fail
        go_meet
        exact ⟨_, rfl, hid (five_same _ (by simp [fiveW])), rfl⟩
      · have c0 := box_cell (j := 2) (v := .string ⟨#[47, 100]⟩) hb5 rfl
        go_wp2_with fail
        go_meet
        exact ⟨_, rfl, hid (five_same _ (by simp [fiveW])), rfl⟩
      · have c0 := box_cell (j := 3) (v := .string ⟨#[47, 100, 47, 97]⟩) hb5 rfl
        go_wp2_with fail
        go_meet
        exact ⟨_, rfl, hid (five_same _ (by simp [fiveW])), rfl⟩
      · have c0 := box_cell (j := 4) (v := .string ⟨#[47, 100, 47, 98]⟩) hb5 rfl
        go_wp2_with fail
        go_meet
        exact ⟨_, rfl, hid (five_same _ (by simp [fiveW])), rfl⟩
    case rest =>
    obtain ⟨wv, rfl, SW, rfl⟩ := hcut
    clear hr hw1 hb5 hr5
    have G0 := E5
    have h5eq : True := trivial
    obtain ⟨h5, rfl⟩ : ∃ h5, h5 = h4 := ⟨_, rfl⟩
    obtain ⟨res, hres⟩ : ∃ r, resolveP s.inodes wv false = r := ⟨_, rfl⟩
    have HRES := hid hres
    obtain ⟨par, hpar⟩ : ∃ r, parentP s.inodes wv = r := ⟨_, rfl⟩
    have HPAR := hid hpar
    have SZ := hid SW.out.size
    clear hres hpar h5eq
    have hz0 := SZ.out
    have hz1 : (⟨#[47, 46]⟩ ++ wv ++ ⟨#[47, 47, 46]⟩ : ByteArray).size ≤ 15 := by rw [ByteArray.size_append, ByteArray.size_append]; show 2 + wv.size + 3 ≤ 15; omega
    have hz2 : (⟨#[47, 46, 46]⟩ ++ wv : ByteArray).size ≤ 13 := by rw [ByteArray.size_append]; show 3 + wv.size ≤ 13; omega
    have hz3 : (⟨#[47, 47]⟩ ++ wv ++ ⟨#[47, 46, 47]⟩ : ByteArray).size ≤ 15 := by rw [ByteArray.size_append, ByteArray.size_append]; show 2 + wv.size + 3 ≤ 15; omega
    have hz4 : (⟨#[47, 46]⟩ ++ wv : ByteArray).size ≤ 12 := by rw [ByteArray.size_append]; show 2 + wv.size ≤ 12; omega
    have hz5 : (⟨#[47, 47]⟩ ++ wv : ByteArray).size ≤ 12 := by rw [ByteArray.size_append]; show 2 + wv.size ≤ 12; omega
    have KX0 := hid (path_Resolve s cs wv (by have := SZ.out; omega) false res HRES.out h5 _ G0.out.sits RS.out)
    go_upto_region 7 with (first | (refine wpList_load_row rfl 28 _ rfl gS rfl 28 cs.toArray (0, 0) _ (G0.out.sits _ _ hbS.out) Tryd.underlying28 rfl (info_State RS.out.len) ?_) | (go_at_call 13; refine KX0.out.mono ?_; rintro e v0 ⟨rfl, F⟩; have G1 := hid (G0.out.trans F); clear F))
    clear KX0
    have KX1 := hid (path_Resolve s cs (⟨#[47, 46]⟩ ++ wv ++ ⟨#[47, 47, 46]⟩) (by have := hz1; omega) false res ((SW.out.res1 _).trans HRES.out) h5 _ G1.out.sits RS.out)
    go_upto_region 8 with (first | (refine wpList_load_row rfl 28 _ rfl gS rfl 28 cs.toArray (0, 0) _ (G1.out.sits _ _ hbS.out) Tryd.underlying28 rfl (info_State RS.out.len) ?_) | (go_at_call 13; refine KX1.out.mono ?_; rintro e v1 ⟨rfl, F⟩; have G2 := hid (G1.out.trans F); clear F))
    clear KX1
    have KX2 := hid (path_Resolve s cs (⟨#[47, 46, 46]⟩ ++ wv) (by have := hz2; omega) false res ((SW.out.res2 _).trans HRES.out) h5 _ G2.out.sits RS.out)
    go_upto_region 9 with (first | (refine wpList_load_row rfl 28 _ rfl gS rfl 28 cs.toArray (0, 0) _ (G2.out.sits _ _ hbS.out) Tryd.underlying28 rfl (info_State RS.out.len) ?_) | (go_at_call 13; refine KX2.out.mono ?_; rintro e v2 ⟨rfl, F⟩; have G3 := hid (G2.out.trans F); clear F))
    clear KX2
    have KX3 := hid (path_Parent s cs wv (by have := SZ.out; omega) par HPAR.out h5 _ G3.out.sits RS.out)
    go_upto_region 10 with (first | (refine wpList_load_row rfl 28 _ rfl gS rfl 28 cs.toArray (0, 0) _ (G3.out.sits _ _ hbS.out) Tryd.underlying28 rfl (info_State RS.out.len) ?_) | (go_at_call 15; refine KX3.out.mono ?_; rintro e v3 ⟨rfl, F, -⟩; have G4 := hid (G3.out.trans F); clear F))
    clear KX3
    have KX4 := hid (path_Parent s cs (⟨#[47, 47]⟩ ++ wv ++ ⟨#[47, 46, 47]⟩) (by have := hz3; omega) par ((SW.out.par _).trans HPAR.out) h5 _ G4.out.sits RS.out)
    go_upto_region 11 with (first | (refine wpList_load_row rfl 28 _ rfl gS rfl 28 cs.toArray (0, 0) _ (G4.out.sits _ _ hbS.out) Tryd.underlying28 rfl (info_State RS.out.len) ?_) | (go_at_call 15; refine KX4.out.mono ?_; rintro e v4 ⟨rfl, F, -⟩; have G5 := hid (G4.out.trans F); clear F))
    clear KX4
    have HB := hid G5.out.back
    have hself : (par.2.1.toList == par.2.1.toList) = true := beq_self_eq_true _
    go_wp2_with (go_at_call 9; refine (law15_awake _ _ HB.out.sits).mono ?_; rintro e w9 ⟨rfl, F9⟩; have E9 := hid (HB.out.trans F9))
    go_ret
    exact ⟨by first | rfl | simp, E9.out⟩

end Go.Proofs.YtcnbnehammbncaaDoor
