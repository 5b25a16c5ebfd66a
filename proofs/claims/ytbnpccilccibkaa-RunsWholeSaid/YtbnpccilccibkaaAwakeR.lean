import Derived.Test.YtbnpccilccibkaaRuns6
import Derived.Test.YtbnpccilccibkaaPadBase
namespace Go.Proofs.Ytbnpccilccibkaa
open Go.RowKit Go.Sort
set_option linter.unusedVariables false
set_option maxHeartbeats 4000000 in
set_option maxRecDepth 100000 in
theorem law09_awake (h : FH) (w : World) (hs : Sits h w) :
    Calls Try.prog 11 #[] w fun e w' => e = .returned (.bool true) ∧ Ext h w h w' := by
  have s1 := hid (show setR [] 0 5 = [⟨0, 5, 1⟩] by kernel_rfl)
  have s2 := hid (show setR [⟨0, 5, 1⟩] 1 6 = [⟨0, 5, 2⟩] by kernel_rfl)
  have s3 := hid (show getB [⟨0, 5, 2⟩] 1 = some 6 by kernel_rfl)
  have s4 := hid (show (pagesR [⟨0, 5, 2⟩]).length = 2 by kernel_rfl)
  have s5 := hid (show rightB [⟨0, 5, 2⟩] = true by kernel_rfl)
  go_enter Try.func11, Try.ntmps11
  go_wp2_with fail
  refine (runs_Set [] none 0 0 5 h _ hs (RowAt.nil _ _)).mono ?_
  rintro e w1 ⟨v1, rfl, O1, E1⟩
  rw [s1.out] at O1
  obtain ⟨h1, A1, c1, rfl, r1, l1, E1'⟩ := O1.stay E1 (Nat.le_refl _) (by decide)
  clear O1 E1
  go_wp2_with fail
  refine (runs_Set [⟨0, 5, 1⟩] A1 c1 1 6 h1 _ E1'.sits r1).mono ?_
  rintro e w2 ⟨v2, rfl, O2, E2⟩
  rw [s2.out] at O2
  have E3 := E1'.trans E2
  obtain ⟨h2, A2, c2, rfl, r2, l2, E3'⟩ := O2.stay E3 E1'.size (by decide)
  clear O2 E2 E3
  go_wp2_with fail
  refine (runs_Get [⟨0, 5, 2⟩] A2 c2 1 h2 _ E3'.sits r2).mono ?_
  rintro e w3 ⟨rfl, E4⟩
  rw [s3.out]
  have E5 := E3'.trans E4
  clear E3' E4
  have E6 := E5.alloc (.cells #[.int .i64 0, .int .i64 5, .int .i64 2] 38)
  have E7 := E6.add (heap_new w3 _) (E5.sits.none (Nat.le_refl _)) E5.size
  have r3 : RowAt (h2.add w3.heap.size (.cells #[.int .i64 0, .int .i64 5, .int .i64 2] 38)) (some ⟨w3.heap.size, 0, none⟩) [(⟨0, 5, 2⟩ : Run)] :=
    RowAt.of_block (FH.add_same _ _ _) ⟨_, _, rfl, rfl, rfl⟩ (by decide)
  have r4 := r2.mono (FLe.add (E5.sits.none (Nat.le_refl _)) (.cells #[.int .i64 0, .int .i64 5, .int .i64 2] 38))
  have K1 := hid (fun w hs => plain_Run [⟨0, 5, 2⟩] [⟨0, 5, 2⟩] A2 (some ⟨w3.heap.size, 0, none⟩) c2 1 true (decide_eq_true rfl) _ w hs r4 r3)
  have K2 := hid (fun w hs => runs_Count [⟨0, 5, 2⟩] A2 c2 2 s4.out _ w hs r4)
  have K3 := hid (fun w hs => runs_Right [⟨0, 5, 2⟩] A2 c2 true s5.out _ w hs r4)
  clear E5 E6 r1 r2 r3
  go_wp2_with fail
  refine (K1.out _ E7.sits).mono ?_
  rintro e w4 ⟨rfl, E8⟩
  have E9 := E7.trans E8
  clear E7 E8
  go_wp2_with fail
  refine (K2.out _ E9.sits).mono ?_
  rintro e w5 ⟨rfl, E10⟩
  have E11 := E9.trans E10
  clear E9 E10
  go_wp2_with fail
  refine (K3.out _ E11.sits).mono ?_
  rintro e w6 ⟨rfl, E12⟩
  have E13 := E11.trans E12
  go_wp2_with fail
  go_ret
  exact ⟨rfl, E13.back⟩
end Go.Proofs.Ytbnpccilccibkaa
