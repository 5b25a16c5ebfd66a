import Derived.Test.YtbnpccilccibkaaPick3
import Derived.Test.YtbnpccilccibkaaHelpIn
namespace Go.Proofs.Ytbnpccilccibkaa
open Go.RowKit Go.Sort
set_option linter.unusedVariables false
def awP : List Block := [⟨2, 1, 0, false⟩, ⟨0, 0, 3, false⟩, ⟨0, 0, 1, false⟩]
set_option maxHeartbeats 4000000 in
theorem law19_awake (h : FH) (w : World) (hs : Sits h w) :
    Calls Try.prog 8 #[] w fun e w' => e = .returned (.bool true) ∧ Ext h w h w' := by
  have E1 := (Ext.refl hs).alloc (.cells #[.int .i64 2, .int .i64 1, .int .i64 0, .bool false, .int .i64 0, .int .i64 0, .int .i64 3, .bool false, .int .i64 0, .int .i64 0, .int .i64 1, .bool false] 23)
  have E2 := E1.add (heap_new w _) (hs.none (Nat.le_refl _)) (Nat.le_refl _)
  have r : RowAt (h.add w.heap.size (.cells #[.int .i64 2, .int .i64 1, .int .i64 0, .bool false, .int .i64 0, .int .i64 0, .int .i64 3, .bool false, .int .i64 0, .int .i64 0, .int .i64 1, .bool false] 23)) (some ⟨w.heap.size, 0, none⟩) awP :=
    RowAt.of_block (FH.add_same _ _ _) ⟨_, _, rfl, rfl, _, _, rfl, rfl, _, _, rfl, rfl, rfl⟩ (by decide)
  have f1 : bestGo (fun _ => freeB) younger awP 3 = 2 := by decide
  have f2 : bestGo (vicB []) bestV awP 3 = 0 := by decide
  have f3 : cntFree awP = 2 := by decide
  have F1 := hid f1
  have F2 := hid f2
  have F3 := hid f3
  clear f1 f2 f3
  generalize (h.add w.heap.size (.cells #[.int .i64 2, .int .i64 1, .int .i64 0, .bool false, .int .i64 0, .int .i64 0, .int .i64 3, .bool false, .int .i64 0, .int .i64 0, .int .i64 1, .bool false] 23)) = h1 at *
  go_enter Try.func8, Try.ntmps8
  go_wp2_with fail
  refine (pick_Fresh awP _ _ h1 _ E2.sits r).mono ?_
  rintro e w1 ⟨rfl, E3⟩
  rw [show awP.length = 3 from rfl, F1.out]
  go_wp2_with fail
  refine (pick_Victim awP _ _ [] _ _ h1 _ E3.sits r (RowAt.nil _ _)).mono ?_
  rintro e w2 ⟨rfl, E4⟩
  rw [show awP.length = 3 from rfl, F2.out]
  go_wp2_with fail
  refine (pick_Free awP _ _ h1 _ E4.sits r).mono ?_
  rintro e w3 ⟨rfl, E5⟩
  rw [F3.out]
  go_wp2_with fail
  go_ret
  exact ⟨rfl, (((E2.trans E3).trans E4).trans E5).back⟩
end Go.Proofs.Ytbnpccilccibkaa
