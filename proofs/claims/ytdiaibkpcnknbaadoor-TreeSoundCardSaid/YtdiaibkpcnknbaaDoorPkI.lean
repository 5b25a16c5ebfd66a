import Derived.Test.YtdiaibkpcnknbaaDoorPkN
import Derived.Test.YtdiaibkpcnknbaaDoorRMk
namespace Go.Proofs.YtdiaibkpcnknbaaDoor
open Go.RowKit Go.Sort
set_option linter.unusedVariables false
/-! ### a directory is inside of itself; law 15 awake -/
set_option maxHeartbeats 4000000 in
set_option maxRecDepth 100000 in
theorem path_Inside_self (s : State) (cs : List Value) (no : Int) (h : FH) (w : World) (hs : Sits h w) (rS : repState h cs s) :
    Calls Tryd.prog 49 #[.agg cs.toArray, .int .i64 no, .int .i64 no] w fun e w' => e = .returned (.bool true) ∧ Ext h w h w' := by
  have rS' := rS
  obtain ⟨A1, c1, A2, c2, rfl, l1, r1, l2, r2⟩ := rS'
  obtain ⟨h1, E1, hb1, le1, hh1⟩ := (Ext.refl hs).boxF #[.int .i64 s.next, .slice A1 s.inodes.length c1, .slice A2 s.bads.length c2] 31
  have hmm := @run_makeMap Tryd.prog
  clear hh1 l1 r1 l2 r2
  go_enter Tryd.func49, Tryd.ntmps49
  go_upto_region 1 with (fail)
  generalize hgS : w.heap.size = gS at *
  with_reducible generalize w.alloc (.cells #[.int .i64 s.next, .slice A1 s.inodes.length c1, .slice A2 s.bads.length c2] 31) = w1 at E1 ⊢
  have s0 : w1.cell? ⟨gS, 0, none⟩ = some (.int .i64 s.next) := Sits_at E1.sits hb1 rfl
  have s1 : w1.cell? ⟨gS, 1, none⟩ = some (.slice A1 s.inodes.length c1) := Sits_at E1.sits hb1 rfl
  have s2 : w1.cell? ⟨gS, 2, none⟩ = some (.slice A2 s.bads.length c2) := Sits_at E1.sits hb1 rfl
  have KB := hid (path_begin s _ h1 w1 E1.sits (repState.mono le1 rS))
  have E1 := hid E1
  go_upto_region 2 with (go_at_call 45; refine KB.out.mono ?_; rintro e w3 ⟨gp, bm, C, h3, D3, cD3, rfl, F3, I3, FM3, HB3⟩; have E3 := hid (E1.out.trans F3); clear F3 I3 FM3 HB3 s0 s1 s2)
  obtain ⟨w4, hrun, M4, G4⟩ := (MapIs.made encI w3).update kt_path_key Tryd.underlying128 no (.int .i64 0)
  have hrun : (Instr.mapUpdate 128 (.map (some w3.heap.size)) (.agg #[.int .i64 no]) (.int .i64 0)).run Tryd.prog (w3.alloc (.map #[] 0)) = .ok () w4 := hrun
  have E4 := hid ((E3.out.alloc (.map #[] 0)).grown G4 (fun k hk => by cases hk; exact ⟨E3.out.size, E3.out.sits.none (Nat.le_refl _)⟩))
  have c5 : (w4.alloc (.cells #[.int .i64 no] 3)).cell? ⟨w4.heap.size, 0, none⟩ = some (.int .i64 no) := box_cell (j := 0) (heap_new w4 (.cells #[.int .i64 no] 3)) rfl
  have E5 := hid (E4.out.alloc (.cells #[.int .i64 no] 3))
  clear M4 G4
  go_upto_region 5 with (fail)
  with_reducible generalize w4.alloc (.cells #[.int .i64 no] 3) = w5 at c5 E5 ⊢
  generalize w4.heap.size = g5 at *
  go_wp2_with fail
  go_loopw [9, 10] (fun s9 i wr => s9 = .slice (some ⟨g5, 0, none⟩) 1 1 ∧ i = .int .i64 0 ∧ wr = w5) (fun _ _ _ => 0)
  case atStart => exact ⟨rfl, rfl, rfl⟩
  case round =>
    obtain ⟨rfl, rfl, rfl⟩ := hrel
    go_wp2_with fail
    go_loopw [37] (fun i wx => i = .int .i64 0 ∧ wx = wr) (fun _ _ => 0)
    case atStart => exact ⟨rfl, rfl⟩
    case round =>
      obtain ⟨rfl, rfl⟩ := hrel
      go_wp2_with fail
      go_ret
      exact ⟨rfl, E5.out.back⟩
end Go.Proofs.YtdiaibkpcnknbaaDoor
