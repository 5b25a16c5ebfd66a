import Derived.Test.YtcnbnehammbncaaDoorPkN
import Derived.Test.YtcnbnehammbncaaDoorRMk
namespace Go.Proofs.YtcnbnehammbncaaDoor
open Go.RowKit Go.Sort
set_option linter.unusedVariables false
/-! ### a directory is inside of itself; law 15 awake -/
set_option maxHeartbeats 4000000 in
set_option maxRecDepth 100000 in
theorem path_Inside_self (s : State) (cs : List Value) (no : Int) (h : FH) (w : World) (hs : Sits h w) (rS : repState h cs s) :
    Calls Tryd.prog 17 #[.agg cs.toArray, .int .i64 no, .int .i64 no] w fun e w' => e = .returned (.bool true) ∧ Ext h w h w' := by
  have rS' := rS
  obtain ⟨A1, c1, A2, c2, rfl, l1, r1, l2, r2⟩ := rS'
  obtain ⟨h1, E1, hb1, le1, hh1⟩ := (Ext.refl hs).boxF #[.int .i64 s.next, .slice A1 s.inodes.length c1, .slice A2 s.bads.length c2] 28
  have hmm := @run_makeMap Tryd.prog
  clear hh1 l1 r1 l2 r2
  go_enter Tryd.func17, Tryd.ntmps17
  go_upto_region 1 with (fail)
  generalize hgS : w.heap.size = gS at *
  with_reducible generalize w.alloc (.cells #[.int .i64 s.next, .slice A1 s.inodes.length c1, .slice A2 s.bads.length c2] 28) = w1 at E1 ⊢
  have s0 : w1.cell? ⟨gS, 0, none⟩ = some (.int .i64 s.next) := Sits_at E1.sits hb1 rfl
  have s1 : w1.cell? ⟨gS, 1, none⟩ = some (.slice A1 s.inodes.length c1) := Sits_at E1.sits hb1 rfl
  have s2 : w1.cell? ⟨gS, 2, none⟩ = some (.slice A2 s.bads.length c2) := Sits_at E1.sits hb1 rfl
  have KB := hid (path_begin s _ h1 w1 E1.sits (repState.mono le1 rS))
  have E1 := hid E1
  go_upto_region 2 with (go_at_call 30; refine KB.out.mono ?_; rintro e w3 ⟨gp, bm, C, h3, D3, cD3, rfl, F3, I3, FM3, HB3⟩; have E3 := hid (E1.out.trans F3); clear F3 I3 FM3 HB3 s0 s1 s2)
  obtain ⟨w4, hrun, M4, G4⟩ := (MapIs.made encI w3).update kt_path_key Tryd.underlying79 no (.int .i64 0)
  have hrun : (Instr.mapUpdate 79 (.map (some w3.heap.size)) (.agg #[.int .i64 no]) (.int .i64 0)).run Tryd.prog (w3.alloc (.map #[] 0)) = .ok () w4 := hrun
  have E4 := hid ((E3.out.alloc (.map #[] 0)).grown G4 (fun k hk => by cases hk; exact ⟨E3.out.size, E3.out.sits.none (Nat.le_refl _)⟩))
  have c5 : (w4.alloc (.cells #[.int .i64 no] 3)).cell? ⟨w4.heap.size, 0, none⟩ = some (.int .i64 no) := box_cell (j := 0) (heap_new w4 (.cells #[.int .i64 no] 3)) rfl
  have E5 := hid (E4.out.alloc (.cells #[.int .i64 no] 3))
  clear M4 G4
  go_upto_region 5 with (fail)
  with_reducible generalize w4.alloc (.cells #[.int .i64 no] 3) = w5 at c5 E5 ⊢
  generalize w4.heap.size = g5 at *
  go_wp2_with fail
  go_loopw [9, 10] (fun s9 i wr => s9 = .slice (some ⟨g5, 0, none⟩) 1 1 ∧ i = .int .i64 0 ∧ wr = w5) (fun _ _ _ => 0)
  case atStart => exact ⟨rfl, rfl, rfl⟩
  case round =>
    obtain ⟨rfl, rfl, rfl⟩ := hrel
    go_wp2_with fail
    go_loopw [37] (fun i wx => i = .int .i64 0 ∧ wx = wr) (fun _ _ => 0)
    case atStart => exact ⟨rfl, rfl⟩
    case round =>
      obtain ⟨rfl, rfl⟩ := hrel
      go_wp2_with fail
      go_ret
      exact ⟨rfl, E5.out.back⟩
set_option maxHeartbeats 4000000 in
set_option maxRecDepth 100000 in
theorem law15_awake (h : FH) (w : World) (hs : Sits h w) : Calls Tryd.prog 9 #[] w fun e w' => e = .returned (.bool true) ∧ Ext h w h w' := by
  have HR := hid (show resolveP newS.inodes ⟨#[47]⟩ true = (1, 0) by decide +kernel)
  have HP := hid (show parentP newS.inodes ⟨#[47, 97]⟩ = (1, ⟨#[97]⟩, 0) by decide +kernel)
  have KN := hid (fun (w' : World) (hs' : Sits h w') => ref_NewState h w' hs')
  have Er := hid (Ext.refl hs)
  go_enter Tryd.func9, Tryd.ntmps9
  go_upto_region 2 with (first
    | (go_at_call 19; refine (KN.out _ hs).mono ?_; rintro e w1 ⟨cs, h1, rfl, rs, E1⟩; have RS := hid rs; have E1 := hid E1)
    | (go_at_call 13; refine (path_Resolve newS cs ⟨#[47]⟩ (by decide) true _ HR.out h1 w1 E1.out.sits RS.out).mono ?_; rintro e w2 ⟨rfl, F2⟩; have E2 := hid (E1.out.trans F2).back; clear F2))
  go_upto_region 3 with (first
    | (go_at_call 19; refine (KN.out _ E2.out.sits).mono ?_; rintro e w3 ⟨cs3, h3, rfl, rs3, F3⟩; have RS3 := hid rs3; have E3 := hid (E2.out.trans F3); clear F3)
    | (go_at_call 15; refine (path_Parent newS cs3 ⟨#[47, 97]⟩ (by decide) _ HP.out h3 w3 E3.out.sits RS3.out).mono ?_; rintro e w4 ⟨rfl, F4, _⟩; have E4 := hid (E3.out.trans F4).back; clear F4))
  go_wp2_with (first
    | (go_at_call 19; refine (KN.out _ E4.out.sits).mono ?_; rintro e w5 ⟨cs5, h5, rfl, rs5, F5⟩; have RS5 := hid rs5; have E5 := hid (E4.out.trans F5); clear F5)
    | (go_at_call 17; refine (path_Inside_self newS cs5 1 h5 w5 E5.out.sits RS5.out).mono ?_; rintro e w6 ⟨rfl, F6⟩; have E6 := hid (E5.out.trans F6).back; clear F6))
  go_ret
  exact ⟨rfl, E6.out⟩
end Go.Proofs.YtcnbnehammbncaaDoor
