/- Plain facts of TreeFull: what becomes of a state when names and directories are added, one by one. -/
import Derived.Test.YtdiaibkpcnknbaaGreatDoorTrAll
namespace Go.Proofs.YtdiaibkpcnknbaaGreatDoor
open Go.RowKit Go.Sort
set_option linter.unusedVariables false
def okSt (s : State) : Bool := decide (0 ≤ s.next ∧ s.next ≤ 1000000 ∧ s.inodes.length ≤ 300 ∧ s.bads.length ≤ 300) && s.inodes.all fun x => decide (x.entries.length ≤ 1000 ∧ -1000000 ≤ x.links ∧ x.links ≤ 1000000 ∧ x.runs.length ≤ 1000)
theorem okSt_out {s : State} (h : okSt s = true) : (0 ≤ s.next ∧ s.next ≤ 1000000 ∧ s.inodes.length ≤ 300 ∧ s.bads.length ≤ 300) ∧ (∀ x ∈ s.inodes, midI x) ∧ ∀ x ∈ s.inodes, fitI x := by
  unfold okSt at h
  rw [Bool.and_eq_true, decide_eq_true_eq, List.all_eq_true] at h
  refine ⟨h.1, fun x hx => ?_, fun x hx => ?_⟩
  · have q := of_decide_eq_true (h.2 x hx); exact ⟨q.1, q.2.1, q.2.2.1⟩
  · have q := of_decide_eq_true (h.2 x hx); exact ⟨by omega, by omega⟩
def fileF : State := applyS newS (makeP newS ⟨#[47, 102]⟩ 1 ⟨#[]⟩).1
theorem new_ok : okSt newS = true ∧ okSt fileF = true := by decide +kernel
theorem a_made : (makeP newS ⟨#[47, 97]⟩ 1 ⟨#[]⟩).2 = (2, 0) ∧ (makeP newS ⟨#[47, 97]⟩ 1 ⟨#[]⟩).1.length = 3 := by decide +kernel
theorem RetMake.lit {h : FH} {w w' : World} {r : List Deed × Int × Int} {e : Ending} (R : RetMake h w r e w') {n : Nat} {a b : Int} (hn : r.1.length = n) (h2 : r.2 = (a, b)) : ∃ A c h1, e = .returned (.tuple #[.slice A n c, .int .i64 a, .int .i64 b]) ∧ RowAt h1 A r.1 ∧ Ext h w h1 w' := by
  obtain ⟨A, c, h1, rfl, _, r1, E⟩ := R
  exact ⟨A, c, h1, by rw [hn, h2], r1, E⟩
set_option maxHeartbeats 4000000 in
set_option maxRecDepth 100000 in
theorem law16_awake (h : FH) (w : World) (hs : Sits h w) : Calls Tryz.prog 6 #[] w fun e w' => e = .returned (.bool true) ∧ Ext h w h w' := by
  have KN := hid (ref_NewState h w hs)
  go_enter Tryz.func6, Tryz.ntmps6
  go_wp2_with (first
    | (go_at_call 25; refine KN.out.mono ?_; rintro e w1 ⟨cs, h1, rfl, rs, F1⟩; have E1 := hid F1; have RS := hid rs; clear F1 rs)
    | (go_at_call 14; refine (tree_Make newS cs ⟨#[47, 97]⟩ (by decide) 1 ⟨#[]⟩ (by decide) (by decide) (by decide) (okSt_out new_ok.1).2.1 (okSt_out new_ok.1).2.2 h1 w1 E1.out.sits RS.out).mono ?_; rintro e w2 R; obtain ⟨A, c, h2, rfl, _, F2⟩ := R.lit a_made.2 a_made.1; have E2 := hid (E1.out.trans F2); clear F2))
  go_ret
  exact ⟨rfl, E2.out.back⟩
end Go.Proofs.YtdiaibkpcnknbaaGreatDoor
