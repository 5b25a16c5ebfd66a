/- The walk of the law RunsRight. -/
import Derived.Test.YtokffohhegabhaaAwakeR
namespace Go.Proofs.Ytokffohhegabhaa
open Go.RowKit Go.Sort
set_option linter.unusedVariables false
def rr0 : List Run := [⟨1, 5, 2⟩, ⟨3, 9, 1⟩, ⟨6, 10, 4⟩]
set_option maxHeartbeats 8000000 in
set_option maxRecDepth 100000 in
theorem RunsRight_walk (what : Int) (W : World) :
    Calls Try.prog 10 #[.int .i64 what] W fun e w' => e = .returned (.bool true) ∧ Ext (fhOf W) W (fhOf W) w' := by
  have hs := Sits.all W
  have E1 := (Ext.refl hs).alloc (.cells #[.int .i64 1, .int .i64 5, .int .i64 2, .int .i64 3, .int .i64 9, .int .i64 1, .int .i64 6, .int .i64 10, .int .i64 4] 48)
  have HW := hid (heap_new W (.cells #[.int .i64 1, .int .i64 5, .int .i64 2, .int .i64 3, .int .i64 9, .int .i64 1, .int .i64 6, .int .i64 10, .int .i64 4] 48))
  have HN := hid (hs.none (g := W.heap.size) (Nat.le_refl _))
  go_enter Try.func10, Try.ntmps10
  go_wp2_with fail
  generalize (W.alloc (.cells #[.int .i64 1, .int .i64 5, .int .i64 2, .int .i64 3, .int .i64 9, .int .i64 1, .int .i64 6, .int .i64 10, .int .i64 4] 48)) = W1 at *
  refine (law09_awake _ _ E1.sits).mono ?_
  rintro e w1 ⟨rfl, E2⟩
  have E3 := E1.trans E2
  have hg : w1.heap[W.heap.size]? = some (.cells #[.int .i64 1, .int .i64 5, .int .i64 2, .int .i64 3, .int .i64 9, .int .i64 1, .int .i64 6, .int .i64 10, .int .i64 4] 48) := by
    rw [E2.below.block _ (by have := (Array.getElem?_eq_some_iff.1 HW.out).1; exact this)]; exact HW.out
  have O : OwnL (fhOf W) w1 W.heap.size 48 (.slice (some ⟨W.heap.size, 0, none⟩) rr0.length 3) rr0 :=
    ⟨⟨[.int .i64 1, .int .i64 5, .int .i64 2, .int .i64 3, .int .i64 9, .int .i64 1, .int .i64 6, .int .i64 10, .int .i64 4], ⟨rfl, .inr ⟨_, 3, _, rfl, Nat.le_refl _, hg, by decide, by decide, rfl, rfl⟩⟩, ⟨_, _, rfl, rfl, _, _, rfl, rfl, _, _, rfl, rfl, rfl⟩⟩, fun g hg => by cases hg; exact HN.out⟩
  clear hg HW E1 E2
  obtain ⟨h1, A1, c1, hv, r1, l1, E4⟩ := O.stay E3 (Nat.le_refl _) (by decide)
  obtain ⟨rfl, rfl⟩ : A1 = some ⟨W.heap.size, 0, none⟩ ∧ c1 = 3 := by simpa [rr0] using hv.symm
  clear hv
  go_wp2_with fail
  refine (runs_Right rr0 _ _ true (by kernel_rfl) h1 _ E4.sits r1).mono ?_
  rintro e w2 ⟨rfl, E5⟩
  have Ex := Ext.of_below E3.sits E5.below
  have O2 := O.ext Ex
  have E6 := E3.trans Ex
  clear O E3 E4 Ex r1 l1
  clear E5
  clear h1
  go_wp2_with fail
  refine (runs_Right [] none 0 true (by kernel_rfl) (fhOf W) _ E6.sits (RowAt.nil _ _)).mono ?_
  rintro e w3 ⟨rfl, E7⟩
  have O := O2.ext E7
  have E := E6.trans E7
  clear E6 E7 O2
  obtain ⟨q, hq, hq9⟩ : ∃ q : Nat, (IntKind.u64.wrap what).tmod 9 = q ∧ q < 9 := by
    have h1 : 0 ≤ IntKind.u64.wrap what := wrap_u64_nonneg what
    rw [Int.tmod_eq_emod_of_nonneg h1]
    exact ⟨(IntKind.u64.wrap what % 9).toNat, by omega, by omega⟩
  obtain rfl | rfl | rfl | rfl | rfl | rfl | rfl | rfl | rfl : q = 0 ∨ q = 1 ∨ q = 2 ∨ q = 3 ∨ q = 4 ∨ q = 5 ∨ q = 6 ∨ q = 7 ∨ q = 8 := by omega
  · have hq0 : (IntKind.u64.wrap what).tmod 9 = 0 := hq
    clear hq hq9
    have s1 := hid (show getB [⟨-1, 5, 2⟩, ⟨3, 9, 1⟩, ⟨6, 10, 4⟩] 60 = none by kernel_rfl)
    have s2 := hid (show setR [⟨-1, 5, 2⟩, ⟨3, 9, 1⟩, ⟨6, 10, 4⟩] 0 0 = [] by kernel_rfl)
    have s3 := hid (show cutR [⟨-1, 5, 2⟩, ⟨3, 9, 1⟩, ⟨6, 10, 4⟩] 9 = [] by kernel_rfl)
    have s4 := hid (show pagesR [⟨-1, 5, 2⟩, ⟨3, 9, 1⟩, ⟨6, 10, 4⟩] = [] by kernel_rfl)
    have s5 := hid (show rightB [⟨-1, 5, 2⟩, ⟨3, 9, 1⟩, ⟨6, 10, 4⟩] = false by kernel_rfl)
    have O2 : OwnL (fhOf W) (w3.setCell ⟨W.heap.size, 0, none⟩ (.int .i64 (-1))) W.heap.size 48 (.slice (some ⟨W.heap.size, 0, none⟩) ([⟨-1, 5, 2⟩, ⟨3, 9, 1⟩, ⟨6, 10, 4⟩] : List Run).length 3) ([⟨-1, 5, 2⟩, ⟨3, 9, 1⟩, ⟨6, 10, 4⟩] : List Run) := O.setCell (i := 0) (j := 0) (x := ⟨1, 5, 2⟩) (y := ⟨-1, 5, 2⟩) (u := .int .i64 (-1)) rfl (by decide) (fun cs hcs => by
      have hcs : cs = [.int .i64 1, .int .i64 5, .int .i64 2] := hcs
      subst hcs; exact (rfl : _ = _))
    have E2 := E.setCell (p := ⟨W.heap.size, 0, none⟩) (Nat.le_refl _) HN.out (.int .i64 (-1))
    obtain ⟨g0, cap, cs, hv, _, _, _, hr, hcc, hfz⟩ := O.get (i := 0) (x := ⟨1, 5, 2⟩) rfl
    obtain ⟨rfl, rfl⟩ : W.heap.size = g0 ∧ 3 = cap := by simpa [rr0] using hv
    have hr : cs = [.int .i64 1, .int .i64 5, .int .i64 2] := hr
    subst hr
    have c0 : w3.cell? ⟨W.heap.size, 0, none⟩ = some (.int .i64 1) := hcc 0 _ rfl
    have f0 := hfz 0
    clear hcc hfz hv O E
    obtain ⟨h1, A1, c1, hv, r1, l1, E4⟩ := O2.stay E2 (Nat.le_refl _) (by decide)
    obtain ⟨rfl, rfl⟩ : A1 = some ⟨W.heap.size, 0, none⟩ ∧ c1 = 3 := by simpa using hv.symm
    clear hv O2 E2 l1
    go_wp2_with fail
    refine (runs_Get [⟨-1, 5, 2⟩, ⟨3, 9, 1⟩, ⟨6, 10, 4⟩] _ _ 60 h1 _ E4.sits r1).mono ?_
    rintro e w4 ⟨rfl, E5⟩
    rw [s1.out]
    have E6 := E4.trans E5
    clear E4 E5
    go_wp2_with fail
    refine (runs_Right [⟨-1, 5, 2⟩, ⟨3, 9, 1⟩, ⟨6, 10, 4⟩] _ _ false s5.out h1 _ E6.sits r1).mono ?_
    rintro e w5 ⟨rfl, E7⟩
    have E8 := E6.trans E7
    clear E6 E7
    go_wp2_with fail
    refine (runs_Set [⟨-1, 5, 2⟩, ⟨3, 9, 1⟩, ⟨6, 10, 4⟩] _ _ 0 0 h1 _ E8.sits r1).mono ?_
    rintro e w6 ⟨v6, rfl, O6, E9⟩
    rw [s2.out] at O6
    obtain ⟨A6, c6, rfl, _⟩ := O6.slice
    have E10 := E8.trans E9
    clear E8 E9 O6
    go_wp2_with fail
    refine (runs_Cut [⟨-1, 5, 2⟩, ⟨3, 9, 1⟩, ⟨6, 10, 4⟩] _ _ 9 (by decide) h1 _ E10.sits r1).mono ?_
    rintro e w7 ⟨v7, rfl, O7, E11⟩
    rw [s3.out] at O7
    obtain ⟨A7, c7, rfl, _⟩ := O7.slice
    have E12 := E10.trans E11
    clear E10 E11 O7
    go_wp2_with fail
    refine (runs_Count [⟨-1, 5, 2⟩, ⟨3, 9, 1⟩, ⟨6, 10, 4⟩] _ _ 0 (by rw [s4.out]; rfl) h1 _ E12.sits r1).mono ?_
    rintro e w8 ⟨rfl, E13⟩
    have E14 := E12.trans E13
    clear E12 E13
    go_wp2_with fail
    refine (runs_Pages [⟨-1, 5, 2⟩, ⟨3, 9, 1⟩, ⟨6, 10, 4⟩] _ _ h1 _ E14.sits r1).mono ?_
    rintro e w9 ⟨v9, rfl, O9, E15⟩
    rw [s4.out] at O9
    obtain ⟨A9, c9, rfl, _⟩ := O9.slice
    have E16 := E14.trans E15
    clear E14 E15 O9
    go_wp2_with fail
    go_ret
    exact ⟨rfl, E16.back⟩
  · have hq0 : (IntKind.u64.wrap what).tmod 9 = 1 := hq
    clear hq hq9
    have s1 := hid (show getB [⟨1, 5, 0⟩, ⟨3, 9, 1⟩, ⟨6, 10, 4⟩] 60 = none by kernel_rfl)
    have s2 := hid (show setR [⟨1, 5, 0⟩, ⟨3, 9, 1⟩, ⟨6, 10, 4⟩] 0 0 = [] by kernel_rfl)
    have s3 := hid (show cutR [⟨1, 5, 0⟩, ⟨3, 9, 1⟩, ⟨6, 10, 4⟩] 9 = [] by kernel_rfl)
    have s4 := hid (show pagesR [⟨1, 5, 0⟩, ⟨3, 9, 1⟩, ⟨6, 10, 4⟩] = [] by kernel_rfl)
    have s5 := hid (show rightB [⟨1, 5, 0⟩, ⟨3, 9, 1⟩, ⟨6, 10, 4⟩] = false by kernel_rfl)
    have O2 : OwnL (fhOf W) (w3.setCell ⟨W.heap.size, 2, none⟩ (.int .i64 (0))) W.heap.size 48 (.slice (some ⟨W.heap.size, 0, none⟩) ([⟨1, 5, 0⟩, ⟨3, 9, 1⟩, ⟨6, 10, 4⟩] : List Run).length 3) ([⟨1, 5, 0⟩, ⟨3, 9, 1⟩, ⟨6, 10, 4⟩] : List Run) := O.setCell (i := 0) (j := 2) (x := ⟨1, 5, 2⟩) (y := ⟨1, 5, 0⟩) (u := .int .i64 (0)) rfl (by decide) (fun cs hcs => by
      have hcs : cs = [.int .i64 1, .int .i64 5, .int .i64 2] := hcs
      subst hcs; exact (rfl : _ = _))
    have E2 := E.setCell (p := ⟨W.heap.size, 2, none⟩) (Nat.le_refl _) HN.out (.int .i64 (0))
    obtain ⟨g0, cap, cs, hv, _, _, _, hr, hcc, hfz⟩ := O.get (i := 0) (x := ⟨1, 5, 2⟩) rfl
    obtain ⟨rfl, rfl⟩ : W.heap.size = g0 ∧ 3 = cap := by simpa [rr0] using hv
    have hr : cs = [.int .i64 1, .int .i64 5, .int .i64 2] := hr
    subst hr
    have c0 : w3.cell? ⟨W.heap.size, 2, none⟩ = some (.int .i64 2) := hcc 2 _ rfl
    have f0 := hfz 2
    clear hcc hfz hv O E
    obtain ⟨h1, A1, c1, hv, r1, l1, E4⟩ := O2.stay E2 (Nat.le_refl _) (by decide)
    obtain ⟨rfl, rfl⟩ : A1 = some ⟨W.heap.size, 0, none⟩ ∧ c1 = 3 := by simpa using hv.symm
    clear hv O2 E2 l1
    go_wp2_with fail
    refine (runs_Get [⟨1, 5, 0⟩, ⟨3, 9, 1⟩, ⟨6, 10, 4⟩] _ _ 60 h1 _ E4.sits r1).mono ?_
    rintro e w4 ⟨rfl, E5⟩
    rw [s1.out]
    have E6 := E4.trans E5
    clear E4 E5
    go_wp2_with fail
    refine (runs_Right [⟨1, 5, 0⟩, ⟨3, 9, 1⟩, ⟨6, 10, 4⟩] _ _ false s5.out h1 _ E6.sits r1).mono ?_
    rintro e w5 ⟨rfl, E7⟩
    have E8 := E6.trans E7
    clear E6 E7
    go_wp2_with fail
    refine (runs_Set [⟨1, 5, 0⟩, ⟨3, 9, 1⟩, ⟨6, 10, 4⟩] _ _ 0 0 h1 _ E8.sits r1).mono ?_
    rintro e w6 ⟨v6, rfl, O6, E9⟩
    rw [s2.out] at O6
    obtain ⟨A6, c6, rfl, _⟩ := O6.slice
    have E10 := E8.trans E9
    clear E8 E9 O6
    go_wp2_with fail
    refine (runs_Cut [⟨1, 5, 0⟩, ⟨3, 9, 1⟩, ⟨6, 10, 4⟩] _ _ 9 (by decide) h1 _ E10.sits r1).mono ?_
    rintro e w7 ⟨v7, rfl, O7, E11⟩
    rw [s3.out] at O7
    obtain ⟨A7, c7, rfl, _⟩ := O7.slice
    have E12 := E10.trans E11
    clear E10 E11 O7
    go_wp2_with fail
    refine (runs_Count [⟨1, 5, 0⟩, ⟨3, 9, 1⟩, ⟨6, 10, 4⟩] _ _ 0 (by rw [s4.out]; rfl) h1 _ E12.sits r1).mono ?_
    rintro e w8 ⟨rfl, E13⟩
    have E14 := E12.trans E13
    clear E12 E13
    go_wp2_with fail
    refine (runs_Pages [⟨1, 5, 0⟩, ⟨3, 9, 1⟩, ⟨6, 10, 4⟩] _ _ h1 _ E14.sits r1).mono ?_
    rintro e w9 ⟨v9, rfl, O9, E15⟩
    rw [s4.out] at O9
    obtain ⟨A9, c9, rfl, _⟩ := O9.slice
    have E16 := E14.trans E15
    clear E14 E15 O9
    go_wp2_with fail
    go_ret
    exact ⟨rfl, E16.back⟩
  · have hq0 : (IntKind.u64.wrap what).tmod 9 = 2 := hq
    clear hq hq9
    have s1 := hid (show getB [⟨1, -1, 2⟩, ⟨3, 9, 1⟩, ⟨6, 10, 4⟩] 60 = none by kernel_rfl)
    have s2 := hid (show setR [⟨1, -1, 2⟩, ⟨3, 9, 1⟩, ⟨6, 10, 4⟩] 0 0 = [] by kernel_rfl)
    have s3 := hid (show cutR [⟨1, -1, 2⟩, ⟨3, 9, 1⟩, ⟨6, 10, 4⟩] 9 = [] by kernel_rfl)
    have s4 := hid (show pagesR [⟨1, -1, 2⟩, ⟨3, 9, 1⟩, ⟨6, 10, 4⟩] = [] by kernel_rfl)
    have s5 := hid (show rightB [⟨1, -1, 2⟩, ⟨3, 9, 1⟩, ⟨6, 10, 4⟩] = false by kernel_rfl)
    have O2 : OwnL (fhOf W) (w3.setCell ⟨W.heap.size, 1, none⟩ (.int .i64 (-1))) W.heap.size 48 (.slice (some ⟨W.heap.size, 0, none⟩) ([⟨1, -1, 2⟩, ⟨3, 9, 1⟩, ⟨6, 10, 4⟩] : List Run).length 3) ([⟨1, -1, 2⟩, ⟨3, 9, 1⟩, ⟨6, 10, 4⟩] : List Run) := O.setCell (i := 0) (j := 1) (x := ⟨1, 5, 2⟩) (y := ⟨1, -1, 2⟩) (u := .int .i64 (-1)) rfl (by decide) (fun cs hcs => by
      have hcs : cs = [.int .i64 1, .int .i64 5, .int .i64 2] := hcs
      subst hcs; exact (rfl : _ = _))
    have E2 := E.setCell (p := ⟨W.heap.size, 1, none⟩) (Nat.le_refl _) HN.out (.int .i64 (-1))
    obtain ⟨g0, cap, cs, hv, _, _, _, hr, hcc, hfz⟩ := O.get (i := 0) (x := ⟨1, 5, 2⟩) rfl
    obtain ⟨rfl, rfl⟩ : W.heap.size = g0 ∧ 3 = cap := by simpa [rr0] using hv
    have hr : cs = [.int .i64 1, .int .i64 5, .int .i64 2] := hr
    subst hr
    have c0 : w3.cell? ⟨W.heap.size, 1, none⟩ = some (.int .i64 5) := hcc 1 _ rfl
    have f0 := hfz 1
    clear hcc hfz hv O E
    obtain ⟨h1, A1, c1, hv, r1, l1, E4⟩ := O2.stay E2 (Nat.le_refl _) (by decide)
    obtain ⟨rfl, rfl⟩ : A1 = some ⟨W.heap.size, 0, none⟩ ∧ c1 = 3 := by simpa using hv.symm
    clear hv O2 E2 l1
    go_wp2_with fail
    refine (runs_Get [⟨1, -1, 2⟩, ⟨3, 9, 1⟩, ⟨6, 10, 4⟩] _ _ 60 h1 _ E4.sits r1).mono ?_
    rintro e w4 ⟨rfl, E5⟩
    rw [s1.out]
    have E6 := E4.trans E5
    clear E4 E5
    go_wp2_with fail
    refine (runs_Right [⟨1, -1, 2⟩, ⟨3, 9, 1⟩, ⟨6, 10, 4⟩] _ _ false s5.out h1 _ E6.sits r1).mono ?_
    rintro e w5 ⟨rfl, E7⟩
    have E8 := E6.trans E7
    clear E6 E7
    go_wp2_with fail
    refine (runs_Set [⟨1, -1, 2⟩, ⟨3, 9, 1⟩, ⟨6, 10, 4⟩] _ _ 0 0 h1 _ E8.sits r1).mono ?_
    rintro e w6 ⟨v6, rfl, O6, E9⟩
    rw [s2.out] at O6
    obtain ⟨A6, c6, rfl, _⟩ := O6.slice
    have E10 := E8.trans E9
    clear E8 E9 O6
    go_wp2_with fail
    refine (runs_Cut [⟨1, -1, 2⟩, ⟨3, 9, 1⟩, ⟨6, 10, 4⟩] _ _ 9 (by decide) h1 _ E10.sits r1).mono ?_
    rintro e w7 ⟨v7, rfl, O7, E11⟩
    rw [s3.out] at O7
    obtain ⟨A7, c7, rfl, _⟩ := O7.slice
    have E12 := E10.trans E11
    clear E10 E11 O7
    go_wp2_with fail
    refine (runs_Count [⟨1, -1, 2⟩, ⟨3, 9, 1⟩, ⟨6, 10, 4⟩] _ _ 0 (by rw [s4.out]; rfl) h1 _ E12.sits r1).mono ?_
    rintro e w8 ⟨rfl, E13⟩
    have E14 := E12.trans E13
    clear E12 E13
    go_wp2_with fail
    refine (runs_Pages [⟨1, -1, 2⟩, ⟨3, 9, 1⟩, ⟨6, 10, 4⟩] _ _ h1 _ E14.sits r1).mono ?_
    rintro e w9 ⟨v9, rfl, O9, E15⟩
    rw [s4.out] at O9
    obtain ⟨A9, c9, rfl, _⟩ := O9.slice
    have E16 := E14.trans E15
    clear E14 E15 O9
    go_wp2_with fail
    go_ret
    exact ⟨rfl, E16.back⟩
  · have hq0 : (IntKind.u64.wrap what).tmod 9 = 3 := hq
    clear hq hq9
    have s1 := hid (show getB [⟨1, 5, 2⟩, ⟨2, 9, 1⟩, ⟨6, 10, 4⟩] 60 = none by kernel_rfl)
    have s2 := hid (show setR [⟨1, 5, 2⟩, ⟨2, 9, 1⟩, ⟨6, 10, 4⟩] 0 0 = [] by kernel_rfl)
    have s3 := hid (show cutR [⟨1, 5, 2⟩, ⟨2, 9, 1⟩, ⟨6, 10, 4⟩] 9 = [] by kernel_rfl)
    have s4 := hid (show pagesR [⟨1, 5, 2⟩, ⟨2, 9, 1⟩, ⟨6, 10, 4⟩] = [] by kernel_rfl)
    have s5 := hid (show rightB [⟨1, 5, 2⟩, ⟨2, 9, 1⟩, ⟨6, 10, 4⟩] = false by kernel_rfl)
    have O2 : OwnL (fhOf W) (w3.setCell ⟨W.heap.size, 3, none⟩ (.int .i64 (2))) W.heap.size 48 (.slice (some ⟨W.heap.size, 0, none⟩) ([⟨1, 5, 2⟩, ⟨2, 9, 1⟩, ⟨6, 10, 4⟩] : List Run).length 3) ([⟨1, 5, 2⟩, ⟨2, 9, 1⟩, ⟨6, 10, 4⟩] : List Run) := O.setCell (i := 1) (j := 0) (x := ⟨3, 9, 1⟩) (y := ⟨2, 9, 1⟩) (u := .int .i64 (2)) rfl (by decide) (fun cs hcs => by
      have hcs : cs = [.int .i64 3, .int .i64 9, .int .i64 1] := hcs
      subst hcs; exact (rfl : _ = _))
    have E2 := E.setCell (p := ⟨W.heap.size, 3, none⟩) (Nat.le_refl _) HN.out (.int .i64 (2))
    obtain ⟨g0, cap, cs, hv, _, _, _, hr, hcc, hfz⟩ := O.get (i := 1) (x := ⟨3, 9, 1⟩) rfl
    obtain ⟨rfl, rfl⟩ : W.heap.size = g0 ∧ 3 = cap := by simpa [rr0] using hv
    have hr : cs = [.int .i64 3, .int .i64 9, .int .i64 1] := hr
    subst hr
    have c0 : w3.cell? ⟨W.heap.size, 3, none⟩ = some (.int .i64 3) := hcc 0 _ rfl
    have f0 := hfz 3
    clear hcc hfz hv O E
    obtain ⟨h1, A1, c1, hv, r1, l1, E4⟩ := O2.stay E2 (Nat.le_refl _) (by decide)
    obtain ⟨rfl, rfl⟩ : A1 = some ⟨W.heap.size, 0, none⟩ ∧ c1 = 3 := by simpa using hv.symm
    clear hv O2 E2 l1
    go_wp2_with fail
    refine (runs_Get [⟨1, 5, 2⟩, ⟨2, 9, 1⟩, ⟨6, 10, 4⟩] _ _ 60 h1 _ E4.sits r1).mono ?_
    rintro e w4 ⟨rfl, E5⟩
    rw [s1.out]
    have E6 := E4.trans E5
    clear E4 E5
    go_wp2_with fail
    refine (runs_Right [⟨1, 5, 2⟩, ⟨2, 9, 1⟩, ⟨6, 10, 4⟩] _ _ false s5.out h1 _ E6.sits r1).mono ?_
    rintro e w5 ⟨rfl, E7⟩
    have E8 := E6.trans E7
    clear E6 E7
    go_wp2_with fail
    refine (runs_Set [⟨1, 5, 2⟩, ⟨2, 9, 1⟩, ⟨6, 10, 4⟩] _ _ 0 0 h1 _ E8.sits r1).mono ?_
    rintro e w6 ⟨v6, rfl, O6, E9⟩
    rw [s2.out] at O6
    obtain ⟨A6, c6, rfl, _⟩ := O6.slice
    have E10 := E8.trans E9
    clear E8 E9 O6
    go_wp2_with fail
    refine (runs_Cut [⟨1, 5, 2⟩, ⟨2, 9, 1⟩, ⟨6, 10, 4⟩] _ _ 9 (by decide) h1 _ E10.sits r1).mono ?_
    rintro e w7 ⟨v7, rfl, O7, E11⟩
    rw [s3.out] at O7
    obtain ⟨A7, c7, rfl, _⟩ := O7.slice
    have E12 := E10.trans E11
    clear E10 E11 O7
    go_wp2_with fail
    refine (runs_Count [⟨1, 5, 2⟩, ⟨2, 9, 1⟩, ⟨6, 10, 4⟩] _ _ 0 (by rw [s4.out]; rfl) h1 _ E12.sits r1).mono ?_
    rintro e w8 ⟨rfl, E13⟩
    have E14 := E12.trans E13
    clear E12 E13
    go_wp2_with fail
    refine (runs_Pages [⟨1, 5, 2⟩, ⟨2, 9, 1⟩, ⟨6, 10, 4⟩] _ _ h1 _ E14.sits r1).mono ?_
    rintro e w9 ⟨v9, rfl, O9, E15⟩
    rw [s4.out] at O9
    obtain ⟨A9, c9, rfl, _⟩ := O9.slice
    have E16 := E14.trans E15
    clear E14 E15 O9
    go_wp2_with fail
    go_ret
    exact ⟨rfl, E16.back⟩
  · have hq0 : (IntKind.u64.wrap what).tmod 9 = 4 := hq
    clear hq hq9
    have s1 := hid (show getB [⟨1, 5, 2⟩, ⟨3, 7, 1⟩, ⟨6, 10, 4⟩] 60 = none by kernel_rfl)
    have s2 := hid (show setR [⟨1, 5, 2⟩, ⟨3, 7, 1⟩, ⟨6, 10, 4⟩] 0 0 = [] by kernel_rfl)
    have s3 := hid (show cutR [⟨1, 5, 2⟩, ⟨3, 7, 1⟩, ⟨6, 10, 4⟩] 9 = [] by kernel_rfl)
    have s4 := hid (show pagesR [⟨1, 5, 2⟩, ⟨3, 7, 1⟩, ⟨6, 10, 4⟩] = [] by kernel_rfl)
    have s5 := hid (show rightB [⟨1, 5, 2⟩, ⟨3, 7, 1⟩, ⟨6, 10, 4⟩] = false by kernel_rfl)
    have O2 : OwnL (fhOf W) (w3.setCell ⟨W.heap.size, 4, none⟩ (.int .i64 (7))) W.heap.size 48 (.slice (some ⟨W.heap.size, 0, none⟩) ([⟨1, 5, 2⟩, ⟨3, 7, 1⟩, ⟨6, 10, 4⟩] : List Run).length 3) ([⟨1, 5, 2⟩, ⟨3, 7, 1⟩, ⟨6, 10, 4⟩] : List Run) := O.setCell (i := 1) (j := 1) (x := ⟨3, 9, 1⟩) (y := ⟨3, 7, 1⟩) (u := .int .i64 (7)) rfl (by decide) (fun cs hcs => by
      have hcs : cs = [.int .i64 3, .int .i64 9, .int .i64 1] := hcs
      subst hcs; exact (rfl : _ = _))
    have E2 := E.setCell (p := ⟨W.heap.size, 4, none⟩) (Nat.le_refl _) HN.out (.int .i64 (7))
    obtain ⟨g0, cap, cs, hv, _, _, _, hr, hcc, hfz⟩ := O.get (i := 1) (x := ⟨3, 9, 1⟩) rfl
    obtain ⟨rfl, rfl⟩ : W.heap.size = g0 ∧ 3 = cap := by simpa [rr0] using hv
    have hr : cs = [.int .i64 3, .int .i64 9, .int .i64 1] := hr
    subst hr
    have c0 : w3.cell? ⟨W.heap.size, 4, none⟩ = some (.int .i64 9) := hcc 1 _ rfl
    have f0 := hfz 4
    clear hcc hfz hv O E
    obtain ⟨h1, A1, c1, hv, r1, l1, E4⟩ := O2.stay E2 (Nat.le_refl _) (by decide)
    obtain ⟨rfl, rfl⟩ : A1 = some ⟨W.heap.size, 0, none⟩ ∧ c1 = 3 := by simpa using hv.symm
    clear hv O2 E2 l1
    go_wp2_with fail
    refine (runs_Get [⟨1, 5, 2⟩, ⟨3, 7, 1⟩, ⟨6, 10, 4⟩] _ _ 60 h1 _ E4.sits r1).mono ?_
    rintro e w4 ⟨rfl, E5⟩
    rw [s1.out]
    have E6 := E4.trans E5
    clear E4 E5
    go_wp2_with fail
    refine (runs_Right [⟨1, 5, 2⟩, ⟨3, 7, 1⟩, ⟨6, 10, 4⟩] _ _ false s5.out h1 _ E6.sits r1).mono ?_
    rintro e w5 ⟨rfl, E7⟩
    have E8 := E6.trans E7
    clear E6 E7
    go_wp2_with fail
    refine (runs_Set [⟨1, 5, 2⟩, ⟨3, 7, 1⟩, ⟨6, 10, 4⟩] _ _ 0 0 h1 _ E8.sits r1).mono ?_
    rintro e w6 ⟨v6, rfl, O6, E9⟩
    rw [s2.out] at O6
    obtain ⟨A6, c6, rfl, _⟩ := O6.slice
    have E10 := E8.trans E9
    clear E8 E9 O6
    go_wp2_with fail
    refine (runs_Cut [⟨1, 5, 2⟩, ⟨3, 7, 1⟩, ⟨6, 10, 4⟩] _ _ 9 (by decide) h1 _ E10.sits r1).mono ?_
    rintro e w7 ⟨v7, rfl, O7, E11⟩
    rw [s3.out] at O7
    obtain ⟨A7, c7, rfl, _⟩ := O7.slice
    have E12 := E10.trans E11
    clear E10 E11 O7
    go_wp2_with fail
    refine (runs_Count [⟨1, 5, 2⟩, ⟨3, 7, 1⟩, ⟨6, 10, 4⟩] _ _ 0 (by rw [s4.out]; rfl) h1 _ E12.sits r1).mono ?_
    rintro e w8 ⟨rfl, E13⟩
    have E14 := E12.trans E13
    clear E12 E13
    go_wp2_with fail
    refine (runs_Pages [⟨1, 5, 2⟩, ⟨3, 7, 1⟩, ⟨6, 10, 4⟩] _ _ h1 _ E14.sits r1).mono ?_
    rintro e w9 ⟨v9, rfl, O9, E15⟩
    rw [s4.out] at O9
    obtain ⟨A9, c9, rfl, _⟩ := O9.slice
    have E16 := E14.trans E15
    clear E14 E15 O9
    go_wp2_with fail
    go_ret
    exact ⟨rfl, E16.back⟩
  · have hq0 : (IntKind.u64.wrap what).tmod 9 = 5 := hq
    clear hq hq9
    have s1 := hid (show getB [⟨1, 5, 2⟩, ⟨3, 9, 1⟩, ⟨6, 10, 59⟩] 60 = some 64 by kernel_rfl)
    have s2 := hid (show setR [⟨1, 5, 2⟩, ⟨3, 9, 1⟩, ⟨6, 10, 59⟩] 0 0 = [] by kernel_rfl)
    have s3 := hid (show cutR [⟨1, 5, 2⟩, ⟨3, 9, 1⟩, ⟨6, 10, 59⟩] 9 = [] by kernel_rfl)
    have s4 := hid (show pagesR [⟨1, 5, 2⟩, ⟨3, 9, 1⟩, ⟨6, 10, 59⟩] = [] by kernel_rfl)
    have s5 := hid (show rightB [⟨1, 5, 2⟩, ⟨3, 9, 1⟩, ⟨6, 10, 59⟩] = false by kernel_rfl)
    have O2 : OwnL (fhOf W) (w3.setCell ⟨W.heap.size, 8, none⟩ (.int .i64 (59))) W.heap.size 48 (.slice (some ⟨W.heap.size, 0, none⟩) ([⟨1, 5, 2⟩, ⟨3, 9, 1⟩, ⟨6, 10, 59⟩] : List Run).length 3) ([⟨1, 5, 2⟩, ⟨3, 9, 1⟩, ⟨6, 10, 59⟩] : List Run) := O.setCell (i := 2) (j := 2) (x := ⟨6, 10, 4⟩) (y := ⟨6, 10, 59⟩) (u := .int .i64 (59)) rfl (by decide) (fun cs hcs => by
      have hcs : cs = [.int .i64 6, .int .i64 10, .int .i64 4] := hcs
      subst hcs; exact (rfl : _ = _))
    have E2 := E.setCell (p := ⟨W.heap.size, 8, none⟩) (Nat.le_refl _) HN.out (.int .i64 (59))
    obtain ⟨g0, cap, cs, hv, _, _, _, hr, hcc, hfz⟩ := O.get (i := 2) (x := ⟨6, 10, 4⟩) rfl
    obtain ⟨rfl, rfl⟩ : W.heap.size = g0 ∧ 3 = cap := by simpa [rr0] using hv
    have hr : cs = [.int .i64 6, .int .i64 10, .int .i64 4] := hr
    subst hr
    have c0 : w3.cell? ⟨W.heap.size, 8, none⟩ = some (.int .i64 4) := hcc 2 _ rfl
    have f0 := hfz 8
    clear hcc hfz hv O E
    obtain ⟨h1, A1, c1, hv, r1, l1, E4⟩ := O2.stay E2 (Nat.le_refl _) (by decide)
    obtain ⟨rfl, rfl⟩ : A1 = some ⟨W.heap.size, 0, none⟩ ∧ c1 = 3 := by simpa using hv.symm
    clear hv O2 E2 l1
    go_wp2_with fail
    refine (runs_Get [⟨1, 5, 2⟩, ⟨3, 9, 1⟩, ⟨6, 10, 59⟩] _ _ 60 h1 _ E4.sits r1).mono ?_
    rintro e w4 ⟨rfl, E5⟩
    rw [s1.out]
    have E6 := E4.trans E5
    clear E4 E5
    go_wp2_with fail
    refine (runs_Right [⟨1, 5, 2⟩, ⟨3, 9, 1⟩, ⟨6, 10, 59⟩] _ _ false s5.out h1 _ E6.sits r1).mono ?_
    rintro e w5 ⟨rfl, E7⟩
    have E8 := E6.trans E7
    clear E6 E7
    go_wp2_with fail
    refine (runs_Set [⟨1, 5, 2⟩, ⟨3, 9, 1⟩, ⟨6, 10, 59⟩] _ _ 0 0 h1 _ E8.sits r1).mono ?_
    rintro e w6 ⟨v6, rfl, O6, E9⟩
    rw [s2.out] at O6
    obtain ⟨A6, c6, rfl, _⟩ := O6.slice
    have E10 := E8.trans E9
    clear E8 E9 O6
    go_wp2_with fail
    refine (runs_Cut [⟨1, 5, 2⟩, ⟨3, 9, 1⟩, ⟨6, 10, 59⟩] _ _ 9 (by decide) h1 _ E10.sits r1).mono ?_
    rintro e w7 ⟨v7, rfl, O7, E11⟩
    rw [s3.out] at O7
    obtain ⟨A7, c7, rfl, _⟩ := O7.slice
    have E12 := E10.trans E11
    clear E10 E11 O7
    go_wp2_with fail
    refine (runs_Count [⟨1, 5, 2⟩, ⟨3, 9, 1⟩, ⟨6, 10, 59⟩] _ _ 0 (by rw [s4.out]; rfl) h1 _ E12.sits r1).mono ?_
    rintro e w8 ⟨rfl, E13⟩
    have E14 := E12.trans E13
    clear E12 E13
    go_wp2_with fail
    refine (runs_Pages [⟨1, 5, 2⟩, ⟨3, 9, 1⟩, ⟨6, 10, 59⟩] _ _ h1 _ E14.sits r1).mono ?_
    rintro e w9 ⟨v9, rfl, O9, E15⟩
    rw [s4.out] at O9
    obtain ⟨A9, c9, rfl, _⟩ := O9.slice
    have E16 := E14.trans E15
    clear E14 E15 O9
    go_wp2_with fail
    go_ret
    exact ⟨rfl, E16.back⟩
  · have hq0 : (IntKind.u64.wrap what).tmod 9 = 6 := hq
    clear hq hq9
    have s1 := hid (show getB [⟨3, 9, 1⟩, ⟨1, 5, 2⟩, ⟨6, 10, 4⟩] 60 = none by kernel_rfl)
    have s2 := hid (show setR [⟨3, 9, 1⟩, ⟨1, 5, 2⟩, ⟨6, 10, 4⟩] 0 0 = [] by kernel_rfl)
    have s3 := hid (show cutR [⟨3, 9, 1⟩, ⟨1, 5, 2⟩, ⟨6, 10, 4⟩] 9 = [] by kernel_rfl)
    have s4 := hid (show pagesR [⟨3, 9, 1⟩, ⟨1, 5, 2⟩, ⟨6, 10, 4⟩] = [] by kernel_rfl)
    have s5 := hid (show rightB [⟨3, 9, 1⟩, ⟨1, 5, 2⟩, ⟨6, 10, 4⟩] = false by kernel_rfl)
    have hgt : ∀ i x, rr0[i]? = some x → (∀ j u, ([.int .i64 x.from_, .int .i64 x.at_, .int .i64 x.count] : List Value)[j]? = some u → w3.cell? ⟨W.heap.size, i * 3 + j, none⟩ = some u) ∧ ∀ k, w3.frozen? ⟨W.heap.size, k, none⟩ = false := fun i x hx => by
      obtain ⟨g0, cap, cs, hv, _, _, _, hr, hcc, hfz⟩ := O.get hx
      obtain ⟨rfl, rfl⟩ : W.heap.size = g0 ∧ 3 = cap := by simpa [rr0] using hv
      have hr : cs = [.int .i64 x.from_, .int .i64 x.at_, .int .i64 x.count] := hr
      subst hr
      exact ⟨hcc, hfz⟩
    have c0 : w3.cell? ⟨W.heap.size, 0, none⟩ = some (.int .i64 1) := (hgt 0 ⟨1, 5, 2⟩ rfl).1 0 _ rfl
    have c1 : w3.cell? ⟨W.heap.size, 1, none⟩ = some (.int .i64 5) := (hgt 0 ⟨1, 5, 2⟩ rfl).1 1 _ rfl
    have c2 : w3.cell? ⟨W.heap.size, 2, none⟩ = some (.int .i64 2) := (hgt 0 ⟨1, 5, 2⟩ rfl).1 2 _ rfl
    have c3 : w3.cell? ⟨W.heap.size, 3, none⟩ = some (.int .i64 3) := (hgt 1 ⟨3, 9, 1⟩ rfl).1 0 _ rfl
    have c4 : w3.cell? ⟨W.heap.size, 4, none⟩ = some (.int .i64 9) := (hgt 1 ⟨3, 9, 1⟩ rfl).1 1 _ rfl
    have c5 : w3.cell? ⟨W.heap.size, 5, none⟩ = some (.int .i64 1) := (hgt 1 ⟨3, 9, 1⟩ rfl).1 2 _ rfl
    have hf := (hgt 0 ⟨1, 5, 2⟩ rfl).2
    have f0 := hf 0
    have f1 := hf 1
    have f2 := hf 2
    have f3 := hf 3
    have f4 := hf 4
    have f5 := hf 5
    clear hgt hf
    have P0 : OwnL (fhOf W) (w3.setCell ⟨W.heap.size, 0, none⟩ (.int .i64 3)) W.heap.size 48 (.slice (some ⟨W.heap.size, 0, none⟩) 3 3) ([⟨3, 5, 2⟩, ⟨3, 9, 1⟩, ⟨6, 10, 4⟩] : List Run) := OwnL.setCell (n := 3) O (i := 0) (j := 0) (x := ⟨1, 5, 2⟩) (y := ⟨3, 5, 2⟩) (u := .int .i64 3) rfl (by decide) (fun cs hcs => by
      have hcs : cs = [.int .i64 1, .int .i64 5, .int .i64 2] := hcs
      subst hcs; exact (rfl : _ = _))
    have F0 := E.setCell (p := ⟨W.heap.size, 0, none⟩) (Nat.le_refl _) HN.out (.int .i64 3)
    have P1 : OwnL (fhOf W) ((w3.setCell ⟨W.heap.size, 0, none⟩ (.int .i64 3)).setCell ⟨W.heap.size, 1, none⟩ (.int .i64 9)) W.heap.size 48 (.slice (some ⟨W.heap.size, 0, none⟩) 3 3) ([⟨3, 9, 2⟩, ⟨3, 9, 1⟩, ⟨6, 10, 4⟩] : List Run) := OwnL.setCell (n := 3) P0 (i := 0) (j := 1) (x := ⟨3, 5, 2⟩) (y := ⟨3, 9, 2⟩) (u := .int .i64 9) rfl (by decide) (fun cs hcs => by
      have hcs : cs = [.int .i64 3, .int .i64 5, .int .i64 2] := hcs
      subst hcs; exact (rfl : _ = _))
    have F1 := F0.setCell (p := ⟨W.heap.size, 1, none⟩) (Nat.le_refl _) HN.out (.int .i64 9)
    have P2 : OwnL (fhOf W) (((w3.setCell ⟨W.heap.size, 0, none⟩ (.int .i64 3)).setCell ⟨W.heap.size, 1, none⟩ (.int .i64 9)).setCell ⟨W.heap.size, 2, none⟩ (.int .i64 1)) W.heap.size 48 (.slice (some ⟨W.heap.size, 0, none⟩) 3 3) ([⟨3, 9, 1⟩, ⟨3, 9, 1⟩, ⟨6, 10, 4⟩] : List Run) := OwnL.setCell (n := 3) P1 (i := 0) (j := 2) (x := ⟨3, 9, 2⟩) (y := ⟨3, 9, 1⟩) (u := .int .i64 1) rfl (by decide) (fun cs hcs => by
      have hcs : cs = [.int .i64 3, .int .i64 9, .int .i64 2] := hcs
      subst hcs; exact (rfl : _ = _))
    have F2 := F1.setCell (p := ⟨W.heap.size, 2, none⟩) (Nat.le_refl _) HN.out (.int .i64 1)
    have P3 : OwnL (fhOf W) ((((w3.setCell ⟨W.heap.size, 0, none⟩ (.int .i64 3)).setCell ⟨W.heap.size, 1, none⟩ (.int .i64 9)).setCell ⟨W.heap.size, 2, none⟩ (.int .i64 1)).setCell ⟨W.heap.size, 3, none⟩ (.int .i64 1)) W.heap.size 48 (.slice (some ⟨W.heap.size, 0, none⟩) 3 3) ([⟨3, 9, 1⟩, ⟨1, 9, 1⟩, ⟨6, 10, 4⟩] : List Run) := OwnL.setCell (n := 3) P2 (i := 1) (j := 0) (x := ⟨3, 9, 1⟩) (y := ⟨1, 9, 1⟩) (u := .int .i64 1) rfl (by decide) (fun cs hcs => by
      have hcs : cs = [.int .i64 3, .int .i64 9, .int .i64 1] := hcs
      subst hcs; exact (rfl : _ = _))
    have F3 := F2.setCell (p := ⟨W.heap.size, 3, none⟩) (Nat.le_refl _) HN.out (.int .i64 1)
    have P4 : OwnL (fhOf W) (((((w3.setCell ⟨W.heap.size, 0, none⟩ (.int .i64 3)).setCell ⟨W.heap.size, 1, none⟩ (.int .i64 9)).setCell ⟨W.heap.size, 2, none⟩ (.int .i64 1)).setCell ⟨W.heap.size, 3, none⟩ (.int .i64 1)).setCell ⟨W.heap.size, 4, none⟩ (.int .i64 5)) W.heap.size 48 (.slice (some ⟨W.heap.size, 0, none⟩) 3 3) ([⟨3, 9, 1⟩, ⟨1, 5, 1⟩, ⟨6, 10, 4⟩] : List Run) := OwnL.setCell (n := 3) P3 (i := 1) (j := 1) (x := ⟨1, 9, 1⟩) (y := ⟨1, 5, 1⟩) (u := .int .i64 5) rfl (by decide) (fun cs hcs => by
      have hcs : cs = [.int .i64 1, .int .i64 9, .int .i64 1] := hcs
      subst hcs; exact (rfl : _ = _))
    have F4 := F3.setCell (p := ⟨W.heap.size, 4, none⟩) (Nat.le_refl _) HN.out (.int .i64 5)
    have P5 : OwnL (fhOf W) ((((((w3.setCell ⟨W.heap.size, 0, none⟩ (.int .i64 3)).setCell ⟨W.heap.size, 1, none⟩ (.int .i64 9)).setCell ⟨W.heap.size, 2, none⟩ (.int .i64 1)).setCell ⟨W.heap.size, 3, none⟩ (.int .i64 1)).setCell ⟨W.heap.size, 4, none⟩ (.int .i64 5)).setCell ⟨W.heap.size, 5, none⟩ (.int .i64 2)) W.heap.size 48 (.slice (some ⟨W.heap.size, 0, none⟩) 3 3) ([⟨3, 9, 1⟩, ⟨1, 5, 2⟩, ⟨6, 10, 4⟩] : List Run) := OwnL.setCell (n := 3) P4 (i := 1) (j := 2) (x := ⟨1, 5, 1⟩) (y := ⟨1, 5, 2⟩) (u := .int .i64 2) rfl (by decide) (fun cs hcs => by
      have hcs : cs = [.int .i64 1, .int .i64 5, .int .i64 1] := hcs
      subst hcs; exact (rfl : _ = _))
    have F5 := F4.setCell (p := ⟨W.heap.size, 5, none⟩) (Nat.le_refl _) HN.out (.int .i64 2)
    have O2 : OwnL (fhOf W) _ W.heap.size 48 (.slice (some ⟨W.heap.size, 0, none⟩) (List.length ([⟨3, 9, 1⟩, ⟨1, 5, 2⟩, ⟨6, 10, 4⟩] : List Run)) 3) ([⟨3, 9, 1⟩, ⟨1, 5, 2⟩, ⟨6, 10, 4⟩] : List Run) := P5.drew
    have E2 := F5.drew
    clear P0 P1 P2 P3 P4 P5 F0 F1 F2 F3 F4 F5
    go_upto_region 19 with (fail)
    go_region
    clear c0 c1 c2 c3 c4 c5 f0 f1 f2 f3 f4 f5 O E
    obtain ⟨h1, A1, c1, hv, r1, l1, E4⟩ := O2.stay E2 (Nat.le_refl _) (by decide)
    obtain ⟨rfl, rfl⟩ : A1 = some ⟨W.heap.size, 0, none⟩ ∧ c1 = 3 := by simpa using hv.symm
    clear hv O2 E2 l1
    go_wp2_with fail
    refine (runs_Get [⟨3, 9, 1⟩, ⟨1, 5, 2⟩, ⟨6, 10, 4⟩] _ _ 60 h1 _ E4.sits r1).mono ?_
    rintro e w4 ⟨rfl, E5⟩
    rw [s1.out]
    have E6 := E4.trans E5
    clear E4 E5
    go_wp2_with fail
    refine (runs_Right [⟨3, 9, 1⟩, ⟨1, 5, 2⟩, ⟨6, 10, 4⟩] _ _ false s5.out h1 _ E6.sits r1).mono ?_
    rintro e w5 ⟨rfl, E7⟩
    have E8 := E6.trans E7
    clear E6 E7
    go_wp2_with fail
    refine (runs_Set [⟨3, 9, 1⟩, ⟨1, 5, 2⟩, ⟨6, 10, 4⟩] _ _ 0 0 h1 _ E8.sits r1).mono ?_
    rintro e w6 ⟨v6, rfl, O6, E9⟩
    rw [s2.out] at O6
    obtain ⟨A6, c6, rfl, _⟩ := O6.slice
    have E10 := E8.trans E9
    clear E8 E9 O6
    go_wp2_with fail
    refine (runs_Cut [⟨3, 9, 1⟩, ⟨1, 5, 2⟩, ⟨6, 10, 4⟩] _ _ 9 (by decide) h1 _ E10.sits r1).mono ?_
    rintro e w7 ⟨v7, rfl, O7, E11⟩
    rw [s3.out] at O7
    obtain ⟨A7, c7, rfl, _⟩ := O7.slice
    have E12 := E10.trans E11
    clear E10 E11 O7
    go_wp2_with fail
    refine (runs_Count [⟨3, 9, 1⟩, ⟨1, 5, 2⟩, ⟨6, 10, 4⟩] _ _ 0 (by rw [s4.out]; rfl) h1 _ E12.sits r1).mono ?_
    rintro e w8 ⟨rfl, E13⟩
    have E14 := E12.trans E13
    clear E12 E13
    go_wp2_with fail
    refine (runs_Pages [⟨3, 9, 1⟩, ⟨1, 5, 2⟩, ⟨6, 10, 4⟩] _ _ h1 _ E14.sits r1).mono ?_
    rintro e w9 ⟨v9, rfl, O9, E15⟩
    rw [s4.out] at O9
    obtain ⟨A9, c9, rfl, _⟩ := O9.slice
    have E16 := E14.trans E15
    clear E14 E15 O9
    go_wp2_with fail
    go_ret
    exact ⟨rfl, E16.back⟩
  · have hq0 : (IntKind.u64.wrap what).tmod 9 = 7 := hq
    clear hq hq9
    have s1 := hid (show getB [⟨1, 5, 2⟩, ⟨3, 9, 1⟩, ⟨6, 2147483645, 4⟩] 60 = none by kernel_rfl)
    have s2 := hid (show setR [⟨1, 5, 2⟩, ⟨3, 9, 1⟩, ⟨6, 2147483645, 4⟩] 0 0 = [] by kernel_rfl)
    have s3 := hid (show cutR [⟨1, 5, 2⟩, ⟨3, 9, 1⟩, ⟨6, 2147483645, 4⟩] 9 = [] by kernel_rfl)
    have s4 := hid (show pagesR [⟨1, 5, 2⟩, ⟨3, 9, 1⟩, ⟨6, 2147483645, 4⟩] = [] by kernel_rfl)
    have s5 := hid (show rightB [⟨1, 5, 2⟩, ⟨3, 9, 1⟩, ⟨6, 2147483645, 4⟩] = false by kernel_rfl)
    have O2 : OwnL (fhOf W) (w3.setCell ⟨W.heap.size, 7, none⟩ (.int .i64 (2147483645))) W.heap.size 48 (.slice (some ⟨W.heap.size, 0, none⟩) ([⟨1, 5, 2⟩, ⟨3, 9, 1⟩, ⟨6, 2147483645, 4⟩] : List Run).length 3) ([⟨1, 5, 2⟩, ⟨3, 9, 1⟩, ⟨6, 2147483645, 4⟩] : List Run) := O.setCell (i := 2) (j := 1) (x := ⟨6, 10, 4⟩) (y := ⟨6, 2147483645, 4⟩) (u := .int .i64 (2147483645)) rfl (by decide) (fun cs hcs => by
      have hcs : cs = [.int .i64 6, .int .i64 10, .int .i64 4] := hcs
      subst hcs; exact (rfl : _ = _))
    have E2 := E.setCell (p := ⟨W.heap.size, 7, none⟩) (Nat.le_refl _) HN.out (.int .i64 (2147483645))
    obtain ⟨g0, cap, cs, hv, _, _, _, hr, hcc, hfz⟩ := O.get (i := 2) (x := ⟨6, 10, 4⟩) rfl
    obtain ⟨rfl, rfl⟩ : W.heap.size = g0 ∧ 3 = cap := by simpa [rr0] using hv
    have hr : cs = [.int .i64 6, .int .i64 10, .int .i64 4] := hr
    subst hr
    have c0 : w3.cell? ⟨W.heap.size, 7, none⟩ = some (.int .i64 10) := hcc 1 _ rfl
    have f0 := hfz 7
    clear hcc hfz hv O E
    obtain ⟨h1, A1, c1, hv, r1, l1, E4⟩ := O2.stay E2 (Nat.le_refl _) (by decide)
    obtain ⟨rfl, rfl⟩ : A1 = some ⟨W.heap.size, 0, none⟩ ∧ c1 = 3 := by simpa using hv.symm
    clear hv O2 E2 l1
    go_wp2_with fail
    refine (runs_Get [⟨1, 5, 2⟩, ⟨3, 9, 1⟩, ⟨6, 2147483645, 4⟩] _ _ 60 h1 _ E4.sits r1).mono ?_
    rintro e w4 ⟨rfl, E5⟩
    rw [s1.out]
    have E6 := E4.trans E5
    clear E4 E5
    go_wp2_with fail
    refine (runs_Right [⟨1, 5, 2⟩, ⟨3, 9, 1⟩, ⟨6, 2147483645, 4⟩] _ _ false s5.out h1 _ E6.sits r1).mono ?_
    rintro e w5 ⟨rfl, E7⟩
    have E8 := E6.trans E7
    clear E6 E7
    go_wp2_with fail
    refine (runs_Set [⟨1, 5, 2⟩, ⟨3, 9, 1⟩, ⟨6, 2147483645, 4⟩] _ _ 0 0 h1 _ E8.sits r1).mono ?_
    rintro e w6 ⟨v6, rfl, O6, E9⟩
    rw [s2.out] at O6
    obtain ⟨A6, c6, rfl, _⟩ := O6.slice
    have E10 := E8.trans E9
    clear E8 E9 O6
    go_wp2_with fail
    refine (runs_Cut [⟨1, 5, 2⟩, ⟨3, 9, 1⟩, ⟨6, 2147483645, 4⟩] _ _ 9 (by decide) h1 _ E10.sits r1).mono ?_
    rintro e w7 ⟨v7, rfl, O7, E11⟩
    rw [s3.out] at O7
    obtain ⟨A7, c7, rfl, _⟩ := O7.slice
    have E12 := E10.trans E11
    clear E10 E11 O7
    go_wp2_with fail
    refine (runs_Count [⟨1, 5, 2⟩, ⟨3, 9, 1⟩, ⟨6, 2147483645, 4⟩] _ _ 0 (by rw [s4.out]; rfl) h1 _ E12.sits r1).mono ?_
    rintro e w8 ⟨rfl, E13⟩
    have E14 := E12.trans E13
    clear E12 E13
    go_wp2_with fail
    refine (runs_Pages [⟨1, 5, 2⟩, ⟨3, 9, 1⟩, ⟨6, 2147483645, 4⟩] _ _ h1 _ E14.sits r1).mono ?_
    rintro e w9 ⟨v9, rfl, O9, E15⟩
    rw [s4.out] at O9
    obtain ⟨A9, c9, rfl, _⟩ := O9.slice
    have E16 := E14.trans E15
    clear E14 E15 O9
    go_wp2_with fail
    go_ret
    exact ⟨rfl, E16.back⟩
  · have hq0 : (IntKind.u64.wrap what).tmod 9 = 8 := hq
    clear hq hq9
    have s1 := hid (show getB [⟨1, 5, 2⟩, ⟨3, 9, 1⟩, ⟨64, 10, 4⟩] 60 = none by kernel_rfl)
    have s2 := hid (show setR [⟨1, 5, 2⟩, ⟨3, 9, 1⟩, ⟨64, 10, 4⟩] 0 0 = [] by kernel_rfl)
    have s3 := hid (show cutR [⟨1, 5, 2⟩, ⟨3, 9, 1⟩, ⟨64, 10, 4⟩] 9 = [] by kernel_rfl)
    have s4 := hid (show pagesR [⟨1, 5, 2⟩, ⟨3, 9, 1⟩, ⟨64, 10, 4⟩] = [] by kernel_rfl)
    have s5 := hid (show rightB [⟨1, 5, 2⟩, ⟨3, 9, 1⟩, ⟨64, 10, 4⟩] = false by kernel_rfl)
    have O2 : OwnL (fhOf W) (w3.setCell ⟨W.heap.size, 6, none⟩ (.int .i64 (64))) W.heap.size 48 (.slice (some ⟨W.heap.size, 0, none⟩) ([⟨1, 5, 2⟩, ⟨3, 9, 1⟩, ⟨64, 10, 4⟩] : List Run).length 3) ([⟨1, 5, 2⟩, ⟨3, 9, 1⟩, ⟨64, 10, 4⟩] : List Run) := O.setCell (i := 2) (j := 0) (x := ⟨6, 10, 4⟩) (y := ⟨64, 10, 4⟩) (u := .int .i64 (64)) rfl (by decide) (fun cs hcs => by
      have hcs : cs = [.int .i64 6, .int .i64 10, .int .i64 4] := hcs
      subst hcs; exact (rfl : _ = _))
    have E2 := E.setCell (p := ⟨W.heap.size, 6, none⟩) (Nat.le_refl _) HN.out (.int .i64 (64))
    obtain ⟨g0, cap, cs, hv, _, _, _, hr, hcc, hfz⟩ := O.get (i := 2) (x := ⟨6, 10, 4⟩) rfl
    obtain ⟨rfl, rfl⟩ : W.heap.size = g0 ∧ 3 = cap := by simpa [rr0] using hv
    have hr : cs = [.int .i64 6, .int .i64 10, .int .i64 4] := hr
    subst hr
    have c0 : w3.cell? ⟨W.heap.size, 6, none⟩ = some (.int .i64 6) := hcc 0 _ rfl
    have f0 := hfz 6
    clear hcc hfz hv O E
    obtain ⟨h1, A1, c1, hv, r1, l1, E4⟩ := O2.stay E2 (Nat.le_refl _) (by decide)
    obtain ⟨rfl, rfl⟩ : A1 = some ⟨W.heap.size, 0, none⟩ ∧ c1 = 3 := by simpa using hv.symm
    clear hv O2 E2 l1
    go_wp2_with fail
    refine (runs_Get [⟨1, 5, 2⟩, ⟨3, 9, 1⟩, ⟨64, 10, 4⟩] _ _ 60 h1 _ E4.sits r1).mono ?_
    rintro e w4 ⟨rfl, E5⟩
    rw [s1.out]
    have E6 := E4.trans E5
    clear E4 E5
    go_wp2_with fail
    refine (runs_Right [⟨1, 5, 2⟩, ⟨3, 9, 1⟩, ⟨64, 10, 4⟩] _ _ false s5.out h1 _ E6.sits r1).mono ?_
    rintro e w5 ⟨rfl, E7⟩
    have E8 := E6.trans E7
    clear E6 E7
    go_wp2_with fail
    refine (runs_Set [⟨1, 5, 2⟩, ⟨3, 9, 1⟩, ⟨64, 10, 4⟩] _ _ 0 0 h1 _ E8.sits r1).mono ?_
    rintro e w6 ⟨v6, rfl, O6, E9⟩
    rw [s2.out] at O6
    obtain ⟨A6, c6, rfl, _⟩ := O6.slice
    have E10 := E8.trans E9
    clear E8 E9 O6
    go_wp2_with fail
    refine (runs_Cut [⟨1, 5, 2⟩, ⟨3, 9, 1⟩, ⟨64, 10, 4⟩] _ _ 9 (by decide) h1 _ E10.sits r1).mono ?_
    rintro e w7 ⟨v7, rfl, O7, E11⟩
    rw [s3.out] at O7
    obtain ⟨A7, c7, rfl, _⟩ := O7.slice
    have E12 := E10.trans E11
    clear E10 E11 O7
    go_wp2_with fail
    refine (runs_Count [⟨1, 5, 2⟩, ⟨3, 9, 1⟩, ⟨64, 10, 4⟩] _ _ 0 (by rw [s4.out]; rfl) h1 _ E12.sits r1).mono ?_
    rintro e w8 ⟨rfl, E13⟩
    have E14 := E12.trans E13
    clear E12 E13
    go_wp2_with fail
    refine (runs_Pages [⟨1, 5, 2⟩, ⟨3, 9, 1⟩, ⟨64, 10, 4⟩] _ _ h1 _ E14.sits r1).mono ?_
    rintro e w9 ⟨v9, rfl, O9, E15⟩
    rw [s4.out] at O9
    obtain ⟨A9, c9, rfl, _⟩ := O9.slice
    have E16 := E14.trans E15
    clear E14 E15 O9
    go_wp2_with fail
    go_ret
    exact ⟨rfl, E16.back⟩
end Go.Proofs.Ytokffohhegabhaa

