import Derived.Test.YtidfcdomeacppaaEntRem
import Derived.Test.YtidfcdomeacppaaCap
import Derived.Test.YtidfcdomeacppaaPad
namespace Go.Proofs.Ytidfcdomeacppaa
open Go.RowKit Go.Sort
set_option linter.unusedVariables false
/-! ### the laws of layer 11: awake -/
theorem addL_one {e : Entry} (h : nameB e.name = true) (h1 : 0 < e.no) : addL [] e = [e] ∧ addC [] e = 0 := by
  have hc : addC [] e = 0 := by
    unfold addC; rw [h, if_neg (by decide), if_neg (by omega)]; rfl
  refine ⟨?_, hc⟩
  unfold addL; rw [if_pos hc]; rfl
set_option maxHeartbeats 4000000 in
theorem law11_awake (h : FH) (w : World) (hs : Sits h w) : Calls Try.prog 24 #[] w fun e w' => e = .returned (.bool true) ∧ Ext h w h w' := by
  have hn : nameB ⟨#[97]⟩ = true := by decide +kernel
  obtain ⟨hL, hC⟩ := addL_one (e := ⟨⟨#[97]⟩, 5⟩) hn (by decide)
  have KA := hid (entries_Add [] none 0 (by decide) ⟨⟨#[97]⟩, 5⟩ (by decide) h w hs (RowAt.nil _ _))
  have hF : findE [⟨⟨#[97]⟩, 5⟩] ⟨#[97]⟩ = some 5 := by decide +kernel
  have hR : rightE [⟨⟨#[97]⟩, 5⟩] = true := by decide +kernel
  rw [hL, hC] at KA
  clear hL hC hn
  have KF := hid (fun (h : FH) A c (w : World) hs r => entries_Find [⟨⟨#[97]⟩, 5⟩] A c ⟨#[97]⟩ (by decide) _ hF h w hs r)
  have KR := hid (fun (h : FH) A c (w : World) hs r => entries_Right [⟨⟨#[97]⟩, 5⟩] A c true hR h w hs r)
  clear hF hR
  go_enter Try.func24, Try.ntmps24
  go_wp2_with fail
  refine KA.out.mono ?_
  rintro e w1 R
  obtain ⟨A, c, h1, rfl, hc, r, E1⟩ := R.stay (by decide)
  go_wp2_with fail
  refine (KF.out _ _ _ _ E1.sits r).mono ?_
  rintro e w2 ⟨rfl, F2⟩
  have E2 := E1.trans F2
  go_wp2_with fail
  refine (KR.out _ _ _ _ E2.sits r).mono ?_
  rintro e w3 ⟨rfl, F3⟩
  have E3 := E2.trans F3
  go_wp2_with fail
  go_ret
  exact ⟨rfl, E3.back⟩
end Go.Proofs.Ytidfcdomeacppaa
