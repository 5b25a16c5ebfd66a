/- The walk of the law PickTells: it returns true, and writes nothing that was there. -/
import Derived.Test.YtokffohhegabhaaAwakeP
import Derived.Test.YtokffohhegabhaaRef17
import Derived.Test.YtokffohhegabhaaPad
namespace Go.Proofs.Ytokffohhegabhaa
open Go.RowKit Go.Sort
set_option linter.unusedVariables false
set_option maxHeartbeats 8000000 in
set_option maxRecDepth 100000 in
theorem PickTells_walk (xs : List Block) (A : Option Addr) (c : Nat) (pages but : Int) (ps : List Int) (B : Option Addr) (d : Nat) (W : World) (r : RowAt (fhOf W) A xs) (rp : RowAt (fhOf W) B ps) :
    Calls Try.prog 5 #[.slice A xs.length c, .int .i64 pages, .int .i64 but, .slice B ps.length d] W fun e w' => e = .returned (.bool true) ∧ Ext (fhOf W) W (fhOf W) w' := by
  have hs := Sits.all W
  have hl := r.1
  have hlp := rp.1
  by_cases hbig : 100 < xs.length
  · go_enter Try.func5, Try.ntmps5
    go_wp2_with (go_at_call 23; refine (law19_awake _ _ hs).mono ?_; rintro e w1 ⟨rfl, E1⟩)
    go_ret
    exact ⟨rfl, E1⟩
  by_cases hbig2 : 100 < ps.length
  · go_enter Try.func5, Try.ntmps5
    go_wp2_with (go_at_call 23; refine (law19_awake _ _ hs).mono ?_; rintro e w1 ⟨rfl, E1⟩)
    go_ret
    exact ⟨rfl, E1⟩
  have hle : xs.length ≤ 100 := by omega
  have hle2 : ps.length ≤ 100 := by omega
  clear hbig hbig2
  obtain ⟨a1, ha1⟩ : ∃ a, bestGo (fun _ => freeB) younger xs xs.length = a := ⟨_, rfl⟩
  obtain ⟨a2, ha2⟩ : ∃ a, bestGo (partB pages but) (fun _ _ => false) xs xs.length = a := ⟨_, rfl⟩
  obtain ⟨a3, ha3⟩ : ∃ a, bestGo (vicB ps) bestV xs xs.length = a := ⟨_, rfl⟩
  obtain ⟨a4, ha4⟩ : ∃ a, cntFree xs = a := ⟨_, rfl⟩
  have p1 := fun (h : FH) (A : Option Addr) (c : Nat) (w : World) (hs : Sits h w) (r : RowAt h A xs) => pick_Fresh xs A c h w hs r
  have p2 := fun (h : FH) (A : Option Addr) (c : Nat) (w : World) (hs : Sits h w) (r : RowAt h A xs) => pick_Partial xs A c pages but h w hs r
  have p3 := fun (h : FH) (A : Option Addr) (c : Nat) (B : Option Addr) (d : Nat) (w : World) (hs : Sits h w) (r : RowAt h A xs) (rp : RowAt h B ps) => pick_Victim xs A c ps B d h w hs r rp
  have p4 := fun (h : FH) (A : Option Addr) (c : Nat) (w : World) (hs : Sits h w) (r : RowAt h A xs) => pick_Free xs A c h w hs r
  have q1 := fun (h : FH) (A : Option Addr) (c : Nat) (w : World) (hs : Sits h w) (r : RowAt h A xs) => ref_Fresh xs A c h w hs r
  have q2 := fun (h : FH) (A : Option Addr) (c : Nat) (w : World) (hs : Sits h w) (r : RowAt h A xs) => ref_Partial xs A c pages but h w hs r
  have q3 := fun (h : FH) (A : Option Addr) (c : Nat) (B : Option Addr) (d : Nat) (w : World) (hs : Sits h w) (r : RowAt h A xs) (rp : RowAt h B ps) => ref_Victim xs A c ps B d h w hs r rp
  have q4 := fun (h : FH) (A : Option Addr) (c : Nat) (w : World) (hs : Sits h w) (r : RowAt h A xs) => ref_Free xs A c h w hs r
  rw [ha1] at p1 q1
  rw [ha2] at p2 q2
  rw [ha3] at p3 q3
  rw [ha4] at p4 q4
  clear ha1 ha2 ha3 ha4
  generalize max a1 0 = m1 at p1 q1
  generalize decide (0 ≤ a1) = t1 at p1 q1
  generalize max a2 0 = m2 at p2 q2
  generalize decide (0 ≤ a2) = t2 at p2 q2
  generalize max a3 0 = m3 at p3 q3
  generalize decide (0 ≤ a3) = t3 at p3 q3
  have P1 := hid p1
  have P2 := hid p2
  have P3 := hid p3
  have P4 := hid p4
  have Q1 := hid q1
  have Q2 := hid q2
  have Q3 := hid q3
  have Q4 := hid q4
  clear p1 p2 p3 p4 q1 q2 q3 q4
  go_enter Try.func5, Try.ntmps5
  go_wp2_with fail
  refine (own_Block xs A c ⟨0, 71, 0, false⟩ (by omega) _ _ hs r).mono ?_
  rintro e w1 ⟨g1, h1, rfl, R1, E1⟩
  have r1 := r.mono E1.le
  have rp1 := rp.mono E1.le
  go_wp2_with fail
  refine (own_Int ps B d 71 (by omega) _ _ E1.sits rp1).mono ?_
  rintro e w2 ⟨g2, h2, rfl, R2, E2'⟩
  have R1' := R1.mono E2'.le
  have r2 := r1.mono E2'.le
  have rp2 := rp1.mono E2'.le
  have E2 := E1.trans E2'
  have X1 := R1'.take
  have X2 := R2.take
  have HR1 := hid R1'
  have HR2 := hid R2
  clear E1 E2' R1 R1' R2 r r1 rp rp1
  go_wp2_with fail
  refine (P1.out _ _ _ _ E2.sits X1).mono ?_
  rintro e w3 ⟨rfl, E3'⟩
  have E3 := E2.trans E3'
  clear E3' E2
  go_wp2_with fail
  refine (Q1.out _ _ _ _ E3.sits r2).mono ?_
  rintro e w4 ⟨rfl, E4'⟩
  have E4 := E3.trans E4'
  clear E4' E3
  go_wp2_with fail
  refine (P2.out _ _ _ _ E4.sits X1).mono ?_
  rintro e w5 ⟨rfl, E5'⟩
  have E5 := E4.trans E5'
  clear E5' E4
  go_wp2_with fail
  refine (Q2.out _ _ _ _ E5.sits r2).mono ?_
  rintro e w6 ⟨rfl, E6'⟩
  have E6 := E5.trans E6'
  clear E6' E5
  go_wp2_with fail
  refine (P3.out _ _ _ _ _ _ E6.sits X1 X2).mono ?_
  rintro e w7 ⟨rfl, E7'⟩
  have E7 := E6.trans E7'
  clear E7' E6
  go_wp2_with fail
  refine (Q3.out _ _ _ _ _ _ E7.sits r2 rp2).mono ?_
  rintro e w8 ⟨rfl, E8'⟩
  have E8 := E7.trans E8'
  clear E8' E7
  go_wp2_with fail
  refine (law19_awake _ _ E8.sits).mono ?_
  rintro e w9 ⟨rfl, E9'⟩
  have E9 := E8.trans E9'
  clear E9' E8
  go_wp2_with fail
  refine (P4.out _ _ _ _ E9.sits X1).mono ?_
  rintro e w10 ⟨rfl, E10'⟩
  have E10 := E9.trans E10'
  clear E10' E9
  go_wp2_with fail
  refine (Q4.out _ _ _ _ E10.sits r2).mono ?_
  rintro e w11 ⟨rfl, E11'⟩
  have E11 := E10.trans E11'
  clear E11' E10
  go_wp2_with fail
  refine (kept_Block xs _ _ _ _ ⟨0, 71, 0, false⟩ (by omega) (Nat.le_refl _) _ _ E11.sits HR1.out r2).mono ?_
  rintro e w12 ⟨rfl, E12'⟩
  have E12 := E11.trans E12'
  clear E12' E11
  go_wp2_with fail
  refine (kept_Int ps _ _ _ _ 71 (by omega) (Nat.le_refl _) _ _ E12.sits HR2.out rp2).mono ?_
  rintro e w13 ⟨rfl, E13'⟩
  have E13 := E12.trans E13'
  clear E13' E12
  go_wp2_with fail
  go_ret
  exact ⟨rfl, E13.back⟩
end Go.Proofs.Ytokffohhegabhaa
