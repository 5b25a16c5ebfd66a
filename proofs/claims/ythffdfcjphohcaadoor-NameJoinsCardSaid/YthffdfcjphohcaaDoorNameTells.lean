/- The walk of the law NameTells: it returns true, and writes nothing that was there. -/
import Derived.Test.YthffdfcjphohcaaDoorNameLaw
namespace Go.Proofs.YthffdfcjphohcaaDoor
open Go.RowKit Go.Sort
set_option linter.unusedVariables false
theorem ways_len (s : ByteArray) : (waysXs s).length ≤ 401 ∧ (partsXs s).length ≤ 401 := by
  have key : ∀ ks, partsP s = some ks → ks.length ≤ 401 := fun ks h => by
    unfold partsP at h
    split at h
    · cases h
    · have h1 := keepB_len h
      have h2 := splitB_len s
      have h3 := List.count_le_length (a := (47 : UInt8)) (l := s.data.toList)
      rw [Array.length_toList] at h3
      have h4 : s.data.size = s.size := rfl
      omega
  unfold waysXs waysP partsXs
  cases hp : partsP s with
  | none =>
    refine ⟨?_, by simp⟩
    split <;> simp
  | some ks =>
    have := key ks hp
    refine ⟨?_, by simpa using this⟩
    split
    · simpa using this
    · simp
set_option maxHeartbeats 8000000 in
set_option maxRecDepth 100000 in
theorem NameTells_walk (s : ByteArray) (W : World) (hsz : s.size ≤ 9223372036854775807) :
    Calls Tryd.prog 3 #[.string s] W fun e w' => e = .returned (.bool true) ∧ Ext (fhOf W) W (fhOf W) w' := by
  have hs := Sits.all W
  by_cases hbig : 1000 < s.size
  · go_enter Tryd.func3, Tryd.ntmps3
    go_wp2_with (go_at_call 8; refine (law10_awake _ _ hs).mono ?_; rintro e w1 ⟨rfl, E1⟩)
    go_ret
    exact ⟨rfl, E1⟩
  have hle : s.size ≤ 1000 := by omega
  clear hbig
  obtain ⟨q, hq⟩ : ∃ q, nameB s = q := ⟨_, rfl⟩
  obtain ⟨l1, l2⟩ := ways_len s
  have p1 := fun (h : FH) w hs => name_Split s hsz h w hs
  have p2 := fun (h : FH) w hs => ref_Split s hsz h w hs
  have p3 := fun (h : FH) w hs => name_Parts s hsz h w hs
  have p4 := fun (h : FH) w hs => ref_Parts s hsz h w hs
  have p5 := fun (h : FH) w hs => name_Right s hsz q hq h w hs
  have p6 := fun (h : FH) w hs => ref_RightName s hsz q hq h w hs
  generalize waysXs s = ws at *
  generalize waysCode s = wc at *
  generalize partsXs s = ps at *
  generalize partsTop s = pt at *
  generalize partsCode s = pc at *
  have P1 := hid p1
  have P2 := hid p2
  have P3 := hid p3
  have P4 := hid p4
  have P5 := hid p5
  have P6 := hid p6
  clear p1 p2 p3 p4 p5 p6 hq
  go_enter Tryd.func3, Tryd.ntmps3
  go_wp2_with fail
  refine (P1.out _ _ hs).mono ?_
  rintro e w1 R
  obtain ⟨A1, c1, h1, rfl, hc1, r1, E1⟩ := R.stay (by omega)
  clear R
  go_wp2_with fail
  refine (P2.out _ _ E1.sits).mono ?_
  rintro e w2 R
  obtain ⟨A2, c2, h2, rfl, hc2, r2, F2⟩ := R.stay (by omega)
  have E2 := E1.trans F2
  have r1 := r1.mono F2.le
  clear R F2 E1
  go_wp2_with fail
  refine (P3.out _ _ E2.sits).mono ?_
  rintro e w3 R
  obtain ⟨A3, c3, h3, rfl, hc3, r3, F3⟩ := R.stay (by omega)
  have E3 := E2.trans F3
  have r1 := r1.mono F3.le
  have r2 := r2.mono F3.le
  clear R F3 E2
  go_wp2_with fail
  refine (P4.out _ _ E3.sits).mono ?_
  rintro e w4 R
  obtain ⟨A4, c4, h4, rfl, hc4, r4, F4⟩ := R.stay (by omega)
  have E4 := E3.trans F4
  have r1 := r1.mono F4.le
  have r2 := r2.mono F4.le
  have r3 := r3.mono F4.le
  clear R F4 E3
  go_wp2_with fail
  refine (law10_awake _ _ E4.sits).mono ?_
  rintro e w5 ⟨rfl, F5⟩
  have E5 := E4.trans F5
  clear F5 E4
  go_wp2_with fail
  refine (P5.out _ _ E5.sits).mono ?_
  rintro e w6 ⟨rfl, F6⟩
  have E6 := E5.trans F6
  clear F6 E5
  go_wp2_with fail
  refine (P6.out _ _ E6.sits).mono ?_
  rintro e w7 ⟨rfl, F7⟩
  have E7 := E6.trans F7
  clear F7 E6
  go_wp2_with fail
  refine (plain_Str ws ws _ _ _ _ true (by simp) _ _ E7.sits r1 r2).mono ?_
  rintro e w8 ⟨rfl, F8⟩
  have E8 := E7.trans F8
  clear F8 E7
  go_wp2_with fail
  refine (plain_Str ps ps _ _ _ _ true (by simp) _ _ E8.sits r3 r4).mono ?_
  rintro e w9 ⟨rfl, F9⟩
  have E9 := E8.trans F9
  clear F9 E8
  go_wp2_with fail
  go_ret
  exact ⟨rfl, E9.back⟩
end Go.Proofs.YthffdfcjphohcaaDoor
