/- The walk of the law NameParts: it returns true, and writes nothing that was there. -/
import Derived.Test.YthffdfcjphohcaaDoorNameLaw
import Derived.Test.YthffdfcjphohcaaDoorNameTells
import Derived.Test.YthffdfcjphohcaaDoorConv
namespace Go.Proofs.YthffdfcjphohcaaDoor
open Go.RowKit Go.Sort
set_option linter.unusedVariables false
/-- With a slash ahead the parts are the same. -/
theorem parts_slash {s : ByteArray} (h1 : 1 ≤ s.size) (h2 : s.size ≤ 300) : partsP ((⟨#[47]⟩ : ByteArray) ++ s) = partsP s ∧ topB ((⟨#[47]⟩ : ByteArray) ++ s) = true := by
  have hd : ((⟨#[47]⟩ : ByteArray) ++ s).data.toList = 47 :: s.data.toList := by simp
  have hz : ((⟨#[47]⟩ : ByteArray) ++ s).size = s.size + 1 := by rw [ByteArray.size_append]; show 1 + s.size = _; omega
  refine ⟨?_, by unfold topB; rw [hd]; rfl⟩
  unfold partsP
  rw [if_neg (by omega), if_neg (by omega)]
  unfold splitB
  rw [hd, splitL_cons, if_pos rfl, List.map_cons, keepB_cons, if_pos (by decide +kernel)]
theorem parts_has_zero {s : ByteArray} (h : (0 : UInt8) ∈ s.data.toList) : partsP s = none := by
  unfold partsP
  split
  · rfl
  · exact parts_zero h
set_option maxHeartbeats 8000000 in
set_option maxRecDepth 100000 in
theorem NameParts_walk (s : ByteArray) (at_ : Int) (W : World) (hsz : s.size ≤ 9223372036854775807) :
    Calls Tryd.prog 7 #[.string s, .int .i64 at_] W fun e w' => e = .returned (.bool true) ∧ Ext (fhOf W) W (fhOf W) w' := by
  have hs := Sits.all W
  by_cases hsm : s.size < 1
  · have d0 : decide ((s.size : Int) < 1) = true := by simp; omega
    go_enter Tryd.func7, Tryd.ntmps7
    go_wp2_with (go_at_call 8; refine (law10_awake _ _ hs).mono ?_; rintro e w1 ⟨rfl, E1⟩)
    go_ret
    exact ⟨rfl, E1⟩
  have d0 : decide ((s.size : Int) < 1) = false := by simp; omega
  by_cases hbig : 300 < s.size
  · go_enter Tryd.func7, Tryd.ntmps7
    go_wp2_with (go_at_call 8; refine (law10_awake _ _ hs).mono ?_; rintro e w1 ⟨rfl, E1⟩)
    go_ret
    exact ⟨rfl, E1⟩
  have hle : s.size ≤ 300 := by omega
  have hge : 1 ≤ s.size := by omega
  clear hbig
  obtain ⟨m, hm, hmn⟩ : ∃ q : Nat, (IntKind.u64.wrap at_).tmod ((s.size : Int) + 1) = q ∧ q ≤ s.size := by
    have h1 := wrap_u64_nonneg at_
    rw [Int.tmod_eq_emod_of_nonneg h1]
    have g1 := Int.emod_nonneg (IntKind.u64.wrap at_) (show ((s.size : Int) + 1) ≠ 0 by omega)
    have g2 := Int.emod_lt_of_pos (IntKind.u64.wrap at_) (show (0 : Int) < (s.size : Int) + 1 by omega)
    exact ⟨(IntKind.u64.wrap at_ % ((s.size : Int) + 1)).toNat, by omega, by omega⟩
  have hwn : IntKind.u64.wrap ((s.size : Int) + 1) = (s.size : Int) + 1 := by rw [IntKind.wrap_u64]; omega
  have hnz : ((s.size : Int) + 1) ≠ 0 := by omega
  have HM := hid hm
  have HWN := hid hwn
  have HNZ := hid hnz
  clear hm hwn hnz
  obtain ⟨q1, q2⟩ := parts_slash hge hle
  obtain ⟨l1, l2⟩ := ways_len s
  have hslash : ((⟨#[47]⟩ : ByteArray) ++ s).size ≤ 9223372036854775807 := by rw [ByteArray.size_append]; show 1 + s.size ≤ _; omega
  have p1 := fun (h : FH) w hs => name_Parts s hsz h w hs
  have p2 := fun (h : FH) w hs => name_Parts ((⟨#[47]⟩ : ByteArray) ++ s) hslash h w hs
  have p4 : ∀ (h : FH) w (hs : Sits h w), Calls Tryd.prog 11 #[.string ⟨#[]⟩] w fun e w' => RetTri h w 9 ([] : List ByteArray) false 17 e w' := fun h w hs => by
    have := name_Parts ⟨#[]⟩ (by decide) h w hs
    obtain ⟨k1, k2, k3⟩ := parts_none (s := ⟨#[]⟩) (by unfold partsP; rw [if_pos (.inl (by decide))])
    rwa [k1, k2, k3] at this
  have hzero : (0 : UInt8) ∈ ((s.extract 0 m ++ ⟨#[0]⟩) ++ s.extract m s.size).data.toList := by simp
  have hzsz : ((s.extract 0 m ++ ⟨#[0]⟩) ++ s.extract m s.size).size ≤ 9223372036854775807 := by
    rw [ByteArray.size_append, ByteArray.size_append, ByteArray.size_extract, ByteArray.size_extract]
    show _ + 1 + _ ≤ _
    omega
  have p3 : ∀ (h : FH) w (hs : Sits h w), Calls Tryd.prog 11 #[.string ((s.extract 0 m ++ ⟨#[0]⟩) ++ s.extract m s.size)] w fun e w' => RetTri h w 9 ([] : List ByteArray) false 17 e w' := fun h w hs => by
    have := name_Parts _ hzsz h w hs
    obtain ⟨k1, k2, k3⟩ := parts_none (parts_has_zero hzero)
    rwa [k1, k2, k3] at this
  obtain ⟨c, hc, ht⟩ := byte0 (s := s) hge
  have hi : ∀ w, (Instr.index 9 (.string s) (.int .i64 0)).run Tryd.prog w = .ok (.int .u8 c.toNat) w := fun w => index_str (P := Tryd.prog) 9 Tryd.underlying9 (n := 0) hc .i64 w
  have hcv := fun w => conv1d w 0 1 ⟨#[0]⟩ rfl
  have i0 : (0 : Int) ≤ (m : Int) := by omega
  have i1 : (m : Int) ≤ (s.size : Int) := by omega
  have P3 := hid p3
  have P4 := hid p4
  have KA := hid (fun (h : FH) w hs => law10_awake h w hs)
  have hff : ∀ w, (binOp .eql 4 (.bool false) (.bool false)).run Tryd.prog w = .ok (.bool true) w := fun w => by kernel_rfl
  cases hp : partsP s with
  | none =>
    obtain ⟨k1, k2, k3⟩ := parts_none hp
    obtain ⟨j1, j2, j3⟩ := parts_none (q1.trans hp)
    rw [k1, k2, k3] at p1
    rw [j1, j2, j3] at p2
    have P1 := hid p1
    have P2 := hid p2
    clear p1 p2 p3 p4 k1 k2 k3 j1 j2 j3 q1 q2 hp hc ht hzero hzsz hslash
    go_enter Tryd.func7, Tryd.ntmps7
    go_wp2_with fail
    refine (P1.out _ _ hs).mono ?_
    rintro e w1 R
    obtain ⟨A1, c1, h1, rfl, hc1, r1, E1⟩ := R.stay (by decide)
    clear R
    go_wp2_with fail
    refine (P2.out _ _ E1.sits).mono ?_
    rintro e w2 R
    obtain ⟨A2, c2, h2, rfl, hc2, r2, F2⟩ := R.stay (by decide)
    have E2 := E1.trans F2
    have r1 := r1.mono F2.le
    clear R F2 E1
    have hm := HM.out
    have hwn := HWN.out
    have hnz := HNZ.out
    have E2d := E2.drew
    have E3 := (Ext.alloc E2 (.cells #[.int .u8 0] 5)).drew
    go_upto_region 6 with (fail)
    clear hm hwn hnz
    go_region_held (fun w' => Ext (fhOf W) W h2 w') (first | with_reducible assumption) (first | (go_at_call 11; refine (P3.out _ _ E3.sits).mono ?_; rintro e' w5 R5; obtain ⟨A5, c5, h5, rfl, hc5, r5, F5⟩ := R5.stay (by decide); have E5 := E3.trans F5; have E6 := E3.trans (Ext.of_below E3.sits F5.below)))
    have r1 := r1.mono F5.le
    have r2 := r2.mono F5.le
    go_wp2_with fail
    refine (P4.out _ _ E5.sits).mono ?_
    rintro e w7 R
    obtain ⟨A7, c7, h7, rfl, hc7, r7, F7⟩ := R.stay (by decide)
    have E7 := E5.trans F7
    have r1 := r1.mono F7.le
    have r2 := r2.mono F7.le
    clear R F7
    go_wp2_with fail
    refine (KA.out _ _ E7.sits).mono ?_
    rintro e w8 ⟨rfl, F8⟩
    have E8 := E7.trans F8
    go_wp2_with fail
    go_ret
    exact ⟨rfl, E8.back⟩
  | some ks =>
    obtain ⟨k1, k2, k3⟩ := parts_some hp
    obtain ⟨j1, j2, j3⟩ := parts_some (q1.trans hp)
    have hkl : ks.length ≤ 401 := by rw [k1] at l2; exact l2
    rw [k1, k2, k3] at p1
    rw [j1, j2, j3, q2] at p2
    obtain ⟨tb, htb⟩ : ∃ tb, topB s = tb := ⟨_, rfl⟩
    rw [htb] at p1
    have htc : ((c.toNat : Int) == 47) = tb := by rw [byte_eq, ← ht, htb]
    have hbb : ∀ w, (binOp .eql 4 (.bool tb) (.bool tb)).run Tryd.prog w = .ok (.bool true) w := fun w => by cases tb <;> kernel_rfl
    have P1 := hid p1
    have P2 := hid p2
    clear p1 p2 p3 p4 k1 k2 k3 j1 j2 j3 q1 q2 hp hc ht hzero hzsz hslash htb l1 l2
    go_enter Tryd.func7, Tryd.ntmps7
    go_wp2_with fail
    refine (P1.out _ _ hs).mono ?_
    rintro e w1 R
    obtain ⟨A1, c1, h1, rfl, hc1, r1, E1⟩ := R.stay (by omega)
    clear R
    go_wp2_with fail
    refine (P2.out _ _ E1.sits).mono ?_
    rintro e w2 R
    obtain ⟨A2, c2, h2, rfl, hc2, r2, F2⟩ := R.stay (by omega)
    have E2 := E1.trans F2
    have r1 := r1.mono F2.le
    clear R F2 E1
    have hm := HM.out
    have hwn := HWN.out
    have hnz := HNZ.out
    have E2d := E2.drew
    have E3 := (Ext.alloc E2 (.cells #[.int .u8 0] 5)).drew
    go_upto_region 6 with (fail)
    clear hm hwn hnz
    go_region_held (fun w' => Ext (fhOf W) W h2 w') (first | with_reducible assumption) (first | (go_at_call 11; refine (P3.out _ _ E3.sits).mono ?_; rintro e' w5 R5; obtain ⟨A5, c5, h5, rfl, hc5, r5, F5⟩ := R5.stay (by decide); have E5 := E3.trans F5; have E6 := E3.trans (Ext.of_below E3.sits F5.below)))
    have r1 := r1.mono F5.le
    have r2 := r2.mono F5.le
    go_wp2_with fail
    refine (P4.out _ _ E5.sits).mono ?_
    rintro e w7 R
    obtain ⟨A7, c7, h7, rfl, hc7, r7, F7⟩ := R.stay (by decide)
    have E7 := E5.trans F7
    have r1 := r1.mono F7.le
    have r2 := r2.mono F7.le
    clear R F7
    go_wp2_with fail
    refine (plain_Str ks ks _ _ _ _ true (by simp) _ _ E7.sits r1 r2).mono ?_
    rintro e w9 ⟨rfl, F9⟩
    have E9 := E7.trans F9
    go_wp2_with fail
    refine (KA.out _ _ E9.sits).mono ?_
    rintro e w8 ⟨rfl, F8⟩
    have E8 := E9.trans F8
    go_wp2_with fail
    go_ret
    exact ⟨rfl, E8.back⟩
end Go.Proofs.YthffdfcjphohcaaDoor
