/- The walk of the law NameBounds: it returns true, and writes nothing that was there. -/
import Derived.Test.YthffdfcjphohcaaDoorNameLaw
import Derived.Test.YthffdfcjphohcaaDoorNameTells
import Derived.Test.YthffdfcjphohcaaDoorConv
namespace Go.Proofs.YthffdfcjphohcaaDoor
open Go.RowKit Go.Sort
set_option linter.unusedVariables false
def nnB (k : Nat) : ByteArray := ⟨(List.replicate k (110 : UInt8)).toArray⟩
def longB (k : Nat) : ByteArray := ⟨((List.replicate k [(47 : UInt8), 97, 98, 99]).flatten).toArray⟩
theorem nnB_next (k : Nat) : nnB k ++ ⟨#[110]⟩ = nnB (k + 1) := by
  apply ByteArray.ext
  apply Array.toList_inj.1
  simp [nnB, List.replicate_succ']
theorem longB_next (k : Nat) : longB k ++ ⟨#[47, 97, 98, 99]⟩ = longB (k + 1) := by
  apply ByteArray.ext
  apply Array.toList_inj.1
  simp [longB, List.replicate_succ']
theorem nnB_slash (k : Nat) : (⟨#[47]⟩ : ByteArray) ++ nnB k = ⟨(47 :: List.replicate k (110 : UInt8)).toArray⟩ := by
  apply ByteArray.ext
  apply Array.toList_inj.1
  simp [nnB]
theorem nnB_ways : ∀ k, k < 50 → waysCode ⟨(47 :: List.replicate k (110 : UInt8)).toArray⟩ = if k ≤ 32 then 0 else 17 := by decide +kernel
theorem nnB_name : ∀ k, k < 50 → nameB (nnB k) = decide (1 ≤ k ∧ k ≤ 32) := by decide +kernel
theorem long_ways : waysCode (longB 100) = 0 := by decide +kernel
theorem long_size : (longB 100).size = 400 := by decide +kernel
theorem long_more : waysCode (longB 100 ++ ⟨#[47]⟩) = 17 := by
  unfold waysCode waysP
  have : partsP (longB 100 ++ ⟨#[47]⟩) = none := by
    unfold partsP
    rw [if_pos (.inr (by rw [ByteArray.size_append, long_size]; decide))]
  rw [this]
  split <;> rfl
theorem odd_name0 : ∀ n, n < 256 → nameB ((⟨#[97]⟩ : ByteArray) ++ ⟨#[UInt8.ofNat n]⟩) = decide (n ≠ 0 ∧ n ≠ 47) := by decide +kernel
theorem way_code (s : ByteArray) (hsz : s.size ≤ 9223372036854775807) (co : Int) (hc : waysCode s = co) (h : FH) (w : World) (hs : Sits h w) :
    Calls Tryd.prog 9 #[.string s] w fun e w' => ∃ A n c, e = .returned (.tuple #[.slice A n c, .int .i64 co]) ∧ Ext h w h w' := by
  refine (name_Split s hsz h w hs).mono ?_
  rintro e w' ⟨v, rfl, O, E⟩
  obtain ⟨A, c, rfl, _⟩ := O.slice
  exact ⟨_, _, _, by rw [hc], E⟩
set_option maxHeartbeats 8000000 in
set_option maxRecDepth 100000 in
theorem NameBounds_walk (n : Int) (c : Int) (W : World) (c0 : 0 ≤ c) (c1 : c < 256) :
    Calls Tryd.prog 5 #[.int .i64 n, .int .u8 c] W fun e w' => e = .returned (.bool true) ∧ Ext (fhOf W) W (fhOf W) w' := by
  have hs := Sits.all W
  obtain ⟨j, hj, hj50⟩ : ∃ q : Nat, (IntKind.u64.wrap n).tmod 50 = q ∧ q < 50 := by
    rw [Int.tmod_eq_emod_of_nonneg (wrap_u64_nonneg n)]
    have := wrap_u64_nonneg n
    exact ⟨(IntKind.u64.wrap n % 50).toNat, by omega, by omega⟩
  have E0 := Ext.refl hs
  go_enter Tryd.func5, Tryd.ntmps5
  go_wp2_with fail
  go_loopw [5, 6] (fun sv iv wr => ∃ k : Nat, k ≤ j ∧ iv = .int .i64 k ∧ sv = .string (nnB k) ∧ Ext (fhOf W) W (fhOf W) wr) (fun _ iv _ => j - (intOf iv).toNat)
  case atStart => exact ⟨0, Nat.zero_le _, rfl, rfl, E0⟩
  case round =>
    obtain ⟨k, hk, rfl, rfl, E⟩ := hrel
    by_cases hlt : k < j
    · have hz : (nnB k).size ≤ 50 := by simp [nnB, ByteArray.size]; omega
      go_wp2_with fail
      go_roundw
      case rel => exact ⟨k + 1, by omega, by go_num, by rw [nnB_next], E⟩
      case measure => simp [intOf]; omega
    · obtain rfl : k = j := by omega
      go_wp2_with fail
      go_loopw [7, 8] (fun sv iv wr => ∃ k : Nat, k ≤ 100 ∧ iv = .int .i64 k ∧ sv = .string (longB k) ∧ Ext (fhOf W) W (fhOf W) wr) (fun _ iv _ => 100 - (intOf iv).toNat)
      case atStart => exact ⟨0, Nat.zero_le _, rfl, rfl, E⟩
      case round =>
        obtain ⟨m, hm, rfl, rfl, E⟩ := hrel
        by_cases hlt2 : m < 100
        · have hz : (longB m).size ≤ 400 := by simp [longB, ByteArray.size]; omega
          go_wp2_with fail
          go_roundw
          case rel => exact ⟨m + 1, by omega, by go_num, by rw [longB_next], E⟩
          case measure => simp [intOf]; omega
        · obtain rfl : m = 100 := by omega
          have n1 := nnB_ways k hj50
          have n2 := nnB_name k hj50
          have hsl : ((⟨#[47]⟩ : ByteArray) ++ nnB k).size ≤ 9223372036854775807 := by rw [ByteArray.size_append]; show 1 + (nnB k).size ≤ _; simp [nnB, ByteArray.size]; omega
          have hns : (nnB k).size ≤ 9223372036854775807 := by simp [nnB, ByteArray.size]; omega
          have hl1 : (longB 100).size ≤ 9223372036854775807 := by rw [long_size]; decide
          have hl2 : (longB 100 ++ ⟨#[47]⟩).size ≤ 9223372036854775807 := by rw [ByteArray.size_append, long_size]; decide
          obtain ⟨co, hco⟩ : ∃ co, (if k ≤ 32 then (0 : Int) else 17) = co := ⟨_, rfl⟩
          have P1 := hid (fun (h : FH) w hs => way_code _ hsl co (by rw [nnB_slash, n1, hco]) h w hs)
          have P2 := hid (fun (h : FH) w hs => way_code (longB 100) hl1 0 long_ways h w hs)
          have P3 := hid (fun (h : FH) w hs => way_code _ hl2 17 long_more h w hs)
          have P4 := hid (fun (h : FH) w hs => way_code ⟨#[97]⟩ (by decide) 17 (by decide +kernel) h w hs)
          have P5 := hid (fun (h : FH) w hs => name_Right (nnB k) hns _ n2 h w hs)
          obtain ⟨cn, rfl⟩ := Int.eq_ofNat_of_zero_le c0
          have n3 := odd_name0 cn (by omega)
          have P6 := hid (fun (h : FH) w hs => name_Right ((⟨#[97]⟩ : ByteArray) ++ ⟨#[UInt8.ofNat cn]⟩) (by rw [ByteArray.size_append]; show 1 + 1 ≤ _; decide) _ n3 h w hs)
          have P7 := hid (fun (h : FH) w hs => name_Right ⟨#[46]⟩ (by decide) false (by decide +kernel) h w hs)
          have P8 := hid (fun (h : FH) w hs => name_Right ⟨#[46, 46, 46]⟩ (by decide) true (by decide +kernel) h w hs)
          have KA := hid (fun (h : FH) w hs => law10_awake h w hs)
          have hcv := fun w => conv1 w (cn : Int) 1 ⟨#[UInt8.ofNat cn]⟩ (by rw [Int.toNat_natCast])
          have hz1 : (longB 100).size ≤ 400 := by rw [long_size]; decide
          have hz2 : (nnB k).size ≤ 50 := by simp [nnB, ByteArray.size]; omega
          generalize longB 100 = lb at *
          generalize nnB k = nb at *
          clear n1 n2 n3 hsl hns hl1 hl2 hm hlt2 hlt hk
          have hff : ∀ w, (binOp .eql 4 (.bool false) (.bool false)).run Tryd.prog w = .ok (.bool true) w := fun w => by kernel_rfl
          obtain ⟨b0, hb0⟩ : ∃ b, ((cn : Int) != 0) = b := ⟨_, rfl⟩
          obtain ⟨b47, hb47⟩ : ∃ b, ((cn : Int) != 47) = b := ⟨_, rfl⟩
          have hbq : decide (cn ≠ 0 ∧ cn ≠ 47) = (b0 && b47) := by
            rw [← hb0, ← hb47, Bool.eq_iff_iff]
            simp
            omega
          obtain ⟨bs, hbs⟩ : ∃ bs, decide (1 ≤ k ∧ k ≤ 32) = bs := ⟨_, rfl⟩
          have P5 := P5.out
          rw [hbs] at P5
          have P5 := hid P5
          have P6 := P6.out
          rw [hbq] at P6
          have HB0 := hid hb0
          have HB47 := hid hb47
          have key : (bs = false ∧ co = 0 ∧ k < 1) ∨ (bs = true ∧ co = 0 ∧ 1 ≤ k ∧ k ≤ 32) ∨ (bs = false ∧ co = 17 ∧ 33 ≤ k) := by
            rw [← hbs, ← hco]
            rcases (show k = 0 ∨ (1 ≤ k ∧ k ≤ 32) ∨ 33 ≤ k by omega) with h | h | h
            · left; subst h; exact ⟨by decide, by decide, by omega⟩
            · right; left; exact ⟨decide_eq_true h, if_pos h.2, h⟩
            · right; right; exact ⟨decide_eq_false (by omega), if_neg (by omega), h⟩
          clear hbq hb0 hb47 hbs hco
          obtain ⟨bq, hbq⟩ : ∃ bq, (b0 && b47) = bq := ⟨_, rfl⟩
          rw [hbq] at P6
          have P6 := hid P6
          have HBQ := hid hbq
          clear hbq
          have KEY := hid key
          clear key
          go_wp2_with fail
          refine (P1.out _ _ E.sits).mono ?_
          rintro e w1 ⟨A1, n1, c1', rfl, F1⟩
          have E1 := E.trans F1
          go_wp2_with fail
          refine (P2.out _ _ E1.sits).mono ?_
          rintro e w2 ⟨A2, n2, c2', rfl, F2⟩
          have E2 := E1.trans F2
          go_wp2_with fail
          refine (P3.out _ _ E2.sits).mono ?_
          rintro e w3 ⟨A3, n3, c3', rfl, F3⟩
          have E3 := E2.trans F3
          go_wp2_with fail
          refine (P4.out _ _ E3.sits).mono ?_
          rintro e w4 ⟨A4, n4, c4', rfl, F4⟩
          have E4 := (E3.trans F4).alloc (.cells #[.int .u8 (cn : Int)] 5)
          clear F1 F2 F3 F4 E1 E2 E3
          go_wp2_with fail
          refine (P6.out _ _ E4.sits).mono ?_
          rintro e w5 ⟨rfl, F5⟩
          have E5 := E4.trans F5
          clear hcv
          go_wp2_with fail
          refine (KA.out _ _ E5.sits).mono ?_
          rintro e w6 ⟨rfl, F6⟩
          have E6 := E5.trans F6
          go_wp2_with fail
          refine (P5.out _ _ E6.sits).mono ?_
          rintro e w7 ⟨rfl, F7⟩
          have E7 := E6.trans F7
          clear F5 F6 F7 E4 E5 E6
          have hb0 := HB0.out
          have hb47 := HB47.out
          have hbq := HBQ.out
          rcases KEY.out with ⟨rfl, rfl, hk1⟩ | ⟨rfl, rfl, hk1, hk2⟩ | ⟨rfl, rfl, hk1⟩
          all_goals (first | (have hd : decide ((k : Int) ≤ 32) = true := decide_eq_true (by omega)) | (have hd : decide ((k : Int) ≤ 32) = false := decide_eq_false (by omega)))
          all_goals cases b0
          all_goals cases b47
          all_goals
            subst hbq
            go_wp2_with fail
            refine (P7.out _ _ E7.sits).mono ?_
            rintro e w8 ⟨rfl, F8⟩
            have E8 := E7.trans F8
            go_wp2_with fail
            refine (P8.out _ _ E8.sits).mono ?_
            rintro e w9 ⟨rfl, F9⟩
            have E9 := E8.trans F9
            go_wp2_with fail
            go_ret
            exact ⟨rfl, E9.back⟩
end Go.Proofs.YthffdfcjphohcaaDoor
