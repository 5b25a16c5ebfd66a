/- The walk of the law EntriesFull: it returns true, and writes nothing that was there. -/
import Derived.Test.YtidfcdomeacppaaEntLaw
import Derived.Test.YtidfcdomeacppaaEntPlain
import Derived.Test.YtidfcdomeacppaaConv
namespace Go.Proofs.Ytidfcdomeacppaa
open Go.RowKit Go.Sort
set_option linter.unusedVariables false
def nmF (k : Nat) : ByteArray := ⟨#[UInt8.ofNat (97 + k / 26), UInt8.ofNat (97 + k % 26)]⟩
def entF (k : Nat) : Entry := ⟨nmF k, 5⟩
def listF (k : Nat) : List Entry := (List.range k).map entF
theorem listF_len (k : Nat) : (listF k).length = k := by simp [listF]
theorem nmF_ok : ∀ k, k < 101 → nameB (nmF k) = true := by decide +kernel
theorem nmF_lt0 : ∀ k, k < 101 → ∀ i, i < k → [UInt8.ofNat (97 + i / 26), UInt8.ofNat (97 + i % 26)] < [UInt8.ofNat (97 + k / 26), UInt8.ofNat (97 + k % 26)] := by decide +kernel
theorem nmF_list (k : Nat) : (nmF k).toList = [UInt8.ofNat (97 + k / 26), UInt8.ofNat (97 + k % 26)] := by unfold nmF; rw [ByteArray.toList_eq]
theorem nmF_zz0 : ∀ i, i < 101 → [UInt8.ofNat (97 + i / 26), UInt8.ofNat (97 + i % 26)] < [122, 122] := by decide +kernel
theorem listF_lt {k : Nat} (hk : k < 101) : ∀ x ∈ listF k, ltE x (entF k) := fun x hx => by
  obtain ⟨i, hi, rfl⟩ := List.mem_map.1 hx
  show (nmF i).toList < (nmF k).toList
  rw [nmF_list, nmF_list]
  exact nmF_lt0 k hk i (List.mem_range.1 hi)
theorem listF_add {k : Nat} (hk : k < 100) : addC (listF k) (entF k) = 0 ∧ addL (listF k) (entF k) = listF (k + 1) := by
  obtain ⟨h1, h2⟩ := insE_last (listF_lt (k := k) (by omega))
  have hc : addC (listF k) (entF k) = 0 := by
    unfold addC
    rw [h2, listF_len, show nameB (entF k).name = true from nmF_ok k (by omega), if_neg (by decide), if_neg (by show ¬ (5 : Int) ≤ 0; decide), if_neg (by decide), if_neg (by omega)]
  refine ⟨hc, ?_⟩
  unfold addL
  rw [if_pos hc, h1]
  unfold listF
  rw [List.range_succ, List.map_append]; rfl
theorem listF_full : addC (listF 100) (entF 100) = 21 ∧ addL (listF 100) (entF 100) = [] := by
  obtain ⟨h1, h2⟩ := insE_last (listF_lt (k := 100) (by omega))
  have hc : addC (listF 100) (entF 100) = 21 := by
    unfold addC
    rw [h2, listF_len, show nameB (entF 100).name = true from nmF_ok 100 (by omega), if_neg (by decide), if_neg (by show ¬ (5 : Int) ≤ 0; decide), if_neg (by decide), if_pos (by omega)]
  exact ⟨hc, by unfold addL; rw [hc, if_neg (by decide)]⟩
def zzN : ByteArray := ⟨#[122, 122]⟩
theorem listF_aa {k : Nat} (hk : 0 < k) (h : k < 101) : addC (listF k) ⟨nmF 0, 5⟩ = 12 := by
  have : (findE (listF k) (nmF 0)).isSome = true := by
    cases hq : findE (listF k) (nmF 0) with
    | some _ => rfl
    | none => exact absurd rfl (findE_none hq (entF 0) (List.mem_map.2 ⟨0, List.mem_range.2 hk, rfl⟩))
  unfold addC
  rw [show nameB (nmF 0) = true from nmF_ok 0 (by omega), if_neg (by decide), if_neg (by show ¬ (5 : Int) ≤ 0; decide), if_pos this]
theorem listF_zz {k : Nat} (h : k < 101) : addC (listF k) ⟨zzN, 5⟩ = if 100 ≤ k then 21 else 0 := by
  have h2 : findE (listF k) zzN = none := (insE_last (e := ⟨zzN, 5⟩) (fun x hx => by
    obtain ⟨i, hi, rfl⟩ := List.mem_map.1 hx
    show (nmF i).toList < zzN.toList
    rw [nmF_list, show zzN.toList = [122, 122] from by unfold zzN; rw [ByteArray.toList_eq]]
    exact nmF_zz0 i (by have := List.mem_range.1 hi; omega))).2
  unfold addC
  rw [h2, listF_len, show nameB zzN = true by decide +kernel, if_neg (by decide), if_neg (by show ¬ (5 : Int) ≤ 0; decide), if_neg (by decide)]
theorem listF_zz0 (k : Nat) : addC (listF k) ⟨zzN, 0⟩ = 1 := by
  unfold addC
  rw [show nameB zzN = true by decide +kernel, if_neg (by decide), if_pos (by show (0 : Int) ≤ 0; decide)]
theorem listF_dd (k : Nat) : addC (listF k) ⟨dot2, 5⟩ = 17 := by
  unfold addC
  rw [show nameB dot2 = false by decide +kernel, if_pos rfl]
theorem bool_ff (w : World) : (binOp .eql 4 (.bool false) (.bool false)).run Try.prog w = .ok (.bool true) w := by kernel_rfl
theorem min_lt (x y : Int) (hlt : x ≤ y) (ts : Array TypeId) (t : TypeId) (w : World) : (Builtin.min_ ts t #[.int .i64 x, .int .i64 y]).run Try.prog w = .ok (.int .i64 x) w := by
  rw [run_min_int2, if_neg (by omega)]
theorem min_gt (x y : Int) (hlt : y < x) (ts : Array TypeId) (t : TypeId) (w : World) : (Builtin.min_ ts t #[.int .i64 x, .int .i64 y]).run Try.prog w = .ok (.int .i64 y) w := by
  rw [run_min_int2, if_pos hlt]
theorem add_code (m : Nat) (hm : m < 101) (e : Entry) (hsz : e.name.size ≤ 9223372036854775807) (co : Int) (hc : addC (listF m) e = co) (h : FH) (A : Option Addr) (c : Nat) (w : World) (hs : Sits h w) (r : RowAt h A (listF m)) :
    Calls Try.prog 23 #[.slice A m c, .agg #[.string e.name, .int .i64 e.no]] w fun e' w' => ∃ A' n c', e' = .returned (.tuple #[.slice A' n c', .int .i64 co]) ∧ Ext h w h w' := by
  have := entries_Add (listF m) A c (by rw [listF_len]; omega) e hsz h w hs r
  rw [listF_len] at this
  refine this.mono ?_
  rintro e' w' ⟨v, rfl, O, E⟩
  obtain ⟨A', c', rfl, _⟩ := O.slice
  exact ⟨_, _, _, by rw [hc], E⟩
set_option maxHeartbeats 8000000 in
set_option maxRecDepth 100000 in
theorem EntriesFull_walk (n : Int) (W : World) :
    Calls Try.prog 7 #[.int .i64 n] W fun e w' => e = .returned (.bool true) ∧ Ext (fhOf W) W (fhOf W) w' := by
  have hs := Sits.all W
  obtain ⟨j, hj4, hj⟩ : ∃ j : Nat, j < 4 ∧ (IntKind.u64.wrap n).tmod 4 = (j : Int) := by
    have h0 : 0 ≤ IntKind.u64.wrap n := by rw [IntKind.wrap_u64]; omega
    refine ⟨((IntKind.u64.wrap n).tmod 4).toNat, ?_, ?_⟩
    · rw [Int.tmod_eq_emod_of_nonneg h0]; omega
    · rw [Int.tmod_eq_emod_of_nonneg h0]; omega
  have HN := hid (show wrap64 (98 + wrap64 ((IntKind.u64.wrap n).tmod 4)) = (98 : Int) + (j : Int) by
    have e1 : wrap64 (j : Int) = j := IntWalk.wrap64_in _ (by omega)
    rw [hj, e1, IntWalk.wrap64_in _ (by omega)])
  clear hj
  go_enter Try.func7, Try.ntmps7
  go_wp2_with fail
  rw [HN.out]
  go_loopw [3, 4, 5] (fun lv cv iv wr => ∃ (k : Nat) (A : Option Addr) (c : Nat) (h1 : FH) (co iv' : Int), lv = .slice A k c ∧ cv = .int .i64 co ∧ iv = .int .i64 iv' ∧ RowAt h1 A (listF k) ∧ Ext (fhOf W) W h1 wr ∧ Hid ((co = 0 ∧ iv' = k ∧ k ≤ 100 ∧ k ≤ 98 + j) ∨ (co = 21 ∧ j = 3 ∧ iv' = 101 ∧ k = 100))) (fun _ _ iv _ => 200 - (intOf iv).toNat)
  case atStart => exact ⟨0, none, 0, fhOf W, 0, 0, rfl, rfl, rfl, RowAt.nil _ _, Ext.refl hs, hid (.inl ⟨rfl, rfl, by omega, by omega⟩)⟩
  case round =>
    obtain ⟨k, A, c, h1, co, iv, rfl, rfl, rfl, r, E, HD⟩ := hrel
    rcases HD.out with ⟨rfl, rfl, hk1, hk2⟩ | ⟨rfl, hj3, rfl, rfl⟩
    · clear HD
      by_cases hlt : k < 98 + j
      · have hcv := fun w => conv2 w (97 + (k : Int) / 26) (97 + (k : Int) % 26) 2 (nmF k) (by unfold nmF; congr 3 <;> omega)
        have hnm : Hid ((nmF k).size ≤ 9223372036854775807) := hid (by rw [show (nmF k).size = 2 from rfl]; decide)
        have P := hid (fun (h : FH) A c w hs r => entries_Add (listF k) A c (by rw [listF_len]; omega) ⟨nmF k, 5⟩ hnm.out h w hs r)
        by_cases h100 : k < 100
        · obtain ⟨hC, hL⟩ := listF_add h100
          have P := P.out
          rw [show (⟨nmF k, 5⟩ : Entry) = entF k from rfl, hC, hL, listF_len] at P
          have P := hid P
          clear hC hL
          have E1 := E.alloc (.cells #[.int .u8 (97 + (k : Int) / 26), .int .u8 (97 + (k : Int) % 26)] 5)
          go_wp2_with fail
          refine (P.out _ _ _ _ E1.sits r).mono ?_
          rintro e w2 R
          obtain ⟨A2, c2, h2, rfl, hc2, r2, F2⟩ := R.stay (by rw [listF_len]; omega)
          rw [listF_len]
          have E2 := E1.trans F2
          clear F2 R E1 hcv
          go_wp2_with fail
          go_roundw
          case rel => exact ⟨k + 1, A2, c2, h2, 0, (k : Int) + 1, rfl, rfl, rfl, r2, E2, hid (.inl ⟨rfl, by omega, by omega, by omega⟩)⟩
          case measure => simp [intOf]; omega
        · obtain rfl : k = 100 := by omega
          have hj3 : 100 < 98 + j := hlt
          obtain ⟨hC, hL⟩ := listF_full
          have P := P.out
          rw [show (⟨nmF 100, 5⟩ : Entry) = entF 100 from rfl, hC, hL, listF_len] at P
          have P := hid P
          clear hC hL
          clear hcv
          have hcv := fun w => conv2 w 100 119 2 (nmF 100) (by decide +kernel)
          have E1 := E.alloc (.cells #[.int .u8 100, .int .u8 119] 5)
          go_wp2_with fail
          refine (P.out _ _ _ _ E1.sits r).mono ?_
          rintro e w2 R
          obtain ⟨A2, c2, h2, rfl, hc2, r2, F2⟩ := R.stay (by decide)
          have E2 := E1.trans F2
          have r3 := r.mono F2.le
          clear F2 R E1 hcv
          go_wp2_with fail
          go_roundw
          case rel => exact ⟨100, A, c, h2, 21, 101, rfl, rfl, rfl, r3, E2, hid (.inr ⟨rfl, by omega, rfl, rfl⟩)⟩
          case measure => simp [intOf]
      · obtain rfl : k = 98 + j := by omega
        have hj3 : j < 3 := by omega
        clear hj4 hk1 hk2 hlt
        rcases (show j = 0 ∨ j = 1 ∨ j = 2 by omega) with rfl | rfl | rfl
        · have r : RowAt h1 A (listF 98) := r
          have Q1 := hid (add_code 98 (by decide) ⟨⟨#[97, 97]⟩, 5⟩ (by decide) 12 (listF_aa (by decide) (by decide)))
          have Q2 := hid (add_code 98 (by decide) ⟨⟨#[46, 46]⟩, 5⟩ (by decide) 17 (listF_dd _))
          have Q3 := hid (add_code 98 (by decide) ⟨⟨#[122, 122]⟩, 5⟩ (by decide) 0 (listF_zz (by decide)))
          have Q4 := hid (add_code 98 (by decide) ⟨⟨#[122, 122]⟩, 0⟩ (by decide) 1 (listF_zz0 _))
          go_wp2_with fail
          refine (Q1.out _ _ _ _ E.sits r).mono ?_
          rintro e w1 ⟨A1, n1, c1, rfl, F1⟩
          have E1 := E.trans F1
          clear F1
          go_wp2_with fail
          refine (Q2.out _ _ _ _ E1.sits r).mono ?_
          rintro e w2 ⟨A2, n2, c2, rfl, F2⟩
          have E2 := E1.trans F2
          clear F2
          go_wp2_with fail
          refine (Q3.out _ _ _ _ E2.sits r).mono ?_
          rintro e w3 ⟨A3, n3, c3, rfl, F3⟩
          have E3 := E2.trans F3
          clear F3
          go_wp2_with fail
          refine (Q4.out _ _ _ _ E3.sits r).mono ?_
          rintro e w4 ⟨A4, n4, c4, rfl, F4⟩
          have E4 := E3.trans F4
          clear F4
          go_wp2_with fail
          refine (law11_awake _ _ E4.sits).mono ?_
          rintro e w5 ⟨rfl, F5⟩
          have E5 := E4.trans F5
          clear F5
          have hff := bool_ff
          have hmn := min_lt 98 100 (by decide)
          go_wp2_with fail
          go_ret
          exact ⟨rfl, E5.back⟩
        · have r : RowAt h1 A (listF 99) := r
          have Q1 := hid (add_code 99 (by decide) ⟨⟨#[97, 97]⟩, 5⟩ (by decide) 12 (listF_aa (by decide) (by decide)))
          have Q2 := hid (add_code 99 (by decide) ⟨⟨#[46, 46]⟩, 5⟩ (by decide) 17 (listF_dd _))
          have Q3 := hid (add_code 99 (by decide) ⟨⟨#[122, 122]⟩, 5⟩ (by decide) 0 (listF_zz (by decide)))
          have Q4 := hid (add_code 99 (by decide) ⟨⟨#[122, 122]⟩, 0⟩ (by decide) 1 (listF_zz0 _))
          go_wp2_with fail
          refine (Q1.out _ _ _ _ E.sits r).mono ?_
          rintro e w1 ⟨A1, n1, c1, rfl, F1⟩
          have E1 := E.trans F1
          clear F1
          go_wp2_with fail
          refine (Q2.out _ _ _ _ E1.sits r).mono ?_
          rintro e w2 ⟨A2, n2, c2, rfl, F2⟩
          have E2 := E1.trans F2
          clear F2
          go_wp2_with fail
          refine (Q3.out _ _ _ _ E2.sits r).mono ?_
          rintro e w3 ⟨A3, n3, c3, rfl, F3⟩
          have E3 := E2.trans F3
          clear F3
          go_wp2_with fail
          refine (Q4.out _ _ _ _ E3.sits r).mono ?_
          rintro e w4 ⟨A4, n4, c4, rfl, F4⟩
          have E4 := E3.trans F4
          clear F4
          go_wp2_with fail
          refine (law11_awake _ _ E4.sits).mono ?_
          rintro e w5 ⟨rfl, F5⟩
          have E5 := E4.trans F5
          clear F5
          have hff := bool_ff
          have hmn := min_lt 99 100 (by decide)
          go_wp2_with fail
          go_ret
          exact ⟨rfl, E5.back⟩
        · have r : RowAt h1 A (listF 100) := r
          have Q1 := hid (add_code 100 (by decide) ⟨⟨#[97, 97]⟩, 5⟩ (by decide) 12 (listF_aa (by decide) (by decide)))
          have Q2 := hid (add_code 100 (by decide) ⟨⟨#[46, 46]⟩, 5⟩ (by decide) 17 (listF_dd _))
          have Q3 := hid (add_code 100 (by decide) ⟨⟨#[122, 122]⟩, 5⟩ (by decide) 21 (listF_zz (by decide)))
          have Q4 := hid (add_code 100 (by decide) ⟨⟨#[122, 122]⟩, 0⟩ (by decide) 1 (listF_zz0 _))
          go_wp2_with fail
          refine (Q1.out _ _ _ _ E.sits r).mono ?_
          rintro e w1 ⟨A1, n1, c1, rfl, F1⟩
          have E1 := E.trans F1
          clear F1
          go_wp2_with fail
          refine (Q2.out _ _ _ _ E1.sits r).mono ?_
          rintro e w2 ⟨A2, n2, c2, rfl, F2⟩
          have E2 := E1.trans F2
          clear F2
          go_wp2_with fail
          refine (Q3.out _ _ _ _ E2.sits r).mono ?_
          rintro e w3 ⟨A3, n3, c3, rfl, F3⟩
          have E3 := E2.trans F3
          clear F3
          go_wp2_with fail
          refine (Q4.out _ _ _ _ E3.sits r).mono ?_
          rintro e w4 ⟨A4, n4, c4, rfl, F4⟩
          have E4 := E3.trans F4
          clear F4
          go_wp2_with fail
          refine (law11_awake _ _ E4.sits).mono ?_
          rintro e w5 ⟨rfl, F5⟩
          have E5 := E4.trans F5
          clear F5
          have hff := bool_ff
          have hmn := min_lt 100 100 (by decide)
          go_wp2_with fail
          go_ret
          exact ⟨rfl, E5.back⟩
    · have hj3 : 100 < 98 + j := by omega
      clear HD
      have Q1 := hid (add_code 100 (by decide) ⟨⟨#[97, 97]⟩, 5⟩ (by decide) 12 (listF_aa (by decide) (by decide)))
      have Q2 := hid (add_code 100 (by decide) ⟨⟨#[46, 46]⟩, 5⟩ (by decide) 17 (listF_dd _))
      have Q3 := hid (add_code 100 (by decide) ⟨⟨#[122, 122]⟩, 5⟩ (by decide) 21 (listF_zz (by decide)))
      have Q4 := hid (add_code 100 (by decide) ⟨⟨#[122, 122]⟩, 0⟩ (by decide) 1 (listF_zz0 _))
      go_wp2_with fail
      refine (Q1.out _ _ _ _ E.sits r).mono ?_
      rintro e w1 ⟨A1, n1, c1, rfl, F1⟩
      have E1 := E.trans F1
      clear F1
      go_wp2_with fail
      refine (Q2.out _ _ _ _ E1.sits r).mono ?_
      rintro e w2 ⟨A2, n2, c2, rfl, F2⟩
      have E2 := E1.trans F2
      clear F2
      go_wp2_with fail
      refine (Q3.out _ _ _ _ E2.sits r).mono ?_
      rintro e w3 ⟨A3, n3, c3, rfl, F3⟩
      have E3 := E2.trans F3
      clear F3
      go_wp2_with fail
      refine (Q4.out _ _ _ _ E3.sits r).mono ?_
      rintro e w4 ⟨A4, n4, c4, rfl, F4⟩
      have E4 := E3.trans F4
      clear F4
      go_wp2_with fail
      refine (law11_awake _ _ E4.sits).mono ?_
      rintro e w5 ⟨rfl, F5⟩
      have E5 := E4.trans F5
      clear F5
      have hff := bool_ff
      have hmn := min_gt 101 100 (by decide)
      go_wp2_with fail
      go_ret
      exact ⟨rfl, E5.back⟩
end Go.Proofs.Ytidfcdomeacppaa
