/- The walk of the law PathLinks: it returns true, and writes nothing that was there. -/
import Derived.Test.YtcnbnehammbncaaDoorLineSt
import Derived.Test.YtcnbnehammbncaaDoorConv
namespace Go.Proofs.YtcnbnehammbncaaDoor
open Go.RowKit Go.Sort
set_option linter.unusedVariables false
def nmL (i : Nat) : ByteArray := ⟨#[UInt8.ofNat (97 + i)]⟩
def lkN (i : Nat) : ByteArray := ⟨#[47, 108]⟩ ++ nmL i
def lkS : Nat → State × ByteArray
  | 0 => (madeS newS ⟨#[47, 102]⟩ 1 ⟨#[]⟩, ⟨#[47, 102]⟩)
  | i + 1 => (madeS (lkS i).1 (lkN i) 3 (lkS i).2, lkN i)
theorem lkS_mid : ∀ n, n < 12 → midB (lkS n).1 = true := by decide +kernel
theorem lkS_sz : ∀ n, n < 12 → (lkS n).2.size ≤ 3 := by decide +kernel
theorem lkS_in : ∀ n, n < 9 → resolveP (lkS n).1.inodes (lkS n).2 true = (2, 0) := by decide +kernel
theorem lkS_out : ∀ n, n < 12 → 9 ≤ n → resolveP (lkS n).1.inodes (lkS n).2 true = (0, 16) := by decide +kernel
theorem lkS_not : ∀ n, n < 12 → resolveP (lkS n).1.inodes (lkS n).2 false = ((n : Int) + 2, 0) := by decide +kernel
theorem lkS_kind : ∀ n, n < 12 → 1 ≤ n → ((findI (lkS n).1.inodes ((n : Int) + 2)).getD zeroI).kind = 3 := by decide +kernel
theorem lkS_no : (makeP newS ⟨#[47, 102]⟩ 1 ⟨#[]⟩).2.1 = 2 := by decide +kernel
def upW : Nat → ByteArray
  | 0 => ⟨#[47, 120]⟩
  | k + 1 => upW k ++ ⟨#[47, 46, 46]⟩
def wantL (k : Nat) : Int := match k with
  | 0 => 3
  | 1 => 2
  | _ => 1
theorem upW_sz : ∀ k, (upW k).size = 3 * k + 2
  | 0 => rfl
  | k + 1 => by rw [upW, ByteArray.size_append, upW_sz k]; show 3 * k + 2 + 3 = _; omega
theorem upW_to : ∀ k, k < 6 → resolveP (stateP 3 ⟨#[100, 47, 100]⟩).inodes (upW k) true = (wantL k, 0) := by decide +kernel
theorem loop_to : resolveP (stateP 0 ⟨#[120]⟩).inodes ⟨#[47, 120]⟩ true = (0, 16) := by decide +kernel

set_option maxHeartbeats 16000000 in
set_option maxRecDepth 100000 in
theorem PathLinks_walk (n0 up0 : Int) (W : World) :
    Calls Tryd.prog 4 #[.int .i64 n0, .int .i64 up0] W fun e w' => e = .returned (.bool true) ∧ Ext (fhOf W) W (fhOf W) w' := by
  have hs := Sits.all W
  obtain ⟨n, hn, hn12⟩ : ∃ n : Nat, (IntKind.u64.wrap n0).tmod 12 = n ∧ n < 12 := by
    have h0 : 0 ≤ IntKind.u64.wrap n0 := by rw [IntKind.wrap_u64]; omega
    rw [Int.tmod_eq_emod_of_nonneg h0]
    exact ⟨(IntKind.u64.wrap n0 % 12).toNat, by omega, by omega⟩
  obtain ⟨u, hu, hu6⟩ : ∃ u : Nat, (IntKind.u64.wrap up0).tmod 6 = u ∧ u < 6 := by
    have h0 : 0 ≤ IntKind.u64.wrap up0 := by rw [IntKind.wrap_u64]; omega
    rw [Int.tmod_eq_emod_of_nonneg h0]
    exact ⟨(IntKind.u64.wrap up0 % 6).toNat, by omega, by omega⟩
  have hw1 : wrap64 (n : Int) = n := IntWalk.wrap64_in _ (by omega)
  have hw2 : wrap64 (u : Int) = u := IntWalk.wrap64_in _ (by omega)
  have KN := hid (ref_NewState (fhOf W) W hs)
  go_enter Tryd.func4, Tryd.ntmps4
  go_upto_region 2 with (fail)
  clear hn hu hw1 hw2
  go_upto_region 3 with (go_at_call 19; refine KN.out.mono ?_; rintro e w1 ⟨cs, h1, rfl, rs, F1⟩; obtain ⟨A1, c1, A2, c2, rfl⟩ := rs.open; have I2 := hid (SBox.new F1 rs))
  generalize w1.heap.size = gS at *
  with_reducible generalize w1.alloc (.cells #[.int .i64 newS.next, .slice A1 newS.inodes.length c1, .slice A2 newS.bads.length c2] 28) = w2 at I2 ⊢
  have s0 : w2.cell? ⟨gS, 0, none⟩ = some (.int .i64 newS.next) := box_cell (j := 0) I2.out.box rfl
  have s1 : w2.cell? ⟨gS, 1, none⟩ = some (.slice A1 newS.inodes.length c1) := box_cell (j := 1) I2.out.box rfl
  have s2 : w2.cell? ⟨gS, 2, none⟩ = some (.slice A2 newS.bads.length c2) := box_cell (j := 2) I2.out.box rfl
  have KM := ref_Make newS _ ⟨#[47, 102]⟩ (by decide) 1 ⟨#[]⟩ (by decide) (by decide) (by decide) newS_mid h1 w2 I2.out.ext.sits I2.out.rep
  have KM := hid KM
  go_upto_region 4 with (go_at_call 20; refine KM.out.mono ?_; rintro e w3 ⟨Ad, cd, h3, rfl, kd, rd, F3⟩; have I3 := hid (I2.out.more F3); have rd := hid rd; clear F3 s0 s1 s2)
  rw [lkS_no]
  have t0 : w3.cell? ⟨gS, 0, none⟩ = some (.int .i64 newS.next) := box_cell (j := 0) I3.out.box rfl
  have t1 : w3.cell? ⟨gS, 1, none⟩ = some (.slice A1 newS.inodes.length c1) := box_cell (j := 1) I3.out.box rfl
  have t2 : w3.cell? ⟨gS, 2, none⟩ = some (.slice A2 newS.bads.length c2) := box_cell (j := 2) I3.out.box rfl
  have KA := hid (ref_Apply newS _ _ Ad cd (by have := makeP_len newS ⟨#[47, 102]⟩ 1 ⟨#[]⟩; show 1 + _ ≤ 900; omega) (by have := makeP_len newS ⟨#[47, 102]⟩ 1 ⟨#[]⟩; show 0 + _ ≤ 900; omega) h3 w3 I3.out.ext.sits I3.out.rep rd.out)
  go_upto_region 5 with (go_at_call 21; refine KA.out.mono ?_; rintro e w4 ⟨cs4, h4, rfl, rs4, F4⟩; obtain ⟨A3, c3, A4, c4, rfl⟩ := rs4.open; have I6 := hid (I3.out.put F4 rs4); have I5 := hid (I3.out.more F4); have u0 := box_cell (j := 0) (v := .int .i64 newS.next) I5.out.box rfl; have f0 := box_free (j := 0) I5.out.box; have u1 := box_cell (j := 1) (v := .slice A1 newS.inodes.length c1) I5.out.box rfl; have f1 := box_free (j := 1) I5.out.box; have u2 := box_cell (j := 2) (v := .slice A2 newS.bads.length c2) I5.out.box rfl; have f2 := box_free (j := 2) I5.out.box; clear F4 t0 t1 t2)
  have I6 : Hid (SBox (fhOf W) W gS (lkS 0).1 h4 _ A3 c3 A4 c4) := I6
  go_wp2_with fail
  go_loopw [9, 10] (fun s9 i wr => ∃ (k : Nat) (h' : FH) (A1 : Option Addr) (c1 : Nat) (A2 : Option Addr) (c2 : Nat), k ≤ n ∧ i = .int .i64 k ∧ s9 = .string (lkS k).2 ∧ Hid (SBox (fhOf W) W gS (lkS k).1 h' wr A1 c1 A2 c2)) (fun _ i _ => n - (intOf i).toNat)
  case atStart => exact ⟨0, _, _, _, _, _, Nat.zero_le _, rfl, rfl, I6⟩
  case round =>
    obtain ⟨k, h', A1, c1, A2, c2, hk, rfl, rfl, I⟩ := hrel
    by_cases hkn : k < n
    · have hmid := midB_all (lkS_mid k (by omega))
      have hcv := fun w => conv1 w (97 + (k : Int)) 1 (nmL k) (by unfold nmL; congr 3 <;> omega)
      have I1 := hid (I.out.more ((Ext.refl I.out.ext.sits).alloc (.cells #[.int .u8 (97 + (k : Int))] 5)))
      have hz1 : (nmL k).size ≤ 1 := Nat.le_refl 1
      have HSZ := hid (lkS_sz k (by omega))
      have HLN := hid (makeP_len (lkS k).1 (lkN k) 3 (lkS k).2)
      have HMD := hid hmid
      clear hmid
      go_upto_region 10 with (fail)
      with_reducible generalize wr.alloc (.cells #[.int .u8 (97 + (k : Int))] 5) = wA at I1 ⊢
      have s0 : wA.cell? ⟨gS, 0, none⟩ = some (.int .i64 (lkS k).1.next) := box_cell (j := 0) I1.out.box rfl
      have s1 : wA.cell? ⟨gS, 1, none⟩ = some (.slice A1 (lkS k).1.inodes.length c1) := box_cell (j := 1) I1.out.box rfl
      have s2 : wA.cell? ⟨gS, 2, none⟩ = some (.slice A2 (lkS k).1.bads.length c2) := box_cell (j := 2) I1.out.box rfl
      have KM := hid (ref_Make (lkS k).1 _ (lkN k) (by unfold lkN; rw [ByteArray.size_append]; show 2 + 1 ≤ 9223372036854775807; decide) 3 (lkS k).2 (by have := HSZ.out; omega) HMD.out.1 (by have := HMD.out.2.1; omega) HMD.out.2.2.2.2 h' wA I1.out.ext.sits I1.out.rep)
      go_upto_region 11 with (go_at_call 20; refine KM.out.mono ?_; rintro e w3 ⟨Ad, cd, h3, rfl, kd, rd, F3⟩; have I3 := hid (I1.out.more F3); have rd := hid rd; clear F3 s0 s1 s2)
      have t0 : w3.cell? ⟨gS, 0, none⟩ = some (.int .i64 (lkS k).1.next) := box_cell (j := 0) I3.out.box rfl
      have t1 : w3.cell? ⟨gS, 1, none⟩ = some (.slice A1 (lkS k).1.inodes.length c1) := box_cell (j := 1) I3.out.box rfl
      have t2 : w3.cell? ⟨gS, 2, none⟩ = some (.slice A2 (lkS k).1.bads.length c2) := box_cell (j := 2) I3.out.box rfl
      have KA := hid (ref_Apply (lkS k).1 _ _ Ad cd (by have := HMD.out; have := HLN.out; omega) (by have := HMD.out; have := HLN.out; omega) h3 w3 I3.out.ext.sits I3.out.rep rd.out)
      go_wp2_with (go_at_call 21; refine KA.out.mono ?_; rintro e w4 ⟨cs4, h4, rfl, rs4, F4⟩; obtain ⟨A3, c3, A4, c4, rfl⟩ := rs4.open; have I6 := hid (I3.out.put F4 rs4); have I5 := hid (I3.out.more F4); have u0 := box_cell (j := 0) (v := .int .i64 (lkS k).1.next) I5.out.box rfl; have f0 := box_free (j := 0) I5.out.box; have u1 := box_cell (j := 1) (v := .slice A1 (lkS k).1.inodes.length c1) I5.out.box rfl; have f1 := box_free (j := 1) I5.out.box; have u2 := box_cell (j := 2) (v := .slice A2 (lkS k).1.bads.length c2) I5.out.box rfl; have f2 := box_free (j := 2) I5.out.box; clear F4 t0 t1 t2)
      go_roundw
      case rel => exact ⟨k + 1, h4, A3, c3, A4, c4, by omega, by go_num, rfl, I6⟩
      case measure => simp [intOf]; omega
    · obtain rfl : k = n := by omega
      have hmid := midB_all (lkS_mid k (by omega))
      obtain ⟨⟨rx, re⟩, hr⟩ : ∃ r, resolveP (lkS k).1.inodes (lkS k).2 true = r := ⟨_, rfl⟩
      have HR := hid (show (re = 0 ∧ rx = 2 ∧ k ≤ 8) ∨ (re = 16 ∧ 9 ≤ k) by
        by_cases h8 : k < 9
        · left; have q := lkS_in k h8; rw [hr] at q; simp only [Prod.mk.injEq] at q; exact ⟨q.2, q.1, by omega⟩
        · right; have q := lkS_out k (by omega) (by omega); rw [hr] at q; simp only [Prod.mk.injEq] at q; exact ⟨q.2, by omega⟩)
      have hsz := lkS_sz k (by omega)
      have KX1 := hid (path_Resolve (lkS k).1 _ (lkS k).2 (by omega) true _ hr h' wr I.out.ext.sits I.out.rep)
      have HSZ := hid hsz
      clear hr hmid hsz hkn
      have s0 : wr.cell? ⟨gS, 0, none⟩ = some (.int .i64 (lkS k).1.next) := box_cell (j := 0) I.out.box rfl
      have s1 : wr.cell? ⟨gS, 1, none⟩ = some (.slice A1 (lkS k).1.inodes.length c1) := box_cell (j := 1) I.out.box rfl
      have s2 : wr.cell? ⟨gS, 2, none⟩ = some (.slice A2 (lkS k).1.bads.length c2) := box_cell (j := 2) I.out.box rfl
      go_upto_region 13 with (go_at_call 13; refine KX1.out.mono ?_; rintro e x1 ⟨rfl, F⟩; have J1 := hid (I.out.more F); clear F s0 s1 s2)
      have KX2 := hid (path_Resolve (lkS k).1 _ (lkS k).2 (by have := HSZ.out; omega) false _ (lkS_not k (by omega)) h' x1 J1.out.ext.sits J1.out.rep)
      have s0 : x1.cell? ⟨gS, 0, none⟩ = some (.int .i64 (lkS k).1.next) := box_cell (j := 0) J1.out.box rfl
      have s1 : x1.cell? ⟨gS, 1, none⟩ = some (.slice A1 (lkS k).1.inodes.length c1) := box_cell (j := 1) J1.out.box rfl
      have s2 : x1.cell? ⟨gS, 2, none⟩ = some (.slice A2 (lkS k).1.bads.length c2) := box_cell (j := 2) J1.out.box rfl
      go_upto_region 14 with (go_at_call 13; refine KX2.out.mono ?_; rintro e x2 ⟨rfl, F⟩; have J2 := hid (J1.out.more F); clear F s0 s1 s2)
      obtain ⟨v, hv⟩ : ∃ v, findI (lkS k).1.inodes ((k : Int) + 2) = v := ⟨_, rfl⟩
      have HKZ := hid (show k = 0 ∨ (v.getD zeroI).kind = 3 by
        by_cases h0 : k = 0
        · exact .inl h0
        · right; rw [← hv]; exact lkS_kind k (by omega) (by omega))
      have KF := hid (ref_FindInode (lkS k).1 _ ((k : Int) + 2) v hv h' x2 J2.out.ext.sits J2.out.rep)
      clear hv
      have s0 : x2.cell? ⟨gS, 0, none⟩ = some (.int .i64 (lkS k).1.next) := box_cell (j := 0) J2.out.box rfl
      have s1 : x2.cell? ⟨gS, 1, none⟩ = some (.slice A1 (lkS k).1.inodes.length c1) := box_cell (j := 1) J2.out.box rfl
      have s2 : x2.cell? ⟨gS, 2, none⟩ = some (.slice A2 (lkS k).1.bads.length c2) := box_cell (j := 2) J2.out.box rfl
      go_upto_region 15 with (go_at_call 22; refine KF.out.mono ?_; rintro e x3 ⟨cs5, h5, rfl, r5, F5⟩; obtain ⟨B5, d5, B6, d6, rfl⟩ := r5.open; have E5 := hid (J2.out.ext.trans F5); clear F5 s0 s1 s2)
      obtain ⟨h6, E6, hbz, le6, hh6⟩ := E5.out.boxF #[.int .i64 (v.getD zeroI).no, .int .i64 (v.getD zeroI).kind, .int .i64 (v.getD zeroI).links, .int .i64 (v.getD zeroI).size, .string (v.getD zeroI).target, .slice B5 (v.getD zeroI).entries.length d5, .slice B6 (v.getD zeroI).runs.length d6] 50
      generalize x3.heap.size = gz at *
      with_reducible generalize x3.alloc (.cells #[.int .i64 (v.getD zeroI).no, .int .i64 (v.getD zeroI).kind, .int .i64 (v.getD zeroI).links, .int .i64 (v.getD zeroI).size, .string (v.getD zeroI).target, .slice B5 (v.getD zeroI).entries.length d5, .slice B6 (v.getD zeroI).runs.length d6] 50) = x4 at E6 ⊢
      have KS := hid (law15_state 3 (by decide) ⟨#[100, 47, 100]⟩ (by decide) h6 x4 E6.sits)
      have E6 := hid E6
      clear hh6 le6
      go_upto_region 16 with (go_at_call 23; refine KS.out.mono ?_; rintro e x5 ⟨cs7, h7, rfl, r7, F7⟩; obtain ⟨A5, c5, A6, c6, rfl⟩ := r7.open; have E7 := hid (E6.out.trans F7); have l7 := hid F7.le; have R7 := hid r7; clear F7)
      obtain ⟨h8, E8, hbD, le8, hh8⟩ := E7.out.boxF #[.int .i64 (stateP 3 ⟨#[100, 47, 100]⟩).next, .slice A5 (stateP 3 ⟨#[100, 47, 100]⟩).inodes.length c5, .slice A6 (stateP 3 ⟨#[100, 47, 100]⟩).bads.length c6] 28
      generalize x5.heap.size = gD at *
      with_reducible generalize x5.alloc (.cells #[.int .i64 (stateP 3 ⟨#[100, 47, 100]⟩).next, .slice A5 (stateP 3 ⟨#[100, 47, 100]⟩).inodes.length c5, .slice A6 (stateP 3 ⟨#[100, 47, 100]⟩).bads.length c6] 28) = y1 at E8 ⊢
      have hbz8 := le8 _ _ (l7.out _ _ hbz)
      have R8 := hid (repState.mono le8 R7.out)
      have E8 := hid E8
      clear hh8 le8 hbz
      go_wp2_with fail
      go_loopw [19, 20] (fun s19 i wx => ∃ j : Nat, j ≤ u ∧ i = .int .i64 j ∧ s19 = .string (upW j) ∧ wx = y1) (fun _ i _ => u - (intOf i).toNat)
      case atStart => exact ⟨0, Nat.zero_le _, rfl, rfl, rfl⟩
      case round =>
        obtain ⟨j, hj, rfl, rfl, hwx⟩ := hrel
        subst hwx
        have hjz := upW_sz j
        have hjz2 : (upW j).size ≤ 100 := by omega
        by_cases hju : j < u
        · go_wp2_with fail
          go_roundw
          case rel => exact ⟨j + 1, by omega, by go_num, rfl, trivial⟩
          case measure => simp [intOf]; omega
        · obtain rfl : j = u := by omega
          have KX3 := hid (path_Resolve (stateP 3 ⟨#[100, 47, 100]⟩) _ (upW j) (by omega) true _ (upW_to j hu6) h8 wr E8.out.sits R8.out)
          have s0 : wr.cell? ⟨gD, 0, none⟩ = some (.int .i64 (stateP 3 ⟨#[100, 47, 100]⟩).next) := Sits_at E8.out.sits hbD rfl
          have s1 : wr.cell? ⟨gD, 1, none⟩ = some (.slice A5 (stateP 3 ⟨#[100, 47, 100]⟩).inodes.length c5) := Sits_at E8.out.sits hbD rfl
          have s2 : wr.cell? ⟨gD, 2, none⟩ = some (.slice A6 (stateP 3 ⟨#[100, 47, 100]⟩).bads.length c6) := Sits_at E8.out.sits hbD rfl
          go_upto_region 22 with (go_at_call 13; refine KX3.out.mono ?_; rintro e y2 ⟨rfl, F⟩; have E9 := hid (E8.out.trans F); clear F s0 s1 s2)
          obtain ⟨h9, E10, hbw, le10, hh10⟩ := E9.out.boxF #[.int .i64 3, .int .i64 2, .int .i64 1, .int .i64 1, .int .i64 1, .int .i64 1] 3
          go_upto_region 23 with (fail)
          generalize y2.heap.size = gW at *
          with_reducible generalize y2.alloc (.cells #[.int .i64 3, .int .i64 2, .int .i64 1, .int .i64 1, .int .i64 1, .int .i64 1] 3) = y3 at E10 ⊢
          have hbz9 := le10 _ _ hbz8
          have KS0 := hid (law15_state 0 (by decide) ⟨#[120]⟩ (by decide) h9 y3 E10.sits)
          have E10 := hid E10
          have HCW := hid (show (#[.int .i64 3, .int .i64 2, .int .i64 1, .int .i64 1, .int .i64 1, .int .i64 1] : Array Value)[j]? = some (.int .i64 (wantL j)) by
            obtain rfl | rfl | rfl | rfl | rfl | rfl : j = 0 ∨ j = 1 ∨ j = 2 ∨ j = 3 ∨ j = 4 ∨ j = 5 := by omega
            all_goals rfl)
          clear hh10 le10 hju hjz hjz2
          go_upto_region 24 with (first
            | (go_at_call 23; refine KS0.out.mono ?_; rintro e y4 ⟨cs9, h10, rfl, r9, F9⟩; have R9 := hid r9; have E11 := hid (E10.out.trans F9); have l10 := hid F9.le; clear F9)
            | (go_at_call 13; refine (path_Resolve (stateP 0 ⟨#[120]⟩) cs9 ⟨#[47, 120]⟩ (by decide) true _ loop_to h10 y4 E11.out.sits R9.out).mono ?_; rintro e y5 ⟨rfl, F⟩; have E12 := hid (E11.out.trans F); clear F))
          have hbzA := l10.out _ _ hbz9
          have hbwA := l10.out _ _ hbw
          clear hbz8 hbz9 hbw hbD
          by_cases hk0 : k = 0
          · subst hk0
            obtain ⟨rfl, rfl, _⟩ | ⟨_, h9⟩ := HR.out
            · go_wp2_with (go_at_call 9; refine (law15_awake _ _ E12.out.sits).mono ?_; rintro e y6 ⟨rfl, F⟩; have cw : y6.cell? ⟨gW, j, none⟩ = some (.int .i64 (wantL j)) := Sits_at F.sits hbwA HCW.out; have E13 := hid (E12.out.trans F); clear F)
              go_ret
              exact ⟨rfl, E13.out.back⟩
            · omega
          · have hkz := HKZ.out.resolve_left hk0
            have hkp : (0 : Int) < (k : Int) := by omega
            have bkz : ((v.getD zeroI).kind == 3) = true := by simpa using hkz
            have bk0 : ((k : Int) == 0) = false := by simpa using hk0
            obtain ⟨rfl, rfl, h8k⟩ | ⟨rfl, h9k⟩ := HR.out
            · have d8 : (k : Int) ≤ 8 := by omega
              clear hkz hk0
              go_wp2_with (go_at_call 9; refine (law15_awake _ _ E12.out.sits).mono ?_; rintro e y6 ⟨rfl, F⟩; have cw : y6.cell? ⟨gW, j, none⟩ = some (.int .i64 (wantL j)) := Sits_at F.sits hbwA HCW.out; have ck : y6.cell? ⟨gz, 1, none⟩ = some (.int .i64 (v.getD zeroI).kind) := Sits_at F.sits hbzA rfl; have E13 := hid (E12.out.trans F); clear F)
              go_ret
              exact ⟨rfl, E13.out.back⟩
            · have d8 : ¬ (k : Int) ≤ 8 := by omega
              have d8b : decide ((k : Int) ≤ 8) = false := decide_eq_false d8
              clear hkz hk0
              go_wp2_with (go_at_call 9; refine (law15_awake _ _ E12.out.sits).mono ?_; rintro e y6 ⟨rfl, F⟩; have cw : y6.cell? ⟨gW, j, none⟩ = some (.int .i64 (wantL j)) := Sits_at F.sits hbwA HCW.out; have ck : y6.cell? ⟨gz, 1, none⟩ = some (.int .i64 (v.getD zeroI).kind) := Sits_at F.sits hbzA rfl; have E13 := hid (E12.out.trans F); clear F)
              go_ret
              exact ⟨rfl, E13.out.back⟩
end Go.Proofs.YtcnbnehammbncaaDoor
