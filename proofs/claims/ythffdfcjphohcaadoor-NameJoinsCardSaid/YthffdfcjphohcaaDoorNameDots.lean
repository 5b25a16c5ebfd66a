/- The walk of the law NameDots: it returns true, and writes nothing that was there. -/
import Derived.Test.YthffdfcjphohcaaDoorNameLaw
import Derived.Test.YthffdfcjphohcaaDoorNameTells
import Derived.Test.YthffdfcjphohcaaDoorPadBase
namespace Go.Proofs.YthffdfcjphohcaaDoor
open Go.RowKit Go.Sort
set_option linter.unusedVariables false
/-! ### texts that are put together -/
theorem splitL_app : ∀ (l r : List UInt8), splitL (l ++ 47 :: r) = splitL l ++ splitL r
  | [], r => by rw [List.nil_append, splitL_cons, if_pos rfl]; rfl
  | c :: cs, r => by
    have ih := splitL_app cs r
    rw [List.cons_append, splitL_cons, splitL_cons, ih]
    split
    · rfl
    · cases h : splitL cs with
      | nil => exact absurd h (splitL_ne cs)
      | cons x xs => rfl
theorem splitB_app (s : ByteArray) (r : List UInt8) : splitB (s ++ ⟨(47 :: r).toArray⟩) = splitB s ++ (splitL r).map fun l => ⟨l.toArray⟩ := by
  unfold splitB
  have : (s ++ (⟨(47 :: r).toArray⟩ : ByteArray)).data.toList = s.data.toList ++ 47 :: r := by simp
  rw [this, splitL_app, List.map_append]
/-- One part more. -/
theorem keep_more {s : ByteArray} {ks : List ByteArray} (h : keepB (splitB s) = some ks) (r : List UInt8) {js : List ByteArray} (hr : keepB ((splitL r).map fun l => (⟨l.toArray⟩ : ByteArray)) = some js) : keepB (splitB (s ++ ⟨(47 :: r).toArray⟩)) = some (ks ++ js) := by
  rw [splitB_app, keepB_app, h, hr]; rfl
theorem keep_none {s : ByteArray} {ks : List ByteArray} (h : keepB (splitB s) = some ks) (r : List UInt8) (hr : keepB ((splitL r).map fun l => (⟨l.toArray⟩ : ByteArray)) = none) : keepB (splitB (s ++ ⟨(47 :: r).toArray⟩)) = none := by
  rw [splitB_app, keepB_app, h, hr]; rfl
theorem ways_of {s : ByteArray} {ks : List ByteArray} (h1 : 1 ≤ s.size) (h2 : s.size ≤ 400) (ht : topB s = true) (h : keepB (splitB s) = some ks) : waysXs s = ks ∧ waysCode s = 0 := by
  have hp : partsP s = some ks := by unfold partsP; rw [if_neg (by omega)]; exact h
  unfold waysXs waysCode waysP
  rw [if_pos ht, hp]
  exact ⟨rfl, rfl⟩
theorem ways_bad {s : ByteArray} (h : keepB (splitB s) = none) : waysCode s = 17 := by
  have hp : partsP s = none := by unfold partsP; split <;> first | rfl | exact h
  unfold waysCode waysP
  rw [hp]
  split <;> rfl
theorem top_app (s t : ByteArray) (h : topB s = true) : topB (s ++ t) = true := by
  unfold topB at h ⊢
  have : (s ++ t).data.toList = s.data.toList ++ t.data.toList := by simp
  rw [this]
  cases hl : s.data.toList with
  | nil => rw [hl] at h; cases h
  | cons c cs => rw [hl] at h; exact h
def xxB (k : Nat) : ByteArray := ⟨(List.replicate k (120 : UInt8)).toArray⟩
theorem xxB_next (k : Nat) : xxB k ++ ⟨#[120]⟩ = xxB (k + 1) := by
  apply ByteArray.ext
  apply Array.toList_inj.1
  simp [xxB, List.replicate_succ']
theorem xxB_ok : ∀ k, k < 35 → 30 ≤ k → (keepB ((splitL (List.replicate k (120 : UInt8))).map fun l => (⟨l.toArray⟩ : ByteArray))).isSome = decide (k ≤ 32) := by decide +kernel
theorem slash_xx (k : Nat) : (⟨#[47]⟩ : ByteArray) ++ xxB k = ⟨(47 :: List.replicate k (120 : UInt8)).toArray⟩ := by
  apply ByteArray.ext
  apply Array.toList_inj.1
  simp [xxB]
/-- What a text so far means, behind "/" and behind "/a". -/
def Dots (s : ByteArray) (ws : List ByteArray) : Prop := keepB (splitB ((⟨#[47]⟩ : ByteArray) ++ s)) = some ws ∧ keepB (splitB ((⟨#[47, 97]⟩ : ByteArray) ++ s)) = some (⟨#[97]⟩ :: ws)
theorem Dots.start : Dots ⟨#[]⟩ [] := ⟨by decide +kernel, by decide +kernel⟩
theorem Dots.more {s : ByteArray} {ws : List ByteArray} (h : Dots s ws) (r : List UInt8) {js : List ByteArray} (hr : keepB ((splitL r).map fun l => (⟨l.toArray⟩ : ByteArray)) = some js) : Dots (s ++ ⟨(47 :: r).toArray⟩) (ws ++ js) := by
  refine ⟨?_, ?_⟩
  · rw [← ByteArray.append_assoc]; exact keep_more h.1 r hr
  · rw [← ByteArray.append_assoc]; exact keep_more h.2 r hr
theorem way_code0 (s : ByteArray) (hsz : s.size ≤ 9223372036854775807) (co : Int) (hc : waysCode s = co) (h : FH) (w : World) (hs : Sits h w) :
    Calls Tryd.prog 9 #[.string s] w fun e w' => ∃ A n c, e = .returned (.tuple #[.slice A n c, .int .i64 co]) ∧ Ext h w h w' := by
  refine (name_Split s hsz h w hs).mono ?_
  rintro e w' ⟨v, rfl, O, E⟩
  obtain ⟨A, c, rfl, _⟩ := O.slice
  exact ⟨_, _, _, by rw [hc], E⟩
set_option maxHeartbeats 8000000 in
set_option maxRecDepth 100000 in
theorem NameDots_walk (ls : List Int) (A : Option Addr) (c : Nat) (long : Int) (W : World) (rl : RowAt (fhOf W) A ls) :
    Calls Tryd.prog 6 #[.slice A ls.length c, .int .i64 long] W fun e w' => e = .returned (.bool true) ∧ Ext (fhOf W) W (fhOf W) w' := by
  have hs := Sits.all W
  have hll := rl.1
  go_enter Tryd.func6, Tryd.ntmps6
  go_wp2_with fail
  go_loopw [5, 6, 7] (fun sv wv iv wr => ∃ (k : Nat) (s : ByteArray) (ws : List ByteArray), k ≤ ls.length ∧ k ≤ 30 ∧ iv = .int .i64 k ∧ sv = .string s ∧ s.size ≤ 3 * k ∧ ws.length ≤ k ∧ Hid (Dots s ws) ∧ OwnL (fhOf W) wr W.heap.size 9 wv ws ∧ Ext (fhOf W) W (fhOf W) wr) (fun _ _ iv _ => 30 - (intOf iv).toNat)
  case atStart => exact ⟨0, ⟨#[]⟩, [], Nat.zero_le _, by omega, rfl, rfl, by decide, Nat.le_refl _, hid Dots.start, OwnL.nil _ _ _ _, Ext.refl hs⟩
  case round =>
    obtain ⟨k, s, ws, hk1, hk2, rfl, rfl, hss, hwl, HD, O, E⟩ := hrel
    go_upto_region 4 with (fail)
    go_cut [21] (fun s wx => s = .bool (decide (k < ls.length) && decide (k < 30)) ∧ wr = wx)
    case first =>
      by_cases hl1 : k < ls.length
      · have hl1' : decide (k < ls.length) = true := by simpa using hl1
        have g1 := hid (show decide ((k : Int) < 30) = (decide (k < ls.length) && decide (k < 30)) by rw [Bool.eq_iff_iff]; simp [hl1]; omega)
        go_wp2
        go_meet
        exact ⟨by rw [g1.out], rfl⟩
      · have g1 := hid (show false = (decide (k < ls.length) && decide (k < 30)) by simp [hl1])
        go_wp2
        go_meet
        exact ⟨by rw [← g1.out], rfl⟩
    case rest =>
    obtain ⟨rfl, rfl⟩ := hcut
    by_cases hin : k < ls.length ∧ k < 30
    · obtain ⟨hlt1, hlt2⟩ := hin
      rw [show (decide (k < ls.length) && decide (k < 30)) = true by simp [hlt1, hlt2]]
      obtain ⟨x, hx⟩ : ∃ x, ls[k]? = some x := ⟨ls[k], by simp [hlt1]⟩
      obtain ⟨b, off, rfl, c0⟩ := rl.int hx E.sits
      clear hx
      obtain ⟨q, hq, hq4⟩ : ∃ q : Nat, (IntKind.u64.wrap x).tmod 4 = q ∧ q < 4 := by
        rw [Int.tmod_eq_emod_of_nonneg (wrap_u64_nonneg x)]
        have := wrap_u64_nonneg x
        exact ⟨(IntKind.u64.wrap x % 4).toNat, by omega, by omega⟩
      rcases (show q = 0 ∨ q = 1 ∨ q = 2 ∨ q = 3 by omega) with rfl | rfl | rfl | rfl
      · have D2 := hid (HD.out.more [] (js := []) (by decide +kernel))
        rw [List.append_nil] at D2
        have hz : (s ++ ⟨(47 :: ([] : List UInt8)).toArray⟩).size ≤ 3 * (k + 1) := by rw [ByteArray.size_append]; show s.size + 1 ≤ _; omega
        have O5 := hid O
        clear O
        go_wp2_with fail
        go_roundw
        case rel => exact ⟨k + 1, _, ws, by omega, by omega, by go_num, rfl, hz, by omega, D2, O5.out, E⟩
        case measure => simp [intOf]; omega
      · have D2 := hid (HD.out.more [46] (js := []) (by decide +kernel))
        rw [List.append_nil] at D2
        have hz : (s ++ ⟨(47 :: ([46] : List UInt8)).toArray⟩).size ≤ 3 * (k + 1) := by rw [ByteArray.size_append]; show s.size + 2 ≤ _; omega
        have O5 := hid O
        clear O
        go_wp2_with fail
        go_roundw
        case rel => exact ⟨k + 1, _, ws, by omega, by omega, by go_num, rfl, hz, by omega, D2, O5.out, E⟩
        case measure => simp [intOf]; omega
      · have D2 := hid (HD.out.more [46, 46] (js := [⟨#[46, 46]⟩]) (by decide +kernel))
        have hz : (s ++ ⟨(47 :: ([46, 46] : List UInt8)).toArray⟩).size ≤ 3 * (k + 1) := by rw [ByteArray.size_append]; show s.size + 3 ≤ _; omega
        go_wp2_with (at_builtin; refine wpList_append1 rfl _ _ 23 rfl W.heap.size 9 16 ty_Str _ _ rfl O E.sits [.string ⟨#[46, 46]⟩] ⟨#[46, 46]⟩ _ rfl ⟨rfl, by decide⟩ (by omega) (by decide) E.size ?_)
        intro v1 w4 O4 hg1 _
        have E4 := E.grown hg1 (fun k hk => ⟨(O.lt k hk).1, O.free k hk⟩)
        have O5 := hid O4
        clear O4 hg1 O
        go_wp2_with fail
        go_roundw
        case rel => exact ⟨k + 1, _, _, by omega, by omega, by go_num, rfl, hz, by simp; omega, D2, O5.out, E4⟩
        case measure => simp [intOf]; omega
      · have D2 := hid (HD.out.more [97, 98] (js := [⟨#[97, 98]⟩]) (by decide +kernel))
        have hz : (s ++ ⟨(47 :: ([97, 98] : List UInt8)).toArray⟩).size ≤ 3 * (k + 1) := by rw [ByteArray.size_append]; show s.size + 3 ≤ _; omega
        go_wp2_with (at_builtin; refine wpList_append1 rfl _ _ 23 rfl W.heap.size 9 16 ty_Str _ _ rfl O E.sits [.string ⟨#[97, 98]⟩] ⟨#[97, 98]⟩ _ rfl ⟨rfl, by decide⟩ (by omega) (by decide) E.size ?_)
        intro v1 w4 O4 hg1 _
        have E4 := E.grown hg1 (fun k hk => ⟨(O.lt k hk).1, O.free k hk⟩)
        have O5 := hid O4
        clear O4 hg1 O
        go_wp2_with fail
        go_roundw
        case rel => exact ⟨k + 1, _, _, by omega, by omega, by go_num, rfl, hz, by simp; omega, D2, O5.out, E4⟩
        case measure => simp [intOf]; omega
    · rw [show (decide (k < ls.length) && decide (k < 30)) = false by simp; omega]
      obtain ⟨h2, A2, c2, hv, r2, l2, E2⟩ := O.stay E (Nat.le_refl _) (by omega)
      subst hv
      have ht1 : topB ((⟨#[47]⟩ : ByteArray) ++ s) = true := top_app _ _ (by decide)
      have hz1 : ((⟨#[47]⟩ : ByteArray) ++ s).size = s.size + 1 := by rw [ByteArray.size_append]; show 1 + s.size = _; omega
      obtain ⟨k1, k2⟩ := ways_of (s := (⟨#[47]⟩ : ByteArray) ++ s) (by omega) (by omega) ht1 HD.out.1
      have P1 := hid (fun (h : FH) w hs => name_Split ((⟨#[47]⟩ : ByteArray) ++ s) (by omega) h w hs)
      have P1 := P1.out
      rw [k1, k2] at P1
      have P1 := hid P1
      obtain ⟨j, hj, hj5⟩ : ∃ q : Nat, (IntKind.u64.wrap long).tmod 5 = q ∧ q < 5 := by
        rw [Int.tmod_eq_emod_of_nonneg (wrap_u64_nonneg long)]
        have := wrap_u64_nonneg long
        exact ⟨(IntKind.u64.wrap long % 5).toNat, by omega, by omega⟩
      have hs90 : s.size ≤ 90 := by omega
      clear ht1 hz1 k1 k2 O
      go_wp2_with fail
      refine (P1.out _ _ E2.sits).mono ?_
      rintro e w3 R
      obtain ⟨A3, c3, h3, rfl, hc3, r3, F3⟩ := R.stay (by omega)
      have E3 := E2.trans F3
      have r2 := r2.mono F3.le
      clear R F3
      go_wp2_with fail
      go_loopw [10, 11] (fun sv iv wr => ∃ m : Nat, m ≤ 30 + j ∧ iv = .int .i64 m ∧ sv = .string (xxB m) ∧ Ext (fhOf W) W h3 wr) (fun _ iv _ => 40 - (intOf iv).toNat)
      case atStart => exact ⟨0, Nat.zero_le _, rfl, rfl, E3⟩
      case round =>
        obtain ⟨m, hm, rfl, rfl, E4⟩ := hrel
        have hzx : (xxB m).size ≤ 40 := by simp [xxB, ByteArray.size]; omega
        by_cases hlt : m < 30 + j
        · go_wp2_with fail
          go_roundw
          case rel => exact ⟨m + 1, by omega, by go_num, by rw [xxB_next], E4⟩
          case measure => simp [intOf]; omega
        · obtain rfl : m = 30 + j := by omega
          have hok := xxB_ok (30 + j) (by omega) (by omega)
          have hsz : ((((⟨#[47, 97]⟩ : ByteArray) ++ s) ++ ⟨#[47]⟩) ++ xxB (30 + j)).size ≤ 200 := by
            rw [ByteArray.size_append, ByteArray.size_append, ByteArray.size_append]
            show 2 + s.size + 1 + (xxB (30 + j)).size ≤ _
            omega
          have hassoc : (((⟨#[47, 97]⟩ : ByteArray) ++ s) ++ ⟨#[47]⟩) ++ xxB (30 + j) = ((⟨#[47, 97]⟩ : ByteArray) ++ s) ++ ⟨(47 :: List.replicate (30 + j) (120 : UInt8)).toArray⟩ := by rw [ByteArray.append_assoc, slash_xx]
          obtain ⟨bo, hbo⟩ : ∃ bo, decide (30 + j ≤ 32) = bo := ⟨_, rfl⟩
          have hway : waysCode ((((⟨#[47, 97]⟩ : ByteArray) ++ s) ++ ⟨#[47]⟩) ++ xxB (30 + j)) = if bo = true then 0 else 17 := by
            rw [← hbo]
            cases hkb : keepB ((splitL (List.replicate (30 + j) (120 : UInt8))).map fun l => (⟨l.toArray⟩ : ByteArray)) with
            | none =>
              rw [hkb] at hok
              rw [← hok, hassoc]
              exact ways_bad (keep_none HD.out.2 _ hkb)
            | some js =>
              rw [hkb] at hok
              rw [← hok]
              rw [hassoc] at hsz ⊢
              have h1s : 1 ≤ (((⟨#[47, 97]⟩ : ByteArray) ++ s) ++ ⟨(47 :: List.replicate (30 + j) (120 : UInt8)).toArray⟩).size := by
                rw [ByteArray.size_append, ByteArray.size_append]; show 1 ≤ 2 + s.size + _; omega
              exact (ways_of h1s (by omega) (top_app _ _ (top_app _ _ (by decide))) (keep_more HD.out.2 _ hkb)).2
          have P2 := fun (h : FH) w hs => way_code0 _ (by omega) _ hway h w hs
          clear hway
          have P2 := hid P2
          have HBO := hid hbo
          have KA := hid (fun (h : FH) w hs => law10_awake h w hs)
          have hff : ∀ w, (binOp .eql 4 (.bool false) (.bool false)).run Tryd.prog w = .ok (.bool true) w := fun w => by kernel_rfl
          clear hok hsz hassoc hbo
          generalize xxB (30 + j) = xb at *
          cases bo
          all_goals
            have hjj := HBO.out
            go_wp2_with fail
            refine (P2.out _ _ E4.sits).mono ?_
            rintro e w5 ⟨A5, n5, c5, rfl, F5⟩
            have E5 := E4.trans F5
            go_wp2_with fail
            refine (KA.out _ _ E5.sits).mono ?_
            rintro e w6 ⟨rfl, F6⟩
            have E6 := E5.trans F6
            go_wp2_with fail
            refine (plain_Str ws ws _ _ _ _ true (by simp) _ _ E6.sits r3 r2).mono ?_
            rintro e w7 ⟨rfl, F7⟩
            have E7 := E6.trans F7
            first | (have hd : decide ((30 : Int) + (j : Int) ≤ 32) = true := decide_eq_true (by have := of_decide_eq_true HBO.out; omega)) | (have hd : decide ((30 : Int) + (j : Int) ≤ 32) = false := decide_eq_false (by have := of_decide_eq_false HBO.out; omega))
            go_wp2_with fail
            go_ret
            exact ⟨rfl, E7.back⟩
end Go.Proofs.YthffdfcjphohcaaDoor
