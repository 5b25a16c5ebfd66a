/- The walk of the law NameJoins: it returns true, and writes nothing that was there. -/
import Derived.Test.YthffdfcjphohcaaDoorNameDots
namespace Go.Proofs.YthffdfcjphohcaaDoor
open Go.RowKit Go.Sort
set_option linter.unusedVariables false
/-! ### ways that are joined from names: the plain law -/
def slB (k : Nat) : ByteArray := ⟨(List.replicate k (47 : UInt8)).toArray⟩
theorem slB_next (k : Nat) : slB k ++ ⟨#[47]⟩ = slB (k + 1) := by
  apply ByteArray.ext
  apply Array.toList_inj.1
  simp [slB, List.replicate_succ']
theorem slB_size (k : Nat) : (slB k).size = k := by simp [slB, ByteArray.size]
def goodB (x : ByteArray) : Bool := nameB x || x.toList == [46, 46]
theorem good_facts {x : ByteArray} (h : goodB x = true) : (∀ c ∈ x.data.toList, c ≠ 47) ∧ 1 ≤ x.size ∧ x.size ≤ 32 ∧ skipB x = false ∧ badB x = false := by
  unfold goodB at h
  rw [Bool.or_eq_true] at h
  rcases h with h | h
  · unfold nameB at h
    simp only [Bool.and_eq_true, decide_eq_true_eq, Bool.not_eq_true'] at h
    obtain ⟨⟨⟨⟨h1, h2⟩, h3⟩, h4⟩, h5⟩ := h
    refine ⟨fun c hc e => ?_, by omega, by omega, ?_, ?_⟩
    · have := List.all_eq_true.1 h1 c hc
      subst e
      revert this; decide
    · unfold skipB
      rw [h4, empty_iff, Bool.or_false]
      exact decide_eq_false (by omega)
    · unfold badB
      rw [h5]
      have : nameB x = true := by
        unfold nameB
        simp only [Bool.and_eq_true, decide_eq_true_eq, Bool.not_eq_true']
        exact ⟨⟨⟨⟨h1, h2⟩, h3⟩, h4⟩, h5⟩
      rw [this]; rfl
  · rw [beq_iff_eq] at h
    have hd : x = ⟨#[46, 46]⟩ := by
      rw [ByteArray.toList_eq] at h
      apply ByteArray.ext
      apply Array.toList_inj.1
      exact h
    subst hd
    exact ⟨by decide, by decide, by decide, by decide +kernel, by decide +kernel⟩
theorem split_slashes : ∀ (k : Nat) (r : List UInt8), keepB ((splitL (List.replicate k 47 ++ r)).map fun l => (⟨l.toArray⟩ : ByteArray)) = keepB ((splitL r).map fun l => ⟨l.toArray⟩)
  | 0, r => rfl
  | k + 1, r => by
    rw [List.replicate_succ, List.cons_append, splitL_cons, if_pos rfl, List.map_cons, keepB_cons, if_pos (by decide +kernel)]
    exact split_slashes k r
theorem keep_one {x : ByteArray} (h : goodB x = true) : keepB ((splitL x.data.toList).map fun l => (⟨l.toArray⟩ : ByteArray)) = some [x] := by
  obtain ⟨h1, _, _, h4, h5⟩ := good_facts h
  rw [splitL_none _ h1]
  show keepB [x] = _
  rw [keepB_cons, if_neg (by rw [h4]; decide), if_neg (by rw [h5]; decide)]; rfl
/-- What a joined text means so far. -/
def Joins (j : Nat) (s : ByteArray) (ws : List ByteArray) : Prop := (s = ⟨#[]⟩ ∧ ws = []) ∨ ∃ r : List UInt8, s = ⟨(List.replicate (j + 1) 47 ++ r).toArray⟩ ∧ (∃ c cs, r = c :: cs ∧ c ≠ 47) ∧ keepB ((splitL r).map fun l => ⟨l.toArray⟩) = some ws
theorem Joins.more {j : Nat} {s : ByteArray} {ws : List ByteArray} (h : Joins j s ws) {x : ByteArray} (hx : goodB x = true) : Joins j ((s ++ slB (j + 1)) ++ x) (ws ++ [x]) := by
  obtain ⟨h1, h2, _, _, _⟩ := good_facts hx
  rcases h with ⟨rfl, rfl⟩ | ⟨r, rfl, ⟨c, cs, rfl, hc⟩, hk⟩
  · refine .inr ⟨x.data.toList, ?_, ?_, ?_⟩
    · apply ByteArray.ext
      apply Array.toList_inj.1
      simp [slB]
    · cases hl : x.data.toList with
      | nil =>
        have : x.data.toList.length = x.size := Array.length_toList ..
        rw [hl] at this
        simp at this; omega
      | cons c cs => exact ⟨c, cs, rfl, h1 c (by rw [hl]; simp)⟩
    · rw [List.nil_append]; exact keep_one hx
  · refine .inr ⟨(c :: cs) ++ 47 :: (List.replicate j 47 ++ x.data.toList), ?_, ⟨c, _, rfl, hc⟩, ?_⟩
    · apply ByteArray.ext
      apply Array.toList_inj.1
      simp [slB, List.replicate_succ]
    · rw [splitL_app, List.map_append, keepB_app, hk, split_slashes, keep_one hx]; rfl
theorem Joins.split {j : Nat} {s : ByteArray} {ws : List ByteArray} (h : Joins j s ws) (h1 : 1 ≤ s.size) : topB s = true ∧ keepB (splitB s) = some ws ∧ topB (s.extract (j + 1) s.size) = false ∧ 1 ≤ (s.extract (j + 1) s.size).size ∧ keepB (splitB (s.extract (j + 1) s.size)) = some ws := by
  rcases h with ⟨rfl, rfl⟩ | ⟨r, rfl, ⟨c, cs, rfl, hc⟩, hk⟩
  · exact absurd h1 (by decide)
  · have hd : (ByteArray.extract ⟨(List.replicate (j + 1) 47 ++ c :: cs).toArray⟩ (j + 1) (⟨(List.replicate (j + 1) (47 : UInt8) ++ c :: cs).toArray⟩ : ByteArray).size) = ⟨(c :: cs).toArray⟩ := by
      apply ByteArray.ext
      apply Array.toList_inj.1
      simp [ByteArray.size]
    rw [hd]
    refine ⟨?_, ?_, ?_, by simp [ByteArray.size], hk⟩
    · unfold topB; simp [List.replicate_succ]
    · show keepB ((splitL (List.replicate (j + 1) 47 ++ c :: cs)).map fun l => (⟨l.toArray⟩ : ByteArray)) = _
      rw [split_slashes]; exact hk
    · unfold topB
      simpa using hc
theorem Joins.tail {s : ByteArray} {ws : List ByteArray} (h : keepB (splitB s) = some ws) : keepB (splitB (s ++ ⟨#[47, 46, 47]⟩)) = some ws := by
  have := keep_more h [46, 47] (js := []) (by decide +kernel)
  rwa [List.append_nil] at this
theorem parts_of {s : ByteArray} {ws : List ByteArray} (h1 : 1 ≤ s.size) (h2 : s.size ≤ 400) (h : keepB (splitB s) = some ws) : partsXs s = ws ∧ partsTop s = topB s ∧ partsCode s = 0 := parts_some (show partsP s = some ws by unfold partsP; rw [if_neg (by omega)]; exact h)
set_option maxHeartbeats 8000000 in
set_option maxRecDepth 100000 in
theorem NameJoins_walk (ls : List ByteArray) (A : Option Addr) (c : Nat) (n : Int) (W : World) (rl : RowAt (fhOf W) A ls) :
    Calls Tryd.prog 4 #[.slice A ls.length c, .int .i64 n] W fun e w' => e = .returned (.bool true) ∧ Ext (fhOf W) W (fhOf W) w' := by
  have hs := Sits.all W
  have hll := rl.1
  obtain ⟨j, hj, hj4⟩ : ∃ q : Nat, (IntKind.u64.wrap n).tmod 4 = q ∧ q < 4 := by
    rw [Int.tmod_eq_emod_of_nonneg (wrap_u64_nonneg n)]
    have := wrap_u64_nonneg n
    exact ⟨(IntKind.u64.wrap n % 4).toNat, by omega, by omega⟩
  have E0 := Ext.refl hs
  go_enter Tryd.func4, Tryd.ntmps4
  go_wp2_with fail
  go_loopw [7, 8] (fun sv iv wr => ∃ k : Nat, k ≤ j + 1 ∧ iv = .int .i64 k ∧ sv = .string (slB k) ∧ Ext (fhOf W) W (fhOf W) wr) (fun _ iv _ => j + 1 - (intOf iv).toNat)
  case atStart => exact ⟨0, Nat.zero_le _, rfl, rfl, E0⟩
  case round =>
  obtain ⟨k, hk, rfl, rfl, E⟩ := hrel
  by_cases hlt : k ≤ j
  · have hz : (slB k).size ≤ 10 := by rw [slB_size]; omega
    go_wp2_with fail
    go_roundw
    case rel => exact ⟨k + 1, by omega, by go_num, by rw [slB_next], E⟩
    case measure => simp [intOf]; omega
  obtain rfl : k = j + 1 := by omega
  have hsl := slB_size (j + 1)
  have HM := hid (fun (s : ByteArray) ws (h : Joins j s ws) (x : ByteArray) (hx : goodB x = true) => h.more hx)
  generalize slB (j + 1) = sl at *
  have KA := hid (fun (h : FH) w hs => law10_awake h w hs)
  have HLT := hid hlt
  clear hlt E0
  go_wp2_with fail
  clear HLT hk
  go_loopw [5, 6, 9] (fun wv sv iv wr => ∃ (k : Nat) (s : ByteArray) (ws : List ByteArray), k ≤ ls.length ∧ k ≤ 12 ∧ iv = .int .i64 k ∧ sv = .string s ∧ s.size ≤ 36 * k ∧ ws.length ≤ k ∧ Hid (Joins j s ws) ∧ OwnL (fhOf W) wr W.heap.size 9 wv ws ∧ Ext (fhOf W) W (fhOf W) wr) (fun _ _ iv _ => 12 - (intOf iv).toNat)
  case atStart => exact ⟨0, ⟨#[]⟩, [], Nat.zero_le _, by omega, rfl, rfl, by decide, Nat.le_refl _, hid (.inl ⟨rfl, rfl⟩), OwnL.nil _ _ _ _, E⟩
  case round =>
    obtain ⟨k, s, ws, hk1, hk2, rfl, rfl, hss, hwl, HJ, O, E⟩ := hrel
    go_upto_region 8 with (fail)
    go_cut [34] (fun s wx => s = .bool (decide (k < ls.length) && decide (k < 12)) ∧ wr = wx)
    case first =>
      by_cases hl1 : k < ls.length
      · have hl1' : decide (k < ls.length) = true := by simpa using hl1
        have g1 := hid (show decide ((k : Int) < 12) = (decide (k < ls.length) && decide (k < 12)) by rw [Bool.eq_iff_iff]; simp [hl1]; omega)
        go_wp2
        go_meet
        exact ⟨by rw [g1.out], rfl⟩
      · have g1 := hid (show false = (decide (k < ls.length) && decide (k < 12)) by simp [hl1])
        go_wp2
        go_meet
        exact ⟨by rw [← g1.out], rfl⟩
    case rest =>
    obtain ⟨rfl, rfl⟩ := hcut
    by_cases hin : k < ls.length ∧ k < 12
    · obtain ⟨hlt1, hlt2⟩ := hin
      rw [show (decide (k < ls.length) && decide (k < 12)) = true by simp [hlt1, hlt2]]
      obtain ⟨x, hx⟩ : ∃ x, ls[k]? = some x := ⟨ls[k], by simp [hlt1]⟩
      obtain ⟨b, off, rfl, c0, hxs⟩ := rl.str hx E.sits
      have HR := hid (fun w (hs : Sits (fhOf W) w) => rl.str hx hs)
      clear hx
      obtain ⟨q, hq⟩ : ∃ q, nameB x = q := ⟨_, rfl⟩
      obtain ⟨b2, hb2⟩ : ∃ b, (x.toList == [46, 46]) = b := ⟨_, rfl⟩
      have KN := hid (fun w hs => name_Right x hxs q hq (fhOf W) w hs)
      have HG := hid (show goodB x = (q || b2) by unfold goodB; rw [hq, hb2])
      clear hq
      cases q
      · cases b2
        · go_wp2_with fail
          refine (KN.out _ E.sits).mono ?_
          rintro e w3 ⟨rfl, F3⟩
          have E3 := E.trans F3
          have O5 := hid (O.ext F3)
          have c3 := F3.keep c0
          clear F3 E O c0
          go_wp2_with fail
          go_roundw
          case rel =>
            (repeat apply Exists.intro)
            exact ⟨⟨k + 1, s, ws, by omega, by omega, by go_num, rfl, by omega, by omega, HJ, O5.out, E3⟩, rfl⟩
          case measure => simp [intOf]; omega
        · obtain ⟨_, _, hx32, _, _⟩ := good_facts HG.out
          have D2 := hid (HM.out _ _ HJ.out _ HG.out)
          have hz : ((s ++ sl) ++ x).size ≤ 36 * (k + 1) := by rw [ByteArray.size_append, ByteArray.size_append]; omega
          have hz0 : (s ++ sl).size ≤ 500 := by rw [ByteArray.size_append]; omega
          go_wp2_with fail
          refine (KN.out _ E.sits).mono ?_
          rintro e w3 ⟨rfl, F3⟩
          have E3 := E.trans F3
          have O3 := O.ext F3
          have c3 := F3.keep c0
          clear F3 E O c0
          go_wp2_with (at_builtin; refine wpList_append1 rfl _ _ 23 rfl W.heap.size 9 16 ty_Str _ _ rfl O3 E3.sits [.string x] x _ rfl ⟨rfl, hxs⟩ (by omega) (by decide) E3.size ?_)
          intro v1 w4 O4 hg1 _
          have E4 := E3.grown hg1 (fun k hk => ⟨(O3.lt k hk).1, O3.free k hk⟩)
          obtain ⟨b4, off4, hA4, c4, _⟩ := HR.out _ E4.sits
          simp only [Option.some.injEq, Addr.mk.injEq] at hA4
          obtain ⟨rfl, rfl, _⟩ := hA4
          have O5 := hid O4
          clear O4 hg1 O3
          go_wp2_with fail
          go_roundw
          case rel =>
            (repeat apply Exists.intro)
            exact ⟨⟨k + 1, _, _, by omega, by omega, by go_num, rfl, hz, by simp; omega, D2, O5.out, E4⟩, rfl⟩
          case measure => simp [intOf]; omega
      · obtain ⟨_, _, hx32, _, _⟩ := good_facts HG.out
        have D2 := hid (HM.out _ _ HJ.out _ HG.out)
        have hz : ((s ++ sl) ++ x).size ≤ 36 * (k + 1) := by rw [ByteArray.size_append, ByteArray.size_append]; omega
        have hz0 : (s ++ sl).size ≤ 500 := by rw [ByteArray.size_append]; omega
        go_wp2_with fail
        refine (KN.out _ E.sits).mono ?_
        rintro e w3 ⟨rfl, F3⟩
        have E3 := E.trans F3
        have O3 := O.ext F3
        have c3 := F3.keep c0
        clear F3 E O c0
        go_wp2_with (at_builtin; refine wpList_append1 rfl _ _ 23 rfl W.heap.size 9 16 ty_Str _ _ rfl O3 E3.sits [.string x] x _ rfl ⟨rfl, hxs⟩ (by omega) (by decide) E3.size ?_)
        intro v1 w4 O4 hg1 _
        have E4 := E3.grown hg1 (fun k hk => ⟨(O3.lt k hk).1, O3.free k hk⟩)
        obtain ⟨b4, off4, hA4, c4, _⟩ := HR.out _ E4.sits
        simp only [Option.some.injEq, Addr.mk.injEq] at hA4
        obtain ⟨rfl, rfl, _⟩ := hA4
        have O5 := hid O4
        clear O4 hg1 O3
        go_wp2_with fail
        go_roundw
        case rel =>
            (repeat apply Exists.intro)
            exact ⟨⟨k + 1, _, _, by omega, by omega, by go_num, rfl, hz, by simp; omega, D2, O5.out, E4⟩, rfl⟩
        case measure => simp [intOf]; omega
    · rw [show (decide (k < ls.length) && decide (k < 12)) = false by simp; omega]
      clear HM
      have he := empty_iff s
      by_cases h0 : s.size < 1
      · rw [decide_eq_true h0] at he
        clear O HJ
        go_wp2_with fail
        refine (KA.out _ _ E.sits).mono ?_
        rintro e w8 ⟨rfl, F8⟩
        have E8 := E.trans F8
        go_wp2_with fail
        go_ret
        exact ⟨rfl, E8⟩
      rw [decide_eq_false h0] at he
      by_cases h4 : 400 < s.size
      · clear O HJ
        go_wp2_with fail
        refine (KA.out _ _ E.sits).mono ?_
        rintro e w8 ⟨rfl, F8⟩
        have E8 := E.trans F8
        go_wp2_with fail
        go_ret
        exact ⟨rfl, E8⟩
      obtain ⟨h2, A2, c2, hv, r2, l2, E2⟩ := O.stay E (Nat.le_refl _) (by omega)
      subst hv
      obtain ⟨j1, j2, j3, j4, j5⟩ := HJ.out.split (by omega)
      have hex : (s.extract (j + 1) s.size).size ≤ 400 := by rw [ByteArray.size_extract]; omega
      have hls : j + 1 ≤ s.size := by
        rw [ByteArray.size_extract] at j4; omega
      obtain ⟨k1, k2⟩ := ways_of (by omega) (by omega) j1 j2
      obtain ⟨m1, m2, m3⟩ := parts_of j4 hex j5
      rw [j3] at m2
      have P1 := fun (h : FH) w hs => name_Split s (by omega) h w hs
      rw [k1, k2] at P1
      have P1 := hid P1
      have P2 := fun (h : FH) w hs => name_Parts (s.extract (j + 1) s.size) (by omega) h w hs
      rw [m1, m2, m3] at P2
      have P2 := hid P2
      have hzz : (s ++ ⟨#[47, 46, 47]⟩).size = s.size + 3 := by rw [ByteArray.size_append]; rfl
      have P3 := fun (h : FH) w hs => name_Split (s ++ ⟨#[47, 46, 47]⟩) (by omega) h w hs
      have L3 := (ways_len (s ++ ⟨#[47, 46, 47]⟩)).1
      have HT := hid (Joins.tail j2)
      have i0 : (0 : Int) ≤ (j : Int) + 1 := by omega
      have i1 : (j : Int) + 1 ≤ (s.size : Int) := by omega
      have hff : ∀ w, (binOp .eql 4 (.bool false) (.bool false)).run Tryd.prog w = .ok (.bool true) w := fun w => by kernel_rfl
      by_cases h7 : s.size + 3 ≤ 400
      · obtain ⟨n1, n2⟩ := ways_of (s := s ++ ⟨#[47, 46, 47]⟩) (by omega) (by omega) (top_app _ _ j1) HT.out
        rw [n1, n2] at P3
        have P3 := hid P3
        clear O j1 j2 j3 j4 j5 k1 k2 m1 m2 m3 n1 n2 HT L3 hzz hex
        go_wp2_with fail
        refine (P1.out _ _ E2.sits).mono ?_
        rintro e w3 R
        obtain ⟨A3, c3, h3, rfl, hc3, r3, F3⟩ := R.stay (by omega)
        have E3 := E2.trans F3
        have r2 := r2.mono F3.le
        clear R F3
        go_wp2_with fail
        refine (P2.out _ _ E3.sits).mono ?_
        rintro e w4 R
        obtain ⟨A4, c4, h4, rfl, hc4, r4, F4⟩ := R.stay (by omega)
        have E4 := E3.trans F4
        have r2 := r2.mono F4.le
        have r3 := r3.mono F4.le
        clear R F4
        go_wp2_with fail
        refine (P3.out _ _ E4.sits).mono ?_
        rintro e w5 R
        obtain ⟨A5, c5, h5, rfl, hc5, r5, F5⟩ := R.stay (by omega)
        have E5 := E4.trans F5
        have r2 := r2.mono F5.le
        have r3 := r3.mono F5.le
        have r4 := r4.mono F5.le
        clear R F5
        go_wp2_with fail
        refine (KA.out _ _ E5.sits).mono ?_
        rintro e w6 ⟨rfl, F6⟩
        have E6 := E5.trans F6
        go_wp2_with fail
        refine (plain_Str ws ws _ _ _ _ true (by simp) _ _ E6.sits r3 r2).mono ?_
        rintro e w7 ⟨rfl, F7⟩
        have E7 := E6.trans F7
        go_wp2_with fail
        refine (plain_Str ws ws _ _ _ _ true (by simp) _ _ E7.sits r4 r2).mono ?_
        rintro e w8 ⟨rfl, F8⟩
        have E8 := E7.trans F8
        go_wp2_with fail
        refine (plain_Str ws ws _ _ _ _ true (by simp) _ _ E8.sits r5 r2).mono ?_
        rintro e w9 ⟨rfl, F9⟩
        have E9 := E8.trans F9
        go_wp2_with fail
        go_ret
        exact ⟨rfl, E9.back⟩
      · generalize waysXs (s ++ ⟨#[47, 46, 47]⟩) = zs at *
        generalize waysCode (s ++ ⟨#[47, 46, 47]⟩) = zc at *
        have P3 := hid P3
        clear O j1 j2 j3 j4 j5 k1 k2 m1 m2 m3 HT hzz hex
        go_wp2_with fail
        refine (P1.out _ _ E2.sits).mono ?_
        rintro e w3 R
        obtain ⟨A3, c3, h3, rfl, hc3, r3, F3⟩ := R.stay (by omega)
        have E3 := E2.trans F3
        have r2 := r2.mono F3.le
        clear R F3
        go_wp2_with fail
        refine (P2.out _ _ E3.sits).mono ?_
        rintro e w4 R
        obtain ⟨A4, c4, h4, rfl, hc4, r4, F4⟩ := R.stay (by omega)
        have E4 := E3.trans F4
        have r2 := r2.mono F4.le
        have r3 := r3.mono F4.le
        clear R F4
        go_wp2_with fail
        refine (P3.out _ _ E4.sits).mono ?_
        rintro e w5 R
        obtain ⟨A5, c5, h5, rfl, hc5, r5, F5⟩ := R.stay (by omega)
        have E5 := E4.trans F5
        have r2 := r2.mono F5.le
        have r3 := r3.mono F5.le
        have r4 := r4.mono F5.le
        clear R F5
        go_wp2_with fail
        refine (KA.out _ _ E5.sits).mono ?_
        rintro e w6 ⟨rfl, F6⟩
        have E6 := E5.trans F6
        go_wp2_with fail
        refine (plain_Str ws ws _ _ _ _ true (by simp) _ _ E6.sits r3 r2).mono ?_
        rintro e w7 ⟨rfl, F7⟩
        have E7 := E6.trans F7
        go_wp2_with fail
        refine (plain_Str ws ws _ _ _ _ true (by simp) _ _ E7.sits r4 r2).mono ?_
        rintro e w8 ⟨rfl, F8⟩
        have E8 := E7.trans F8
        go_wp2_with fail
        go_ret
        exact ⟨rfl, E8.back⟩
end Go.Proofs.YthffdfcjphohcaaDoor
