/- The walk of the law EntriesPlay: it returns true, and writes nothing that was there. -/
import Derived.Test.YtidfcdomeacppaaEntLaw
import Derived.Test.YtidfcdomeacppaaEntPlain
namespace Go.Proofs.Ytidfcdomeacppaa
open Go.RowKit Go.Sort
set_option linter.unusedVariables false
theorem remE_len' (xs : List Entry) (s : ByteArray) : (remE xs s).length ≤ xs.length := by
  unfold remE; split
  · simp; omega
  · simp
set_option maxHeartbeats 16000000 in
set_option maxRecDepth 100000 in
theorem EntriesPlay_walk (xs : List Entry) (A : Option Addr) (c : Nat) (gs : List ByteArray) (B : Option Addr) (d : Nat) (W : World) (r : RowAt (fhOf W) A xs) (rg : RowAt (fhOf W) B gs) :
    Calls Try.prog 9 #[.slice A xs.length c, .slice B gs.length d] W fun e w' => e = .returned (.bool true) ∧ Ext (fhOf W) W (fhOf W) w' := by
  have hs := Sits.all W
  have hl := r.1
  have hlg := rg.1
  by_cases hbig : 150 < xs.length
  · go_enter Try.func9, Try.ntmps9
    go_wp2_with (go_at_call 24; refine (law11_awake _ _ hs).mono ?_; rintro e w1 ⟨rfl, E1⟩)
    go_ret
    exact ⟨rfl, E1⟩
  by_cases hbig2 : 50 < gs.length
  · go_enter Try.func9, Try.ntmps9
    go_wp2_with (go_at_call 24; refine (law11_awake _ _ hs).mono ?_; rintro e w1 ⟨rfl, E1⟩)
    go_ret
    exact ⟨rfl, E1⟩
  have hle : xs.length ≤ 150 := by omega
  have hle2 : gs.length ≤ 50 := by omega
  clear hbig hbig2
  go_enter Try.func9, Try.ntmps9
  go_wp2_with fail
  go_loopw [5, 6, 7] (fun xv th i wr => ∃ (k : Nat) (ys : List Entry) (Ay : Option Addr) (cy : Nat) (h1 : FH), k ≤ xs.length ∧ i = .int .i64 k ∧ xv = .slice Ay ys.length cy ∧ th = .int .i64 ys.length ∧ ys.length ≤ k ∧ Hid (rightE ys = true) ∧ RowAt h1 Ay ys ∧ Ext (fhOf W) W h1 wr) (fun _ _ i _ => xs.length - (intOf i).toNat)
  case atStart => exact ⟨0, [], none, 0, fhOf W, Nat.zero_le _, rfl, rfl, rfl, Nat.le_refl _, hid (by decide +kernel), RowAt.nil _ _, Ext.refl hs⟩
  case round =>
    obtain ⟨k, ys, Ay, cy, h1, hk, rfl, rfl, rfl, hyk, HR, ry, E⟩ := hrel
    by_cases hlt : k < xs.length
    · obtain ⟨x, hx⟩ : ∃ x, xs[k]? = some x := ⟨xs[k], by simp [hlt]⟩
      obtain ⟨b, off, rfl, c0, c1, hxs⟩ := r.entry hx E.back.sits
      obtain ⟨q, hq⟩ : ∃ q, nameB x.name = q := ⟨_, rfl⟩
      obtain ⟨v, hv⟩ : ∃ v, findE ys x.name = v := ⟨_, rfl⟩
      have HX := hid hx
      clear hx
      have P1 := hid (fun (h : FH) A c w hs r => entries_Find ys A c x.name hxs v hv h w hs r)
      have P2 := hid (fun (h : FH) w hs => ref_RightName x.name hxs q hq h w hs)
      have P3 := hid (fun (h : FH) A c w hs r => entries_Add ys A c (by omega) x hxs h w hs r)
      have HQ := hid hq
      have HV := hid hv
      have HC := hid (show addC ys x = if q = false then 17 else if x.no ≤ 0 then 1 else if v.isSome = true then 12 else if 100 ≤ ys.length then 21 else 0 by unfold addC; rw [hq, hv])
      clear hq hv
      by_cases hok : q = true ∧ 0 < x.no ∧ v = none ∧ ys.length < 100
      · obtain ⟨rfl, hno, rfl, h100⟩ := hok
        have hC0 : addC ys x = 0 := by rw [HC.out, if_neg (by decide), if_neg (by omega), if_neg (by decide), if_neg (by omega)]
        have hL0 : addL ys x = insE ys x := by unfold addL; rw [if_pos hC0]
        have hlen := insE_len ys x
        obtain ⟨zs, hzs⟩ : ∃ zs, insE ys x = zs := ⟨_, rfl⟩
        have HR2 := hid (show rightE zs = true by rw [← hzs]; exact insE_right HR.out HV.out HQ.out hno h100)
        have hF := findE_insE HV.out
        rw [hzs] at hL0 hlen hF
        have P3 := P3.out
        rw [hL0, hC0] at P3
        have P3 := hid P3
        have P4 := hid (fun (h : FH) A c w hs r => entries_Find zs A c x.name hxs _ hF h w hs r)
        have hlen2 : zs.length ≤ k + 1 := by omega
        have hzl2 := hid (show (zs.length : Int) = (ys.length : Int) + 1 by omega)
        have d1 : decide ((0 : Int) < x.no) = true := by simp; omega
        have d2 : decide ((ys.length : Int) < 100) = true := by simp; omega
        clear hC0 hL0 hF hzs HC HV HQ hlen
        simp only [Option.getD_none, Option.isSome_none, Option.getD_some, Option.isSome_some] at P1 P4
        go_wp2_with fail
        refine (P1.out _ _ _ _ E.sits ry).mono ?_
        rintro e w1 ⟨rfl, F1⟩
        have E1 := E.trans F1
        have c0 := F1.keep c0
        have c1 := F1.keep c1
        clear F1
        go_wp2_with fail
        refine (P3.out _ _ _ _ E1.sits ry).mono ?_
        rintro e w2 R
        obtain ⟨Az, cz, h2, rfl, hcz, rz, F2⟩ := R.stay (by omega)
        have E2 := E1.trans F2
        have c0 := F2.keep c0
        have c1 := F2.keep c1
        clear F2 R E1
        go_wp2_with fail
        refine (P2.out _ _ E2.sits).mono ?_
        rintro e w3 ⟨rfl, F3⟩
        have E3 := E2.trans F3
        have c0 := F3.keep c0
        have c1 := F3.keep c1
        clear F3 E2
        go_wp2_with fail
        refine (P4.out _ _ _ _ E3.sits rz).mono ?_
        rintro e w4 ⟨rfl, F4⟩
        have E4 := E3.trans F4
        have c0 := F4.keep c0
        have c1 := F4.keep c1
        clear F4 E3
        go_wp2_with fail
        go_roundw
        case rel => exact ⟨k + 1, zs, Az, cz, h2, by omega, by go_num, rfl, by rw [hzl2.out], hlen2, HR2, rz, E4⟩
        case measure => simp [intOf]; omega
      · have HL := hid (show addC ys x ≠ 0 → addL ys x = [] from fun h => by unfold addL; rw [if_neg h])
        cases q
        · have hC : addC ys x = 17 := by rw [HC.out, if_pos rfl]
          have P3 := P3.out
          rw [HL.out (by rw [hC]; decide), hC] at P3
          have P3 := hid P3
          clear hC HC HV HQ HL hok
          go_wp2_with fail
          refine (P1.out _ _ _ _ E.sits ry).mono ?_
          rintro e w1 ⟨rfl, F1⟩
          have E1 := E.trans F1
          have c0 := F1.keep c0
          have c1 := F1.keep c1
          clear F1
          go_wp2_with fail
          refine (P3.out _ _ _ _ E1.sits ry).mono ?_
          rintro e w2 R
          obtain ⟨Az, cz, h2, rfl, hcz, rz, F2⟩ := R.stay (by decide)
          have E2 := E1.trans F2
          have c0 := F2.keep c0
          have c1 := F2.keep c1
          have ry2 := ry.mono F2.le
          clear F2 R E1
          go_wp2_with fail
          refine (P2.out _ _ E2.sits).mono ?_
          rintro e w3 ⟨rfl, F3⟩
          have E3 := E2.trans F3
          have c0 := F3.keep c0
          have c1 := F3.keep c1
          clear F3 E2
          go_wp2_with fail
          go_roundw
          case rel => exact ⟨k + 1, ys, Ay, cy, h2, by omega, by go_num, rfl, rfl, by omega, HR, ry2, E3⟩
          case measure => simp [intOf]; omega
        · by_cases hno : x.no ≤ 0
          · have hC : addC ys x = 1 := by rw [HC.out, if_neg (by decide), if_pos hno]
            have d1 : decide ((0 : Int) < x.no) = false := by simp; omega
            have P3 := P3.out
            rw [HL.out (by rw [hC]; decide), hC] at P3
            have P3 := hid P3
            clear hC HC HV HQ HL hok
            go_wp2_with fail
            refine (P1.out _ _ _ _ E.sits ry).mono ?_
            rintro e w1 ⟨rfl, F1⟩
            have E1 := E.trans F1
            have c0 := F1.keep c0
            have c1 := F1.keep c1
            clear F1
            go_wp2_with fail
            refine (P3.out _ _ _ _ E1.sits ry).mono ?_
            rintro e w2 R
            obtain ⟨Az, cz, h2, rfl, hcz, rz, F2⟩ := R.stay (by decide)
            have E2 := E1.trans F2
            have c0 := F2.keep c0
            have c1 := F2.keep c1
            have ry2 := ry.mono F2.le
            clear F2 R E1
            go_wp2_with fail
            refine (P2.out _ _ E2.sits).mono ?_
            rintro e w3 ⟨rfl, F3⟩
            have E3 := E2.trans F3
            have c0 := F3.keep c0
            have c1 := F3.keep c1
            clear F3 E2
            go_wp2_with fail
            go_roundw
            case rel => exact ⟨k + 1, ys, Ay, cy, h2, by omega, by go_num, rfl, rfl, by omega, HR, ry2, E3⟩
            case measure => simp [intOf]; omega
          · have d1 : decide ((0 : Int) < x.no) = true := by simp; omega
            cases v with
            | some y =>
              simp only [Option.getD_some, Option.isSome_some] at P1
              have hC : addC ys x = 12 := by rw [HC.out, if_neg (by decide), if_neg hno]; rfl
              have P3 := P3.out
              rw [HL.out (by rw [hC]; decide), hC] at P3
              have P3 := hid P3
              clear hC HC HV HQ HL hok
              go_wp2_with fail
              refine (P1.out _ _ _ _ E.sits ry).mono ?_
              rintro e w1 ⟨rfl, F1⟩
              have E1 := E.trans F1
              have c0 := F1.keep c0
              have c1 := F1.keep c1
              clear F1
              go_wp2_with fail
              refine (P3.out _ _ _ _ E1.sits ry).mono ?_
              rintro e w2 R
              obtain ⟨Az, cz, h2, rfl, hcz, rz, F2⟩ := R.stay (by decide)
              have E2 := E1.trans F2
              have c0 := F2.keep c0
              have c1 := F2.keep c1
              have ry2 := ry.mono F2.le
              clear F2 R E1
              go_wp2_with fail
              refine (P2.out _ _ E2.sits).mono ?_
              rintro e w3 ⟨rfl, F3⟩
              have E3 := E2.trans F3
              have c0 := F3.keep c0
              have c1 := F3.keep c1
              clear F3 E2
              go_wp2_with fail
              go_roundw
              case rel => exact ⟨k + 1, ys, Ay, cy, h2, by omega, by go_num, rfl, rfl, by omega, HR, ry2, E3⟩
              case measure => simp [intOf]; omega
            | none =>
              simp only [Option.getD_none, Option.isSome_none] at P1
              have h100 : 100 ≤ ys.length := by
                by_cases h : 100 ≤ ys.length
                · exact h
                · exact absurd ⟨rfl, by omega, rfl, by omega⟩ hok
              have d2 : decide ((ys.length : Int) < 100) = false := by simp; omega
              have hC : addC ys x = 21 := by rw [HC.out, if_neg (by decide), if_neg hno, if_neg (by decide), if_pos h100]
              have P3 := P3.out
              rw [HL.out (by rw [hC]; decide), hC] at P3
              have P3 := hid P3
              clear hC HC HV HQ HL hok
              go_wp2_with fail
              refine (P1.out _ _ _ _ E.sits ry).mono ?_
              rintro e w1 ⟨rfl, F1⟩
              have E1 := E.trans F1
              have c0 := F1.keep c0
              have c1 := F1.keep c1
              clear F1
              go_wp2_with fail
              refine (P3.out _ _ _ _ E1.sits ry).mono ?_
              rintro e w2 R
              obtain ⟨Az, cz, h2, rfl, hcz, rz, F2⟩ := R.stay (by decide)
              have E2 := E1.trans F2
              have c0 := F2.keep c0
              have c1 := F2.keep c1
              have ry2 := ry.mono F2.le
              clear F2 R E1
              go_wp2_with fail
              refine (P2.out _ _ E2.sits).mono ?_
              rintro e w3 ⟨rfl, F3⟩
              have E3 := E2.trans F3
              have c0 := F3.keep c0
              have c1 := F3.keep c1
              clear F3 E2
              go_wp2_with fail
              go_roundw
              case rel => exact ⟨k + 1, ys, Ay, cy, h2, by omega, by go_num, rfl, rfl, by omega, HR, ry2, E3⟩
              case measure => simp [intOf]; omega
    · skip
      go_wp2_with fail
      go_loopw [5, 6, 15] (fun xv th i wr => ∃ (k : Nat) (ys : List Entry) (Ay : Option Addr) (cy : Nat) (h1 : FH), k ≤ gs.length ∧ i = .int .i64 k ∧ xv = .slice Ay ys.length cy ∧ th = .int .i64 ys.length ∧ Hid (rightE ys = true) ∧ RowAt h1 Ay ys ∧ Ext (fhOf W) W h1 wr) (fun _ _ i _ => gs.length - (intOf i).toNat)
      case atStart => exact ⟨0, ys, Ay, cy, h1, Nat.zero_le _, rfl, rfl, rfl, HR, ry, E⟩
      case round =>
        clear ry E HR hyk hk
        obtain ⟨m, zs, Az, cz, h2, hm, rfl, rfl, rfl, HZ, rz, E⟩ := hrel
        have hz100 := rightE_len HZ.out
        by_cases hlt : m < gs.length
        · obtain ⟨s, hx⟩ : ∃ x, gs[m]? = some x := ⟨gs[m], by simp [hlt]⟩
          obtain ⟨b, off, rfl, c0, hsz⟩ := rg.str hx E.back.sits
          obtain ⟨v, hv⟩ : ∃ v, findE zs s = v := ⟨_, rfl⟩
          clear hx
          have P1 := hid (fun (h : FH) A c w hs r => entries_Find zs A c s hsz v hv h w hs r)
          have P3 := hid (fun (h : FH) A c w hs r => entries_Remove zs A c (by omega) s hsz h w hs r)
          cases v with
          | some no =>
            have hsome : (findE zs s).isSome = true := by rw [hv]; rfl
            obtain ⟨k1, k2, k3⟩ := remE_right HZ.out hsome
            have hC : remC zs s = 0 := by unfold remC; rw [if_pos hsome]
            obtain ⟨us, hus⟩ : ∃ us, remE zs s = us := ⟨_, rfl⟩
            rw [hus] at k1 k2 k3
            have P3 := P3.out
            rw [hus, hC] at P3
            have P3 := hid P3
            have P4 := hid (fun (h : FH) A c w hs r => entries_Find us A c s hsz _ k3 h w hs r)
            have HU := hid k1
            have hul : us.length ≤ 100 := by omega
            have HL := hid (show (us.length : Int) = (zs.length : Int) - 1 by omega)
            have hz1 : (1 : Int) ≤ (zs.length : Int) := by omega
            clear hsome k1 k2 k3 hC hus hv
            simp only [Option.getD_none, Option.isSome_none, Option.getD_some, Option.isSome_some] at P1 P4
            go_wp2_with fail
            refine (P1.out _ _ _ _ E.sits rz).mono ?_
            rintro e w1 ⟨rfl, F1⟩
            have E1 := E.trans F1
            have c0 := F1.keep c0
            clear F1
            go_wp2_with fail
            refine (P3.out _ _ _ _ E1.sits rz).mono ?_
            rintro e w2 R
            obtain ⟨Au, cu, h3, rfl, hcu, ru, F2⟩ := R.stay (by omega)
            have E2 := E1.trans F2
            have c0 := F2.keep c0
            clear F2 R E1
            go_wp2_with fail
            refine (P4.out _ _ _ _ E2.sits ru).mono ?_
            rintro e w3 ⟨rfl, F3⟩
            have E3 := E2.trans F3
            clear F3 E2
            go_wp2_with fail
            go_roundw
            case rel => exact ⟨m + 1, us, Au, cu, h3, by omega, by go_num, rfl, by rw [HL.out], HU, ru, E3⟩
            case measure => simp [intOf]; omega
          | none =>
            have hC : remC zs s = 11 := by unfold remC; rw [hv]; rfl
            obtain ⟨us, hus⟩ : ∃ us, remE zs s = us := ⟨_, rfl⟩
            have hul : us.length ≤ 9223372036854775807 := by have := remE_len' zs s; rw [hus] at this; omega
            have P3 := P3.out
            rw [hus, hC] at P3
            have P3 := hid P3
            clear hC hus hv
            simp only [Option.getD_none, Option.isSome_none] at P1
            go_wp2_with fail
            refine (P1.out _ _ _ _ E.sits rz).mono ?_
            rintro e w1 ⟨rfl, F1⟩
            have E1 := E.trans F1
            have c0 := F1.keep c0
            clear F1
            go_wp2_with fail
            refine (P3.out _ _ _ _ E1.sits rz).mono ?_
            rintro e w2 R
            obtain ⟨Au, cu, h3, rfl, hcu, ru, F2⟩ := R.stay hul
            have E2 := E1.trans F2
            have c0 := F2.keep c0
            have rz2 := rz.mono F2.le
            clear F2 R E1
            go_wp2_with fail
            refine (P1.out _ _ _ _ E2.sits rz2).mono ?_
            rintro e w3 ⟨rfl, F3⟩
            have E3 := E2.trans F3
            clear F3 E2
            go_wp2_with fail
            go_roundw
            case rel => exact ⟨m + 1, zs, Az, cz, h3, by omega, by go_num, rfl, rfl, HZ, rz2, E3⟩
            case measure => simp [intOf]; omega
        · have P5 := hid (fun (h : FH) A c w hs r => entries_Right zs A c true HZ.out h w hs r)
          go_wp2_with fail
          refine (law11_awake _ _ E.sits).mono ?_
          rintro e w3 ⟨rfl, F3⟩
          have E3 := E.trans F3
          clear F3 E
          go_wp2_with fail
          refine (P5.out _ _ _ _ E3.sits rz).mono ?_
          rintro e w4 ⟨rfl, F4⟩
          have E4 := E3.trans F4
          clear F4 E3
          go_wp2_with fail
          go_ret
          exact ⟨rfl, E4.back⟩
end Go.Proofs.Ytidfcdomeacppaa
