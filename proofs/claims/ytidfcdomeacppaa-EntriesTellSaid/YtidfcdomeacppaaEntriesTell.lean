/- The walk of the law EntriesTell: it returns true, and writes nothing that was there. -/
import Derived.Test.YtidfcdomeacppaaEntLaw
namespace Go.Proofs.Ytidfcdomeacppaa
open Go.RowKit Go.Sort
set_option linter.unusedVariables false
theorem remE_len (xs : List Entry) (s : ByteArray) : (remE xs s).length ≤ xs.length := by
  unfold remE; split
  · simp; omega
  · simp
theorem addL_len (xs : List Entry) (e : Entry) : (addL xs e).length ≤ xs.length + 1 := by
  unfold addL insE; split
  · simp; omega
  · simp
set_option maxHeartbeats 8000000 in
set_option maxRecDepth 100000 in
theorem EntriesTell_walk (xs : List Entry) (A : Option Addr) (c : Nat) (cs : List Value) (e : Entry) (s : ByteArray) (W : World) (r : RowAt (fhOf W) A xs) (hcap : (A = none → c = 0) ∧ xs.length ≤ c ∧ c ≤ 9223372036854775807) (re : repEntry (fhOf W) cs e) (hsz : s.size ≤ 9223372036854775807) :
    Calls Try.prog 8 #[.slice A xs.length c, .agg cs.toArray, .string s] W fun e w' => e = .returned (.bool true) ∧ Ext (fhOf W) W (fhOf W) w' := by
  obtain ⟨rfl, hsn⟩ := re
  have hs := Sits.all W
  have hl := r.1
  obtain ⟨cap0, cap1, cap2⟩ := hcap
  have E0 := (Ext.refl hs).alloc (.cells #[.string e.name, .int .i64 e.no] 38)
  by_cases hbig : 200 < xs.length
  · go_enter Try.func8, Try.ntmps8
    go_wp2_with (go_at_call 24; refine (law11_awake _ _ E0.sits).mono ?_; rintro e w1 ⟨rfl, E1⟩)
    go_ret
    exact ⟨rfl, E0.trans E1⟩
  have hle : xs.length ≤ 200 := by omega
  clear hbig
  obtain ⟨h0, hh⟩ : ∃ h1, h1 = (fhOf W).add W.heap.size (.cells #[.string e.name, .int .i64 e.no] 38) := ⟨_, rfl⟩
  have E1 : Ext (fhOf W) W h0 (W.alloc (.cells #[.string e.name, .int .i64 e.no] 38)) := by
    rw [hh]; exact ((Ext.refl hs).alloc _).add (heap_new _ _) (hs.none (Nat.le_refl _)) (Nat.le_refl _)
  have b0 : h0.cell ⟨W.heap.size, 0, none⟩ = some (.string e.name) := by rw [hh]; exact FH.add_cell _ _ _ _ _ rfl
  have b1 : h0.cell ⟨W.heap.size, 1, none⟩ = some (.int .i64 e.no) := by rw [hh]; exact FH.add_cell _ _ _ _ _ rfl
  have B0 := hid b0
  have B1 := hid b1
  have r1 := r.mono E1.le
  obtain ⟨q, hq⟩ : ∃ q, rightE xs = q := ⟨_, rfl⟩
  obtain ⟨v, hv⟩ : ∃ v, findE xs s = v := ⟨_, rfl⟩
  obtain ⟨la, hla⟩ : ∃ v, addL xs e = v := ⟨_, rfl⟩
  obtain ⟨ca, hca⟩ : ∃ v, addC xs e = v := ⟨_, rfl⟩
  obtain ⟨lr, hlr⟩ : ∃ v, remE xs s = v := ⟨_, rfl⟩
  obtain ⟨cr, hcr⟩ : ∃ v, remC xs s = v := ⟨_, rfl⟩
  have la1 : la.length ≤ 9223372036854775807 := by have := addL_len xs e; rw [hla] at this; omega
  have lr1 : lr.length ≤ 9223372036854775807 := by have := remE_len xs s; rw [hlr] at this; omega
  have p1 := fun (h : FH) A c w hs r => entries_Add xs A c (by omega) e hsn h w hs r
  have p2 := fun (h : FH) A c a b d w hs r => ref_AddEntry xs A c a b d (by omega) e hsn h w hs r
  have p3 := fun (h : FH) A c w hs r => entries_Remove xs A c (by omega) s hsz h w hs r
  have p4 := fun (h : FH) A c a b w hs r => ref_RemoveEntry xs A c a b (by omega) s hsz h w hs r
  have p5 := fun (h : FH) A c w hs r => entries_Find xs A c s hsz v hv h w hs r
  have p6 := fun (h : FH) A c w hs r => ref_Find xs A c s hsz v hv h w hs r
  have p7 := fun (h : FH) A c w hs r => entries_Right xs A c q hq h w hs r
  have p8 := fun (h : FH) A c w hs r => ref_RightEntries xs A c q hq h w hs r
  rw [hla, hca] at p1 p2
  rw [hlr, hcr] at p3 p4
  clear hh hq hv hla hca hlr hcr
  generalize v.getD 0 = vn at p5 p6
  generalize v.isSome = vb at p5 p6
  have P1 := hid p1
  have P2 := hid p2
  have P3 := hid p3
  have P4 := hid p4
  have P5 := hid p5
  have P6 := hid p6
  have P7 := hid p7
  have P8 := hid p8
  have CA := hid cap0
  clear p1 p2 p3 p4 p5 p6 p7 p8 cap0 b0 b1 E0
  go_enter Try.func8, Try.ntmps8
  go_upto_region 3 with (fail)
  generalize (W.alloc (.cells #[.string e.name, .int .i64 e.no] 38)) = W1 at *
  generalize hg : W.heap.size = g at *
  go_wp2_with fail
  refine (own_Entry xs A c ⟨⟨#[]⟩, 71⟩ (by decide) (by omega) _ _ E1.sits r1).mono ?_
  rintro e' w2 ⟨gi, h2, rfl, R2, F2⟩
  have E2 := E1.trans F2
  have HR2 := hid R2
  have X2 := R2.take
  have r2 := r1.mono F2.le
  have x0 := E2.sits.cell (F2.le.cell B0.out)
  have x1 := E2.sits.cell (F2.le.cell B1.out)
  have B0 := hid (F2.le.cell B0.out)
  have B1 := hid (F2.le.cell B1.out)
  clear F2 E1 r1 R2
  go_wp2_with fail
  refine (P1.out _ _ _ _ E2.sits X2).mono ?_
  rintro e' w3 R
  obtain ⟨A3, c3, h3, rfl, hc3, r3, F3⟩ := R.stay la1
  have E3 := E2.trans F3
  have HR3 := hid (HR2.out.mono F3.le)
  have X3 := X2.mono F3.le
  have s3 := r2.mono F3.le
  have x0 := E3.sits.cell (F3.le.cell B0.out)
  have x1 := E3.sits.cell (F3.le.cell B1.out)
  clear F3 E2 r2 R HR2 X2 P1
  go_wp2_with fail
  refine (P2.out _ _ _ CA.out cap1 cap2 _ E3.sits s3).mono ?_
  rintro e' w4 R
  obtain ⟨A4, c4, h4, rfl, hc4, r4, F4⟩ := R.stay la1
  have E4 := E3.trans F4
  have HR4 := hid (HR3.out.mono F4.le)
  have X4 := X3.mono F4.le
  have s4 := s3.mono F4.le
  have r3 := r3.mono F4.le
  clear F4 E3 R HR3 X3 s3 P2
  go_wp2_with fail
  refine (P3.out _ _ _ _ E4.sits X4).mono ?_
  rintro e' w5 R
  obtain ⟨A5, c5, h5, rfl, hc5, r5, F5⟩ := R.stay lr1
  have E5 := E4.trans F5
  have HR5 := hid (HR4.out.mono F5.le)
  have X5 := X4.mono F5.le
  have s5 := s4.mono F5.le
  have r3 := r3.mono F5.le
  have r4 := r4.mono F5.le
  clear F5 E4 R HR4 X4 s4 P3
  go_wp2_with fail
  refine (P4.out _ _ _ cap1 cap2 _ E5.sits s5).mono ?_
  rintro e' w6 R
  obtain ⟨A6, c6, h6, rfl, hc6, r6, F6⟩ := R.stay lr1
  have E6 := E5.trans F6
  have HR6 := hid (HR5.out.mono F6.le)
  have X6 := X5.mono F6.le
  have s6 := s5.mono F6.le
  have r3 := r3.mono F6.le
  have r4 := r4.mono F6.le
  have r5 := r5.mono F6.le
  clear F6 E5 R HR5 X5 s5 P4
  go_wp2_with fail
  refine (P5.out _ _ _ _ E6.sits X6).mono ?_
  rintro e' w7 ⟨rfl, F7⟩
  have E7 := E6.trans F7
  clear F7 E6 P5
  go_wp2_with fail
  refine (P6.out _ _ _ _ E7.sits s6).mono ?_
  rintro e' w8 ⟨rfl, F8⟩
  have E8 := E7.trans F8
  clear F8 E7 P6
  go_wp2_with fail
  refine (law11_awake _ _ E8.sits).mono ?_
  rintro e' w9 ⟨rfl, F9⟩
  have E9 := E8.trans F9
  clear F9 E8
  go_wp2_with fail
  refine (P7.out _ _ _ _ E9.sits X6).mono ?_
  rintro e' w10 ⟨rfl, F10⟩
  have E10 := E9.trans F10
  clear F10 E9 P7
  go_wp2_with fail
  refine (P8.out _ _ _ _ E10.sits s6).mono ?_
  rintro e' w11 ⟨rfl, F11⟩
  have E11 := E10.trans F11
  clear F11 E10 P8
  go_wp2_with fail
  refine (plain_Entry la la _ _ _ _ true (by simp) _ _ E11.sits r3 r4).mono ?_
  rintro e' w12 ⟨rfl, F12⟩
  have E12 := E11.trans F12
  clear F12 E11 r3 r4
  go_wp2_with fail
  refine (plain_Entry lr lr _ _ _ _ true (by simp) _ _ E12.sits r5 r6).mono ?_
  rintro e' w13 ⟨rfl, F13⟩
  have E13 := E12.trans F13
  clear F13 E12 r5 r6
  go_wp2_with fail
  refine (kept_Entry xs _ _ _ _ ⟨⟨#[]⟩, 71⟩ (by omega) (Nat.le_refl _) _ _ E13.sits HR6.out s6).mono ?_
  rintro e' w14 ⟨rfl, F14⟩
  have E14 := E13.trans F14
  clear F14 E13
  go_wp2_with fail
  go_ret
  exact ⟨rfl, E14.back⟩
end Go.Proofs.Ytidfcdomeacppaa
