import Derived.Test.YtcnbnehammbncaaDoorRWalk
namespace Go.Proofs.YtcnbnehammbncaaDoor
open Go.RowKit Go.Sort
set_option linter.unusedVariables false
def resolveP (xs : List Inode) (path : ByteArray) (follow : Bool) : Int × Int := if waysCode path = 0 then walkP xs (waysXs path) follow else (0, waysCode path)
/-- The directory, the last name, and why not. -/
def parentL (xs : List Inode) (l : List ByteArray) : Int × ByteArray × Int :=
  match l.getLast? with
  | none => (0, ⟨#[]⟩, 24)
  | some a =>
    if (a.toList == [46, 46]) = true then (0, ⟨#[]⟩, 24)
    else if (walkP xs l.dropLast true).2 ≠ 0 then (0, ⟨#[]⟩, (walkP xs l.dropLast true).2)
    else if ((findI xs (walkP xs l.dropLast true).1).getD zeroI).kind = 2 then ((walkP xs l.dropLast true).1, a, 0) else (0, ⟨#[]⟩, 13)
def parentP (xs : List Inode) (path : ByteArray) : Int × ByteArray × Int := if waysCode path = 0 then parentL xs (waysXs path) else (0, ⟨#[]⟩, waysCode path)
theorem parentL_nil (xs : List Inode) : parentL xs [] = (0, ⟨#[]⟩, 24) := rfl
theorem parentL_at {xs : List Inode} {l : List ByteArray} {n : Nat} {a : ByteArray} (hn : l.length = n + 1) (ha : l[n]? = some a) : parentL xs l = (if (a.toList == [46, 46]) = true then (0, ⟨#[]⟩, 24)
    else if (walkP xs (l.take n) true).2 ≠ 0 then (0, ⟨#[]⟩, (walkP xs (l.take n) true).2)
    else if ((findI xs (walkP xs (l.take n) true).1).getD zeroI).kind = 2 then ((walkP xs (l.take n) true).1, a, 0) else (0, ⟨#[]⟩, 13)) := by
  have h1 : l.getLast? = some a := by rw [List.getLast?_eq_getElem?, hn]; simpa using ha
  have h2 : l.dropLast = l.take n := by rw [List.dropLast_eq_take, hn]; rfl
  unfold parentL
  rw [h1, h2]
set_option maxHeartbeats 8000000 in
set_option maxRecDepth 100000 in
theorem ref_Resolve (s : State) (cs : List Value) (path : ByteArray) (hsz : path.size ≤ 9223372036854775807) (follow : Bool) (res : Int × Int) (hres : resolveP s.inodes path follow = res) (h : FH) (w : World) (hs : Sits h w) (rS : repState h cs s) :
    Calls Tryd.prog 14 #[.agg cs.toArray, .string path, .bool follow] w fun e w' => e = .returned (.tuple #[.int .i64 res.1, .int .i64 res.2]) ∧ Ext h w h w' := by
  have rS' := rS
  obtain ⟨A1, c1, A2, c2, rfl, l1, r1, l2, r2⟩ := rS'
  have HRES := hid hres
  obtain ⟨h1, E1, hb1, le1, hh1⟩ := (Ext.refl hs).boxF #[.int .i64 s.next, .slice A1 s.inodes.length c1, .slice A2 s.bads.length c2] 28
  have hwl := (ways_lenW path).1
  clear hres hh1 l1 r1 l2 r2
  go_enter Tryd.func14, Tryd.ntmps14
  go_upto_region 1 with (fail)
  generalize hgS : w.heap.size = gS at *
  with_reducible generalize w.alloc (.cells #[.int .i64 s.next, .slice A1 s.inodes.length c1, .slice A2 s.bads.length c2] 28) = w1 at E1 ⊢
  have KP := hid (ref_Split path hsz h1 w1 E1.sits)
  have E1 := hid E1
  have rS := hid rS
  obtain ⟨ls, hls⟩ : ∃ ls, waysXs path = ls := ⟨_, rfl⟩
  obtain ⟨code, hcd⟩ : ∃ code, waysCode path = code := ⟨_, rfl⟩
  rw [hls, hcd] at KP
  rw [hls] at hwl
  have HCD := hid hcd
  have HLS := hid hls
  clear hls hcd
  go_upto_region 2 with (go_at_call 32; refine KP.out.mono ?_; rintro e w2 R; obtain ⟨A, c, h2, rfl, rN, F2, u0, u1, u2⟩ := R.stayX (by omega); have E2 := hid (E1.out.trans F2); have rN := hid rN; have HC := hid (show CapLe A ls.length c from ⟨u1, u0, u2⟩); have l2 := hid F2.le; clear F2 u0 u1 u2 R)
  have s0 : w2.cell? ⟨gS, 0, none⟩ = some (.int .i64 s.next) := Sits_at E2.out.sits (l2.out _ _ hb1) rfl
  have s1 : w2.cell? ⟨gS, 1, none⟩ = some (.slice A1 s.inodes.length c1) := Sits_at E2.out.sits (l2.out _ _ hb1) rfl
  have s2 : w2.cell? ⟨gS, 2, none⟩ = some (.slice A2 s.bads.length c2) := Sits_at E2.out.sits (l2.out _ _ hb1) rfl
  by_cases hcode : code = 0
  · subst hcode
    have KW := hid (ref_walk s _ ls A c HC.out follow res (by rw [← HRES.out]; unfold resolveP; rw [if_pos HCD.out, HLS.out]) (by omega) h2 w2 E2.out.sits (repState.mono E2.out.le rS.out) rN.out)
    go_wp2_with (go_at_call 33; refine KW.out.mono ?_; rintro e w3 ⟨rfl, F3⟩; have F3 := hid F3)
    go_ret2
    exact ⟨rfl, (E2.out.trans F3.out).back⟩
  · have hb : (code == 0) = false := by simpa using hcode
    have hb2 : (code != 0) = true := by simpa using hcode
    have HQ := hid (show res = (0, code) by rw [← HRES.out]; unfold resolveP; rw [HCD.out, if_neg hcode])
    clear hcode
    go_wp2_with fail
    go_ret2
    exact ⟨by rw [HQ.out]; rfl, E2.out.back⟩

set_option maxHeartbeats 8000000 in
set_option maxRecDepth 100000 in
theorem ref_Parent (s : State) (cs : List Value) (path : ByteArray) (hsz : path.size ≤ 9223372036854775807) (res : Int × ByteArray × Int) (hres : parentP s.inodes path = res) (h : FH) (w : World) (hs : Sits h w) (rS : repState h cs s) :
    Calls Tryd.prog 16 #[.agg cs.toArray, .string path] w fun e w' => e = .returned (.tuple #[.int .i64 res.1, .string res.2.1, .int .i64 res.2.2]) ∧ Ext h w h w' ∧ res.2.1.size ≤ 9223372036854775807 := by
  have rS' := rS
  obtain ⟨A1, c1, A2, c2, rfl, l1, r1, l2, r2⟩ := rS'
  have HRES := hid hres
  obtain ⟨h1, E1, hb1, le1, hh1⟩ := (Ext.refl hs).boxF #[.int .i64 s.next, .slice A1 s.inodes.length c1, .slice A2 s.bads.length c2] 28
  have hwl := (ways_lenW path).1
  clear hres hh1 l1 r1 l2 r2
  go_enter Tryd.func16, Tryd.ntmps16
  go_upto_region 1 with (fail)
  generalize hgS : w.heap.size = gS at *
  with_reducible generalize w.alloc (.cells #[.int .i64 s.next, .slice A1 s.inodes.length c1, .slice A2 s.bads.length c2] 28) = w1 at E1 ⊢
  have KP := hid (ref_Split path hsz h1 w1 E1.sits)
  have E1 := hid E1
  have rS := hid rS
  obtain ⟨ls, hls⟩ : ∃ ls, waysXs path = ls := ⟨_, rfl⟩
  obtain ⟨code, hcd⟩ : ∃ code, waysCode path = code := ⟨_, rfl⟩
  rw [hls, hcd] at KP
  rw [hls] at hwl
  have HCD := hid hcd
  have HLS := hid hls
  clear hls hcd
  go_upto_region 2 with (go_at_call 32; refine KP.out.mono ?_; rintro e w2 R; obtain ⟨A, c, h2, rfl, rN, F2, u0, u1, u2⟩ := R.stayX (by omega); have E2 := hid (E1.out.trans F2); have rN := hid rN; have HC := hid (show CapLe A ls.length c from ⟨u1, u0, u2⟩); have l2 := hid F2.le; clear F2 u0 u1 u2 R)
  have hb2 := l2.out _ _ hb1
  clear hb1
  by_cases hcode : code = 0
  · subst hcode
    have HP := hid (show parentL s.inodes ls = res by rw [← HRES.out]; unfold parentP; rw [if_pos HCD.out, HLS.out])
    by_cases hls : ls.length = 0
    · have he : ls = [] := List.eq_nil_of_length_eq_zero hls
      have HQ := hid (show res = (0, ⟨#[]⟩, 24) by rw [← HP.out, he]; rfl)
      clear he
      have hwr : IntKind.i64.wrap ((ls.length : Int) - 1) = -1 := by rw [IntKind.wrap_i64]; omega
      go_wp2_with fail
      go_ret3
      exact ⟨by rw [HQ.out]; rfl, E2.out.back, by rw [HQ.out]; exact Nat.zero_le _⟩
    · obtain ⟨n, hn⟩ : ∃ n, ls.length = n + 1 := ⟨ls.length - 1, by omega⟩
      have hwr : IntKind.i64.wrap ((ls.length : Int) - 1) = (n : Int) := by rw [IntKind.wrap_i64]; omega
      have hn0 : ¬ ((n : Int) < 0) := by omega
      have hn1 : (n : Int) < (ls.length : Int) := by omega
      obtain ⟨a, ha⟩ : ∃ a, ls[n]? = some a := ⟨ls[n], List.getElem?_eq_getElem (by omega)⟩
      have HPA := hid ((parentL_at hn ha).symm.trans HP.out)
      obtain ⟨b, off, hx, d0, hsza⟩ := rN.out.ixStr (k := n) (i := (n : Int)) ha E2.out.sits c rfl
      have D0 := hid d0
      have d0 := E2.out.sits.cell d0
      obtain ⟨q, hq⟩ : ∃ q, (a.toList == [46, 46]) = q := ⟨_, rfl⟩
      have HQ := hid hq
      have HRT := hid (rN.out.takeN n)
      have HLT := hid (show (ls.take n).length = n by rw [List.length_take]; omega)
      have hc1 : (n : Int) ≤ (c : Int) := by have := HC.out.le; omega
      have hcm : (c : Int) ≤ 9223372036854775807 := by have := HC.out.mx; omega
      have HC2 := hid (show CapLe A (ls.take n).length c from ⟨by rw [HLT.out]; have := HC.out.le; omega, HC.out.nn, HC.out.mx⟩)
      clear hn ha hls
      cases q
      · obtain ⟨r0, hr0⟩ : ∃ r0, walkP s.inodes (ls.take n) true = r0 := ⟨_, rfl⟩
        have HR0 := hid hr0
        have HPB := hid (show (if r0.2 ≠ 0 then (0, (⟨#[]⟩ : ByteArray), r0.2) else if ((findI s.inodes r0.1).getD zeroI).kind = 2 then (r0.1, a, 0) else (0, ⟨#[]⟩, 13)) = res by have q := HPA.out; rw [if_neg (by rw [HQ.out]; simp), HR0.out] at q; exact q)
        clear hr0
        have KW := hid (fun (w' : World) (hs' : Sits h2 w') => (by have q := ref_walk s _ (ls.take n) A c HC2.out true r0 HR0.out (by rw [HLT.out]; omega) h2 w' hs' (repState.mono E2.out.le rS.out) HRT.out; rw [HLT.out] at q; exact q : Calls Tryd.prog 33 #[.agg ([.int .i64 s.next, .slice A1 s.inodes.length c1, .slice A2 s.bads.length c2] : List Value).toArray, .slice A n c, .bool true] w' fun e w2 => e = .returned (.tuple #[.int .i64 r0.1, .int .i64 r0.2]) ∧ Ext h2 w' h2 w2))
        have s0 : w2.cell? ⟨gS, 0, none⟩ = some (.int .i64 s.next) := Sits_at E2.out.sits hb2 rfl
        have s1 : w2.cell? ⟨gS, 1, none⟩ = some (.slice A1 s.inodes.length c1) := Sits_at E2.out.sits hb2 rfl
        have s2 : w2.cell? ⟨gS, 2, none⟩ = some (.slice A2 s.bads.length c2) := Sits_at E2.out.sits hb2 rfl
        have y0 := fun d os => cell_regrown s0 d os
        have y1 := fun d os => cell_regrown s1 d os
        have y2 := fun d os => cell_regrown s2 d os
        go_upto_region 7 with (fail)
        clear s0 s1 s2 d0
        refine wp_region_quiet_below (by kernel_rfl) (by kernel_rfl) ?_
        repeat (go_big_quiet_step (exact quietCall (KW.out _ (Ext.quiet E2.out.sits _ _).sits)))
        refine wpQuiet_nil ?_
        intro _ hw'
        obtain ⟨⟨dq, osq⟩, hw''⟩ := hw'
        subst hw''
        have E3 := hid (E2.out.trans (Ext.quiet E2.out.sits dq osq))
        with_reducible generalize grow (redrawn w2 dq) osq = w3 at E3 ⊢
        clear y0 y1 y2
        obtain ⟨no, cd⟩ := r0
        dsimp only at *
        by_cases hcd : cd = 0
        · subst hcd
          obtain ⟨v, hv⟩ : ∃ v, findI s.inodes no = v := ⟨_, rfl⟩
          have HV := hid hv
          have KF := hid (ref_FindInode s _ no v hv h2 w3 E3.out.sits (repState.mono E2.out.le rS.out))
          have HPC := hid (show (if (v.getD zeroI).kind = 2 then (no, a, (0 : Int)) else (0, ⟨#[]⟩, 13)) = res by have q := HPB.out; rw [if_neg (by simp), HV.out] at q; exact q)
          have s0 : w3.cell? ⟨gS, 0, none⟩ = some (.int .i64 s.next) := Sits_at E3.out.sits hb2 rfl
          have s1 : w3.cell? ⟨gS, 1, none⟩ = some (.slice A1 s.inodes.length c1) := Sits_at E3.out.sits hb2 rfl
          have s2 : w3.cell? ⟨gS, 2, none⟩ = some (.slice A2 s.bads.length c2) := Sits_at E3.out.sits hb2 rfl
          clear hv
          go_upto_region 11 with (go_at_call 22; refine KF.out.mono ?_; rintro e w4 ⟨cs4, h4, rfl, r4, F4⟩; obtain ⟨A5, c5, A6, c6, rfl⟩ := r4.open; have E4 := hid (E3.out.trans F4); have l4 := hid F4.le; clear F4 s0 s1 s2)
          obtain ⟨h5, E5, hb5, le5, hh5⟩ := E4.out.boxF #[.int .i64 (v.getD zeroI).no, .int .i64 (v.getD zeroI).kind, .int .i64 (v.getD zeroI).links, .int .i64 (v.getD zeroI).size, .string (v.getD zeroI).target, .slice A5 (v.getD zeroI).entries.length c5, .slice A6 (v.getD zeroI).runs.length c6] 50
          generalize w4.heap.size = g5 at *
          with_reducible generalize w4.alloc (.cells #[.int .i64 (v.getD zeroI).no, .int .i64 (v.getD zeroI).kind, .int .i64 (v.getD zeroI).links, .int .i64 (v.getD zeroI).size, .string (v.getD zeroI).target, .slice A5 (v.getD zeroI).entries.length c5, .slice A6 (v.getD zeroI).runs.length c6] 50) = w5 at E5 ⊢
          have m1 : w5.cell? ⟨g5, 1, none⟩ = some (.int .i64 (v.getD zeroI).kind) := Sits_at E5.sits hb5 rfl
          have d0 := E5.sits.cell ((l4.out.trans le5).cell D0.out)
          have E5 := hid E5
          clear hh5
          by_cases hk : (v.getD zeroI).kind = 2
          · have b2 : ((v.getD zeroI).kind == 2) = true := by simpa using hk
            have b3 : ((v.getD zeroI).kind != 2) = false := by simpa using hk
            have HQ2 := hid (show res = (no, a, 0) by rw [← HPC.out, if_pos hk])
            have y0 := fun d os => cell_regrown d0 d os
            clear hk
            go_upto_region 13 with (fail)
            clear d0 m1
            refine wp_region_quiet_below (by kernel_rfl) (by kernel_rfl) ?_
            repeat (go_big_quiet_step (fail))
            refine wpQuiet_nil ?_
            intro _ hw'
            obtain ⟨⟨dq, osq⟩, hw''⟩ := hw'
            subst hw''
            go_wp2
            go_ret3
            exact ⟨by rw [HQ2.out]; rfl, (E5.out.trans (Ext.quiet E5.out.sits dq osq)).back, by rw [HQ2.out]; exact hsza⟩
          · have b2 : ((v.getD zeroI).kind == 2) = false := by simpa using hk
            have b3 : ((v.getD zeroI).kind != 2) = true := by simpa using hk
            have HQ2 := hid (show res = (0, ⟨#[]⟩, 13) by rw [← HPC.out, if_neg hk])
            clear hk
            go_wp2_with fail
            go_ret3
            exact ⟨by rw [HQ2.out]; rfl, E5.out.back, by rw [HQ2.out]; exact Nat.zero_le _⟩
        · have hb : (cd == 0) = false := by simpa using hcd
          have hb3 : (cd != 0) = true := by simpa using hcd
          have HQ2 := hid (show res = (0, ⟨#[]⟩, cd) by rw [← HPB.out, if_pos hcd])
          clear hcd
          go_wp2_with fail
          go_ret3
          exact ⟨by rw [HQ2.out]; rfl, E3.out.back, by rw [HQ2.out]; exact Nat.zero_le _⟩
      · have HQ2 := hid (show res = (0, ⟨#[]⟩, 24) by rw [← HPA.out, if_pos HQ.out])
        go_wp2_with fail
        go_ret3
        exact ⟨by rw [HQ2.out]; rfl, E2.out.back, by rw [HQ2.out]; exact Nat.zero_le _⟩
  · have hb : (code == 0) = false := by simpa using hcode
    have hb2 : (code != 0) = true := by simpa using hcode
    have HQ := hid (show res = (0, ⟨#[]⟩, code) by rw [← HRES.out]; unfold parentP; rw [HCD.out, if_neg hcode])
    clear hcode
    go_wp2_with fail
    go_ret3
    exact ⟨by rw [HQ.out]; rfl, E2.out.back, by rw [HQ.out]; exact Nat.zero_le _⟩
end Go.Proofs.YtcnbnehammbncaaDoor
