import Derived.Test.YtkglaofiencfdaaWkAll
namespace Go.Proofs.Ytkglaofiencfdaa
open Go.RowKit Go.Sort
set_option linter.unusedVariables false
def resolveP (xs : List Inode) (path : ByteArray) (follow : Bool) : Int × Int := if waysCode path = 0 then walkP xs (waysXs path) follow else (0, waysCode path)
/-- The directory, the last name, and why not. -/
def parentL (xs : List Inode) (l : List ByteArray) : Int × ByteArray × Int :=
  match l.getLast? with
  | none => (0, ⟨#[]⟩, 24)
  | some a =>
    if (a.toList == [46, 46]) = true then (0, ⟨#[]⟩, 24)
    else if (walkP xs l.dropLast true).2 ≠ 0 then (0, ⟨#[]⟩, (walkP xs l.dropLast true).2)
    else if ((findI xs (walkP xs l.dropLast true).1).getD zeroI).kind = 2 then ((walkP xs l.dropLast true).1, a, 0) else (0, ⟨#[]⟩, 13)
def parentP (xs : List Inode) (path : ByteArray) : Int × ByteArray × Int := if waysCode path = 0 then parentL xs (waysXs path) else (0, ⟨#[]⟩, waysCode path)
theorem parentL_nil (xs : List Inode) : parentL xs [] = (0, ⟨#[]⟩, 24) := rfl
theorem parentL_at {xs : List Inode} {l : List ByteArray} {n : Nat} {a : ByteArray} (hn : l.length = n + 1) (ha : l[n]? = some a) : parentL xs l = (if (a.toList == [46, 46]) = true then (0, ⟨#[]⟩, 24)
    else if (walkP xs (l.take n) true).2 ≠ 0 then (0, ⟨#[]⟩, (walkP xs (l.take n) true).2)
    else if ((findI xs (walkP xs (l.take n) true).1).getD zeroI).kind = 2 then ((walkP xs (l.take n) true).1, a, 0) else (0, ⟨#[]⟩, 13)) := by
  have h1 : l.getLast? = some a := by rw [List.getLast?_eq_getElem?, hn]; simpa using ha
  have h2 : l.dropLast = l.take n := by rw [List.dropLast_eq_take, hn]; rfl
  unfold parentL
  rw [h1, h2]
set_option maxHeartbeats 8000000 in
set_option maxRecDepth 100000 in
theorem ref_Resolve (s : State) (cs : List Value) (path : ByteArray) (hsz : path.size ≤ 9223372036854775807) (follow : Bool) (res : Int × Int) (hres : resolveP s.inodes path follow = res) (h : FH) (w : World) (hs : Sits h w) (rS : repState h cs s) :
    Calls Try.prog 26 #[.agg cs.toArray, .string path, .bool follow] w fun e w' => e = .returned (.tuple #[.int .i64 res.1, .int .i64 res.2]) ∧ Ext h w h w' := by
  have rS' := rS
  obtain ⟨A1, c1, A2, c2, rfl, l1, r1, l2, r2⟩ := rS'
  have HRES := hid hres
  obtain ⟨h1, E1, hb1, le1, hh1⟩ := (Ext.refl hs).boxF #[.int .i64 s.next, .slice A1 s.inodes.length c1, .slice A2 s.bads.length c2] 31
  have hwl := (ways_lenW path).1
  clear hres hh1 l1 r1 l2 r2
  go_enter Try.func26, Try.ntmps26
  go_upto_region 1 with (fail)
  generalize hgS : w.heap.size = gS at *
  with_reducible generalize w.alloc (.cells #[.int .i64 s.next, .slice A1 s.inodes.length c1, .slice A2 s.bads.length c2] 31) = w1 at E1 ⊢
  have KP := hid (ref_Split path hsz h1 w1 E1.sits)
  have E1 := hid E1
  have rS := hid rS
  obtain ⟨ls, hls⟩ : ∃ ls, waysXs path = ls := ⟨_, rfl⟩
  obtain ⟨code, hcd⟩ : ∃ code, waysCode path = code := ⟨_, rfl⟩
  rw [hls, hcd] at KP
  rw [hls] at hwl
  have HCD := hid hcd
  have HLS := hid hls
  clear hls hcd
  go_upto_region 2 with (go_at_call 57; refine KP.out.mono ?_; rintro e w2 R; obtain ⟨A, c, h2, rfl, rN, F2, u0, u1, u2⟩ := R.stayX (by omega); have E2 := hid (E1.out.trans F2); have rN := hid rN; have HC := hid (show CapLe A ls.length c from ⟨u1, u0, u2⟩); have l2 := hid F2.le; clear F2 u0 u1 u2 R)
  have s0 : w2.cell? ⟨gS, 0, none⟩ = some (.int .i64 s.next) := Sits_at E2.out.sits (l2.out _ _ hb1) rfl
  have s1 : w2.cell? ⟨gS, 1, none⟩ = some (.slice A1 s.inodes.length c1) := Sits_at E2.out.sits (l2.out _ _ hb1) rfl
  have s2 : w2.cell? ⟨gS, 2, none⟩ = some (.slice A2 s.bads.length c2) := Sits_at E2.out.sits (l2.out _ _ hb1) rfl
  by_cases hcode : code = 0
  · subst hcode
    have KW := hid (ref_walk s _ ls A c HC.out follow res (by rw [← HRES.out]; unfold resolveP; rw [if_pos HCD.out, HLS.out]) (by omega) h2 w2 E2.out.sits (repState.mono E2.out.le rS.out) rN.out)
    go_wp2_with (go_at_call 58; refine KW.out.mono ?_; rintro e w3 ⟨rfl, F3⟩; have F3 := hid F3)
    go_ret2
    exact ⟨rfl, (E2.out.trans F3.out).back⟩
  · have hb : (code == 0) = false := by simpa using hcode
    have hb2 : (code != 0) = true := by simpa using hcode
    have HQ := hid (show res = (0, code) by rw [← HRES.out]; unfold resolveP; rw [HCD.out, if_neg hcode])
    clear hcode
    go_wp2_with fail
    go_ret2
    exact ⟨by rw [HQ.out]; rfl, E2.out.back⟩

set_option maxHeartbeats 8000000 in
set_option maxRecDepth 100000 in
theorem ref_Parent (s : State) (cs : List Value) (path : ByteArray) (hsz : path.size ≤ 9223372036854775807) (res : Int × ByteArray × Int) (hres : parentP s.inodes path = res) (h : FH) (w : World) (hs : Sits h w) (rS : repState h cs s) :
    Calls Try.prog 88 #[.agg cs.toArray, .string path] w fun e w' => e = .returned (.tuple #[.int .i64 res.1, .string res.2.1, .int .i64 res.2.2]) ∧ Ext h w h w' ∧ res.2.1.size ≤ 9223372036854775807 := by
  have rS' := rS
  obtain ⟨A1, c1, A2, c2, rfl, l1, r1, l2, r2⟩ := rS'
  have HRES := hid hres
  obtain ⟨h1, E1, hb1, le1, hh1⟩ := (Ext.refl hs).boxF #[.int .i64 s.next, .slice A1 s.inodes.length c1, .slice A2 s.bads.length c2] 31
  have hwl := (ways_lenW path).1
  clear hres hh1 l1 r1 l2 r2
  go_enter Try.func88, Try.ntmps88
  go_upto_region 1 with (fail)
  generalize hgS : w.heap.size = gS at *
  with_reducible generalize w.alloc (.cells #[.int .i64 s.next, .slice A1 s.inodes.length c1, .slice A2 s.bads.length c2] 31) = w1 at E1 ⊢
  have KP := hid (ref_Split path hsz h1 w1 E1.sits)
  have E1 := hid E1
  have rS := hid rS
  obtain ⟨ls, hls⟩ : ∃ ls, waysXs path = ls := ⟨_, rfl⟩
  obtain ⟨code, hcd⟩ : ∃ code, waysCode path = code := ⟨_, rfl⟩
  rw [hls, hcd] at KP
  rw [hls] at hwl
  have HCD := hid hcd
  have HLS := hid hls
  clear hls hcd
  go_upto_region 2 with (go_at_call 57; refine KP.out.mono ?_; rintro e w2 R; obtain ⟨A, c, h2, rfl, rN, F2, u0, u1, u2⟩ := R.stayX (by omega); have E2 := hid (E1.out.trans F2); have rN := hid rN; have HC := hid (show CapLe A ls.length c from ⟨u1, u0, u2⟩); have l2 := hid F2.le; clear F2 u0 u1 u2 R)
  have hb2 := l2.out _ _ hb1
  clear hb1
  by_cases hcode : code = 0
  · subst hcode
    have HP := hid (show parentL s.inodes ls = res by rw [← HRES.out]; unfold parentP; rw [if_pos HCD.out, HLS.out])
    by_cases hls : ls.length = 0
    · have he : ls = [] := List.eq_nil_of_length_eq_zero hls
      have HQ := hid (show res = (0, ⟨#[]⟩, 24) by rw [← HP.out, he]; rfl)
      clear he
      have hwr : IntKind.i64.wrap ((ls.length : Int) - 1) = -1 := by rw [IntKind.wrap_i64]; omega
      go_wp2_with fail
      go_ret3
      exact ⟨by rw [HQ.out]; rfl, E2.out.back, by rw [HQ.out]; exact Nat.zero_le _⟩
    · obtain ⟨n, hn⟩ : ∃ n, ls.length = n + 1 := ⟨ls.length - 1, by omega⟩
      have hwr : IntKind.i64.wrap ((ls.length : Int) - 1) = (n : Int) := by rw [IntKind.wrap_i64]; omega
      have hn0 : ¬ ((n : Int) < 0) := by omega
      have hn1 : (n : Int) < (ls.length : Int) := by omega
      obtain ⟨a, ha⟩ : ∃ a, ls[n]? = some a := ⟨ls[n], List.getElem?_eq_getElem (by omega)⟩
      have HPA := hid ((parentL_at hn ha).symm.trans HP.out)
      obtain ⟨b, off, hx, d0, hsza⟩ := rN.out.ixStr (k := n) (i := (n : Int)) ha E2.out.sits c rfl
      have D0 := hid d0
      have d0 := E2.out.sits.cell d0
      obtain ⟨q, hq⟩ : ∃ q, (a.toList == [46, 46]) = q := ⟨_, rfl⟩
      have HQ := hid hq
      have HRT := hid (rN.out.takeN n)
      have HLT := hid (show (ls.take n).length = n by rw [List.length_take]; omega)
      have hc1 : (n : Int) ≤ (c : Int) := by have := HC.out.le; omega
      have hcm : (c : Int) ≤ 9223372036854775807 := by have := HC.out.mx; omega
      have HC2 := hid (show CapLe A (ls.take n).length c from ⟨by rw [HLT.out]; have := HC.out.le; omega, HC.out.nn, HC.out.mx⟩)
      clear hn ha hls
      cases q
      · obtain ⟨r0, hr0⟩ : ∃ r0, walkP s.inodes (ls.take n) true = r0 := ⟨_, rfl⟩
        have HR0 := hid hr0
        have HPB := hid (show (if r0.2 ≠ 0 then (0, (⟨#[]⟩ : ByteArray), r0.2) else if ((findI s.inodes r0.1).getD zeroI).kind = 2 then (r0.1, a, 0) else (0, ⟨#[]⟩, 13)) = res by have q := HPA.out; rw [if_neg (by rw [HQ.out]; simp), HR0.out] at q; exact q)
        clear hr0
        have KW := hid (fun (w' : World) (hs' : Sits h2 w') => (by have q := ref_walk s _ (ls.take n) A c HC2.out true r0 HR0.out (by rw [HLT.out]; omega) h2 w' hs' (repState.mono E2.out.le rS.out) HRT.out; rw [HLT.out] at q; exact q : Calls Try.prog 58 #[.agg ([.int .i64 s.next, .slice A1 s.inodes.length c1, .slice A2 s.bads.length c2] : List Value).toArray, .slice A n c, .bool true] w' fun e w2 => e = .returned (.tuple #[.int .i64 r0.1, .int .i64 r0.2]) ∧ Ext h2 w' h2 w2))
        have s0 : w2.cell? ⟨gS, 0, none⟩ = some (.int .i64 s.next) := Sits_at E2.out.sits hb2 rfl
        have s1 : w2.cell? ⟨gS, 1, none⟩ = some (.slice A1 s.inodes.length c1) := Sits_at E2.out.sits hb2 rfl
        have s2 : w2.cell? ⟨gS, 2, none⟩ = some (.slice A2 s.bads.length c2) := Sits_at E2.out.sits hb2 rfl
        have y0 := fun d os => cell_regrown s0 d os
        have y1 := fun d os => cell_regrown s1 d os
        have y2 := fun d os => cell_regrown s2 d os
        go_upto_region 7 with (fail)
        clear s0 s1 s2 d0
        refine wp_region_quiet_below (by kernel_rfl) (by kernel_rfl) ?_
        repeat (go_big_quiet_step (exact quietCall (KW.out _ (Ext.quiet E2.out.sits _ _).sits)))
        refine wpQuiet_nil ?_
        intro _ hw'
        obtain ⟨⟨dq, osq⟩, hw''⟩ := hw'
        subst hw''
        have E3 := hid (E2.out.trans (Ext.quiet E2.out.sits dq osq))
        with_reducible generalize grow (redrawn w2 dq) osq = w3 at E3 ⊢
        clear y0 y1 y2
        obtain ⟨no, cd⟩ := r0
        dsimp only at *
        by_cases hcd : cd = 0
        · subst hcd
          obtain ⟨v, hv⟩ : ∃ v, findI s.inodes no = v := ⟨_, rfl⟩
          have HV := hid hv
          have KF := hid (ref_FindInode s _ no v hv h2 w3 E3.out.sits (repState.mono E2.out.le rS.out))
          have HPC := hid (show (if (v.getD zeroI).kind = 2 then (no, a, (0 : Int)) else (0, ⟨#[]⟩, 13)) = res by have q := HPB.out; rw [if_neg (by simp), HV.out] at q; exact q)
          have s0 : w3.cell? ⟨gS, 0, none⟩ = some (.int .i64 s.next) := Sits_at E3.out.sits hb2 rfl
          have s1 : w3.cell? ⟨gS, 1, none⟩ = some (.slice A1 s.inodes.length c1) := Sits_at E3.out.sits hb2 rfl
          have s2 : w3.cell? ⟨gS, 2, none⟩ = some (.slice A2 s.bads.length c2) := Sits_at E3.out.sits hb2 rfl
          clear hv
          go_upto_region 11 with (go_at_call 14; refine KF.out.mono ?_; rintro e w4 ⟨cs4, h4, rfl, r4, F4⟩; obtain ⟨A5, c5, A6, c6, rfl⟩ := r4.open; have E4 := hid (E3.out.trans F4); have l4 := hid F4.le; clear F4 s0 s1 s2)
          obtain ⟨h5, E5, hb5, le5, hh5⟩ := E4.out.boxF #[.int .i64 (v.getD zeroI).no, .int .i64 (v.getD zeroI).kind, .int .i64 (v.getD zeroI).links, .int .i64 (v.getD zeroI).size, .string (v.getD zeroI).target, .slice A5 (v.getD zeroI).entries.length c5, .slice A6 (v.getD zeroI).runs.length c6] 37
          generalize w4.heap.size = g5 at *
          with_reducible generalize w4.alloc (.cells #[.int .i64 (v.getD zeroI).no, .int .i64 (v.getD zeroI).kind, .int .i64 (v.getD zeroI).links, .int .i64 (v.getD zeroI).size, .string (v.getD zeroI).target, .slice A5 (v.getD zeroI).entries.length c5, .slice A6 (v.getD zeroI).runs.length c6] 37) = w5 at E5 ⊢
          have m1 : w5.cell? ⟨g5, 1, none⟩ = some (.int .i64 (v.getD zeroI).kind) := Sits_at E5.sits hb5 rfl
          have d0 := E5.sits.cell ((l4.out.trans le5).cell D0.out)
          have E5 := hid E5
          clear hh5
          by_cases hk : (v.getD zeroI).kind = 2
          · have b2 : ((v.getD zeroI).kind == 2) = true := by simpa using hk
            have b3 : ((v.getD zeroI).kind != 2) = false := by simpa using hk
            have HQ2 := hid (show res = (no, a, 0) by rw [← HPC.out, if_pos hk])
            have y0 := fun d os => cell_regrown d0 d os
            clear hk
            go_upto_region 13 with (fail)
            clear d0 m1
            refine wp_region_quiet_below (by kernel_rfl) (by kernel_rfl) ?_
            repeat (go_big_quiet_step (fail))
            refine wpQuiet_nil ?_
            intro _ hw'
            obtain ⟨⟨dq, osq⟩, hw''⟩ := hw'
            subst hw''
            go_wp2
            go_ret3
            exact ⟨by rw [HQ2.out]; rfl, (E5.out.trans (Ext.quiet E5.out.sits dq osq)).back, by rw [HQ2.out]; exact hsza⟩
          · have b2 : ((v.getD zeroI).kind == 2) = false := by simpa using hk
            have b3 : ((v.getD zeroI).kind != 2) = true := by simpa using hk
            have HQ2 := hid (show res = (0, ⟨#[]⟩, 13) by rw [← HPC.out, if_neg hk])
            clear hk
            go_wp2_with fail
            go_ret3
            exact ⟨by rw [HQ2.out]; rfl, E5.out.back, by rw [HQ2.out]; exact Nat.zero_le _⟩
        · have hb : (cd == 0) = false := by simpa using hcd
          have hb3 : (cd != 0) = true := by simpa using hcd
          have HQ2 := hid (show res = (0, ⟨#[]⟩, cd) by rw [← HPB.out, if_pos hcd])
          clear hcd
          go_wp2_with fail
          go_ret3
          exact ⟨by rw [HQ2.out]; rfl, E3.out.back, by rw [HQ2.out]; exact Nat.zero_le _⟩
      · have HQ2 := hid (show res = (0, ⟨#[]⟩, 24) by rw [← HPA.out, if_pos HQ.out])
        go_wp2_with fail
        go_ret3
        exact ⟨by rw [HQ2.out]; rfl, E2.out.back, by rw [HQ2.out]; exact Nat.zero_le _⟩
  · have hb : (code == 0) = false := by simpa using hcode
    have hb2 : (code != 0) = true := by simpa using hcode
    have HQ := hid (show res = (0, ⟨#[]⟩, code) by rw [← HRES.out]; unfold parentP; rw [HCD.out, if_neg hcode])
    clear hcode
    go_wp2_with fail
    go_ret3
    exact ⟨by rw [HQ.out]; rfl, E2.out.back, by rw [HQ.out]; exact Nat.zero_le _⟩
end Go.Proofs.Ytkglaofiencfdaa

namespace Go.Proofs.Ytkglaofiencfdaa
open Go.RowKit Go.Sort
set_option linter.unusedVariables false
set_option maxHeartbeats 4000000 in
set_option maxRecDepth 100000 in
theorem ref_putDeed (x : Inode) (A5 : Option Addr) (c5 : Nat) (A6 : Option Addr) (c6 : Nat) (h : FH) (w : World) (hs : Sits h w) :
    Calls Try.prog 91 #[.agg #[.int .i64 x.no, .int .i64 x.kind, .int .i64 x.links, .int .i64 x.size, .string x.target, .slice A5 x.entries.length c5, .slice A6 x.runs.length c6]] w fun e w' => e = .returned (.agg #[.int .i64 2, .int .i64 0, .int .i64 x.no, .int .i64 x.kind, .int .i64 x.links, .int .i64 x.size, .string x.target, .slice A5 x.entries.length c5, .slice A6 x.runs.length c6]) ∧ Ext h w h w' := by
  have E1 := (Ext.refl hs).alloc (.cells #[.int .i64 x.no, .int .i64 x.kind, .int .i64 x.links, .int .i64 x.size, .string x.target, .slice A5 x.entries.length c5, .slice A6 x.runs.length c6] 37)
  have E2 := E1.alloc (.cells #[.int .i64 0, .int .i64 0, .int .i64 0, .int .i64 0, .int .i64 0, .int .i64 0, .string ⟨#[]⟩, .slice none 0 0, .slice none 0 0] 39)
  have hX := box_alloc (heap_new w (.cells #[.int .i64 x.no, .int .i64 x.kind, .int .i64 x.links, .int .i64 x.size, .string x.target, .slice A5 x.entries.length c5, .slice A6 x.runs.length c6] 37)) (.cells #[.int .i64 0, .int .i64 0, .int .i64 0, .int .i64 0, .int .i64 0, .int .i64 0, .string ⟨#[]⟩, .slice none 0 0, .slice none 0 0] 39)
  have hR := heap_new (w.alloc (.cells #[.int .i64 x.no, .int .i64 x.kind, .int .i64 x.links, .int .i64 x.size, .string x.target, .slice A5 x.entries.length c5, .slice A6 x.runs.length c6] 37)) (.cells #[.int .i64 0, .int .i64 0, .int .i64 0, .int .i64 0, .int .i64 0, .int .i64 0, .string ⟨#[]⟩, .slice none 0 0, .slice none 0 0] 39)
  have nR := E1.sits.none (Nat.le_refl _)
  have hszR : (w.alloc (.cells #[.int .i64 x.no, .int .i64 x.kind, .int .i64 x.links, .int .i64 x.size, .string x.target, .slice A5 x.entries.length c5, .slice A6 x.runs.length c6] 37)).heap.size = w.heap.size + 1 := by simp
  rw [hszR] at hR nR
  clear E1
  go_enter Try.func91, Try.ntmps91
  go_upto_region 1 with (fail)
  obtain ⟨gx, hgx⟩ : ∃ gx, gx = w.heap.size := ⟨_, rfl⟩
  obtain ⟨gR, hgR⟩ : ∃ gR, gR = w.heap.size + 1 := ⟨_, rfl⟩
  rw [← hgx] at hX
  rw [← hgR] at hR nR
  rw [← hgR, ← hgx]
  with_reducible generalize (w.alloc (.cells #[.int .i64 x.no, .int .i64 x.kind, .int .i64 x.links, .int .i64 x.size, .string x.target, .slice A5 x.entries.length c5, .slice A6 x.runs.length c6] 37)).alloc (.cells #[.int .i64 0, .int .i64 0, .int .i64 0, .int .i64 0, .int .i64 0, .int .i64 0, .string ⟨#[]⟩, .slice none 0 0, .slice none 0 0] 39) = W2 at E2 hX hR ⊢
  have HgR := hid (show w.heap.size ≤ gR by omega)
  clear hgx hgR hszR
  have m0 : W2.cell? ⟨gx, 0, none⟩ = some (.int .i64 x.no) := box_cell (j := 0) hX rfl
  have m1 : W2.cell? ⟨gx, 1, none⟩ = some (.int .i64 x.kind) := box_cell (j := 1) hX rfl
  have m2 : W2.cell? ⟨gx, 2, none⟩ = some (.int .i64 x.links) := box_cell (j := 2) hX rfl
  have m3 : W2.cell? ⟨gx, 3, none⟩ = some (.int .i64 x.size) := box_cell (j := 3) hX rfl
  have m4 : W2.cell? ⟨gx, 4, none⟩ = some (.string x.target) := box_cell (j := 4) hX rfl
  have m5 : W2.cell? ⟨gx, 5, none⟩ = some (.slice A5 x.entries.length c5) := box_cell (j := 5) hX rfl
  have m6 : W2.cell? ⟨gx, 6, none⟩ = some (.slice A6 x.runs.length c6) := box_cell (j := 6) hX rfl
  have z0 : W2.cell? ⟨gR, 0, none⟩ = some (.int .i64 0) := box_cell (j := 0) hR rfl
  have f0 := box_free (j := 0) hR
  have z1 : W2.cell? ⟨gR, 1, none⟩ = some (.int .i64 0) := box_cell (j := 1) hR rfl
  have f1 := box_free (j := 1) hR
  have z2 : W2.cell? ⟨gR, 2, none⟩ = some (.int .i64 0) := box_cell (j := 2) hR rfl
  have f2 := box_free (j := 2) hR
  have z3 : W2.cell? ⟨gR, 3, none⟩ = some (.int .i64 0) := box_cell (j := 3) hR rfl
  have f3 := box_free (j := 3) hR
  have z4 : W2.cell? ⟨gR, 4, none⟩ = some (.int .i64 0) := box_cell (j := 4) hR rfl
  have f4 := box_free (j := 4) hR
  have z5 : W2.cell? ⟨gR, 5, none⟩ = some (.int .i64 0) := box_cell (j := 5) hR rfl
  have f5 := box_free (j := 5) hR
  have z6 : W2.cell? ⟨gR, 6, none⟩ = some (.string ⟨#[]⟩) := box_cell (j := 6) hR rfl
  have f6 := box_free (j := 6) hR
  have z7 : W2.cell? ⟨gR, 7, none⟩ = some (.slice none 0 0) := box_cell (j := 7) hR rfl
  have f7 := box_free (j := 7) hR
  have z8 : W2.cell? ⟨gR, 8, none⟩ = some (.slice none 0 0) := box_cell (j := 8) hR rfl
  have f8 := box_free (j := 8) hR
  have hR := hid hR
  have nR := hid nR
  have E2 := hid E2
  go_wp2_with fail
  have R7 : ((((((((((W2.setCell ⟨gR, 0, none⟩ (.int .i64 2)).setCell ⟨gR, 1, none⟩ (.int .i64 0)).setCell ⟨gR, 2, none⟩ (.int .i64 x.no)).setCell ⟨gR, 3, none⟩ (.int .i64 x.kind)).setCell ⟨gR, 4, none⟩ (.int .i64 x.links)).setCell ⟨gR, 5, none⟩ (.int .i64 x.size)).setCell ⟨gR, 6, none⟩ (.string x.target)).setCell ⟨gR, 7, none⟩ (.slice A5 x.entries.length c5)).setCell ⟨gR, 8, none⟩ (.slice A6 x.runs.length c6))).heap[gR]? = some (.cells #[.int .i64 2, .int .i64 0, .int .i64 x.no, .int .i64 x.kind, .int .i64 x.links, .int .i64 x.size, .string x.target, .slice A5 x.entries.length c5, .slice A6 x.runs.length c6] 39 (0, 0)) := setCells_row [.int .i64 2, .int .i64 0, .int .i64 x.no, .int .i64 x.kind, .int .i64 x.links, .int .i64 x.size, .string x.target, .slice A5 x.entries.length c5, .slice A6 x.runs.length c6] hR.out rfl
  have E7 : Ext h w h (((((((((W2.setCell ⟨gR, 0, none⟩ (.int .i64 2)).setCell ⟨gR, 1, none⟩ (.int .i64 0)).setCell ⟨gR, 2, none⟩ (.int .i64 x.no)).setCell ⟨gR, 3, none⟩ (.int .i64 x.kind)).setCell ⟨gR, 4, none⟩ (.int .i64 x.links)).setCell ⟨gR, 5, none⟩ (.int .i64 x.size)).setCell ⟨gR, 6, none⟩ (.string x.target)).setCell ⟨gR, 7, none⟩ (.slice A5 x.entries.length c5)).setCell ⟨gR, 8, none⟩ (.slice A6 x.runs.length c6)) := Ext.setCells (g := gR) HgR.out nR.out [.int .i64 2, .int .i64 0, .int .i64 x.no, .int .i64 x.kind, .int .i64 x.links, .int .i64 x.size, .string x.target, .slice A5 x.entries.length c5, .slice A6 x.runs.length c6] 0 _ E2.out
  refine bodyPost_ret (v := .agg #[.int .i64 2, .int .i64 0, .int .i64 x.no, .int .i64 x.kind, .int .i64 x.links, .int .i64 x.size, .string x.target, .slice A5 x.entries.length c5, .slice A6 x.runs.length c6]) ?_ rfl ⟨rfl, E7⟩
  exact results_cell_row (p := 2) (ty := 39) (by kernel_rfl) _ _ gR 39 #[.int .i64 2, .int .i64 0, .int .i64 x.no, .int .i64 x.kind, .int .i64 x.links, .int .i64 x.size, .string x.target, .slice A5 x.entries.length c5, .slice A6 x.runs.length c6] (0, 0) _ (by simp) R7 Try.underlying39 rfl (by kernel_rfl)
/-- What is not too great. -/
def midI (x : Inode) : Prop := x.entries.length ≤ 1000 ∧ -1000000 ≤ x.links ∧ x.links ≤ 1000000
theorem midI_zero : midI zeroI := ⟨by decide, by decide, by decide⟩
/-- Deeds, a number, and why not. -/
def RetMake (h : FH) (w : World) (r : List Deed × Int × Int) (e : Ending) (w' : World) : Prop := ∃ A c h1, e = .returned (.tuple #[.slice A r.1.length c, .int .i64 r.2.1, .int .i64 r.2.2]) ∧ CapLe A r.1.length c ∧ RowAt h1 A r.1 ∧ Ext h w h1 w'
def putD (x : Inode) : Deed := ⟨2, 0, x⟩
def makeD (d : Inode) (name : ByteArray) (next kind : Int) : Inode := { d with entries := addL d.entries ⟨name, next⟩, links := if kind = 2 then d.links + 1 else d.links }
def makeP (s : State) (path : ByteArray) (kind : Int) (target : ByteArray) : List Deed × Int × Int :=
  if kind < 1 ∨ 3 < kind then ([], 0, 1)
  else if kind = 3 ∧ (targetB target = false ∨ partsCode target ≠ 0) then ([], 0, 17)
  else if (parentP s.inodes path).2.2 ≠ 0 then ([], 0, (parentP s.inodes path).2.2)
  else
    let d := (findI s.inodes (parentP s.inodes path).1).getD zeroI
    let name := (parentP s.inodes path).2.1
    if (findE d.entries name).isSome = true then ([], 0, 12)
    else if 200 ≤ s.inodes.length then ([], 0, 10)
    else if kind = 2 ∧ 100 ≤ d.links then ([], 0, 18)
    else if addC d.entries ⟨name, s.next⟩ ≠ 0 then ([], 0, addC d.entries ⟨name, s.next⟩)
    else ([⟨1, s.next + 1, zeroI⟩, putD (makeD d name s.next kind), putD (newI s.next kind target)], s.next, 0)
theorem makeP_late {s : State} {path target : ByteArray} {kind : Int} (h1 : ¬ (kind < 1 ∨ 3 < kind)) (h2 : ¬ (kind = 3 ∧ (targetB target = false ∨ partsCode target ≠ 0))) {no : Int} {name : ByteArray} (hp : parentP s.inodes path = (no, name, 0)) {d : Inode} (hd : (findI s.inodes no).getD zeroI = d) :
    makeP s path kind target = (if (findE d.entries name).isSome = true then ([], 0, 12)
    else if 200 ≤ s.inodes.length then ([], 0, 10)
    else if kind = 2 ∧ 100 ≤ d.links then ([], 0, 18)
    else if addC d.entries ⟨name, s.next⟩ ≠ 0 then ([], 0, addC d.entries ⟨name, s.next⟩)
    else ([⟨1, s.next + 1, zeroI⟩, putD (makeD d name s.next kind), putD (newI s.next kind target)], s.next, 0)) := by
  unfold makeP
  rw [if_neg h1, if_neg h2, hp, if_neg (by simp)]
  simp only [hd]
theorem makeP_par {s : State} {path target : ByteArray} {kind : Int} (h1 : ¬ (kind < 1 ∨ 3 < kind)) (h2 : ¬ (kind = 3 ∧ (targetB target = false ∨ partsCode target ≠ 0))) (h3 : (parentP s.inodes path).2.2 ≠ 0) : makeP s path kind target = ([], 0, (parentP s.inodes path).2.2) := by
  unfold makeP; rw [if_neg h1, if_neg h2, if_pos h3]

theorem box7_5 {w : World} {g : Nat} {a0 a1 a2 a3 a4 a5 a6 : Value} {t : TypeId} (h : w.heap[g]? = some (.cells #[a0, a1, a2, a3, a4, a5, a6] t (0, 0))) (v : Value) : (w.setCell ⟨g, 5, none⟩ v).heap[g]? = some (.cells #[a0, a1, a2, a3, a4, v, a6] t (0, 0)) := box_set (i := 5) h v
theorem box7_2 {w : World} {g : Nat} {a0 a1 a2 a3 a4 a5 a6 : Value} {t : TypeId} (h : w.heap[g]? = some (.cells #[a0, a1, a2, a3, a4, a5, a6] t (0, 0))) (v : Value) : (w.setCell ⟨g, 2, none⟩ v).heap[g]? = some (.cells #[a0, a1, v, a3, a4, a5, a6] t (0, 0)) := box_set (i := 2) h v
theorem mem_of_findI {xs : List Inode} {no : Int} {x : Inode} (h : findI xs no = some x) : x ∈ xs := List.mem_of_find?_eq_some h
set_option maxHeartbeats 8000000 in
set_option maxRecDepth 100000 in
theorem ref_Make (s : State) (cs : List Value) (path : ByteArray) (hsz : path.size ≤ 9223372036854775807) (kind : Int) (target : ByteArray) (htz : target.size ≤ 9223372036854775807) (hn0 : 0 ≤ s.next) (hn1 : s.next ≤ 1000000) (hent : ∀ x ∈ s.inodes, midI x) (h : FH) (w : World) (hs : Sits h w) (rS : repState h cs s) :
    Calls Try.prog 52 #[.agg cs.toArray, .string path, .int .i64 kind, .string target] w fun e w' => RetMake h w (makeP s path kind target) e w' := by
  have rS' := rS
  obtain ⟨A1, c1, A2, c2, rfl, l1, r1, l2, r2⟩ := rS'
  obtain ⟨h1, E1, hbS, le1, hh1⟩ := (Ext.refl hs).boxF #[.int .i64 s.next, .slice A1 s.inodes.length c1, .slice A2 s.bads.length c2] 31
  have HENT := hid hent
  have hl1 := r1.1
  clear hh1 l1 r1 l2 r2 hent
  go_enter Try.func52, Try.ntmps52
  go_upto_region 1 with (fail)
  generalize hgS : w.heap.size = gS at *
  with_reducible generalize w.alloc (.cells #[.int .i64 s.next, .slice A1 s.inodes.length c1, .slice A2 s.bads.length c2] 31) = w1 at E1 ⊢
  have E1 := hid E1
  by_cases hk1 : kind < 1 ∨ 3 < kind
  · have HQ := hid (show makeP s path kind target = ([], 0, 1) by unfold makeP; rw [if_pos hk1])
    rcases hk1 with hk1 | hk1
    · go_wp2_with fail
      go_ret3
      exact (by rw [HQ.out]; exact ⟨none, 0, h, rfl, ⟨Nat.zero_le _, fun _ => rfl, by decide⟩, RowAt.nil _ _, E1.out.back⟩)
    · have hk2 : ¬ kind < 1 := by omega
      go_wp2_with fail
      go_ret3
      exact (by rw [HQ.out]; exact ⟨none, 0, h, rfl, ⟨Nat.zero_le _, fun _ => rfl, by decide⟩, RowAt.nil _ _, E1.out.back⟩)
  · have HK1 := hid hk1
    have hka : ¬ kind < 1 := by omega
    have hkb : ¬ 3 < kind := by omega
    have KP := hid (ref_Parts target htz h1 w1 E1.out.sits)
    clear hk1
    obtain ⟨pc, hpc⟩ : ∃ pc, partsCode target = pc := ⟨_, rfl⟩
    rw [hpc] at KP
    have HPC := hid hpc
    clear hpc
    go_upto_region 4 with (go_at_call 87; refine KP.out.mono ?_; rintro e w2 R; obtain ⟨A9, c9, h2, rfl, k9, r9, F2⟩ := R.stayX (by have := (ways_lenW target).2; omega); have E2 := hid (E1.out.trans F2.back); clear F2 k9 r9 R)
    obtain ⟨tb, htb⟩ : ∃ tb, targetB target = tb := ⟨_, rfl⟩
    have HTB := hid htb
    have KT := hid (fun (w' : World) (hs' : Sits h1 w') => ref_RightTarget target htz tb htb h1 w' hs')
    clear htb
    obtain ⟨b0, hb0⟩ : ∃ b0, decide (kind = 3 ∧ (tb = false ∨ pc ≠ 0)) = b0 := ⟨_, rfl⟩
    have HB0 := hid hb0
    go_cut [44] (fun s44 wx => s44 = .bool b0 ∧ Hid (Ext h w h1 wx))
    case first =>
      by_cases hk3 : kind = 3
      · subst hk3
        cases tb
        · have HB1 := hid (show true = b0 by rw [← HB0.out]; simp)
          go_wp2_with (go_at_call 83; refine (KT.out _ E2.out.sits).mono ?_; rintro e w3 ⟨rfl, F3⟩; have E3 := hid (E2.out.trans F3); clear F3)
          go_meet
          exact ⟨by rw [← HB1.out], E3⟩
        · by_cases hp0 : pc = 0
          · have HB1 := hid (show false = b0 by rw [← HB0.out]; simp [hp0])
            have bp : (pc == 0) = true := by simp [hp0]
            have bq : (pc != 0) = false := by simp [hp0]
            clear hp0
            go_wp2_with (go_at_call 83; refine (KT.out _ E2.out.sits).mono ?_; rintro e w3 ⟨rfl, F3⟩; have E3 := hid (E2.out.trans F3); clear F3)
            go_meet
            exact ⟨by rw [← HB1.out], E3⟩
          · have HB1 := hid (show true = b0 by rw [← HB0.out]; simp [hp0])
            have bp : (pc == 0) = false := by simp [hp0]
            have bq : (pc != 0) = true := by simp [hp0]
            clear hp0
            go_wp2_with (go_at_call 83; refine (KT.out _ E2.out.sits).mono ?_; rintro e w3 ⟨rfl, F3⟩; have E3 := hid (E2.out.trans F3); clear F3)
            go_meet
            exact ⟨by rw [← HB1.out], E3⟩
      · have bk : (kind == 3) = false := by simpa using hk3
        have HB1 := hid (show false = b0 by rw [← HB0.out]; simp [hk3])
        clear hk3
        go_wp2_with fail
        go_meet
        exact ⟨by rw [← HB1.out], E2⟩
    case rest =>
      obtain ⟨rfl, E3⟩ := hcut
      clear E2 KP KT hb0
      cases b0
      · have HK2 := hid (show ¬ (kind = 3 ∧ (targetB target = false ∨ partsCode target ≠ 0)) by rw [HTB.out, HPC.out]; exact of_decide_eq_false HB0.out)
        obtain ⟨⟨no, name, code⟩, hpar⟩ : ∃ r, parentP s.inodes path = r := ⟨_, rfl⟩
        have HPAR := hid hpar
        have KR := hid (ref_Parent s _ path hsz _ hpar h1 wc E3.out.sits (repState.mono le1 rS))
        have s0 : wc.cell? ⟨gS, 0, none⟩ = some (.int .i64 s.next) := Sits_at E3.out.sits hbS rfl
        have s1 : wc.cell? ⟨gS, 1, none⟩ = some (.slice A1 s.inodes.length c1) := Sits_at E3.out.sits hbS rfl
        have s2 : wc.cell? ⟨gS, 2, none⟩ = some (.slice A2 s.bads.length c2) := Sits_at E3.out.sits hbS rfl
        clear hpar
        go_upto_region 7 with (go_at_call 88; refine KR.out.mono ?_; rintro e w5 ⟨rfl, F5, hnz⟩; have E5 := hid (E3.out.trans F5); clear F5 s0 s1 s2)
        by_cases hcode : code = 0
        · subst hcode
          obtain ⟨v, hv⟩ : ∃ v, findI s.inodes no = v := ⟨_, rfl⟩
          have KF := hid (ref_FindInode s _ no v hv h1 w5 E5.out.sits (repState.mono le1 rS))
          obtain ⟨d, hd⟩ : ∃ d, v.getD zeroI = d := ⟨_, rfl⟩
          have HML := hid (makeP_late (target := target) (d := d) HK1.out HK2.out HPAR.out (by rw [hv]; exact hd))
          have hmid : midI d := by
            subst hd
            cases v with
            | none => exact midI_zero
            | some x => exact HENT.out x (mem_of_findI hv)
          have HEL := hid hmid.1
          have HLB := hid hmid.2.1
          have s0 : w5.cell? ⟨gS, 0, none⟩ = some (.int .i64 s.next) := Sits_at E5.out.sits hbS rfl
          have s1 : w5.cell? ⟨gS, 1, none⟩ = some (.slice A1 s.inodes.length c1) := Sits_at E5.out.sits hbS rfl
          have s2 : w5.cell? ⟨gS, 2, none⟩ = some (.slice A2 s.bads.length c2) := Sits_at E5.out.sits hbS rfl
          clear hv hmid
          go_upto_region 10 with (go_at_call 14; refine KF.out.mono ?_; rintro e w6 ⟨cs6, h6, rfl, r6, F6⟩; rw [hd] at r6; obtain ⟨A5, c5, A6, c6, rfl⟩ := r6.open; have E6 := hid (E5.out.trans F6); have l6 := hid F6.le; have r6 := hid r6; clear F6 s0 s1 s2)
          clear hd
          obtain ⟨sz5, k5, row5, k6, row6⟩ := r6.out.ent
          have E7 := E6.out.alloc (.cells #[.int .i64 d.no, .int .i64 d.kind, .int .i64 d.links, .int .i64 d.size, .string d.target, .slice A5 d.entries.length c5, .slice A6 d.runs.length c6] 37)
          have hb7 := heap_new w6 (.cells #[.int .i64 d.no, .int .i64 d.kind, .int .i64 d.links, .int .i64 d.size, .string d.target, .slice A5 d.entries.length c5, .slice A6 d.runs.length c6] 37)
          have n7 := hid (E6.out.sits.none (Nat.le_refl _))
          have hg7 := hid E6.out.size
          generalize w6.heap.size = g at *
          with_reducible generalize w6.alloc (.cells #[.int .i64 d.no, .int .i64 d.kind, .int .i64 d.links, .int .i64 d.size, .string d.target, .slice A5 d.entries.length c5, .slice A6 d.runs.length c6] 37) = w7 at E7 hb7 ⊢
          have E7 := hid E7
          have hb7 := hid hb7
          have lS := hid (l6.out _ _ hbS)
          obtain ⟨v1, hv1⟩ : ∃ v1, findE d.entries name = v1 := ⟨_, rfl⟩
          have HV1 := hid hv1
          have KE := hid (ref_Find d.entries A5 c5 name hnz v1 hv1 h6 w7 E7.out.sits row5)
          have m5 : w7.cell? ⟨g, 5, none⟩ = some (.slice A5 d.entries.length c5) := box_cell (j := 5) hb7.out rfl
          clear hv1
          go_upto_region 11 with (go_at_call 89; refine KE.out.mono ?_; rintro e w8 ⟨rfl, F8⟩; have E8 := hid (E7.out.trans F8); have hb8 := hid (F8.row hb7.out); clear F8 m5)
          cases v1 with
          | some no1 =>
            have HQ := hid (show makeP s path kind target = ([], 0, 12) by rw [HML.out, HV1.out]; rfl)
            dsimp only [Option.isSome_some, Option.getD_some] at *
            go_wp2_with fail
            go_ret3
            exact (by rw [HQ.out]; exact ⟨none, 0, h, rfl, ⟨Nat.zero_le _, fun _ => rfl, by decide⟩, RowAt.nil _ _, E8.out.back⟩)
          | none =>
            dsimp only [Option.isSome_none, Option.getD_none] at *
            have HMM := hid (HML.out.trans (by rw [HV1.out, if_neg (by simp)]))
            have q1 : w8.cell? ⟨gS, 1, none⟩ = some (.slice A1 s.inodes.length c1) := Sits_at E8.out.sits lS.out rfl
            by_cases h200 : 200 ≤ s.inodes.length
            · have HQ := hid (show makeP s path kind target = ([], 0, 10) by rw [HMM.out, if_pos h200])
              go_wp2_with fail
              go_ret3
              exact (by rw [HQ.out]; exact ⟨none, 0, h, rfl, ⟨Nat.zero_le _, fun _ => rfl, by decide⟩, RowAt.nil _ _, E8.out.back⟩)
            · have HMN := hid (HMM.out.trans (by rw [if_neg h200]))
              have m2 : w8.cell? ⟨g, 2, none⟩ = some (.int .i64 d.links) := box_cell (j := 2) hb8.out rfl
              have hlt200 : s.inodes.length < 200 := by omega
              clear h200
              obtain ⟨b9, hb9⟩ : ∃ b9, decide (kind = 2 ∧ 100 ≤ d.links) = b9 := ⟨_, rfl⟩
              have HB9 := hid hb9
              clear hb9
              go_upto_region 15 with (fail)
              go_cut [75] (fun s82 wx => s82 = .bool b9 ∧ wx = w8)
              case first =>
                by_cases hk2 : kind = 2
                · subst hk2
                  by_cases hdl : 100 ≤ d.links
                  · have HB1 := hid (show true = b9 by rw [← HB9.out]; simp [hdl])
                    go_wp2_with fail
                    go_meet
                    exact ⟨by rw [← HB1.out], rfl⟩
                  · have HB1 := hid (show false = b9 by rw [← HB9.out]; simp [hdl])
                    go_wp2_with fail
                    go_meet
                    exact ⟨by rw [← HB1.out], rfl⟩
                · have bk : (kind == 2) = false := by simpa using hk2
                  have HB1 := hid (show false = b9 by rw [← HB9.out]; simp [hk2])
                  clear hk2
                  go_wp2_with fail
                  go_meet
                  exact ⟨by rw [← HB1.out], rfl⟩
              case rest =>
                obtain ⟨rfl, rfl⟩ := hcut
                cases b9
                · have HNB := hid (of_decide_eq_false HB9.out)
                  have HMO := hid (HMN.out.trans (by rw [if_neg HNB.out]))
                  obtain ⟨ac, hac⟩ : ∃ ac, addC d.entries ⟨name, s.next⟩ = ac := ⟨_, rfl⟩
                  obtain ⟨al, hal⟩ : ∃ al, addL d.entries ⟨name, s.next⟩ = al := ⟨_, rfl⟩
                  have KA := ref_AddEntry d.entries A5 c5 k5.nn k5.le k5.mx HEL.out ⟨name, s.next⟩ hnz h6 wc E8.out.sits row5
                  rw [hac, hal] at KA
                  have KA := hid KA
                  have HAC := hid hac
                  have HAL := hid hal
                  have hall : al.length ≤ 1001 := by
                    rw [← hal]; unfold addL; split
                    · unfold insE; have := HEL.out; simp; omega
                    · simp
                  have q0 : wc.cell? ⟨gS, 0, none⟩ = some (.int .i64 s.next) := Sits_at E8.out.sits lS.out rfl
                  have m5 : wc.cell? ⟨g, 5, none⟩ = some (.slice A5 d.entries.length c5) := box_cell (j := 5) hb8.out rfl
                  clear hac hal q1 m2
                  go_upto_region 18 with (go_at_call 90; refine KA.out.mono ?_; rintro e w9 R; obtain ⟨A9, c9, h9, rfl, r9, F9, u0, u1, u2⟩ := R.stayX (by omega); have E9 := hid (E8.out.trans F9); have hb9 := hid (F9.row hb8.out); have n9 := hid (F9.none n7.out (Array.getElem?_eq_some_iff.1 hb8.out).1); have l9 := hid F9.le; have k9 := hid (show CapLe A9 al.length c9 from ⟨u1, u0, u2⟩); have r9 := hid r9; clear F9 u0 u1 u2 R q0 m5)
                  by_cases hac : ac = 0
                  · subst hac
                    have HMP := hid (show makeP s path kind target = ([⟨1, s.next + 1, zeroI⟩, putD (makeD d name s.next kind), putD (newI s.next kind target)], s.next, 0) by rw [HMO.out, if_neg (by rw [HAC.out]; simp)])
                    have f5 := box_free (j := 5) hb9.out
                    have m5 := box_cell (j := 5) (v := .slice A5 d.entries.length c5) hb9.out rfl
                    go_upto_region 21 with (fail)
                    have hb10 := hid (box7_5 hb9.out (.slice A9 al.length c9))
                    have E10 := hid (E9.out.setCell (p := ⟨g, 5, none⟩) hg7.out n9.out (.slice A9 al.length c9))
                    with_reducible generalize w9.setCell ⟨g, 5, none⟩ (.slice A9 al.length c9) = w10 at hb10 E10 ⊢
                    clear f5 m5 hb9
                    obtain ⟨lk, hlk⟩ : ∃ lk, (if kind = 2 then d.links + 1 else d.links) = lk := ⟨_, rfl⟩
                    have HLK := hid hlk
                    clear hlk
                    go_upto_if 99 with (fail)
                    go_cut [0] (fun s0 wx => Hid (wx.heap[g]? = some (.cells #[.int .i64 d.no, .int .i64 d.kind, .int .i64 lk, .int .i64 d.size, .string d.target, .slice A9 al.length c9, .slice A6 d.runs.length c6] 37 (0, 0))) ∧ Hid (Ext h w h9 wx))
                    case first =>
                      by_cases hk2 : kind = 2
                      · subst hk2
                        have hl100 : d.links < 100 := by have q := HNB.out; omega
                        have hlb := HLB.out
                        have m2 := box_cell (j := 2) (v := .int .i64 d.links) hb10.out rfl
                        have f2 := box_free (j := 2) hb10.out
                        have HL := hid (show d.links + 1 = lk by rw [← HLK.out, if_pos rfl])
                        go_wp2_with fail
                        go_meet
                        exact ⟨hid (by rw [← HL.out]; exact box7_2 hb10.out _), hid (E10.out.setCell hg7.out n9.out _)⟩
                      · have bk : (kind == 2) = false := by simpa using hk2
                        have HL := hid (show d.links = lk by rw [← HLK.out, if_neg hk2])
                        clear hk2
                        go_wp2_with fail
                        go_meet
                        exact ⟨hid (by rw [← HL.out]; exact hb10.out), E10⟩
                    case rest =>
                      obtain ⟨hb11, E11⟩ := hcut
                      have E12 := E11.out.add hb11.out n9.out hg7.out
                      have hb12 := FH.add_same h9 g (.cells #[.int .i64 d.no, .int .i64 d.kind, .int .i64 lk, .int .i64 d.size, .string d.target, .slice A9 al.length c9, .slice A6 d.runs.length c6] 37 (0, 0))
                      have l12 := hid (FLe.add n9.out (.cells #[.int .i64 d.no, .int .i64 d.kind, .int .i64 lk, .int .i64 d.size, .string d.target, .slice A9 al.length c9, .slice A6 d.runs.length c6] 37 (0, 0)))
                      have lS12 := hid (l12.out _ _ (l9.out _ _ lS.out))
                      generalize h9.add g (.cells #[.int .i64 d.no, .int .i64 d.kind, .int .i64 lk, .int .i64 d.size, .string d.target, .slice A9 al.length c9, .slice A6 d.runs.length c6] 37 (0, 0)) = h12 at *
                      have hMD := hid (show makeD d name s.next kind = ⟨d.no, d.kind, lk, d.size, d.target, al, d.runs⟩ by unfold makeD; rw [HAL.out, HLK.out])
                      have hc0 : ∀ w' : World, Ext h w h12 w' → w'.cell? ⟨g, 0, none⟩ = some (.int .i64 d.no) := fun w' E => Sits_at E.sits hb12 rfl
                      have hc1 : ∀ w' : World, Ext h w h12 w' → w'.cell? ⟨g, 1, none⟩ = some (.int .i64 d.kind) := fun w' E => Sits_at E.sits hb12 rfl
                      have hc2 : ∀ w' : World, Ext h w h12 w' → w'.cell? ⟨g, 2, none⟩ = some (.int .i64 lk) := fun w' E => Sits_at E.sits hb12 rfl
                      have hc3 : ∀ w' : World, Ext h w h12 w' → w'.cell? ⟨g, 3, none⟩ = some (.int .i64 d.size) := fun w' E => Sits_at E.sits hb12 rfl
                      have hc4 : ∀ w' : World, Ext h w h12 w' → w'.cell? ⟨g, 4, none⟩ = some (.string d.target) := fun w' E => Sits_at E.sits hb12 rfl
                      have hc5 : ∀ w' : World, Ext h w h12 w' → w'.cell? ⟨g, 5, none⟩ = some (.slice A9 al.length c9) := fun w' E => Sits_at E.sits hb12 rfl
                      have hc6 : ∀ w' : World, Ext h w h12 w' → w'.cell? ⟨g, 6, none⟩ = some (.slice A6 d.runs.length c6) := fun w' E => Sits_at E.sits hb12 rfl
                      have hq0 : ∀ w' : World, Ext h w h12 w' → w'.cell? ⟨gS, 0, none⟩ = some (.int .i64 s.next) := fun w' E => Sits_at E.sits lS12.out rfl
                      have KN := hid (fun (w' : World) (hs' : Sits h12 w') => ref_NewInode s.next kind target htz h12 w' hs')
                      have KPa := hid (fun (w' : World) (hs' : Sits h12 w') => ref_putDeed ⟨d.no, d.kind, lk, d.size, d.target, al, d.runs⟩ A9 c9 A6 c6 h12 w' hs')
                      have KPb := hid (fun (w' : World) (hs' : Sits h12 w') => (ref_putDeed (newI s.next kind target) none 0 none 0 h12 w' hs' : Calls Try.prog 91 #[newV s.next kind target] w' fun e w2 => e = .returned (.agg #[.int .i64 2, .int .i64 0, .int .i64 s.next, .int .i64 kind, .int .i64 (newI s.next kind target).links, .int .i64 (newI s.next kind target).size, .string (newI s.next kind target).target, .slice none 0 0, .slice none 0 0]) ∧ Ext h12 w' h12 w2))
                      have E13 := E12.drew
                      have hwr : IntKind.i64.wrap (s.next + 1) = s.next + 1 := by rw [IntKind.wrap_i64]; omega
                      clear hb11 E10 hb10
                      go_upto_region 23 with (fail)
                      go_region_held3 (fun w' => Ext h w h12 w') (first | with_reducible assumption | with_reducible exact Eg | with_reducible exact Ext.alloc Eg _) (first | (go_at_call 91; with_reducible refine (KPa.out _ (Ext.sits (h := h) (h' := h12) (w := w) (by with_reducible assumption))).mono ?_; rintro e wf ⟨rfl, Ef⟩; have Eg := Ext.trans (h := h) (w := w) (h1 := h12) (by with_reducible assumption) Ef; clear Ef) | (go_at_call 91; refine (KPb.out _ (Ext.sits (h := h) (h' := h12) (w := w) (by with_reducible assumption))).mono ?_; rintro e wf ⟨rfl, Ef⟩; have Eg := Ext.trans (h := h) (w := w) (h1 := h12) (by with_reducible assumption) Ef; clear Ef) | (go_at_call 51; with_reducible refine (KN.out _ (Ext.sits (h := h) (h' := h12) (w := w) (by with_reducible assumption))).mono ?_; rintro e wf ⟨rfl, Ef⟩; have Eg := Ext.trans (h := h) (w := w) (h1 := h12) (by with_reducible assumption) Ef; clear Ef))
                      all_goals
                        go_wp2_with fail
                        obtain ⟨h14, E14, hb14, le14, hh14⟩ := Eg.boxF #[.int .i64 1, .int .i64 (s.next + 1), .int .i64 0, .int .i64 0, .int .i64 0, .int .i64 0, .string ⟨#[]⟩, .slice none 0 0, .slice none 0 0, .int .i64 2, .int .i64 0, .int .i64 d.no, .int .i64 d.kind, .int .i64 lk, .int .i64 d.size, .string d.target, .slice A9 al.length c9, .slice A6 d.runs.length c6, .int .i64 2, .int .i64 0, .int .i64 s.next, .int .i64 kind, .int .i64 (newI s.next kind target).links, .int .i64 (newI s.next kind target).size, .string (newI s.next kind target).target, .slice none 0 0, .slice none 0 0] 39
                        go_ret3
                        rw [HMP.out, hMD.out]
                        exact ⟨some ⟨wf.heap.size, 0, none⟩, 3, h14, rfl, ⟨Nat.le_refl _, (fun e => by cases e), by decide⟩, RowAt.of_block hb14 ⟨[.int .i64 1, .int .i64 (s.next + 1), .int .i64 0, .int .i64 0, .int .i64 0, .int .i64 0, .string ⟨#[]⟩, .slice none 0 0, .slice none 0 0], _, rfl, ⟨none, 0, none, 0, rfl, Nat.zero_le _, ⟨Nat.le_refl _, fun _ => rfl, by decide⟩, RowAt.nil _ _, ⟨Nat.le_refl _, fun _ => rfl, by decide⟩, RowAt.nil _ _⟩, [.int .i64 2, .int .i64 0, .int .i64 d.no, .int .i64 d.kind, .int .i64 lk, .int .i64 d.size, .string d.target, .slice A9 al.length c9, .slice A6 d.runs.length c6], _, rfl, ⟨A9, c9, A6, c6, rfl, sz5, k9.out, r9.out.mono (l12.out.trans le14), k6, row6.mono (l9.out.trans (l12.out.trans le14))⟩, [.int .i64 2, .int .i64 0, .int .i64 s.next, .int .i64 kind, .int .i64 (newI s.next kind target).links, .int .i64 (newI s.next kind target).size, .string (newI s.next kind target).target, .slice none 0 0, .slice none 0 0], [], rfl, ⟨none, 0, none, 0, rfl, newI_size _ _ _ htz, ⟨Nat.le_refl _, fun _ => rfl, by decide⟩, RowAt.nil _ _, ⟨Nat.le_refl _, fun _ => rfl, by decide⟩, RowAt.nil _ _⟩, rfl⟩ (by show 3 ≤ 9223372036854775807; decide), E14.drop (FLe.trans le1 (l6.out.trans (l9.out.trans (l12.out.trans le14)))) (FLe.refl _)⟩
                  · have hb : (ac == 0) = false := by simpa using hac
                    have hb2 : (ac != 0) = true := by simpa using hac
                    have HQ := hid (show makeP s path kind target = ([], 0, ac) by rw [HMO.out, if_pos (by rw [HAC.out]; exact hac), HAC.out])
                    clear hac
                    go_wp2_with fail
                    go_ret3
                    exact (by rw [HQ.out]; exact ⟨none, 0, h, rfl, ⟨Nat.zero_le _, fun _ => rfl, by decide⟩, RowAt.nil _ _, E9.out.back⟩)
                · have HQ := hid (show makeP s path kind target = ([], 0, 18) by rw [HMN.out, if_pos (of_decide_eq_true HB9.out)])
                  go_wp2_with fail
                  go_ret3
                  exact (by rw [HQ.out]; exact ⟨none, 0, h, rfl, ⟨Nat.zero_le _, fun _ => rfl, by decide⟩, RowAt.nil _ _, E8.out.back⟩)
        · have hb : (code == 0) = false := by simpa using hcode
          have hb2 : (code != 0) = true := by simpa using hcode
          have HQ := hid (show makeP s path kind target = ([], 0, code) by rw [makeP_par HK1.out HK2.out (by rw [HPAR.out]; exact hcode), HPAR.out])
          clear hcode
          go_wp2_with fail
          go_ret3
          exact (by rw [HQ.out]; exact ⟨none, 0, h, rfl, ⟨Nat.zero_le _, fun _ => rfl, by decide⟩, RowAt.nil _ _, E5.out.back⟩)
      · have HQ := hid (show makeP s path kind target = ([], 0, 17) by unfold makeP; rw [if_neg HK1.out, if_pos (by rw [HTB.out, HPC.out]; exact of_decide_eq_true HB0.out)])
        go_wp2_with fail
        go_ret3
        exact (by rw [HQ.out]; exact ⟨none, 0, h, rfl, ⟨Nat.zero_le _, fun _ => rfl, by decide⟩, RowAt.nil _ _, E3.out.back⟩)
end Go.Proofs.Ytkglaofiencfdaa
