import Derived.Test.YtcnbnehammbncaaDoorWk
namespace Go.Proofs.YtcnbnehammbncaaDoor
open Go.RowKit Go.Sort
set_option linter.unusedVariables false
set_option maxHeartbeats 8000000 in
set_option maxRecDepth 100000 in
theorem ref_step (s : State) (A1 : Option Addr) (c1 : Nat) (A2 : Option Addr) (c2 : Nat) (K : Option Addr) (cK : Nat) (st : Wk) (name : ByteArray) (hsz : name.size ≤ 9223372036854775807) (follow : Bool) (gw : Nat) (hk1 : 1 ≤ st.kept.length) (hk2 : st.kept.length ≤ 1000000) (hl0 : 0 ≤ st.loops) (hl1 : st.loops ≤ 100) (h : FH) (w : World) (hs : Sits h w) (rS : repState h [.int .i64 s.next, .slice A1 s.inodes.length c1, .slice A2 s.bads.length c2] s) (I : WkAt h w gw s A1 c1 A2 c2 K cK st) :
    Calls Tryd.prog 54 #[.pointer (some ⟨gw, 0, none⟩), .string name, .bool follow] w fun e w' => RetStep h w gw s A1 c1 A2 c2 (stepW s.inodes st name follow) e w' := by
  obtain ⟨v, hv⟩ : ∃ v, findI s.inodes st.at_ = v := ⟨_, rfl⟩
  have HV := hid hv
  have K1 := hid (fun (h' : FH) w' hs' (l : FLe h h') => ref_FindInode s _ st.at_ v hv h' w' hs' (rS.mono l))
  have KN := hid (fun (no : Int) (v : Option Inode) (hv : findI s.inodes no = v) (h' : FH) w' hs' (l : FLe h h') => ref_FindInode s _ no v hv h' w' hs' (rS.mono l))
  have b0 : ∀ w' : World, Ext h w h w' → w'.cell? ⟨gw, 0, none⟩ = some (.int .i64 s.next) := fun w' E => box_cell (j := 0) (I.more E).box rfl
  have b1 : ∀ w' : World, Ext h w h w' → w'.cell? ⟨gw, 1, none⟩ = some (.slice A1 s.inodes.length c1) := fun w' E => box_cell (j := 1) (I.more E).box rfl
  have b2 : ∀ w' : World, Ext h w h w' → w'.cell? ⟨gw, 2, none⟩ = some (.slice A2 s.bads.length c2) := fun w' E => box_cell (j := 2) (I.more E).box rfl
  have b4 : ∀ w' : World, Ext h w h w' → w'.cell? ⟨gw, 4, none⟩ = some (.int .i64 st.at_) := fun w' E => box_cell (j := 4) (I.more E).box rfl
  have Er := Ext.refl hs
  have hb3 := hid (heap_new w (.cells #[.int .i64 0, .int .i64 0, .int .i64 0, .int .i64 0, .string ⟨#[]⟩, .slice none 0 0, .slice none 0 0] 50))
  have hn3 := hid (hs.none (Nat.le_refl w.heap.size))
  have hl3 := hid (show w.heap.size < (w.alloc (.cells #[.int .i64 0, .int .i64 0, .int .i64 0, .int .i64 0, .string ⟨#[]⟩, .slice none 0 0, .slice none 0 0] 50)).heap.size by simp)
  have II := hid I
  have hwl := (Array.getElem?_eq_some_iff.1 I.box).1
  clear hv I
  go_enter Tryd.func54, Tryd.ntmps54
  go_upto_region 1 with (fail)
  go_cut [8, 9] (fun s8 s9 wx => s9 = .bool v.isSome ∧ InBox h w h (v.getD zeroI) s8 wx)
  case first =>
    go_region_held3 (fun w' => Ext h w h w') (first | with_reducible assumption | with_reducible exact Eg | with_reducible exact Ext.alloc Eg _ | with_reducible exact (Ext.alloc Er _).drew | with_reducible exact Er.drew | exact Ext.setCells (Nat.le_refl _) hn3.out [.int .i64 (v.getD zeroI).no, .int .i64 (v.getD zeroI).kind, .int .i64 (v.getD zeroI).links, .int .i64 (v.getD zeroI).size, .string (v.getD zeroI).target, .slice A5 (v.getD zeroI).entries.length c5, .slice A6 (v.getD zeroI).runs.length c6] 0 _ Eg) (first | (go_at_call 22; refine (K1.out h _ (Ext.sits (h := h) (w := w) (h' := h) (by with_reducible assumption)) (FLe.refl h)).mono ?_; rintro e w2 ⟨cs2, h2, rfl, r2, F2⟩; obtain ⟨A5, c5, A6, c6, rfl⟩ := r2.open; have R2 := hid r2; have E4 := hid (Ext.trans (h := h) (w := w) (h1 := h) (by with_reducible assumption) F2); have Eg := E4.out.back; have l4 := hid F2.le; (first | (have hb4 := F2.row (heap_new w (.cells #[.int .i64 0, .int .i64 0, .int .i64 0, .int .i64 0, .string ⟨#[]⟩, .slice none 0 0, .slice none 0 0] 50)); have hn4 := hid (F2.none hn3.out hl3.out); have z0 := box_cell (j := 0) (v := .int .i64 0) hb4 rfl; have f0 := box_free (j := 0) hb4; have z1 := box_cell (j := 1) (v := .int .i64 0) hb4 rfl; have f1 := box_free (j := 1) hb4; have z2 := box_cell (j := 2) (v := .int .i64 0) hb4 rfl; have f2 := box_free (j := 2) hb4; have z3 := box_cell (j := 3) (v := .int .i64 0) hb4 rfl; have f3 := box_free (j := 3) hb4; have z4 := box_cell (j := 4) (v := .string ⟨#[]⟩) hb4 rfl; have f4 := box_free (j := 4) hb4; have z5 := box_cell (j := 5) (v := .slice none 0 0) hb4 rfl; have f5 := box_free (j := 5) hb4; have z6 := box_cell (j := 6) (v := .slice none 0 0) hb4 rfl; have f6 := box_free (j := 6) hb4; have hb4 := hid hb4) | skip)))
    all_goals
      go_wp2_with fail
      go_meet
      refine ⟨rfl, ?_⟩
    · exact InBox.last E4.out l4.out R2.out
    · exact InBox.set E4.out l4.out R2.out hb4.out rfl hn4.out (Nat.le_refl _)
  case rest =>
    obtain ⟨rfl, g, h3, A5, c5, A6, c6, rfl, E3, l3, hb3, R3, hg3⟩ := hcut
    have I3 := hid (II.out.more E3)
    have E3 := hid E3
    have R3 := hid R3
    clear Er hn3 hl3 b0 b1 b2 b4
    cases v with
    | none =>
      have HS := hid (show stepW s.inodes st name follow = (st, [], 11) from stepW_none HV.out)
      go_wp2_with fail
      go_ret2
      exact (by rw [HS.out]; exact ⟨none, 0, K, cK, h3, rfl, ⟨Nat.zero_le _, fun _ => rfl, by decide⟩, RowAt.nil _ _, I3.out, OExt.of E3.out (some gw)⟩)
    | some x =>
      dsimp only [Option.getD_some, Option.isSome_some] at *
      have m1 : wc.cell? ⟨g, 1, none⟩ = some (.int .i64 x.kind) := Sits_at E3.out.sits hb3 rfl
      have m5 : wc.cell? ⟨g, 5, none⟩ = some (.slice A5 x.entries.length c5) := Sits_at E3.out.sits hb3 rfl
      by_cases hk : x.kind = 2
      · have b2 : (x.kind == 2) = true := by simpa using hk
        have b2n : (x.kind != 2) = false := by simpa using hk
        have HK := hid hk
        clear hk
        obtain ⟨q, hq⟩ : ∃ q, (name.toList == [46, 46]) = q := ⟨_, rfl⟩
        have HQ := hid hq
        cases q
        · obtain ⟨v1, hv1⟩ : ∃ v1, findE x.entries name = v1 := ⟨_, rfl⟩
          obtain ⟨v2, hv2⟩ : ∃ v2, findI s.inodes (v1.getD 0) = v2 := ⟨_, rfl⟩
          obtain ⟨sz5, k5, row5, k6, row6⟩ := R3.out.ent
          have K2 := hid (fun (w' : World) (hs' : Sits h3 w') => ref_Find x.entries A5 c5 name hsz v1 hv1 h3 w' hs' row5)
          have K3 := hid (fun (w' : World) (hs' : Sits h3 w') => KN.out _ v2 hv2 h3 w' hs' l3)
          have HV1 := hid hv1
          have HV2 := hid hv2
          have J0 := fun (w' : World) (E : Ext h3 wc h3 w') => box_cell (j := 0) (v := .int .i64 s.next) (I3.out.more E).box rfl
          have J1 := fun (w' : World) (E : Ext h3 wc h3 w') => box_cell (j := 1) (v := .slice A1 s.inodes.length c1) (I3.out.more E).box rfl
          have J2 := fun (w' : World) (E : Ext h3 wc h3 w') => box_cell (j := 2) (v := .slice A2 s.bads.length c2) (I3.out.more E).box rfl
          have J0 := hid J0
          have J1 := hid J1
          have J2 := hid J2
          clear hv1 hv2 row6 k6 k5 sz5
          go_upto_region 13 with (first
            | (go_at_call 39; refine (K2.out _ E3.out.sits).mono ?_; rintro e w4 ⟨rfl, F4⟩; have n0 := J0.out _ F4; have n1 := J1.out _ F4; have n2 := J2.out _ F4; have F4 := hid F4)
            | (go_at_call 22; refine (K3.out _ F4.out.sits).mono ?_; rintro e w5 ⟨cs5, h5, rfl, r5, F5⟩; obtain ⟨A7, c7, A8, c8, rfl⟩ := r5.open; have R5 := hid r5; have E5 := hid ((E3.out.trans F4.out).trans F5); have I5 := hid (I3.out.more (F4.out.trans F5)); have F5 := hid F5; clear n0 n1 n2))
          have l5 := l3.trans F5.out.le
          obtain ⟨h6, E6, hb6, le6, hh6⟩ := E5.out.boxF #[.int .i64 (v2.getD zeroI).no, .int .i64 (v2.getD zeroI).kind, .int .i64 (v2.getD zeroI).links, .int .i64 (v2.getD zeroI).size, .string (v2.getD zeroI).target, .slice A7 (v2.getD zeroI).entries.length c7, .slice A8 (v2.getD zeroI).runs.length c8] 50
          have F6 : Ext h5 w5 h6 (w5.alloc (.cells #[.int .i64 (v2.getD zeroI).no, .int .i64 (v2.getD zeroI).kind, .int .i64 (v2.getD zeroI).links, .int .i64 (v2.getD zeroI).size, .string (v2.getD zeroI).target, .slice A7 (v2.getD zeroI).entries.length c7, .slice A8 (v2.getD zeroI).runs.length c8] 50)) := by rw [hh6]; exact ((Ext.refl F5.out.sits).alloc _).add (heap_new _ _) (F5.out.sits.none (Nat.le_refl _)) (Nat.le_refl _)
          have I6 := hid (I5.out.more F6)
          have R6 := hid (R5.out.mono le6)
          have l6 := hid (l5.trans le6)
          generalize hg6 : w5.heap.size = g6 at *
          with_reducible generalize w5.alloc (.cells #[.int .i64 (v2.getD zeroI).no, .int .i64 (v2.getD zeroI).kind, .int .i64 (v2.getD zeroI).links, .int .i64 (v2.getD zeroI).size, .string (v2.getD zeroI).target, .slice A7 (v2.getD zeroI).entries.length c7, .slice A8 (v2.getD zeroI).runs.length c8] 50) = w6 at E6 I6 ⊢
          have E6 := hid E6
          clear hh6 F6 l5 le6 hg6 E5 R5 I5 F5 F4 K2 K3 K1 m1 m5
          cases v1 with
          | none =>
            have HS := hid (show stepW s.inodes st name follow = (st, [], 11) from stepW_noE HV.out HK.out HQ.out HV1.out)
            dsimp only [Option.isSome_none, Option.getD_none] at *
            go_wp2_with fail
            go_ret2
            exact (by rw [HS.out]; exact ⟨none, 0, K, cK, h6, rfl, ⟨Nat.zero_le _, fun _ => rfl, by decide⟩, RowAt.nil _ _, I6.out, OExt.of E6.out (some gw)⟩)
          | some no =>
            dsimp only [Option.isSome_some, Option.getD_some] at *
            cases v2 with
            | none =>
              have HS := hid (show stepW s.inodes st name follow = (st, [], 11) from stepW_noI HV.out HK.out HQ.out HV1.out HV2.out)
              dsimp only [Option.isSome_none, Option.getD_none] at *
              go_wp2_with fail
              go_ret2
              exact (by rw [HS.out]; exact ⟨none, 0, K, cK, h6, rfl, ⟨Nat.zero_le _, fun _ => rfl, by decide⟩, RowAt.nil _ _, I6.out, OExt.of E6.out (some gw)⟩)
            | some y =>
              dsimp only [Option.isSome_some, Option.getD_some] at *
              have HU2 := hid (stepW_some (follow := follow) HV.out HK.out HQ.out HV1.out HV2.out)
              have o1 : w6.cell? ⟨g6, 1, none⟩ = some (.int .i64 y.kind) := Sits_at E6.out.sits hb6 rfl
              have o4 : w6.cell? ⟨g6, 4, none⟩ = some (.string y.target) := Sits_at E6.out.sits hb6 rfl
              have p5 : w6.cell? ⟨gw, 5, none⟩ = some (.int .i64 st.loops) := box_cell (j := 5) I6.out.box rfl
              have f5 := box_free (j := 5) I6.out.box
              by_cases hlk : y.kind = 3 ∧ follow = true
              · obtain ⟨hk3, rfl⟩ := hlk
                have b3 : (y.kind == 3) = true := by simpa using hk3
                have HK3 := hid hk3
                clear hk3
                by_cases h8 : 8 ≤ st.loops
                · have HS := hid (show stepW s.inodes st name true = (st, [], 16) from HU2.out.trans (follW_loop HK3.out h8))
                  go_wp2_with fail
                  go_ret2
                  exact (by rw [HS.out]; exact ⟨none, 0, K, cK, h6, rfl, ⟨Nat.zero_le _, fun _ => rfl, by decide⟩, RowAt.nil _ _, I6.out, OExt.of E6.out (some gw)⟩)
                · have H8 := hid h8
                  have hl7 : st.loops < 8 := by omega
                  clear h8
                  obtain ⟨sz6, _⟩ := R6.out.ent
                  go_upto_region 19 with (fail)
                  have I7 := hid (I6.out.loop (st.loops + 1))
                  have X7 := hid ((OExt.of E6.out (some gw)).set1 I6.out.free 5 (.int .i64 (st.loops + 1)))
                  have q4 : (w6.setCell ⟨gw, 5, none⟩ (.int .i64 (st.loops + 1))).cell? ⟨g6, 4, none⟩ = some (.string y.target) := Sits_at X7.out.sits hb6 rfl
                  with_reducible generalize w6.setCell ⟨gw, 5, none⟩ (.int .i64 (st.loops + 1)) = w7 at I7 X7 q4 ⊢
                  clear o1 o4 p5 f5
                  have KP := hid (ref_Parts y.target sz6 h6 w7 X7.out.sits)
                  go_upto_region 20 with (go_at_call 37; refine KP.out.mono ?_; rintro e w8 R; obtain ⟨A9, c9, h8, rfl, k9, r9, F8⟩ := R.stayX (by have := (ways_lenW y.target).2; omega); have I8 := hid (I7.out.more F8); have X8 := hid (X7.out.ext F8); have k9 := hid k9; have r9 := hid r9; clear F8 R)
                  clear q4
                  by_cases hc : partsCode y.target = 0
                  · have bc : (partsCode y.target != 0) = false := by simp [hc]
                    have bd : (partsCode y.target == 0) = true := by simp [hc]
                    have HC := hid hc
                    obtain ⟨t, ht⟩ : ∃ t, partsTop y.target = t := ⟨_, rfl⟩
                    have HT := hid ht
                    clear hc
                    rw [ht]
                    clear ht
                    cases t
                    · have HS := hid (show stepW s.inodes st name true = (⟨st.kept, st.at_, st.loops + 1⟩, partsXs y.target, 0) from HU2.out.trans (follW_from HK3.out (by have q := H8.out; omega) HC.out HT.out))
                      go_wp2_with fail
                      go_ret2
                      rw [HC.out]
                      exact (by rw [HS.out]; exact ⟨A9, c9, K, cK, h8, rfl, k9.out, r9.out, I8.out, X8.out⟩)
                    · have HS := hid (show stepW s.inodes st name true = (⟨[1], 1, st.loops + 1⟩, partsXs y.target, 0) from HU2.out.trans (follW_top HK3.out (by have q := H8.out; omega) HC.out HT.out))
                      have E9 := (Ext.refl X8.out.sits).alloc (.cells #[.int .i64 1] 3)
                      obtain ⟨h9, F9, hb9, le9, hh9⟩ := (Ext.refl X8.out.sits).boxF #[.int .i64 1] 3
                      have I9 := hid (I8.out.more F9)
                      have X9 := hid (X8.out.ext F9)
                      have z3 := box_cell (j := 3) (v := .slice K st.kept.length cK) I9.out.box rfl
                      have z4 := box_cell (j := 4) (v := .int .i64 st.at_) I9.out.box rfl
                      have e3 := box_free (j := 3) I9.out.box
                      have e4 := box_free (j := 4) I9.out.box
                      have r10 := hid (show RowAt h9 (some ⟨w8.heap.size, 0, none⟩) [(1 : Int)] from RowAt.of_block hb9 (Reps.single rfl) (by decide))
                      clear hh9 E9
                      go_wp2_with fail
                      have I10 := hid ((I9.out.keep (ks := [1]) (B := some ⟨w8.heap.size, 0, none⟩) (cB := 1) ⟨Nat.le_refl _, (fun e => by cases e), by decide⟩ r10.out).at_ 1)
                      have X10 := hid ((X9.out.set1 I9.out.free 3 (.slice (some ⟨w8.heap.size, 0, none⟩) 1 1)).set1 I9.out.free 4 (.int .i64 1))
                      go_ret2
                      rw [HC.out]
                      exact (by rw [HS.out]; exact ⟨A9, c9, some ⟨w8.heap.size, 0, none⟩, 1, h9, rfl, k9.out, r9.out.mono le9, I10.out, X10.out⟩)
                  · have bc : (partsCode y.target != 0) = true := by simp [hc]
                    have bd : (partsCode y.target == 0) = false := by simp [hc]
                    have HS := hid (show stepW s.inodes st name true = (⟨st.kept, st.at_, st.loops + 1⟩, [], partsCode y.target) from HU2.out.trans (follW_bad HK3.out (by have q := H8.out; omega) hc))
                    clear hc
                    go_wp2_with fail
                    go_ret2
                    exact (by rw [HS.out]; exact ⟨none, 0, K, cK, h8, rfl, ⟨Nat.zero_le _, fun _ => rfl, by decide⟩, RowAt.nil _ _, I8.out, X8.out⟩)
              · have HLK := hid hlk
                obtain ⟨t3, ht3⟩ : ∃ t3, (y.kind == 3) = t3 := ⟨_, rfl⟩
                have hnb : (t3 && follow) = false := by
                  rw [← ht3]
                  cases follow
                  · simp
                  · simp at hlk; simp [hlk]
                have p3 := box_cell (j := 3) (v := .slice K st.kept.length cK) I6.out.box rfl
                have p4 := box_cell (j := 4) (v := .int .i64 st.at_) I6.out.box rfl
                have f3 := box_free (j := 3) I6.out.box
                have f4 := box_free (j := 4) I6.out.box
                have HB1 := hid (show (([] : List Int).length + st.kept.length) * 8 ≤ 140737488355328 by simp; omega)
                have HB2 := hid (show (([] ++ st.kept : List Int).length + 1) * 8 ≤ 140737488355328 by simp; omega)
                clear hlk
                by_cases hk2 : y.kind = 2
                · have b2' : (y.kind == 2) = true := by simpa using hk2
                  have b3 : (y.kind == 3) = false := by rw [hk2]; rfl
                  have HS := hid (show stepW s.inodes st name follow = (⟨st.kept ++ [no], no, st.loops⟩, [], 0) from HU2.out.trans (follW_dir hk2))
                  clear hk2 ht3 hnb
                  go_wp2_with (first
                    | (at_builtin; refine wpList_appendR rfl _ _ 26 rfl w6.heap.size 3 8 ty_Int (.slice none 0 0) [] st.kept rfl (OwnL.nil _ _ _ _) E6.out.sits _ _ _ rfl rfl I6.out.kr HB1.out (by decide) (Nat.le_refl _) ?_; intro v7 w7 O7 hg7 _; have G7 := hid ((Ext.refl E6.out.sits).grown hg7 (fun k hk => by cases hk)); have O7 := hid O7; clear hg7)
                    | (at_builtin; refine wpList_append1At rfl _ _ 26 rfl w6.heap.size 3 8 ty_Int _ _ rfl (O7.out.alloc _) (G7.out.sits.alloc _) _ rfl _ no rfl (cells_of_box (heap_new _ _)) HB2.out (by decide) (G7.out.alloc _).size ?_; intro v8 w8 O8 hg8; have E8 := (G7.out.alloc _).grown hg8 (fun k hk => ⟨(O7.out.lt k hk).1, O7.out.free k hk⟩); obtain ⟨h9, A9, c9, hv9, r9, l9, E9, u0, u1, u2, f9⟩ := O8.stayX E8 (Nat.le_refl _) (by simp; omega); subst hv9; have I9 := hid (I6.out.more E9); have X9 := hid ((OExt.of E6.out (some gw)).ext E9); have z3 := box_cell (j := 3) (v := .slice K st.kept.length cK) I9.out.box rfl; have z4 := box_cell (j := 4) (v := .int .i64 st.at_) I9.out.box rfl; have e3 := box_free (j := 3) I9.out.box; have e4 := box_free (j := 4) I9.out.box; have q9 := hid (show CapLe A9 ([] ++ st.kept ++ [no]).length c9 from ⟨u0, u2, u1⟩); have r9 := hid r9; clear u0 u1 u2 f9 E9 l9 hg8 E8 O8))
                  have hlen : ([] ++ st.kept ++ [no] : List Int).length = st.kept.length + 1 := by simp
                  have I10 := (I9.out.keep q9.out r9.out).at_ no
                  have X10 := (X9.out.set1 I9.out.free 3 (.slice A9 ([] ++ st.kept ++ [no]).length c9)).set1 I9.out.free 4 (.int .i64 no)
                  rw [hlen] at I10 X10
                  have I10 := hid I10
                  have X10 := hid X10
                  go_ret2
                  exact (by rw [HS.out]; exact ⟨none, 0, A9, c9, h9, rfl, ⟨Nat.zero_le _, fun _ => rfl, by decide⟩, RowAt.nil _ _, I10.out, X10.out⟩)
                · have b2' : (y.kind == 2) = false := by simpa using hk2
                  have HS := hid (show stepW s.inodes st name follow = (⟨st.kept, no, st.loops⟩, [], 0) from HU2.out.trans (follW_plain HLK.out hk2))
                  have I10 := hid (I6.out.at_ no)
                  have X10 := hid ((OExt.of E6.out (some gw)).set1 I6.out.free 4 (.int .i64 no))
                  clear hk2
                  cases t3
                  · clear hnb
                    go_wp2_with fail
                    go_ret2
                    exact (by rw [HS.out]; exact ⟨none, 0, K, cK, h6, rfl, ⟨Nat.zero_le _, fun _ => rfl, by decide⟩, RowAt.nil _ _, I10.out, X10.out⟩)
                  · have hnb : follow = false := hnb
                    subst hnb
                    go_wp2_with fail
                    go_ret2
                    exact (by rw [HS.out]; exact ⟨none, 0, K, cK, h6, rfl, ⟨Nat.zero_le _, fun _ => rfl, by decide⟩, RowAt.nil _ _, I10.out, X10.out⟩)
        · obtain ⟨ks, hks⟩ : ∃ ks, backK st.kept = ks := ⟨_, rfl⟩
          have HKS := hid hks
          have HS := hid (show stepW s.inodes st name follow = (⟨ks, ks.getLast?.getD 0, st.loops⟩, [], 0) by rw [stepW_up HV.out HK.out HQ.out, HKS.out])
          have hkl := backK_len st.kept hk1
          rw [hks] at hkl
          clear hks
          have n3 := box_cell (j := 3) (v := .slice K st.kept.length cK) I3.out.box rfl
          go_upto_if 44 with (fail)
          go_cut [0] (fun s0 wx => s0 = .pointer (some ⟨gw, 0, none⟩) ∧ ∃ h5 B cB, Hid (OExt h w h5 wx (some gw)) ∧ Hid (WkAt h5 wx gw s A1 c1 A2 c2 B cB { st with kept := ks }))
          case first =>
            by_cases h1k : 1 < st.kept.length
            · obtain ⟨n, hn⟩ : ∃ n, st.kept.length = n + 1 := ⟨st.kept.length - 1, by omega⟩
              have HKD := hid (show ks = st.kept.take n by rw [← HKS.out]; unfold backK; rw [if_pos h1k, List.dropLast_eq_take, hn]; rfl)
              have hcl : (n : Int) ≤ (cK : Int) := by have := I3.out.kc.le; omega
              have hwr : IntKind.i64.wrap ((st.kept.length : Int) - 1) = (n : Int) := by rw [IntKind.wrap_i64]; omega
              have hn0 : (0 : Int) ≤ (n : Int) := by omega
              have hkn : ks.length = n := by rw [HKD.out, List.length_take]; omega
              have hrow := I3.out.kr.takeN n
              rw [← HKD.out] at hrow
              have HKN := hid hkn.symm
              have HROW := hid hrow
              have HBK := hid (show (([] : List Int).length + ks.length) * 8 ≤ 140737488355328 by simp; omega)
              have HLN := hid (show ([] ++ ks : List Int).length ≤ 9223372036854775807 by simp; omega)
              have HSD := hid (show Sits h3 wc.drew from E3.out.sits)
              clear m1 m5 hrow hn hkn
              go_upto_region 8 with (fail)
              go_region_law (first | (refine step_appendR _ _ 26 rfl wc.heap.size 3 8 ty_Int (.slice none 0 0) [] ks rfl (OwnL.nil _ _ _ _) HSD.out K n cK rfl HKN.out HROW.out HBK.out (by decide) (Nat.le_refl _) ?_; intro v5 w5 O5 G5; have F5 := (Ext.refl E3.out.sits).drew.grown G5 (fun k hk => by cases hk); obtain ⟨h6, A6', c6', hv6, r6, l6, F6, u0, u1, u2, f6⟩ := O5.stayX F5 (Nat.le_refl _) HLN.out; subst hv6; have I6 := hid (I3.out.more F6); have X6 := hid ((OExt.of E3.out (some gw)).ext F6); have z3 := box_cell (j := 3) (v := .slice K st.kept.length cK) I6.out.box rfl; have e3 := box_free (j := 3) I6.out.box; have q6 := hid (show CapLe A6' ks.length c6' from ⟨u0, u2, u1⟩); have r6 := hid (show RowAt h6 A6' ks from r6); clear l6 f6 u0 u1 u2 F5 F6 G5 O5))
              all_goals
                go_wp2_with fail
                go_meet
                exact ⟨rfl, h6, A6', c6', hid (X6.out.set1 I6.out.free 3 _), hid (I6.out.keep q6.out r6.out)⟩
            · have HKD := hid (show ks = st.kept by rw [← HKS.out]; unfold backK; rw [if_neg h1k])
              clear m1 m5
              go_wp2_with fail
              go_meet
              exact ⟨rfl, h3, K, cK, hid (OExt.of E3.out (some gw)), hid (by rw [HKD.out]; exact I3.out)⟩
          case rest =>
            obtain ⟨rfl, h5, B, cB, X5, I5⟩ := hcut
            obtain ⟨n, hn⟩ : ∃ n, ks.length = n + 1 := ⟨ks.length - 1, by omega⟩
            have hwr : IntKind.i64.wrap ((ks.length : Int) - 1) = (n : Int) := by rw [IntKind.wrap_i64]; omega
            obtain ⟨y, hy⟩ : ∃ y, ks[n]? = some y := ⟨ks[n], List.getElem?_eq_getElem (by omega)⟩
            have HLY := hid (show ks.getLast?.getD 0 = y by rw [List.getLast?_eq_getElem?, hn]; simp [hy])
            obtain ⟨b, off, hx, d0⟩ := I5.out.kr.ixInt hy X5.out.sits cB
            have z3 := box_cell (j := 3) (v := .slice B ks.length cB) I5.out.box rfl
            have z4 := box_cell (j := 4) (v := .int .i64 st.at_) I5.out.box rfl
            have e4 := box_free (j := 4) I5.out.box
            have hn0 : (0 : Int) ≤ (n : Int) := by omega
            clear hy hn n3 m1 m5
            go_upto_region 9 with (fail)
            go_region
            all_goals
              go_wp2_with fail
              go_ret2
              exact (by rw [HS.out, HLY.out]; exact ⟨none, 0, B, cB, h5, rfl, ⟨Nat.zero_le _, fun _ => rfl, by decide⟩, RowAt.nil _ _, WkAt.drewS (I5.out.at_ y), OExt.drewS (X5.out.set1 I5.out.free 4 _)⟩)
      · have HS := hid (show stepW s.inodes st name follow = (st, [], 13) from stepW_file HV.out hk)
        have b2 : (x.kind == 2) = false := by simpa using hk
        clear hk
        go_wp2_with fail
        go_ret2
        exact (by rw [HS.out]; exact ⟨none, 0, K, cK, h3, rfl, ⟨Nat.zero_le _, fun _ => rfl, by decide⟩, RowAt.nil _ _, I3.out, OExt.of E3.out (some gw)⟩)
end Go.Proofs.YtcnbnehammbncaaDoor
