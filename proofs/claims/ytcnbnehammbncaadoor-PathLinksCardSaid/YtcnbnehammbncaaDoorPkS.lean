import Derived.Test.YtcnbnehammbncaaDoorPkB
import Derived.Test.YtcnbnehammbncaaDoorEntMap
namespace Go.Proofs.YtcnbnehammbncaaDoor
open Go.RowKit Go.Sort
set_option linter.unusedVariables false
/-- A step is done. -/
def RetPk (B : Nat) (h : FH) (w : World) (gp bm : Nat) (r : Wk × List ByteArray × Int) (e : Ending) (w' : World) : Prop :=
  ∃ A c D cD h1, e = .returned (.tuple #[.slice A r.2.1.length c, .int .i64 r.2.2]) ∧ CapLe A r.2.1.length c ∧ RowAt h1 A r.2.1 ∧ PkAt B h1 w' gp bm D cD r.1 ∧ BExt B h w h1 w'
theorem PkAt.of {B : Nat} {h : FH} {w : World} {gp bm : Nat} {dv : Value} {a l : Int} (bx : w.heap[gp]? = some (.cells #[.map (some bm), dv, .int .i64 a, .int .i64 l] 73 (0, 0))) (hn : h gp = none) (hB : B ≤ gp) (hw : B ≤ w.heap.size) {ks : List Int} {D' : Option Addr} {c' : Nat} (O : OwnL h w B 3 (.slice D' ks.length c') ks) : PkAt B h (w.setCell ⟨gp, 1, none⟩ (.slice D' ks.length c')) gp bm D' c' ⟨ks, a, l⟩ :=
  ⟨box_set (i := 1) bx _, hn, O.kept (row := some gp) (grown_set1 w gp 1 _) (.inr (O.neBox bx (by decide))) (FLe.refl _) O.free, hB, by simpa [World.setCell] using hw⟩
theorem partsXs_bad {s : ByteArray} (h : partsCode s ≠ 0) : partsXs s = [] := by
  unfold partsCode at h
  unfold partsXs
  cases e : partsP s with
  | none => rfl
  | some ks => rw [e] at h; simp at h
set_option maxHeartbeats 8000000 in
set_option maxRecDepth 100000 in
theorem path_link (gp bm : Nat) (D : Option Addr) (cD : Nat) (B : Nat) (st : Wk) (y : Inode) (hk3 : y.kind = 3) (no : Int) (hsz : y.target.size ≤ 9223372036854775807) (hl0 : 0 ≤ st.loops) (hl1 : st.loops ≤ 100) (h : FH) (w : World) (hs : Sits h w) (I : PkAt B h w gp bm D cD st) :
    Calls Tryd.prog 65 #[.pointer (some ⟨gp, 0, none⟩), .string y.target] w fun e w' => RetPk B h w gp bm (follW st y no true) e w' := by
  have HK3 := hid hk3
  have I6 := hid I
  have p5 := box_cell (j := 3) (v := .int .i64 st.loops) I.box rfl
  have f5 := box_free (j := 3) I.box
  clear hk3 I
  go_enter Tryd.func65, Tryd.ntmps65
  by_cases h8 : 8 ≤ st.loops
  · have HS := hid (show follW st y no true = (st, [], 16) from follW_loop HK3.out h8)
    go_wp2_with fail
    go_ret2
    exact (by rw [HS.out]; exact ⟨none, 0, D, cD, h, rfl, ⟨Nat.zero_le _, fun _ => rfl, by decide⟩, RowAt.nil _ _, I6.out, BExt.refl hs⟩)
  · have H8 := hid h8
    have hl7 : st.loops < 8 := by omega
    clear h8
    go_upto_region 4 with (fail)
    have I7 := hid (I6.out.loop (st.loops + 1))
    have X7 := hid ((BExt.refl hs).set (B := B) (i := 3) I6.out.hB I6.out.free (.int .i64 (st.loops + 1)))
    with_reducible generalize w.setCell ⟨gp, 3, none⟩ (.int .i64 (st.loops + 1)) = w7 at I7 X7 ⊢
    clear p5 f5
    have KP := hid (name_Parts y.target hsz h w7 X7.out.sits)
    go_upto_region 5 with (go_at_call 51; refine KP.out.mono ?_; rintro e w8 R; obtain ⟨A9, c9, h8, rfl, k9, r9, F8⟩ := R.stayX (by have := (ways_lenW y.target).2; omega); have I8 := hid (I7.out.more F8); have X8 := hid (X7.out.trans (BExt.of F8 I7.out.hw)); have k9 := hid k9; have r9 := hid r9; clear F8 R)
    by_cases hc : partsCode y.target = 0
    · have bc : (partsCode y.target != 0) = false := by simp [hc]
      have bd : (partsCode y.target == 0) = true := by simp [hc]
      have HC := hid hc
      obtain ⟨t, ht⟩ : ∃ t, partsTop y.target = t := ⟨_, rfl⟩
      have HT := hid ht
      clear hc
      rw [ht]
      clear ht
      cases t
      · have HS := hid (show follW st y no true = (⟨st.kept, st.at_, st.loops + 1⟩, partsXs y.target, 0) from follW_from HK3.out (by have q := H8.out; omega) HC.out HT.out)
        go_wp2_with fail
        go_ret2
        rw [HC.out]
        exact (by rw [HS.out]; exact ⟨A9, c9, D, cD, h8, rfl, k9.out, r9.out, I8.out, X8.out⟩)
      · have HS := hid (show follW st y no true = (⟨[1], 1, st.loops + 1⟩, partsXs y.target, 0) from follW_top HK3.out (by have q := H8.out; omega) HC.out HT.out)
        have O9 := OwnL.mk1 X8.out.sits 3 (show Enc.rep h8 [.int .i64 1] (1 : Int) from rfl)
        have E9 := (Ext.refl X8.out.sits).alloc (.cells #[.int .i64 1] 3)
        have I9 := hid (I8.out.more E9)
        have X9 := hid (X8.out.trans (BExt.of E9 I8.out.hw))
        have O9 := hid (O9.rebase (base' := B) I8.out.hw)
        have z3 := box_cell (j := 1) (v := .slice D st.kept.length cD) I9.out.box rfl
        have z4 := box_cell (j := 2) (v := .int .i64 st.at_) I9.out.box rfl
        have e3 := box_free (j := 1) I9.out.box
        have e4 := box_free (j := 2) I9.out.box
        clear E9
        go_wp2_with fail
        have I10 := hid ((I9.out.keep (ks := [1]) O9.out).at_ 1)
        have X10 := hid ((X9.out.set I9.out.hB I9.out.free (i := 1) (.slice (some ⟨w8.heap.size, 0, none⟩) 1 1)).set I9.out.hB I9.out.free (i := 2) (.int .i64 1))
        go_ret2
        rw [HC.out]
        exact (by rw [HS.out]; exact ⟨A9, c9, _, _, h8, rfl, k9.out, r9.out, I10.out, X10.out⟩)
    · have bc : (partsCode y.target != 0) = true := by simp [hc]
      have bd : (partsCode y.target == 0) = false := by simp [hc]
      have HS := hid (show follW st y no true = (⟨st.kept, st.at_, st.loops + 1⟩, [], partsCode y.target) from follW_bad HK3.out (by have q := H8.out; omega) hc)
      have HX := hid (partsXs_bad hc)
      clear hc
      go_wp2_with fail
      go_ret2
      exact (by rw [HS.out]; have k := k9.out; have r := r9.out; rw [HX.out] at k r ⊢; exact ⟨A9, c9, D, cD, h8, rfl, k, r, I8.out, X8.out⟩)

set_option maxHeartbeats 8000000 in
set_option maxRecDepth 100000 in
theorem path_step (xs : List Inode) (gp bm : Nat) (C : Int → Option Value) (D : Option Addr) (cD : Nat) (B : Nat) (st : Wk) (name : ByteArray) (hsz : name.size ≤ 9223372036854775807) (follow : Bool) (hk1 : 1 ≤ st.kept.length) (hk2 : st.kept.length ≤ 1000000) (hl0 : 0 ≤ st.loops) (hl1 : st.loops ≤ 100) (h : FH) (w : World) (hs : Sits h w) (I : PkAt B h w gp bm D cD st) (FM : FMap encI h bm C) (HB : ByIs h xs C) :
    Calls Tryd.prog 52 #[.pointer (some ⟨gp, 0, none⟩), .string name, .bool follow] w fun e w' => RetPk B h w gp bm (stepW xs st name follow) e w' := by
  obtain ⟨v, hv⟩ : ∃ v, findI xs st.at_ = v := ⟨_, rfl⟩
  have HV := hid hv
  have KH := hid (path_here xs gp bm C D cD B st v hv h w hs I FM HB)
  have hhw := I.hw
  have II := hid I
  have FM := hid FM
  have HB := hid HB
  clear hv I
  go_enter Tryd.func52, Tryd.ntmps52
  go_upto_region 2 with (go_at_call 34; refine KH.out.mono ?_; rintro e w2 ⟨cs2, h2, rfl, r2, F2⟩; obtain ⟨A5, c5, A6, c6, rfl⟩ := r2.open; have E2 := hid F2; have r2 := hid r2; clear F2)
  obtain ⟨h3, E3, hb3, le3, hh3⟩ := E2.out.boxF #[.int .i64 (v.getD zeroI).no, .int .i64 (v.getD zeroI).kind, .int .i64 (v.getD zeroI).links, .int .i64 (v.getD zeroI).size, .string (v.getD zeroI).target, .slice A5 (v.getD zeroI).entries.length c5, .slice A6 (v.getD zeroI).runs.length c6] 50
  generalize w2.heap.size = g at *
  with_reducible generalize w2.alloc (.cells #[.int .i64 (v.getD zeroI).no, .int .i64 (v.getD zeroI).kind, .int .i64 (v.getD zeroI).links, .int .i64 (v.getD zeroI).size, .string (v.getD zeroI).target, .slice A5 (v.getD zeroI).entries.length c5, .slice A6 (v.getD zeroI).runs.length c6] 50) = w3 at E3 ⊢
  have R3 := hid (r2.out.mono le3)
  have I3 := hid (II.out.more E3)
  have X3 := hid (BExt.of E3 hhw)
  have FM3 := hid (FM.out.mono E3.le)
  have HB3 := hid (HB.out.mono E3.le)
  have E3 := hid E3
  clear hh3 E2
  cases v with
  | none =>
    have HS := hid (show stepW xs st name follow = (st, [], 11) from stepW_none HV.out)
    have hc : hereC none = 11 := rfl
    rw [hc]
    clear hc
    go_wp2_with fail
    go_ret2
    exact (by rw [HS.out]; exact ⟨none, 0, D, cD, h3, rfl, ⟨Nat.zero_le _, fun _ => rfl, by decide⟩, RowAt.nil _ _, I3.out, X3.out⟩)
  | some x =>
    dsimp only [Option.getD_some] at *
    by_cases hk : x.kind = 2
    · have hc : hereC (some x) = 0 := by unfold hereC; simp [hk]
      rw [hc]
      have HK := hid hk
      clear hk hc
      obtain ⟨q, hq⟩ : ∃ q, (name.toList == [46, 46]) = q := ⟨_, rfl⟩
      have HQ := hid hq
      cases q
      · obtain ⟨v1, hv1⟩ : ∃ v1, findE x.entries name = v1 := ⟨_, rfl⟩
        obtain ⟨v2, hv2⟩ : ∃ v2, findI xs (v1.getD 0) = v2 := ⟨_, rfl⟩
        obtain ⟨sz5, k5, row5, k6, row6⟩ := R3.out.ent
        have K2 := hid (fun (w' : World) (hs' : Sits h3 w') => entries_Find x.entries A5 c5 name hsz v1 hv1 h3 w' hs' row5)
        have HV1 := hid hv1
        have HV2 := hid hv2
        obtain ⟨cs5, hc1, hc2, hc3⟩ := HB3.out.get (v1.getD 0)
        rw [hv2] at hc2 hc3
        obtain ⟨A7, c7, A8, c8, rfl⟩ := hc3.open
        have HC3 := hid hc3
        have HLK := hid (show ∀ wx : World, Sits h3 wx → (Instr.lookup 71 (.map (some bm)) (.agg #[.int .i64 (v1.getD 0)]) true).run Tryd.prog wx = .ok (.tuple #[.agg #[.int .i64 (v2.getD zeroI).no, .int .i64 (v2.getD zeroI).kind, .int .i64 (v2.getD zeroI).links, .int .i64 (v2.getD zeroI).size, .string (v2.getD zeroI).target, .slice A7 (v2.getD zeroI).entries.length c7, .slice A8 (v2.getD zeroI).runs.length c8], .bool v2.isSome]) wx from fun wx hs' => by
          have q := (FM3.out wx hs').lookOk kt_path_key Tryd.underlying71 zero_inode (v1.getD 0)
          rw [hc1, hc2] at q
          exact q)
        have J0 := hid (fun (w' : World) (E : Ext h3 w3 h3 w') => box_cell (j := 0) (v := .map (some bm)) (I3.out.more E).box rfl)
        have m5 : w3.cell? ⟨g, 5, none⟩ = some (.slice A5 x.entries.length c5) := Sits_at E3.out.sits hb3 rfl
        clear hv1 hv2 row6 k6 k5 sz5 hc1 hc2 hc3
        go_upto_region 9 with (go_at_call 64; refine (K2.out _ E3.out.sits).mono ?_; rintro e w4 ⟨rfl, F4⟩; have n0 := J0.out _ F4; have hl4 := HLK.out w4 F4.sits; have F4 := hid F4; clear m5)
        obtain ⟨h6, F6, hb6, le6, hh6⟩ := (Ext.refl F4.out.sits).boxF #[.int .i64 (v2.getD zeroI).no, .int .i64 (v2.getD zeroI).kind, .int .i64 (v2.getD zeroI).links, .int .i64 (v2.getD zeroI).size, .string (v2.getD zeroI).target, .slice A7 (v2.getD zeroI).entries.length c7, .slice A8 (v2.getD zeroI).runs.length c8] 50
        have I6 := hid (I3.out.more (F4.out.trans F6))
        have X6 := hid (X3.out.trans (BExt.of (F4.out.trans F6) I3.out.hw))
        have R6 := hid (HC3.out.mono le6)
        generalize w4.heap.size = g6 at *
        with_reducible generalize w4.alloc (.cells #[.int .i64 (v2.getD zeroI).no, .int .i64 (v2.getD zeroI).kind, .int .i64 (v2.getD zeroI).links, .int .i64 (v2.getD zeroI).size, .string (v2.getD zeroI).target, .slice A7 (v2.getD zeroI).entries.length c7, .slice A8 (v2.getD zeroI).runs.length c8] 50) = w6 at F6 I6 X6 ⊢
        clear hh6 n0 hl4 le6
        cases v1 with
        | none =>
          have HS := hid (show stepW xs st name follow = (st, [], 11) from stepW_noE HV.out HK.out HQ.out HV1.out)
          dsimp only [Option.isSome_none, Option.getD_none] at *
          go_wp2_with fail
          go_ret2
          exact (by rw [HS.out]; exact ⟨none, 0, D, cD, h6, rfl, ⟨Nat.zero_le _, fun _ => rfl, by decide⟩, RowAt.nil _ _, I6.out, X6.out⟩)
        | some no =>
          dsimp only [Option.isSome_some, Option.getD_some] at *
          cases v2 with
          | none =>
            have HS := hid (show stepW xs st name follow = (st, [], 11) from stepW_noI HV.out HK.out HQ.out HV1.out HV2.out)
            dsimp only [Option.isSome_none, Option.getD_none] at *
            go_wp2_with fail
            go_ret2
            exact (by rw [HS.out]; exact ⟨none, 0, D, cD, h6, rfl, ⟨Nat.zero_le _, fun _ => rfl, by decide⟩, RowAt.nil _ _, I6.out, X6.out⟩)
          | some y =>
            dsimp only [Option.isSome_some, Option.getD_some] at *
            have HU2 := hid (stepW_some (follow := follow) HV.out HK.out HQ.out HV1.out HV2.out)
            have o1 : w6.cell? ⟨g6, 1, none⟩ = some (.int .i64 y.kind) := Sits_at F6.sits hb6 rfl
            have o4 : w6.cell? ⟨g6, 4, none⟩ = some (.string y.target) := Sits_at F6.sits hb6 rfl
            by_cases hlk : y.kind = 3 ∧ follow = true
            · obtain ⟨hk3, rfl⟩ := hlk
              have b3 : (y.kind == 3) = true := by simpa using hk3
              have KL := hid (path_link gp bm D cD B st y hk3 no R6.out.ent.1 hl0 hl1 h6 w6 F6.sits I6.out)
              clear hk3
              go_wp2_with (go_at_call 65; refine KL.out.mono ?_; rintro e w9 ⟨A9, c9, D9, cD9, h9, rfl, k9, r9, I9, X9⟩; have k9 := hid k9; have r9 := hid r9; have I9 := hid I9; have X9 := hid (X6.out.trans X9))
              go_ret2
              exact (by rw [HU2.out]; exact ⟨A9, c9, D9, cD9, h9, rfl, k9.out, r9.out, I9.out, X9.out⟩)
            · have HLKK := hid hlk
              obtain ⟨t3, ht3⟩ : ∃ t3, (y.kind == 3) = t3 := ⟨_, rfl⟩
              have hnb : (t3 && follow) = false := by
                rw [← ht3]
                cases follow
                · simp
                · simp at hlk; simp [hlk]
              have p3 := box_cell (j := 1) (v := .slice D st.kept.length cD) I6.out.box rfl
              have p4 := box_cell (j := 2) (v := .int .i64 st.at_) I6.out.box rfl
              have f3 := box_free (j := 1) I6.out.box
              have f4 := box_free (j := 2) I6.out.box
              have HB2 := hid (show (st.kept.length + 1) * 8 ≤ 140737488355328 by omega)
              clear hlk
              by_cases hk2 : y.kind = 2
              · have b2' : (y.kind == 2) = true := by simpa using hk2
                have b3 : (y.kind == 3) = false := by rw [hk2]; rfl
                have HS := hid (show stepW xs st name follow = (⟨st.kept ++ [no], no, st.loops⟩, [], 0) from HU2.out.trans (follW_dir hk2))
                have F6 := hid F6
                clear hk2 ht3 hnb
                go_wp2_with (at_builtin; refine wpList_append1At rfl _ _ 26 rfl B 3 8 ty_Int _ _ rfl (I6.out.own.alloc _) (F6.out.sits.alloc _) _ rfl _ no rfl (cells_of_box (heap_new _ _)) HB2.out (by decide) (Nat.le_trans I6.out.hw (by simp)) ?_; intro v8 w8 O8 hg8; have I7 := I6.out.more ((Ext.refl F6.out.sits).alloc (.cells #[.int .i64 no] 3)); have bx8 := hid (I7.grown hg8); have X8 := hid ((X6.out.trans (BExt.of ((Ext.refl F6.out.sits).alloc (.cells #[.int .i64 no] 3)) I6.out.hw)).row hg8 I7.hw (fun k hk => ⟨(I7.own.lt k hk).1, I7.own.free k hk⟩)); obtain ⟨A9, c9, hv9, _⟩ := O8.slice; subst hv9; have z3 := box_cell (j := 1) (v := .slice D st.kept.length cD) bx8.out rfl; have z4 := box_cell (j := 2) (v := .int .i64 st.at_) bx8.out rfl; have e3 := box_free (j := 1) bx8.out; have e4 := box_free (j := 2) bx8.out; have I8 := hid (PkAt.of bx8.out I7.free I7.hB (Nat.le_trans I7.hw hg8.size) O8); have N8 := hid I7.free; have G8 := hid I7.hB; clear hg8 I7 O8)
                have hlen : (st.kept ++ [no]).length = st.kept.length + 1 := by simp
                have I10 := I8.out.at_ no
                have X10 := (X8.out.set G8.out N8.out (i := 1) (.slice A9 (st.kept ++ [no]).length c9)).set G8.out N8.out (i := 2) (.int .i64 no)
                rw [hlen] at I10 X10
                have I10 := hid I10
                have X10 := hid X10
                go_ret2
                exact (by rw [HS.out]; exact ⟨none, 0, A9, c9, h6, rfl, ⟨Nat.zero_le _, fun _ => rfl, by decide⟩, RowAt.nil _ _, I10.out, X10.out⟩)
              · have b2' : (y.kind == 2) = false := by simpa using hk2
                have HS := hid (show stepW xs st name follow = (⟨st.kept, no, st.loops⟩, [], 0) from HU2.out.trans (follW_plain HLKK.out hk2))
                have I10 := hid (I6.out.at_ no)
                have X10 := hid (X6.out.set I6.out.hB I6.out.free (i := 2) (.int .i64 no))
                clear hk2
                cases t3
                · clear hnb
                  go_wp2_with fail
                  go_ret2
                  exact (by rw [HS.out]; exact ⟨none, 0, D, cD, h6, rfl, ⟨Nat.zero_le _, fun _ => rfl, by decide⟩, RowAt.nil _ _, I10.out, X10.out⟩)
                · have hnb : follow = false := hnb
                  subst hnb
                  go_wp2_with fail
                  go_ret2
                  exact (by rw [HS.out]; exact ⟨none, 0, D, cD, h6, rfl, ⟨Nat.zero_le _, fun _ => rfl, by decide⟩, RowAt.nil _ _, I10.out, X10.out⟩)
      · have HS := hid (show stepW xs st name follow = (⟨backK st.kept, (backK st.kept).getLast?.getD 0, st.loops⟩, [], 0) from stepW_up HV.out HK.out HQ.out)
        have KB := hid (path_back gp bm D cD B st hk1 hk2 h3 w3 E3.out.sits I3.out)
        go_wp2_with (go_at_call 63; refine KB.out.mono ?_; rintro e w5 ⟨D5, c5', rfl, I5, X5⟩; have I5 := hid I5; have X5 := hid (X3.out.trans X5))
        go_ret2
        exact (by rw [HS.out]; exact ⟨none, 0, D5, c5', h3, rfl, ⟨Nat.zero_le _, fun _ => rfl, by decide⟩, RowAt.nil _ _, I5.out, X5.out⟩)
    · have hc : hereC (some x) = 13 := by unfold hereC; simp [hk]
      rw [hc]
      have HS := hid (show stepW xs st name follow = (st, [], 13) from stepW_file HV.out hk)
      clear hk hc
      go_wp2_with fail
      go_ret2
      exact (by rw [HS.out]; exact ⟨none, 0, D, cD, h3, rfl, ⟨Nat.zero_le _, fun _ => rfl, by decide⟩, RowAt.nil _ _, I3.out, X3.out⟩)

end Go.Proofs.YtcnbnehammbncaaDoor
