/- The walk of the law InodeStats. -/
import Derived.Test.YtidfcdomeacppaaSameI
import Derived.Test.YtidfcdomeacppaaBox
import Derived.Test.YtidfcdomeacppaaEntPlain
import Derived.Test.YtidfcdomeacppaaRunsOf
import Derived.Test.YtidfcdomeacppaaCap
namespace Go.Proofs.Ytidfcdomeacppaa
open Go.RowKit Go.Sort
set_option linter.unusedVariables false
theorem addC_zero {xs : List Entry} {e : Entry} (h : addC xs e = 0) : nameB e.name = true ∧ 0 < e.no ∧ findE xs e.name = none ∧ xs.length < 100 := by
  unfold addC at h
  split at h
  · cases h
  rename_i h1
  split at h
  · cases h
  rename_i h2
  split at h
  · cases h
  rename_i h3
  split at h
  · cases h
  rename_i h4
  refine ⟨by simpa using h1, by omega, ?_, by omega⟩
  cases hf : findE xs e.name with
  | none => rfl
  | some _ => rw [hf] at h3; exact absurd rfl h3
/-- The two stats. -/
structure Sab (hB : FH) (W : World) (ga gb n sz pg : Nat) (w : World) : Prop where
  ext : Ext (fhOf W) W hB w
  a0 : w.cell? ⟨ga, 0, none⟩ = some (.int .i64 5)
  a1 : w.cell? ⟨ga, 1, none⟩ = some (.int .i64 2)
  a2 : w.cell? ⟨ga, 2, none⟩ = some (.int .i64 2)
  a3 : w.cell? ⟨ga, 3, none⟩ = some (.int .i64 n)
  a4 : w.cell? ⟨ga, 4, none⟩ = some (.int .i64 0)
  b0 : w.cell? ⟨gb, 0, none⟩ = some (.int .i64 6)
  b1 : w.cell? ⟨gb, 1, none⟩ = some (.int .i64 1)
  b2 : w.cell? ⟨gb, 2, none⟩ = some (.int .i64 1)
  b3 : w.cell? ⟨gb, 3, none⟩ = some (.int .i64 sz)
  b4 : w.cell? ⟨gb, 4, none⟩ = some (.int .i64 pg)
theorem Sab.sits {hB : FH} {W : World} {ga gb n sz pg : Nat} {w : World} (S : Sab hB W ga gb n sz pg w) : Sits hB w := S.ext.sits
theorem Sab.drew {hB : FH} {W : World} {ga gb n sz pg : Nat} {w : World} (S : Sab hB W ga gb n sz pg w) : Sab hB W ga gb n sz pg w.drew := ⟨S.ext.drew, S.a0, S.a1, S.a2, S.a3, S.a4, S.b0, S.b1, S.b2, S.b3, S.b4⟩
theorem Sab.call {hB : FH} {W : World} {ga gb n sz pg : Nat} {w w' : World} (S : Sab hB W ga gb n sz pg w) (F : Ext hB w hB w') : Sab hB W ga gb n sz pg w' :=
  ⟨S.ext.more F, F.keep S.a0, F.keep S.a1, F.keep S.a2, F.keep S.a3, F.keep S.a4, F.keep S.b0, F.keep S.b1, F.keep S.b2, F.keep S.b3, F.keep S.b4⟩
theorem pages_len (xs : List Run) (A : Option Addr) (c pg : Nat) (hpg : (pagesR xs).length = pg) (h : FH) (w : World) (hs : Sits h w) (r : RowAt h A xs) :
    Calls Try.prog 22 #[.slice A xs.length c] w fun e w' => ∃ A c, e = .returned (.slice A pg c) ∧ Ext h w h w' := by
  refine (ref_PagesOf xs A c h w hs r).mono ?_
  rintro e w' ⟨v, rfl, O, E⟩
  obtain ⟨A, c, rfl, _⟩ := O.slice
  exact ⟨A, c, by rw [refPages_len, hpg], E⟩
theorem noText_nil : noText ⟨#[]⟩ = true := by kernel_rfl
theorem boxZ {w : World} {g : Nat} (h : w.heap[g]? = some (.cells #[.int .i64 0, .int .i64 0, .int .i64 0, .int .i64 0, .int .i64 0] 31)) : ∀ j, j < 5 → w.cell? ⟨g, j, none⟩ = some (.int .i64 0) := fun j hj => box_cell h (by
  rcases (show j = 0 ∨ j = 1 ∨ j = 2 ∨ j = 3 ∨ j = 4 by omega) with rfl | rfl | rfl | rfl | rfl <;> rfl)
theorem bcell {W w1 : World} (hb : Below W.heap.size W w1) : (∀ b o, b < W.heap.size → w1.cell? ⟨b, o, none⟩ = W.cell? ⟨b, o, none⟩) ∧ (∀ b o, b < W.heap.size → w1.frozen? ⟨b, o, none⟩ = W.frozen? ⟨b, o, none⟩) :=
  ⟨fun b o h => hb.cell (p := ⟨b, o, none⟩) h, fun b o h => hb.frozen (p := ⟨b, o, none⟩) h⟩
set_option maxHeartbeats 16000000 in
set_option maxRecDepth 100000 in
theorem InodeStats_walk (ns : List ByteArray) (A : Option Addr) (c : Nat) (size : Int) (ps : List Int) (B : Option Addr) (d : Nat) (W : World) (rn : RowAt (fhOf W) A ns) (rp : RowAt (fhOf W) B ps) :
    Calls Try.prog 6 #[.slice A ns.length c, .int .i64 size, .slice B ps.length d] W fun e w' => e = .returned (.bool true) ∧ Ext (fhOf W) W (fhOf W) w' := by
  have hs := Sits.all W
  have hln := rn.1
  have hlp := rp.1
  obtain ⟨sz, hsz, hsz2⟩ : ∃ q : Nat, (IntKind.u64.wrap size).tmod 9000 = q ∧ q < 9000 := by
    rw [Int.tmod_eq_emod_of_nonneg (wrap_u64_nonneg size)]
    have := wrap_u64_nonneg size
    exact ⟨(IntKind.u64.wrap size % 9000).toNat, by omega, by omega⟩
  have HSZ := hid hsz
  clear hsz
  have E2 := ((Ext.refl hs).alloc (.cells #[.int .i64 0, .int .i64 0, .int .i64 0, .int .i64 0, .string ⟨#[]⟩, .slice none 0 0, .slice none 0 0] 25)).alloc (.cells #[.int .i64 0, .int .i64 0, .int .i64 0, .int .i64 0, .string ⟨#[]⟩, .slice none 0 0, .slice none 0 0] 25)
  have hb0 : ((W.alloc (.cells #[.int .i64 0, .int .i64 0, .int .i64 0, .int .i64 0, .string ⟨#[]⟩, .slice none 0 0, .slice none 0 0] 25)).alloc (.cells #[.int .i64 0, .int .i64 0, .int .i64 0, .int .i64 0, .string ⟨#[]⟩, .slice none 0 0, .slice none 0 0] 25)).heap[W.heap.size]? = some (.cells #[.int .i64 0, .int .i64 0, .int .i64 0, .int .i64 0, .string ⟨#[]⟩, .slice none 0 0, .slice none 0 0] 25) := box_alloc (heap_new _ _) _
  have hb1 : ((W.alloc (.cells #[.int .i64 0, .int .i64 0, .int .i64 0, .int .i64 0, .string ⟨#[]⟩, .slice none 0 0, .slice none 0 0] 25)).alloc (.cells #[.int .i64 0, .int .i64 0, .int .i64 0, .int .i64 0, .string ⟨#[]⟩, .slice none 0 0, .slice none 0 0] 25)).heap[W.heap.size + 1]? = some (.cells #[.int .i64 0, .int .i64 0, .int .i64 0, .int .i64 0, .string ⟨#[]⟩, .slice none 0 0, .slice none 0 0] 25) := by
    have := heap_new (W.alloc (.cells #[.int .i64 0, .int .i64 0, .int .i64 0, .int .i64 0, .string ⟨#[]⟩, .slice none 0 0, .slice none 0 0] 25)) (.cells #[.int .i64 0, .int .i64 0, .int .i64 0, .int .i64 0, .string ⟨#[]⟩, .slice none 0 0, .slice none 0 0] 25)
    simpa using this
  have HF0 := hid (show fhOf W W.heap.size = none from hs.none (Nat.le_refl _))
  have HF1 := hid (show fhOf W (W.heap.size + 1) = none from hs.none (Nat.le_succ _))
  have KN5 := hid (fun w hs => inode_New 5 2 ⟨#[]⟩ (Nat.zero_le _) (fhOf W) w hs)
  have KN6 := hid (fun (h : FH) w hs => inode_New 6 1 ⟨#[]⟩ (Nat.zero_le _) h w hs)
  have HV5 : Hid (newV 5 2 ⟨#[]⟩ = .agg #[.int .i64 5, .int .i64 2, .int .i64 2, .int .i64 0, .string ⟨#[]⟩, .slice none 0 0, .slice none 0 0]) := rfl
  have HV6 : Hid (newV 6 1 ⟨#[]⟩ = .agg #[.int .i64 6, .int .i64 1, .int .i64 1, .int .i64 0, .string ⟨#[]⟩, .slice none 0 0, .slice none 0 0]) := rfl
  rw [HV5.out] at KN5
  rw [HV6.out] at KN6
  clear HV5 HV6
  have HB0 := hid hb0
  have HB1 := hid hb1
  clear hb0 hb1
  go_enter Try.func6, Try.ntmps6
  go_wp2_with fail
  refine (KN5.out _ E2.sits).mono ?_
  rintro e w1 ⟨rfl, F1⟩
  have E1 := E2.trans F1
  have hb0 := F1.row HB0.out
  have hb1 := F1.row HB1.out
  have z0 := fun j => box_free (j := j) hb0
  have y0 := box_cell (j := 0) hb0 rfl
  have y1 := box_cell (j := 1) hb0 rfl
  have y2 := box_cell (j := 2) hb0 rfl
  have y3 := box_cell (j := 3) hb0 rfl
  have y4 := box_cell (j := 4) hb0 rfl
  have y5 := box_cell (j := 5) hb0 rfl
  have y6 := box_cell (j := 6) hb0 rfl
  have k0 := setCells_row [.int .i64 5, .int .i64 2, .int .i64 2, .int .i64 0, .string ⟨#[]⟩, .slice none 0 0, .slice none 0 0] hb0 rfl
  have k1 := boxes_other (g := W.heap.size) (Nat.succ_ne_self _) [.int .i64 5, .int .i64 2, .int .i64 2, .int .i64 0, .string ⟨#[]⟩, .slice none 0 0, .slice none 0 0] 0 _ hb1
  have E3 := Ext.setCells (Nat.le_refl _) HF0.out [.int .i64 5, .int .i64 2, .int .i64 2, .int .i64 0, .string ⟨#[]⟩, .slice none 0 0, .slice none 0 0] 0 _ E1
  have K0 := hid k0
  have K1 := hid k1
  clear hb0 hb1 k0 k1 F1 E1 E2 HB0 HB1 KN5
  go_wp2_with fail
  go_loopw [9] (fun i wr => ∃ (k : Nat) (Ae : Option Addr) (ce : Nat) (es : List Entry) (h1 : FH), k ≤ ns.length ∧ k ≤ 50 ∧ i = .int .i64 k ∧ wr.heap[W.heap.size]? = some (.cells #[.int .i64 5, .int .i64 2, .int .i64 2, .int .i64 0, .string ⟨#[]⟩, .slice Ae es.length ce, .slice none 0 0] 25) ∧ wr.heap[W.heap.size + 1]? = some (.cells #[.int .i64 0, .int .i64 0, .int .i64 0, .int .i64 0, .string ⟨#[]⟩, .slice none 0 0, .slice none 0 0] 25) ∧ RowAt h1 Ae es ∧ Hid (rightE es = true) ∧ Hid ((Ae = none → ce = 0) ∧ es.length ≤ ce ∧ ce ≤ 9223372036854775807) ∧ Hid (h1 W.heap.size = none) ∧ Hid (h1 (W.heap.size + 1) = none) ∧ Ext (fhOf W) W h1 wr) (fun i _ => 50 - (intOf i).toNat)
  case atStart => exact ⟨0, none, 0, [], fhOf W, Nat.zero_le _, by omega, rfl, K0.out, K1.out, RowAt.nil _ _, hid (by decide +kernel), hid ⟨fun _ => rfl, Nat.le_refl _, by decide⟩, HF0, HF1, E3⟩
  case round =>
    obtain ⟨k, Ae, ce, es, h1, hk1, hk2, rfl, hd, hf, re, HRE, HCA, HN0, HN1, E⟩ := hrel
    clear y0 y1 y2 y3 y4 y5 y6 z0 K0 K1 E3
    have he100 := rightE_len HRE.out
    go_upto_region 4 with (fail)
    go_cut [23] (fun s wx => s = .bool (decide (k < ns.length) && decide (k < 50)) ∧ wr = wx)
    case first =>
      by_cases hl1 : k < ns.length
      · have hl1' : decide (k < ns.length) = true := by simpa using hl1
        have g1 := hid (show decide ((k : Int) < 50) = (decide (k < ns.length) && decide (k < 50)) by rw [Bool.eq_iff_iff]; simp [hl1]; omega)
        go_wp2
        go_meet
        exact ⟨ret_val6 g1.out, rfl⟩
      · have g1 := hid (show false = (decide (k < ns.length) && decide (k < 50)) by simp [hl1])
        go_wp2
        go_meet
        exact ⟨ret_val6 g1.out, rfl⟩
    case rest =>
    obtain ⟨rfl, rfl⟩ := hcut
    by_cases hin : k < ns.length ∧ k < 50
    · obtain ⟨hlt1, hlt2⟩ := hin
      rw [show (decide (k < ns.length) && decide (k < 50)) = true by simp [hlt1, hlt2]]
      obtain ⟨x, hx⟩ : ∃ x, ns[k]? = some x := ⟨ns[k], by simp [hlt1]⟩
      have HX := hid hx
      obtain ⟨b, off, rfl, c0, hxs⟩ := rn.str hx E.back.sits
      clear hx c0
      have hcN : ∀ w' : World, Ext (fhOf W) W (h1.add W.heap.size (.cells #[.int .i64 5, .int .i64 2, .int .i64 2, .int .i64 0, .string ⟨#[]⟩, .slice Ae es.length ce, .slice none 0 0] 25)) w' → w'.cell? ⟨b, off + k, none⟩ = some (.string x) := fun w' E' => by
        obtain ⟨b', off', hb, hcc, _⟩ := rn.str HX.out E'.back.sits
        simp only [Option.some.injEq, Addr.mk.injEq, and_true] at hb
        obtain ⟨rfl, rfl⟩ := hb
        exact hcc
      have hcD : ∀ w' : World, Ext (fhOf W) W (h1.add W.heap.size (.cells #[.int .i64 5, .int .i64 2, .int .i64 2, .int .i64 0, .string ⟨#[]⟩, .slice Ae es.length ce, .slice none 0 0] 25)) w' → w'.cell? ⟨W.heap.size, 5, none⟩ = some (.slice Ae es.length ce) := fun w' E' => E'.sits.cell (FH.add_cell _ _ _ _ _ rfl)
      have EB := (E.add hd HN0.out (Nat.le_refl _)).drew
      have Ed := E.drew
      obtain ⟨ca0, ca1, ca2⟩ := HCA.out
      have KA := hid (fun w hs => ref_AddEntry es Ae ce ca0 ca1 ca2 (by omega) ⟨x, (k : Int) + 1⟩ hxs h1 w hs re)
      have i0 : (0 : Int) ≤ (k : Int) := by omega
      have i1 : (k : Int) < (ns.length : Int) := by omega
      have i2 : IntKind.i64.wrap ((k : Int) + 1) = (k : Int) + 1 := by rw [IntKind.wrap_i64]; omega
      have hglt := (Array.getElem?_eq_some_iff.1 hd).1
      have hglt1 := (Array.getElem?_eq_some_iff.1 hf).1
      clear ca0 ca1 ca2
      by_cases hco : addC es ⟨x, (k : Int) + 1⟩ = 0
      · obtain ⟨n1, n2, n3, n4⟩ := addC_zero hco
        have hL : addL es ⟨x, (k : Int) + 1⟩ = insE es ⟨x, (k : Int) + 1⟩ := by unfold addL; rw [if_pos hco]
        have KA := KA.out
        rw [hco, hL] at KA
        have KA := hid KA
        have HR2 := hid (insE_right HRE.out n3 n1 n2 n4)
        have hL2 := Nat.le_of_eq (insE_len es ⟨x, (k : Int) + 1⟩)
        generalize insE es ⟨x, (k : Int) + 1⟩ = es2 at *
        clear n1 n2 n3 n4 hco hL
        go_upto_region 6 with (fail)
        generalize hFB : h1.add W.heap.size (.cells #[.int .i64 5, .int .i64 2, .int .i64 2, .int .i64 0, .string ⟨#[]⟩, .slice Ae es.length ce, .slice none 0 0] 25) = hB at *
        go_region_held (fun w' => Ext (fhOf W) W hB w') (first | with_reducible assumption) (first | (go_at_call 20; refine (KA.out _ Ed.sits).mono ?_; rintro e' w2 R; obtain ⟨A2, c2, h2, rfl, r2, F2, u0, u1, u2⟩ := R.stayX (by omega); have EF := EB.more F2))
        have hd2 := F2.row (show wr.drew.heap[W.heap.size]? = _ from hd)
        have hf2 := F2.row (show wr.drew.heap[W.heap.size + 1]? = _ from hf)
        have y5 := box_cell (j := 5) hd2 rfl
        have z5 := box_free (j := 5) hd2
        have g0 := F2.none HN0.out (show W.heap.size < wr.drew.heap.size from hglt)
        have g1 := F2.none HN1.out (show W.heap.size + 1 < wr.drew.heap.size from hglt1)
        have hd3 := hid (box_set (i := 5) hd2 (.slice A2 es2.length c2))
        have hf3 := hid (box_other (i := 5) (g := W.heap.size) hf2 (Nat.succ_ne_self _) (.slice A2 es2.length c2))
        have E3 := Ext.setCell (p := ⟨W.heap.size, 5, none⟩) (Ed.trans F2) (Nat.le_refl _) g0 (.slice A2 es2.length c2)
        clear hd2 hf2 F2 EF EB Ed hcN hcD R hd hf E
        go_wp2_with fail
        go_roundw
        case rel => exact ⟨k + 1, A2, c2, es2, h2, by omega, by omega, by go_num, hd3.out, hf3.out, r2, HR2, hid ⟨u0, u1, u2⟩, g0, g1, E3⟩
        case measure => simp [intOf]; omega
      · obtain ⟨co, hc⟩ : ∃ co, addC es ⟨x, (k : Int) + 1⟩ = co := ⟨_, rfl⟩
        have hL : addL es ⟨x, (k : Int) + 1⟩ = [] := by unfold addL; rw [if_neg hco]
        have KA := KA.out
        rw [hL, hc] at KA
        have KA := hid KA
        have hcz : (co == 0) = false := by rw [← hc]; simpa using hco
        clear hco hL hc
        go_upto_region 6 with (fail)
        generalize hFB : h1.add W.heap.size (.cells #[.int .i64 5, .int .i64 2, .int .i64 2, .int .i64 0, .string ⟨#[]⟩, .slice Ae es.length ce, .slice none 0 0] 25) = hB at *
        go_region_held (fun w' => Ext (fhOf W) W hB w') (first | with_reducible assumption) (first | (go_at_call 20; refine (KA.out _ Ed.sits).mono ?_; rintro e' w2 R; obtain ⟨A2, c2, h2, rfl, r2, F2, u0, u1, u2⟩ := R.stayX (by decide); have EF := EB.more F2))
        have hd2 := hid (F2.row (show wr.drew.heap[W.heap.size]? = _ from hd))
        have hf2 := hid (F2.row (show wr.drew.heap[W.heap.size + 1]? = _ from hf))
        have g0 := F2.none HN0.out (show W.heap.size < wr.drew.heap.size from hglt)
        have g1 := F2.none HN1.out (show W.heap.size + 1 < wr.drew.heap.size from hglt1)
        have E3 := Ed.trans F2
        have re2 := re.mono F2.le
        clear F2 EF EB Ed hcN hcD R hd hf E
        go_wp2_with fail
        go_roundw
        case rel => exact ⟨k + 1, Ae, ce, es, h2, by omega, by omega, by go_num, hd2.out, hf2.out, re2, HRE, HCA, g0, g1, E3⟩
        case measure => simp [intOf]; omega
    · rw [show (decide (k < ns.length) && decide (k < 50)) = false by simp; omega]
      have hglt1 := (Array.getElem?_eq_some_iff.1 hf).1
      have hglt := (Array.getElem?_eq_some_iff.1 hd).1
      go_wp2_with fail
      refine (KN6.out _ _ E.sits).mono ?_
      rintro e w2 ⟨rfl, F1⟩
      have E1 := E.trans F1
      have hd1 := F1.row hd
      have hf1 := F1.row hf
      have z0 := fun j => box_free (j := j) hf1
      have y0 := box_cell (j := 0) hf1 rfl
      have y1 := box_cell (j := 1) hf1 rfl
      have y2 := box_cell (j := 2) hf1 rfl
      have y3 := box_cell (j := 3) hf1 rfl
      have y4 := box_cell (j := 4) hf1 rfl
      have y5 := box_cell (j := 5) hf1 rfl
      have y6 := box_cell (j := 6) hf1 rfl
      have k0 := box_set (i := 3) (setCells_row [.int .i64 6, .int .i64 1, .int .i64 1, .int .i64 0, .string ⟨#[]⟩, .slice none 0 0, .slice none 0 0] hf1 rfl) (.int .i64 sz)
      have k1 := box_other (i := 3) (g := W.heap.size + 1) (boxes_other (g := W.heap.size + 1) (Nat.succ_ne_self _).symm [.int .i64 6, .int .i64 1, .int .i64 1, .int .i64 0, .string ⟨#[]⟩, .slice none 0 0, .slice none 0 0] 0 _ hd1) (Nat.succ_ne_self _).symm (.int .i64 sz)
      have E3 := Ext.setCell (p := ⟨W.heap.size + 1, 3, none⟩) (Ext.setCells (Nat.le_succ _) HN1.out [.int .i64 6, .int .i64 1, .int .i64 1, .int .i64 0, .string ⟨#[]⟩, .slice none 0 0, .slice none 0 0] 0 _ E1) (Nat.le_succ _) HN1.out (.int .i64 sz)
      have K0 := hid k0
      have K1 := hid k1
      have hsz := HSZ.out
      clear hd1 hf1 k0 k1 F1 E1 E hd hf
      go_wp2_with fail
      clear hsz
      go_loopw [12] (fun i wr => ∃ (k : Nat) (Br : Option Addr) (cr : Nat) (rs : List Run) (h2 : FH), k ≤ ps.length ∧ k ≤ 20 ∧ i = .int .i64 k ∧ wr.heap[W.heap.size]? = some (.cells #[.int .i64 5, .int .i64 2, .int .i64 2, .int .i64 0, .string ⟨#[]⟩, .slice Ae es.length ce, .slice none 0 0] 25) ∧ wr.heap[W.heap.size + 1]? = some (.cells #[.int .i64 6, .int .i64 1, .int .i64 1, .int .i64 sz, .string ⟨#[]⟩, .slice none 0 0, .slice Br rs.length cr] 25) ∧ RowAt h2 Br rs ∧ Hid (rightB rs = true) ∧ Hid (rs.length ≤ cr) ∧ FLe h1 h2 ∧ Hid (h2 W.heap.size = none) ∧ Hid (h2 (W.heap.size + 1) = none) ∧ Ext (fhOf W) W h2 wr) (fun i _ => 20 - (intOf i).toNat)
      case atStart => exact ⟨0, none, 0, [], h1, Nat.zero_le _, by omega, rfl, K1.out, K0.out, RowAt.nil _ _, hid rfl, hid (Nat.le_refl _), FLe.refl _, HN0, HN1, E3⟩
      case round =>
        clear y0 y1 y2 y3 y4 y5 y6 z0 K0 K1 E3 HN0 HN1 hglt hglt1
        obtain ⟨m, Br, cr, rs, h2, hm1, hm2, rfl, hd, hf, rr, HRR, HCR, l2, HN0, HN1, E⟩ := hrel
        have hglt1 := (Array.getElem?_eq_some_iff.1 hf).1
        have hglt := (Array.getElem?_eq_some_iff.1 hd).1
        have hr64 := right_len HRR.out
        go_upto_region 12 with (fail)
        go_cut [56] (fun s wx => s = .bool (decide (m < ps.length) && decide (m < 20)) ∧ wr = wx)
        case first =>
          by_cases hl1 : m < ps.length
          · have hl1' : decide (m < ps.length) = true := by simpa using hl1
            have g1 := hid (show decide ((m : Int) < 20) = (decide (m < ps.length) && decide (m < 20)) by rw [Bool.eq_iff_iff]; simp [hl1]; omega)
            go_wp2
            go_meet
            exact ⟨ret_val6 g1.out, rfl⟩
          · have g1 := hid (show false = (decide (m < ps.length) && decide (m < 20)) by simp [hl1])
            go_wp2
            go_meet
            exact ⟨ret_val6 g1.out, rfl⟩
        case rest =>
        obtain ⟨rfl, rfl⟩ := hcut
        by_cases hin2 : m < ps.length ∧ m < 20
        · obtain ⟨hlt1, hlt2⟩ := hin2
          rw [show (decide (m < ps.length) && decide (m < 20)) = true by simp [hlt1, hlt2]]
          obtain ⟨x, hx⟩ : ∃ x, ps[m]? = some x := ⟨ps[m], by simp [hlt1]⟩
          have HX := hid hx
          obtain ⟨b, off, rfl, c0⟩ := rp.int hx E.back.sits
          clear hx
          obtain ⟨q, hq, hqn⟩ : ∃ q : Nat, (IntKind.u64.wrap x).tmod 64 = q ∧ q < 64 := by
            rw [Int.tmod_eq_emod_of_nonneg (wrap_u64_nonneg x)]
            have := wrap_u64_nonneg x
            exact ⟨(IntKind.u64.wrap x % 64).toNat, by omega, by omega⟩
          have y6 := box_cell (j := 6) hf rfl
          have Ed := E.drew
          have KA := hid (fun w hs => ref_SetRun rs Br cr HRR.out (q : Int) (100 + 3 * (m : Int)) (by omega) (by omega) (by omega) (by omega) h2 w hs rr)
          obtain ⟨s1, s2⟩ := set_right rs HRR.out (i := (q : Int)) (a := 100 + 3 * (m : Int)) (by omega) (by omega) (by omega) (by omega)
          have hs64 := right_len s1
          have HS1 := hid s1
          generalize setR rs (q : Int) (100 + 3 * (m : Int)) = rs2 at *
          have i0 : (0 : Int) ≤ (m : Int) := by omega
          have i1 : (m : Int) < (ps.length : Int) := by omega
          have i2 : IntKind.i64.wrap (3 * (m : Int)) = 3 * (m : Int) := by rw [IntKind.wrap_i64]; omega
          have i3 : IntKind.i64.wrap (100 + 3 * (m : Int)) = 100 + 3 * (m : Int) := by rw [IntKind.wrap_i64]; omega
          have i4 : IntKind.i64.wrap (q : Int) = q := by rw [IntKind.wrap_i64]; omega
          clear s1 s2
          go_upto_region 14 with (fail)
          go_region_with (go_at_call 21; refine (KA.out _ Ed.sits).mono ?_; rintro e' w2 R; obtain ⟨A2, c2, h3, rfl, r2, F2, u0, u1, u2⟩ := RetOwn.stayX R (by omega); have hf2 := F2.row (show wr.drew.heap[W.heap.size + 1]? = _ from hf); have x6 := box_cell (j := 6) hf2 rfl; have z6 := box_free (j := 6) hf2)
          all_goals
            have hd2 := F2.row (show wr.drew.heap[W.heap.size]? = _ from hd)
            have g0 := F2.none HN0.out (show W.heap.size < wr.drew.heap.size from hglt)
            have g1 := F2.none HN1.out (show W.heap.size + 1 < wr.drew.heap.size from hglt1)
            have hf3 := hid (box_set (i := 6) hf2 (.slice A2 rs2.length c2))
            have hd3 := hid (box_other (i := 6) (g := W.heap.size + 1) hd2 (Nat.succ_ne_self _).symm (.slice A2 rs2.length c2))
            have E3 := Ext.setCell (p := ⟨W.heap.size + 1, 6, none⟩) (Ed.trans F2) (Nat.le_succ _) g1 (.slice A2 rs2.length c2)
            have l3 := l2.trans F2.le
            clear hd2 hf2 F2 Ed R hd hf E x6 z6 y6
            go_wp2_with fail
            go_roundw
            case rel => exact ⟨m + 1, A2, c2, rs2, h3, by omega, by omega, by go_num, hd3.out, hf3.out, r2, HS1, hid u1, l3, g0, g1, E3⟩
            case measure => simp [intOf]; omega
        · rw [show (decide (m < ps.length) && decide (m < 20)) = false by simp; omega]
          go_upto_region 15 with (fail)
          have g1 : (h2.add W.heap.size (.cells #[.int .i64 5, .int .i64 2, .int .i64 2, .int .i64 0, .string ⟨#[]⟩, .slice Ae es.length ce, .slice none 0 0] 25)) (W.heap.size + 1) = none := by rw [FH.add_other _ _ (Nat.succ_ne_self _)]; exact HN1.out
          have EB := (E.add hd HN0.out (Nat.le_refl _)).add hf g1 (Nat.le_succ _)
          have reB := re.mono (l2.trans ((FLe.add HN0.out (.cells #[.int .i64 5, .int .i64 2, .int .i64 2, .int .i64 0, .string ⟨#[]⟩, .slice Ae es.length ce, .slice none 0 0] 25)).trans (FLe.add g1 (.cells #[.int .i64 6, .int .i64 1, .int .i64 1, .int .i64 sz, .string ⟨#[]⟩, .slice none 0 0, .slice Br rs.length cr] 25))))
          have rrB := rr.mono ((FLe.add HN0.out (.cells #[.int .i64 5, .int .i64 2, .int .i64 2, .int .i64 0, .string ⟨#[]⟩, .slice Ae es.length ce, .slice none 0 0] 25)).trans (FLe.add g1 (.cells #[.int .i64 6, .int .i64 1, .int .i64 1, .int .i64 sz, .string ⟨#[]⟩, .slice none 0 0, .slice Br rs.length cr] 25)))
          have hcD : ∀ j v, (#[.int .i64 5, .int .i64 2, .int .i64 2, .int .i64 0, .string ⟨#[]⟩, .slice Ae es.length ce, .slice none 0 0] : Array Value)[j]? = some v → ((h2.add W.heap.size (.cells #[.int .i64 5, .int .i64 2, .int .i64 2, .int .i64 0, .string ⟨#[]⟩, .slice Ae es.length ce, .slice none 0 0] 25)).add (W.heap.size + 1) (.cells #[.int .i64 6, .int .i64 1, .int .i64 1, .int .i64 sz, .string ⟨#[]⟩, .slice none 0 0, .slice Br rs.length cr] 25)).cell ⟨W.heap.size, j, none⟩ = some v := fun j v hv => (FLe.add g1 _).cell (FH.add_cell _ _ _ _ _ hv)
          have hcF : ∀ j v, (#[.int .i64 6, .int .i64 1, .int .i64 1, .int .i64 sz, .string ⟨#[]⟩, .slice none 0 0, .slice Br rs.length cr] : Array Value)[j]? = some v → ((h2.add W.heap.size (.cells #[.int .i64 5, .int .i64 2, .int .i64 2, .int .i64 0, .string ⟨#[]⟩, .slice Ae es.length ce, .slice none 0 0] 25)).add (W.heap.size + 1) (.cells #[.int .i64 6, .int .i64 1, .int .i64 1, .int .i64 sz, .string ⟨#[]⟩, .slice none 0 0, .slice Br rs.length cr] 25)).cell ⟨W.heap.size + 1, j, none⟩ = some v := fun j v hv => FH.add_cell _ _ _ _ _ hv
          clear hd hf g1 re rr l2 E hglt hglt1 HN0 HN1
          generalize ((h2.add W.heap.size (.cells #[.int .i64 5, .int .i64 2, .int .i64 2, .int .i64 0, .string ⟨#[]⟩, .slice Ae es.length ce, .slice none 0 0] 25)).add (W.heap.size + 1) (.cells #[.int .i64 6, .int .i64 1, .int .i64 1, .int .i64 sz, .string ⟨#[]⟩, .slice none 0 0, .slice Br rs.length cr] 25)) = hB at *
          have cD0 : ∀ w' : World, Ext (fhOf W) W hB w' → w'.cell? ⟨W.heap.size, 0, none⟩ = some (.int .i64 5) := fun w' E' => E'.sits.cell (hcD 0 _ rfl)
          have cD1 : ∀ w' : World, Ext (fhOf W) W hB w' → w'.cell? ⟨W.heap.size, 1, none⟩ = some (.int .i64 2) := fun w' E' => E'.sits.cell (hcD 1 _ rfl)
          have cD2 : ∀ w' : World, Ext (fhOf W) W hB w' → w'.cell? ⟨W.heap.size, 2, none⟩ = some (.int .i64 2) := fun w' E' => E'.sits.cell (hcD 2 _ rfl)
          have cD3 : ∀ w' : World, Ext (fhOf W) W hB w' → w'.cell? ⟨W.heap.size, 3, none⟩ = some (.int .i64 0) := fun w' E' => E'.sits.cell (hcD 3 _ rfl)
          have cD4 : ∀ w' : World, Ext (fhOf W) W hB w' → w'.cell? ⟨W.heap.size, 4, none⟩ = some (.string ⟨#[]⟩) := fun w' E' => E'.sits.cell (hcD 4 _ rfl)
          have cD5 : ∀ w' : World, Ext (fhOf W) W hB w' → w'.cell? ⟨W.heap.size, 5, none⟩ = some (.slice Ae es.length ce) := fun w' E' => E'.sits.cell (hcD 5 _ rfl)
          have cD6 : ∀ w' : World, Ext (fhOf W) W hB w' → w'.cell? ⟨W.heap.size, 6, none⟩ = some (.slice none 0 0) := fun w' E' => E'.sits.cell (hcD 6 _ rfl)
          have cF0 : ∀ w' : World, Ext (fhOf W) W hB w' → w'.cell? ⟨W.heap.size + 1, 0, none⟩ = some (.int .i64 6) := fun w' E' => E'.sits.cell (hcF 0 _ rfl)
          have cF1 : ∀ w' : World, Ext (fhOf W) W hB w' → w'.cell? ⟨W.heap.size + 1, 1, none⟩ = some (.int .i64 1) := fun w' E' => E'.sits.cell (hcF 1 _ rfl)
          have cF2 : ∀ w' : World, Ext (fhOf W) W hB w' → w'.cell? ⟨W.heap.size + 1, 2, none⟩ = some (.int .i64 1) := fun w' E' => E'.sits.cell (hcF 2 _ rfl)
          have cF3 : ∀ w' : World, Ext (fhOf W) W hB w' → w'.cell? ⟨W.heap.size + 1, 3, none⟩ = some (.int .i64 sz) := fun w' E' => E'.sits.cell (hcF 3 _ rfl)
          have cF4 : ∀ w' : World, Ext (fhOf W) W hB w' → w'.cell? ⟨W.heap.size + 1, 4, none⟩ = some (.string ⟨#[]⟩) := fun w' E' => E'.sits.cell (hcF 4 _ rfl)
          have cF5 : ∀ w' : World, Ext (fhOf W) W hB w' → w'.cell? ⟨W.heap.size + 1, 5, none⟩ = some (.slice none 0 0) := fun w' E' => E'.sits.cell (hcF 5 _ rfl)
          have cF6 : ∀ w' : World, Ext (fhOf W) W hB w' → w'.cell? ⟨W.heap.size + 1, 6, none⟩ = some (.slice Br rs.length cr) := fun w' E' => E'.sits.cell (hcF 6 _ rfl)
          have KD := hid (fun w hs => inode_Stat ⟨5, 2, 2, 0, ⟨#[]⟩, es, []⟩ [.int .i64 5, .int .i64 2, .int .i64 2, .int .i64 0, .string ⟨#[]⟩, .slice Ae es.length ce, .slice none 0 0] hB w hs ⟨Ae, ce, none, 0, rfl, Nat.zero_le _, HCA.out.2.1, reB, Nat.le_refl _, RowAt.nil _ _⟩)
          have KF := hid (fun w hs => inode_Stat ⟨6, 1, 1, sz, ⟨#[]⟩, [], rs⟩ [.int .i64 6, .int .i64 1, .int .i64 1, .int .i64 sz, .string ⟨#[]⟩, .slice none 0 0, .slice Br rs.length cr] hB w hs ⟨none, 0, Br, cr, rfl, Nat.zero_le _, Nat.le_refl _, RowAt.nil _ _, HCR.out, rrB⟩)
          have hVD : statV ⟨5, 2, 2, 0, ⟨#[]⟩, es, []⟩ = .agg #[.int .i64 5, .int .i64 2, .int .i64 2, .int .i64 es.length, .int .i64 0] := rfl
          have hVF : statV ⟨6, 1, 1, sz, ⟨#[]⟩, [], rs⟩ = .agg #[.int .i64 6, .int .i64 1, .int .i64 1, .int .i64 sz, .int .i64 ((pagesR rs).length : Int)] := rfl
          rw [hVD] at KD
          rw [hVF] at KF
          obtain ⟨pg, hpg⟩ : ∃ pg, (pagesR rs).length = pg := ⟨_, rfl⟩
          rw [hpg] at KF
          have HPG := hid hpg
          have HCD := hid hcD
          have HCF := hid hcF
          clear hpg hVD hVF hcD hcF
          have EBd := EB.drew
          have n0 := EB.sits.none (g := wr.heap.size) (Nat.le_refl _)
          have n1 := EB.sits.none (g := wr.heap.size + 1) (Nat.le_succ _)
          have sW := EB.size
          go_cut [13, 14] (fun sa sb wx => ∃ ga gb : Nat, sa = .pointer (some ⟨ga, 0, none⟩) ∧ sb = .pointer (some ⟨gb, 0, none⟩) ∧ wx.cell? ⟨ga, 0, none⟩ = some (.int .i64 5) ∧ wx.cell? ⟨ga, 1, none⟩ = some (.int .i64 2) ∧ wx.cell? ⟨ga, 2, none⟩ = some (.int .i64 2) ∧ wx.cell? ⟨ga, 3, none⟩ = some (.int .i64 es.length) ∧ wx.cell? ⟨ga, 4, none⟩ = some (.int .i64 0) ∧ wx.cell? ⟨gb, 0, none⟩ = some (.int .i64 6) ∧ wx.cell? ⟨gb, 1, none⟩ = some (.int .i64 1) ∧ wx.cell? ⟨gb, 2, none⟩ = some (.int .i64 1) ∧ wx.cell? ⟨gb, 3, none⟩ = some (.int .i64 sz) ∧ wx.cell? ⟨gb, 4, none⟩ = some (.int .i64 pg) ∧ Ext (fhOf W) W hB wx)
          case first =>
            clear rn rp hln hlp hsz2 HSZ HF0 HF1 KN6 hk1 hk2 HRE HCA he100 hin hm1 hm2 HRR HCR hr64 hin2 reB rrB HPG HCD HCF hs
            go_region_held (fun w' => Ext (fhOf W) W hB w') ((repeat (first | with_reducible assumption | with_reducible refine Ext.alloc ?_ _ | with_reducible refine Ext.drew ?_ | refine Ext.setCell ?_ (by first | omega | (dsimp only; omega)) (by first | assumption | (dsimp only; assumption)) _))) (first | (go_at_call 17; (with_reducible refine (KD.out _ (Ext.sits (h := fhOf W) (w := W) (by with_reducible assumption))).mono ?_); rintro e wd ⟨rfl, Ef⟩; have Eg := Ext.more (h := fhOf W) (w := W) (h2 := hB) (by with_reducible assumption) Ef; have hsz := Ef.size; (try simp at hsz); have hn0 := Eg.sits.none (g := wd.heap.size) (Nat.le_refl _); have hn1 := Eg.sits.none (g := wd.heap.size + 1) (Nat.le_succ _); have sWf := Eg.size; (try (have p0 : wd.heap[wr.heap.size]? = some (.cells #[.int .i64 0, .int .i64 0, .int .i64 0, .int .i64 0, .int .i64 0] 31) := Ef.row (heap_new wr (.cells #[.int .i64 0, .int .i64 0, .int .i64 0, .int .i64 0, .int .i64 0] 31)))); (try (have p0 : wd.heap[wr.heap.size]? = some (.cells #[.int .i64 0, .int .i64 0, .int .i64 0, .int .i64 0, .int .i64 0] 31) := Ef.row (box_alloc (heap_new wr (.cells #[.int .i64 0, .int .i64 0, .int .i64 0, .int .i64 0, .int .i64 0] 31)) (.cells #[.int .i64 0, .int .i64 0, .int .i64 0, .int .i64 0, .int .i64 0] 31)))); (try (have p1 : wd.heap[wr.heap.size + 1]? = some (.cells #[.int .i64 0, .int .i64 0, .int .i64 0, .int .i64 0, .int .i64 0] 31) := Ef.row (show ((wr.alloc (.cells #[.int .i64 0, .int .i64 0, .int .i64 0, .int .i64 0, .int .i64 0] 31)).alloc (.cells #[.int .i64 0, .int .i64 0, .int .i64 0, .int .i64 0, .int .i64 0] 31)).heap[wr.heap.size + 1]? = some (.cells #[.int .i64 0, .int .i64 0, .int .i64 0, .int .i64 0, .int .i64 0] 31) by simpa using heap_new (wr.alloc (.cells #[.int .i64 0, .int .i64 0, .int .i64 0, .int .i64 0, .int .i64 0] 31)) (.cells #[.int .i64 0, .int .i64 0, .int .i64 0, .int .i64 0, .int .i64 0] 31)))); (try (have _n : ¬ wr.heap.size = wd.heap.size := by omega)); (try (have _n : ¬ wd.heap.size = wr.heap.size := by omega)); (try (have _n : ¬ wr.heap.size + 1 = wd.heap.size := by omega)); (try (have _n : ¬ wd.heap.size = wr.heap.size + 1 := by omega)); clear Ef) | (go_at_call 17; (with_reducible refine (KF.out _ (Ext.sits (h := fhOf W) (w := W) (by with_reducible assumption))).mono ?_); rintro e wg ⟨rfl, Ef⟩; have Eg := Ext.more (h := fhOf W) (w := W) (h2 := hB) (by with_reducible assumption) Ef; have hsz := Ef.size; (try simp at hsz); have hn0 := Eg.sits.none (g := wg.heap.size) (Nat.le_refl _); have hn1 := Eg.sits.none (g := wg.heap.size + 1) (Nat.le_succ _); have sWf := Eg.size; (try (have q0 : wg.heap[wr.heap.size]? = some (.cells #[.int .i64 0, .int .i64 0, .int .i64 0, .int .i64 0, .int .i64 0] 31) := Ef.row p0)); (try (have q0 : wg.heap[wr.heap.size]? = some (.cells #[.int .i64 0, .int .i64 0, .int .i64 0, .int .i64 0, .int .i64 0] 31) := Ef.row (box_alloc p0 _))); (try (have q1 : wg.heap[wr.heap.size + 1]? = some (.cells #[.int .i64 0, .int .i64 0, .int .i64 0, .int .i64 0, .int .i64 0] 31) := Ef.row p1)); (try (have q2 : wg.heap[wd.heap.size]? = some (.cells #[.int .i64 0, .int .i64 0, .int .i64 0, .int .i64 0, .int .i64 0] 31) := Ef.row (heap_new _ _))); (try (have q2 : wg.heap[wd.heap.size]? = some (.cells #[.int .i64 0, .int .i64 0, .int .i64 0, .int .i64 0, .int .i64 0] 31) := Ef.row (box_alloc (heap_new _ _) _))); (try (have q3 : wg.heap[wd.heap.size + 1]? = some (.cells #[.int .i64 0, .int .i64 0, .int .i64 0, .int .i64 0, .int .i64 0] 31) := Ef.row (by simpa using heap_new (wd.alloc (.cells #[.int .i64 0, .int .i64 0, .int .i64 0, .int .i64 0, .int .i64 0] 31)) (.cells #[.int .i64 0, .int .i64 0, .int .i64 0, .int .i64 0, .int .i64 0] 31)))); (try (have cq0 := boxZ q0; have cfq0 := fun j => box_free (j := j) q0; have dq0 := fun o => boxZ (box_alloc q0 o); have dfq0 := fun j o => box_free (j := j) (box_alloc q0 o); clear q0)); (try (have cq1 := boxZ q1; have cfq1 := fun j => box_free (j := j) q1; have dq1 := fun o => boxZ (box_alloc q1 o); have dfq1 := fun j o => box_free (j := j) (box_alloc q1 o); clear q1)); (try (have cq2 := boxZ q2; have cfq2 := fun j => box_free (j := j) q2; have dq2 := fun o => boxZ (box_alloc q2 o); have dfq2 := fun j o => box_free (j := j) (box_alloc q2 o); clear q2)); (try (have cq3 := boxZ q3; have cfq3 := fun j => box_free (j := j) q3; have dq3 := fun o => boxZ (box_alloc q3 o); have dfq3 := fun j o => box_free (j := j) (box_alloc q3 o); clear q3)); (try (have _n : ¬ wr.heap.size = wg.heap.size := by omega)); (try (have _n : ¬ wg.heap.size = wr.heap.size := by omega)); (try (have _n : ¬ wr.heap.size + 1 = wg.heap.size := by omega)); (try (have _n : ¬ wg.heap.size = wr.heap.size + 1 := by omega)); (try (have _n : ¬ wd.heap.size = wg.heap.size := by omega)); (try (have _n : ¬ wg.heap.size = wd.heap.size := by omega)); (try (have _n : ¬ wd.heap.size + 1 = wg.heap.size := by omega)); (try (have _n : ¬ wg.heap.size = wd.heap.size + 1 := by omega)); clear Ef))
            all_goals
              go_wp2_with fail
              go_meet
              exact ⟨_, _, rfl, rfl, by go_simp, by go_simp, by go_simp, by go_simp, by go_simp, by go_simp, by go_simp, by go_simp, by go_simp, by go_simp, by with_reducible assumption⟩
          case rest =>
            obtain ⟨ga, gb, rfl, rfl, a0, a1, a2, a3, a4, b0, b1, b2, b3, b4, EX⟩ := hcut
            have SX : Sab hB W ga gb es.length sz pg wc := ⟨EX, a0, a1, a2, a3, a4, b0, b1, b2, b3, b4⟩
            clear a0 a1 a2 a3 a4 b0 b1 b2 b3 b4 EX EB EBd n0 n1 sW
            have cA0 : ∀ w', Sab hB W ga gb es.length sz pg w' → w'.cell? ⟨ga, 0, none⟩ = some (.int .i64 5) := fun w' S => S.a0
            have cA1 : ∀ w', Sab hB W ga gb es.length sz pg w' → w'.cell? ⟨ga, 1, none⟩ = some (.int .i64 2) := fun w' S => S.a1
            have cA2 : ∀ w', Sab hB W ga gb es.length sz pg w' → w'.cell? ⟨ga, 2, none⟩ = some (.int .i64 2) := fun w' S => S.a2
            have cA3 : ∀ w', Sab hB W ga gb es.length sz pg w' → w'.cell? ⟨ga, 3, none⟩ = some (.int .i64 es.length) := fun w' S => S.a3
            have cA4 : ∀ w', Sab hB W ga gb es.length sz pg w' → w'.cell? ⟨ga, 4, none⟩ = some (.int .i64 0) := fun w' S => S.a4
            have cB0 : ∀ w', Sab hB W ga gb es.length sz pg w' → w'.cell? ⟨gb, 0, none⟩ = some (.int .i64 6) := fun w' S => S.b0
            have cB1 : ∀ w', Sab hB W ga gb es.length sz pg w' → w'.cell? ⟨gb, 1, none⟩ = some (.int .i64 1) := fun w' S => S.b1
            have cB2 : ∀ w', Sab hB W ga gb es.length sz pg w' → w'.cell? ⟨gb, 2, none⟩ = some (.int .i64 1) := fun w' S => S.b2
            have cB3 : ∀ w', Sab hB W ga gb es.length sz pg w' → w'.cell? ⟨gb, 3, none⟩ = some (.int .i64 sz) := fun w' S => S.b3
            have cB4 : ∀ w', Sab hB W ga gb es.length sz pg w' → w'.cell? ⟨gb, 4, none⟩ = some (.int .i64 pg) := fun w' S => S.b4
            have eD0 : ∀ w', Sab hB W ga gb es.length sz pg w' → w'.cell? ⟨W.heap.size, 0, none⟩ = some (.int .i64 5) := fun w' S => S.ext.sits.cell (HCD.out 0 _ rfl)
            have eD1 : ∀ w', Sab hB W ga gb es.length sz pg w' → w'.cell? ⟨W.heap.size, 1, none⟩ = some (.int .i64 2) := fun w' S => S.ext.sits.cell (HCD.out 1 _ rfl)
            have eD2 : ∀ w', Sab hB W ga gb es.length sz pg w' → w'.cell? ⟨W.heap.size, 2, none⟩ = some (.int .i64 2) := fun w' S => S.ext.sits.cell (HCD.out 2 _ rfl)
            have eD3 : ∀ w', Sab hB W ga gb es.length sz pg w' → w'.cell? ⟨W.heap.size, 3, none⟩ = some (.int .i64 0) := fun w' S => S.ext.sits.cell (HCD.out 3 _ rfl)
            have eD4 : ∀ w', Sab hB W ga gb es.length sz pg w' → w'.cell? ⟨W.heap.size, 4, none⟩ = some (.string ⟨#[]⟩) := fun w' S => S.ext.sits.cell (HCD.out 4 _ rfl)
            have eD5 : ∀ w', Sab hB W ga gb es.length sz pg w' → w'.cell? ⟨W.heap.size, 5, none⟩ = some (.slice Ae es.length ce) := fun w' S => S.ext.sits.cell (HCD.out 5 _ rfl)
            have eD6 : ∀ w', Sab hB W ga gb es.length sz pg w' → w'.cell? ⟨W.heap.size, 6, none⟩ = some (.slice none 0 0) := fun w' S => S.ext.sits.cell (HCD.out 6 _ rfl)
            have eF0 : ∀ w', Sab hB W ga gb es.length sz pg w' → w'.cell? ⟨W.heap.size + 1, 0, none⟩ = some (.int .i64 6) := fun w' S => S.ext.sits.cell (HCF.out 0 _ rfl)
            have eF1 : ∀ w', Sab hB W ga gb es.length sz pg w' → w'.cell? ⟨W.heap.size + 1, 1, none⟩ = some (.int .i64 1) := fun w' S => S.ext.sits.cell (HCF.out 1 _ rfl)
            have eF2 : ∀ w', Sab hB W ga gb es.length sz pg w' → w'.cell? ⟨W.heap.size + 1, 2, none⟩ = some (.int .i64 1) := fun w' S => S.ext.sits.cell (HCF.out 2 _ rfl)
            have eF3 : ∀ w', Sab hB W ga gb es.length sz pg w' → w'.cell? ⟨W.heap.size + 1, 3, none⟩ = some (.int .i64 sz) := fun w' S => S.ext.sits.cell (HCF.out 3 _ rfl)
            have eF4 : ∀ w', Sab hB W ga gb es.length sz pg w' → w'.cell? ⟨W.heap.size + 1, 4, none⟩ = some (.string ⟨#[]⟩) := fun w' S => S.ext.sits.cell (HCF.out 4 _ rfl)
            have eF5 : ∀ w', Sab hB W ga gb es.length sz pg w' → w'.cell? ⟨W.heap.size + 1, 5, none⟩ = some (.slice none 0 0) := fun w' S => S.ext.sits.cell (HCF.out 5 _ rfl)
            have eF6 : ∀ w', Sab hB W ga gb es.length sz pg w' → w'.cell? ⟨W.heap.size + 1, 6, none⟩ = some (.slice Br rs.length cr) := fun w' S => S.ext.sits.cell (HCF.out 6 _ rfl)
            clear cD0 cF0 cD1 cF1 cD2 cF2 cD3 cF3 cD4 cF4 cD5 cF5 cD6 cF6
            have hRD : rightI ⟨5, 2, 2, 0, ⟨#[]⟩, es, []⟩ = true := by
              unfold rightI dirB
              simp [HRE.out, noText_nil]
            have hRF : rightI ⟨6, 1, 1, sz, ⟨#[]⟩, [], rs⟩ = true := by
              unfold rightI fileB
              simp [HRR.out, noText_nil]
              omega
            have KA := hid (fun w hs => law12_awake hB w hs)
            have KRD := hid (fun w hs => inode_Right ⟨5, 2, 2, 0, ⟨#[]⟩, es, []⟩ [.int .i64 5, .int .i64 2, .int .i64 2, .int .i64 0, .string ⟨#[]⟩, .slice Ae es.length ce, .slice none 0 0] true hRD hB w hs ⟨Ae, ce, none, 0, rfl, Nat.zero_le _, HCA.out.2.1, reB, Nat.le_refl _, RowAt.nil _ _⟩)
            have KRF := hid (fun w hs => inode_Right ⟨6, 1, 1, sz, ⟨#[]⟩, [], rs⟩ [.int .i64 6, .int .i64 1, .int .i64 1, .int .i64 sz, .string ⟨#[]⟩, .slice none 0 0, .slice Br rs.length cr] true hRF hB w hs ⟨none, 0, Br, cr, rfl, Nat.zero_le _, Nat.le_refl _, RowAt.nil _ _, HCR.out, rrB⟩)
            have KP := hid (fun w hs => pages_len rs Br cr pg HPG.out hB w hs rrB)
            have hsd := fun w => stat_eq 5 2 2 es.length 0 w
            have hsf := fun w => stat_eq 6 1 1 sz pg w
            have SXd := SX.drew
            go_upto_region 16 with (fail)
            clear hRD hRF KD KF HCD HCF
            go_region_held (fun w' => Sab hB W ga gb es.length sz pg w') (first | with_reducible assumption) (first | (go_at_call 11; (with_reducible refine (KA.out _ (Sab.sits (hB := hB) (W := W) (ga := ga) (gb := gb) (n := es.length) (sz := sz) (pg := pg) (by with_reducible assumption))).mono ?_); rintro e wf ⟨rfl, F⟩; have S1 := Sab.call (hB := hB) (W := W) (ga := ga) (gb := gb) (n := es.length) (sz := sz) (pg := pg) (by with_reducible assumption) F; clear F) | (go_at_call 15; (first | (with_reducible refine (KRD.out _ (Sab.sits (hB := hB) (W := W) (ga := ga) (gb := gb) (n := es.length) (sz := sz) (pg := pg) (by with_reducible assumption))).mono ?_) | (with_reducible refine (KRF.out _ (Sab.sits (hB := hB) (W := W) (ga := ga) (gb := gb) (n := es.length) (sz := sz) (pg := pg) (by with_reducible assumption))).mono ?_)); rintro e wf ⟨rfl, F⟩; have S1 := Sab.call (hB := hB) (W := W) (ga := ga) (gb := gb) (n := es.length) (sz := sz) (pg := pg) (by with_reducible assumption) F; clear F) | (go_at_call 22; (with_reducible refine (KP.out _ (Sab.sits (hB := hB) (W := W) (ga := ga) (gb := gb) (n := es.length) (sz := sz) (pg := pg) (by with_reducible assumption))).mono ?_); rintro e wf ⟨A9, c9, rfl, F⟩; have S1 := Sab.call (hB := hB) (W := W) (ga := ga) (gb := gb) (n := es.length) (sz := sz) (pg := pg) (by with_reducible assumption) F; clear F))
            go_wp2_with fail
            go_ret
            exact ⟨rfl, Ext.back (h1 := hB) (Sab.ext (by with_reducible assumption))⟩
end Go.Proofs.Ytidfcdomeacppaa
