import Derived.Test.YtkglaofiencfdaaStSd
import Derived.Test.YtkglaofiencfdaaInoAll
import Derived.Test.YtkglaofiencfdaaStB
import Derived.Test.YtkglaofiencfdaaPWide
namespace Go.Proofs.Ytkglaofiencfdaa
open Go.RowKit Go.Sort
set_option linter.unusedVariables false
set_option maxHeartbeats 4000000 in
set_option maxRecDepth 100000 in
theorem state_New (h : FH) (w : World) (hs : Sits h w) : Calls Try.prog 22 #[] w fun e w' => RetState h w newS e w' := by
  have E1 := (Ext.refl hs).alloc (.cells #[.int .i64 0, .slice none 0 0, .slice none 0 0] 31)
  have hR := heap_new w (.cells #[.int .i64 0, .slice none 0 0, .slice none 0 0] 31)
  have nR := hs.none (Nat.le_refl w.heap.size)
  go_enter Try.func22, Try.ntmps22
  go_upto_region 1 with (fail)
  generalize hgR : w.heap.size = gR at *
  with_reducible generalize w.alloc (.cells #[.int .i64 0, .slice none 0 0, .slice none 0 0] 31) = w1 at E1 hR ⊢
  have E1 := hid E1
  have hR := hid hR
  have nR := hid nR
  have hwR := hid (Nat.le_of_eq hgR)
  clear hgR
  go_wp2_with (go_at_call 50; refine (inode_New_2 1 ⟨#[]⟩ (by decide) h w1 E1.out.sits).mono ?_; rintro e w2 ⟨rfl, F2⟩; rw [show newV 1 2 ⟨#[]⟩ = .agg #[.int .i64 1, .int .i64 2, .int .i64 2, .int .i64 0, .string ⟨#[]⟩, .slice none 0 0, .slice none 0 0] from rfl]; obtain ⟨h3, E3, hI, le3, hh3⟩ := (E1.out.trans F2).boxF #[.int .i64 1, .int .i64 2, .int .i64 2, .int .i64 0, .string ⟨#[]⟩, .slice none 0 0, .slice none 0 0] 37; have hlt := (F2.none nR.out (Array.getElem?_eq_some_iff.1 hR.out).1); have hR3 := box_alloc (F2.row hR.out) (.cells #[.int .i64 1, .int .i64 2, .int .i64 2, .int .i64 0, .string ⟨#[]⟩, .slice none 0 0, .slice none 0 0] 37); have n3 := hid (show h3 gR = none by rw [hh3, FH.add_other _ _ (Nat.ne_of_lt (Array.getElem?_eq_some_iff.1 (F2.row hR.out)).1)]; exact nR.out); clear hh3; have z0 : (w2.alloc (.cells #[.int .i64 1, .int .i64 2, .int .i64 2, .int .i64 0, .string ⟨#[]⟩, .slice none 0 0, .slice none 0 0] 37)).cell? ⟨gR, 0, none⟩ = some (.int .i64 0) := box_cell (j := 0) hR3 rfl; have z1 : (w2.alloc (.cells #[.int .i64 1, .int .i64 2, .int .i64 2, .int .i64 0, .string ⟨#[]⟩, .slice none 0 0, .slice none 0 0] 37)).cell? ⟨gR, 1, none⟩ = some (.slice none 0 0) := box_cell (j := 1) hR3 rfl; have z2 : (w2.alloc (.cells #[.int .i64 1, .int .i64 2, .int .i64 2, .int .i64 0, .string ⟨#[]⟩, .slice none 0 0, .slice none 0 0] 37)).cell? ⟨gR, 2, none⟩ = some (.slice none 0 0) := box_cell (j := 2) hR3 rfl; have f0 := box_free (j := 0) hR3; have f1 := box_free (j := 1) hR3; have f2 := box_free (j := 2) hR3; have hR3 := hid hR3; have hI := hid hI; have E3 := hid E3; clear hlt)
  have R7 : (((((w2.alloc (.cells #[.int .i64 1, .int .i64 2, .int .i64 2, .int .i64 0, .string ⟨#[]⟩, .slice none 0 0, .slice none 0 0] 37)).setCell ⟨gR, 0, none⟩ (.int .i64 2)).setCell ⟨gR, 1, none⟩ (.slice (some ⟨w2.heap.size, 0, none⟩) 1 1)).setCell ⟨gR, 2, none⟩ (.slice none 0 0))).heap[gR]? = some (.cells #[.int .i64 2, .slice (some ⟨w2.heap.size, 0, none⟩) 1 1, .slice none 0 0] 31 (0, 0)) := setCells_row [.int .i64 2, .slice (some ⟨w2.heap.size, 0, none⟩) 1 1, .slice none 0 0] hR3.out rfl
  have E7 : Ext h w h3 ((((w2.alloc (.cells #[.int .i64 1, .int .i64 2, .int .i64 2, .int .i64 0, .string ⟨#[]⟩, .slice none 0 0, .slice none 0 0] 37)).setCell ⟨gR, 0, none⟩ (.int .i64 2)).setCell ⟨gR, 1, none⟩ (.slice (some ⟨w2.heap.size, 0, none⟩) 1 1)).setCell ⟨gR, 2, none⟩ (.slice none 0 0)) := Ext.setCells (g := gR) hwR.out n3.out [.int .i64 2, .slice (some ⟨w2.heap.size, 0, none⟩) 1 1, .slice none 0 0] 0 _ E3.out
  refine bodyPost_ret (v := .agg #[.int .i64 2, .slice (some ⟨w2.heap.size, 0, none⟩) 1 1, .slice none 0 0]) ?_ rfl ⟨_, h3, rfl, ⟨some ⟨w2.heap.size, 0, none⟩, 1, none, 0, rfl, ⟨Nat.le_refl _, (fun e => by cases e), by decide⟩, RowAt.of_block hI.out (Reps.single ⟨none, 0, none, 0, rfl, by decide, ⟨Nat.le_refl _, fun _ => rfl, by decide⟩, RowAt.nil _ _, ⟨Nat.le_refl _, fun _ => rfl, by decide⟩, RowAt.nil _ _⟩) (by decide), ⟨Nat.le_refl _, fun _ => rfl, by decide⟩, RowAt.nil _ _⟩, E7⟩
  exact results_cell_row (p := 0) (ty := 31) (by kernel_rfl) _ _ gR 31 #[.int .i64 2, .slice (some ⟨w2.heap.size, 0, none⟩) 1 1, .slice none 0 0] (0, 0) _ (by simp) R7 Try.underlying31 rfl (by kernel_rfl)
theorem field_bads (w : World) (a : Int) (A1 A2 : Option Addr) (n1 k1 n2 k2 : Nat) : (Instr.field 31 (.agg #[.int .i64 a, .slice A1 n1 k1, .slice A2 n2 k2]) 2).run Try.prog w = .ok (.slice A2 n2 k2) w := by kernel_rfl
theorem findI_new : findI newS.inodes 1 = some (newI 1 2 ⟨#[]⟩) := by kernel_rfl
theorem sound_new : soundP newS wideG = true := by decide +kernel
theorem bad_new : (applyS newS [⟨4, 3, zeroI⟩]).bads.length = 1 := by decide +kernel
set_option maxHeartbeats 4000000 in
set_option maxRecDepth 100000 in
theorem law14_awake (h : FH) (w : World) (hs : Sits h w) : Calls Try.prog 6 #[] w fun e w' => e = .returned (.bool true) ∧ Ext h w h w' := by
  have KN := hid (state_New h w hs)
  obtain ⟨s, hS⟩ : ∃ s, s = newS := ⟨_, rfl⟩
  obtain ⟨x, hX⟩ : ∃ x, x = newI 1 2 ⟨#[]⟩ := ⟨_, rfl⟩
  have hn : (s.next == 2) = true := by rw [hS]; rfl
  have hk : (x.kind == 2) = true := by rw [hX]; rfl
  have HL := hid (show s.inodes.length + [(⟨4, 3, zeroI⟩ : Deed)].length ≤ 900 ∧ s.bads.length + [(⟨4, 3, zeroI⟩ : Deed)].length ≤ 900 by rw [hS]; decide)
  have HFT := hid (show ∀ y ∈ s.inodes, fitI y by
    rw [hS]; intro y hy
    have : y = newI 1 2 ⟨#[]⟩ := by simpa [newS] using hy
    subst this; exact ⟨by decide, by decide⟩)
  have HFI := hid (show findI s.inodes 1 = some x by rw [hS, hX]; exact findI_new)
  have HSO := hid (show soundP s wideG = true by rw [hS]; exact sound_new)
  have hbd : (((applyS s [⟨4, 3, zeroI⟩]).bads.length : Int) == 1) = true := by rw [hS, bad_new]; rfl
  rw [← hS] at KN
  clear hS hX
  generalize happ : applyS s [⟨4, 3, zeroI⟩] = s2 at hbd
  have HAP := hid happ
  clear happ
  go_enter Try.func6, Try.ntmps6
  go_upto_region 2 with (go_at_call 22; refine KN.out.mono ?_; rintro e w1 ⟨cs, h1, rfl, rs, E1⟩; have RS := hid rs; obtain ⟨A1, c1, A2, c2, rfl, l1, r1, l2, r2⟩ := rs)
  obtain ⟨h2, E2, hb2, le2, hh2⟩ := E1.boxF #[.int .i64 s.next, .slice A1 s.inodes.length c1, .slice A2 s.bads.length c2] 31
  have KF := hid (fun w' hs' => state_Find s _ 1 HFT.out (some x) HFI.out h2 w' hs' (RS.out.mono le2))
  generalize hgs : w1.heap.size = gs at *
  with_reducible generalize w1.alloc (.cells #[.int .i64 s.next, .slice A1 s.inodes.length c1, .slice A2 s.bads.length c2] 31) = w2 at E2 ⊢
  have s0 : w2.cell? ⟨gs, 0, none⟩ = some (.int .i64 s.next) := Sits_at E2.sits hb2 rfl
  have s1 : w2.cell? ⟨gs, 1, none⟩ = some (.slice A1 s.inodes.length c1) := Sits_at E2.sits hb2 rfl
  have s2' : w2.cell? ⟨gs, 2, none⟩ = some (.slice A2 s.bads.length c2) := Sits_at E2.sits hb2 rfl
  clear hh2 E1
  go_upto_region 3 with (go_at_call 13; refine (KF.out w2 E2.sits).mono ?_; rintro e w3 ⟨cx, h3, rfl, ⟨A5, c5, A6, c6, rfl, t0, t1, t2, t3, t4⟩, F3⟩; simp only [Option.getD_some, Option.isSome_some])
  obtain ⟨h4, E4, hb4, le4, hh4⟩ := (E2.trans F3).boxF #[.int .i64 x.no, .int .i64 x.kind, .int .i64 x.links, .int .i64 x.size, .string x.target, .slice A5 x.entries.length c5, .slice A6 x.runs.length c6] 37
  have le24 := F3.le.trans le4
  have hb2 := le24 _ _ hb2
  have RS := hid (RS.out.mono (le2.trans le24))
  generalize hgx : w3.heap.size = gx at *
  with_reducible generalize w3.alloc (.cells #[.int .i64 x.no, .int .i64 x.kind, .int .i64 x.links, .int .i64 x.size, .string x.target, .slice A5 x.entries.length c5, .slice A6 x.runs.length c6] 37) = w4 at E4 ⊢
  have KW := hid (fun w' hs' => play_Wide h4 w' hs')
  have KS := hid (fun w' hs' => state_Sound s wideG _ _ true HSO.out h4 w' hs' RS.out rfl)
  clear s0 s1 s2' hh4 KF F3 E2 hgs hgx le24
  have hc0 : ∀ w' : World, Ext h w h4 w' → w'.cell? ⟨gs, 0, none⟩ = some (.int .i64 s.next) := fun w' E => Sits_at E.sits hb2 rfl
  have hc1 : ∀ w' : World, Ext h w h4 w' → w'.cell? ⟨gs, 1, none⟩ = some (.slice A1 s.inodes.length c1) := fun w' E => Sits_at E.sits hb2 rfl
  have hc2 : ∀ w' : World, Ext h w h4 w' → w'.cell? ⟨gs, 2, none⟩ = some (.slice A2 s.bads.length c2) := fun w' E => Sits_at E.sits hb2 rfl
  have hx1 : ∀ w' : World, Ext h w h4 w' → w'.cell? ⟨gx, 1, none⟩ = some (.int .i64 x.kind) := fun w' E => Sits_at E.sits hb4 rfl
  have KA : Hid (∀ W0, Ext h w h4 W0 → Calls Try.prog 12 #[.agg #[.int .i64 s.next, .slice A1 s.inodes.length c1, .slice A2 s.bads.length c2], .slice (some ⟨W0.heap.size, 0, none⟩) 1 1] (W0.alloc (.cells #[.int .i64 4, .int .i64 3, .int .i64 0, .int .i64 0, .int .i64 0, .int .i64 0, .string ⟨#[]⟩, .slice none 0 0, .slice none 0 0] 39)) fun e w' => ∃ B1 d1 B2 d2, e = .returned (.agg #[.int .i64 s2.next, .slice B1 s2.inodes.length d1, .slice B2 s2.bads.length d2]) ∧ Ext h w h4 w') := hid (fun W0 E0 => by
    obtain ⟨h5, E5, hb5, le5, _⟩ := E0.boxF #[.int .i64 4, .int .i64 3, .int .i64 0, .int .i64 0, .int .i64 0, .int .i64 0, .string ⟨#[]⟩, .slice none 0 0, .slice none 0 0] 39
    refine (state_Apply s _ [⟨4, 3, zeroI⟩] _ 1 HFT.out (fun d hd => by simp at hd; subst hd; exact ⟨by decide, by decide⟩) HL.out.1 HL.out.2 h5 _ E5.sits (RS.out.mono le5) (RowAt.of_block hb5 (Reps.single ⟨none, 0, none, 0, rfl, by decide, ⟨Nat.le_refl _, fun _ => rfl, by decide⟩, RowAt.nil _ _, ⟨Nat.le_refl _, fun _ => rfl, by decide⟩, RowAt.nil _ _⟩) (by decide))).mono ?_
    rintro e w' ⟨cs, h6, rfl, ⟨B1, d1, B2, d2, rfl, _⟩, F⟩
    rw [HAP.out]
    exact ⟨B1, d1, B2, d2, rfl, (E5.trans F).drop E0.le (le5.trans F.le)⟩)
  have hfd := field_bads
  have Ed := E4.drew
  go_region_held3 (fun w' => Ext h w h4 w') (first | with_reducible assumption | with_reducible exact E7 | with_reducible exact E6 | with_reducible exact E5 | with_reducible exact Ext.alloc E6 _ | with_reducible exact Ext.alloc E5 _ | with_reducible exact E4.drew) (first
    | (go_at_call 7; refine (KW.out _ (Ext.sits (h := h) (h' := h4) (w := w) (by first | with_reducible assumption | assumption))).mono ?_; rintro e w5 ⟨rfl, F5⟩; have E5 := Ext.trans (h := h) (w := w) (h1 := h4) (by first | with_reducible assumption | assumption) F5)
    | (go_at_call 10; refine (KS.out _ (Ext.sits (h := h) (h' := h4) (w := w) (by first | with_reducible assumption | assumption))).mono ?_; rintro e w6 ⟨rfl, F6⟩; have E6 := Ext.trans (h := h) (w := w) (h1 := h4) (by first | with_reducible assumption | assumption) F6)
    | (go_at_call 12; refine (KA.out _ (by first | with_reducible assumption | assumption)).mono ?_; rintro e w7 ⟨B1, d1, B2, d2, rfl, E7⟩))
  all_goals
    go_wp2
    go_ret
    exact ⟨rfl, E7.back⟩
end Go.Proofs.Ytkglaofiencfdaa
