/- The walk of the law InodeNeeds. -/
import Derived.Test.YtidfcdomeacppaaSameI
namespace Go.Proofs.Ytidfcdomeacppaa
open Go.RowKit Go.Sort
set_option linter.unusedVariables false
theorem Ext.row' {h h1 : FH} {w w1 : World} {b : Nat} {o : Obj} (E : Ext h w h1 w1) (hb : w.heap[b]? = some o) : w1.heap[b]? = some o := by
  rw [E.below.block b (Array.getElem?_eq_some_iff.1 hb).1]; exact hb
theorem rep_plain (h : FH) (no kind links size : Int) (t : ByteArray) (ht : t.size ≤ 9223372036854775807) : repInode h [.int .i64 no, .int .i64 kind, .int .i64 links, .int .i64 size, .string t, .slice none 0 0, .slice none 0 0] ⟨no, kind, links, size, t, [], []⟩ :=
  ⟨none, 0, none, 0, rfl, ht, Nat.le_refl _, RowAt.nil _ _, Nat.le_refl _, RowAt.nil _ _⟩
theorem nine {a : Int} (h : 0 ≤ a) : a.tmod 9 = 0 ∨ a.tmod 9 = 1 ∨ a.tmod 9 = 2 ∨ a.tmod 9 = 3 ∨ a.tmod 9 = 4 ∨ a.tmod 9 = 5 ∨ a.tmod 9 = 6 ∨ a.tmod 9 = 7 ∨ a.tmod 9 = 8 := by
  rw [Int.tmod_eq_emod_of_nonneg h]; omega
theorem three {a : Int} (h : 0 ≤ a) : a.tmod 3 = 0 ∨ a.tmod 3 = 1 ∨ a.tmod 3 = 2 := by
  rw [Int.tmod_eq_emod_of_nonneg h]; omega
set_option maxHeartbeats 8000000 in
set_option maxRecDepth 100000 in
theorem InodeNeeds_1 (kind what : Int) (W : World) (hk : (IntKind.u64.wrap kind).tmod 3 = 0) :
    Calls Try.prog 5 #[.int .i64 kind, .int .i64 what] W fun e w' => e = .returned (.bool true) ∧ Ext (fhOf W) W (fhOf W) w' := by
  have hs := Sits.all W
  have H9 := hid (nine (wrap_u64_nonneg what))
  have KA := hid (fun w hs => law12_awake (fhOf W) w hs)
  have hV : newV 7 1 ⟨#[116]⟩ = .agg #[.int .i64 7, .int .i64 1, .int .i64 1, .int .i64 0, .string ⟨#[]⟩, .slice none 0 0, .slice none 0 0] := rfl
  have K1 := hid (fun w hs => inode_New 7 1 ⟨#[116]⟩ (by decide) (fhOf W) w hs)
  have K4 := hid (fun w hs => inode_Right (⟨7, 1, 1, 0, ⟨#[]⟩, [], []⟩ : Inode) _ true (by kernel_rfl) (fhOf W) w hs (rep_plain _ _ _ _ _ _ (by decide)))
  rw [hV] at K1
  clear hV
  go_enter Try.func5, Try.ntmps5
  go_wp2_with fail
  refine (K1.out _ hs).mono ?_
  rintro e w1 ⟨rfl, E1⟩
  have E2 := E1.alloc (.cells #[.int .i64 7, .int .i64 1, .int .i64 1, .int .i64 0, .string ⟨#[]⟩, .slice none 0 0, .slice none 0 0] 25)
  have z0 : (w1.alloc (.cells #[.int .i64 7, .int .i64 1, .int .i64 1, .int .i64 0, .string ⟨#[]⟩, .slice none 0 0, .slice none 0 0] 25)).cell? ⟨w1.heap.size, 0, none⟩ = some (.int .i64 7) := by go_simp
  have z1 : (w1.alloc (.cells #[.int .i64 7, .int .i64 1, .int .i64 1, .int .i64 0, .string ⟨#[]⟩, .slice none 0 0, .slice none 0 0] 25)).cell? ⟨w1.heap.size, 1, none⟩ = some (.int .i64 1) := by go_simp
  have z2 : (w1.alloc (.cells #[.int .i64 7, .int .i64 1, .int .i64 1, .int .i64 0, .string ⟨#[]⟩, .slice none 0 0, .slice none 0 0] 25)).cell? ⟨w1.heap.size, 2, none⟩ = some (.int .i64 1) := by go_simp
  have z3 : (w1.alloc (.cells #[.int .i64 7, .int .i64 1, .int .i64 1, .int .i64 0, .string ⟨#[]⟩, .slice none 0 0, .slice none 0 0] 25)).cell? ⟨w1.heap.size, 3, none⟩ = some (.int .i64 0) := by go_simp
  have z4 : (w1.alloc (.cells #[.int .i64 7, .int .i64 1, .int .i64 1, .int .i64 0, .string ⟨#[]⟩, .slice none 0 0, .slice none 0 0] 25)).cell? ⟨w1.heap.size, 4, none⟩ = some (.string ⟨#[]⟩) := by go_simp
  have z5 : (w1.alloc (.cells #[.int .i64 7, .int .i64 1, .int .i64 1, .int .i64 0, .string ⟨#[]⟩, .slice none 0 0, .slice none 0 0] 25)).cell? ⟨w1.heap.size, 5, none⟩ = some (.slice none 0 0) := by go_simp
  have z6 : (w1.alloc (.cells #[.int .i64 7, .int .i64 1, .int .i64 1, .int .i64 0, .string ⟨#[]⟩, .slice none 0 0, .slice none 0 0] 25)).cell? ⟨w1.heap.size, 6, none⟩ = some (.slice none 0 0) := by go_simp
  have hrow := heap_new w1 (.cells #[.int .i64 7, .int .i64 1, .int .i64 1, .int .i64 0, .string ⟨#[]⟩, .slice none 0 0, .slice none 0 0] 25)
  have hge := E1.size
  have hn := E1.sits.none (g := w1.heap.size) (Nat.le_refl _)
  go_upto_region 3 with (fail)
  generalize (w1.alloc (.cells #[.int .i64 7, .int .i64 1, .int .i64 1, .int .i64 0, .string ⟨#[]⟩, .slice none 0 0, .slice none 0 0] 25)) = w2 at *
  generalize w1.heap.size = g at *
  clear K1 hk
  go_wp2_with fail
  refine (KA.out _ E2.sits).mono ?_
  rintro e w3 ⟨rfl, E3⟩
  have E4 := E2.trans E3
  have y0 := E3.keep z0
  have y1 := E3.keep z1
  have y2 := E3.keep z2
  have y3 := E3.keep z3
  have y4 := E3.keep z4
  have y5 := E3.keep z5
  have y6 := E3.keep z6
  go_wp2_with fail
  refine (K4.out _ E4.sits).mono ?_
  rintro e w5 ⟨rfl, E5⟩
  have E6 := E4.trans E5
  have x0 := E5.keep y0
  have x1 := E5.keep y1
  have x2 := E5.keep y2
  have x3 := E5.keep y3
  have x4 := E5.keep y4
  have x5 := E5.keep y5
  have x6 := E5.keep y6
  have hrow5 := Ext.row' E5 (Ext.row' E3 hrow)
  have hf := fun j => frozen_of_row w5 g j _ _ hrow5
  clear KA K4 E1 E2 E3 E4 E5 hrow hrow5
  rcases H9.out with hq | hq | hq | hq | hq | hq | hq | hq | hq
  · have E7 := E6.setCell (p := ⟨g, 0, none⟩) hge hn (.int .i64 0)
    go_wp2_with fail
    refine (inode_Right (⟨0, 1, 1, 0, ⟨#[]⟩, [], []⟩ : Inode) _ false (by kernel_rfl) (fhOf W) _ E7.sits (rep_plain _ _ _ _ _ _ (by decide))).mono ?_
    rintro e w6 ⟨rfl, E8⟩
    go_wp2_with fail
    go_ret
    exact ⟨rfl, E7.trans E8⟩
  · have E7 := E6.setCell (p := ⟨g, 1, none⟩) hge hn (.int .i64 4)
    go_wp2_with fail
    refine (inode_Right (⟨7, 4, 1, 0, ⟨#[]⟩, [], []⟩ : Inode) _ false (by kernel_rfl) (fhOf W) _ E7.sits (rep_plain _ _ _ _ _ _ (by decide))).mono ?_
    rintro e w6 ⟨rfl, E8⟩
    go_wp2_with fail
    go_ret
    exact ⟨rfl, E7.trans E8⟩
  · have E7 := E6.setCell (p := ⟨g, 2, none⟩) hge hn (.int .i64 (-1))
    go_wp2_with fail
    refine (inode_Right (⟨7, 1, (-1), 0, ⟨#[]⟩, [], []⟩ : Inode) _ false (by kernel_rfl) (fhOf W) _ E7.sits (rep_plain _ _ _ _ _ _ (by decide))).mono ?_
    rintro e w6 ⟨rfl, E8⟩
    go_wp2_with fail
    go_ret
    exact ⟨rfl, E7.trans E8⟩
  · have E7 := E6.setCell (p := ⟨g, 2, none⟩) hge hn (.int .i64 101)
    go_wp2_with fail
    refine (inode_Right (⟨7, 1, 101, 0, ⟨#[]⟩, [], []⟩ : Inode) _ false (by kernel_rfl) (fhOf W) _ E7.sits (rep_plain _ _ _ _ _ _ (by decide))).mono ?_
    rintro e w6 ⟨rfl, E8⟩
    go_wp2_with fail
    go_ret
    exact ⟨rfl, E7.trans E8⟩
  · have E7 := E6.setCell (p := ⟨g, 3, none⟩) hge hn (.int .i64 (-1))
    go_wp2_with fail
    refine (inode_Right (⟨7, 1, 1, (-1), ⟨#[]⟩, [], []⟩ : Inode) _ false (by kernel_rfl) (fhOf W) _ E7.sits (rep_plain _ _ _ _ _ _ (by decide))).mono ?_
    rintro e w6 ⟨rfl, E8⟩
    go_wp2_with fail
    go_ret
    exact ⟨rfl, E7.trans E8⟩
  · have E7 := E6.setCell (p := ⟨g, 3, none⟩) hge hn (.int .i64 16385)
    go_wp2_with fail
    refine (inode_Right (⟨7, 1, 1, 16385, ⟨#[]⟩, [], []⟩ : Inode) _ false (by kernel_rfl) (fhOf W) _ E7.sits (rep_plain _ _ _ _ _ _ (by decide))).mono ?_
    rintro e w6 ⟨rfl, E8⟩
    go_wp2_with fail
    go_ret
    exact ⟨rfl, E7.trans E8⟩
  · have E7 := E6.setCell (p := ⟨g, 4, none⟩) hge hn (.string ⟨#[120]⟩)
    go_wp2_with fail
    refine (inode_Right (⟨7, 1, 1, 0, ⟨#[120]⟩, [], []⟩ : Inode) _ false (by kernel_rfl) (fhOf W) _ E7.sits (rep_plain _ _ _ _ _ _ (by decide))).mono ?_
    rintro e w6 ⟨rfl, E8⟩
    go_wp2_with fail
    go_ret
    exact ⟨rfl, E7.trans E8⟩
  · have hgl : g < w5.heap.size := World.block_lt_of_cell? w5 _ x0
    have E7a := (E6.setCell (p := ⟨g, 5, none⟩) hge hn (.slice (some ⟨w5.heap.size, 0, none⟩) 1 1)).alloc (.cells #[.string ⟨#[]⟩, .int .i64 5] 38)
    have hsz : (w5.setCell ⟨g, 5, none⟩ (.slice (some ⟨w5.heap.size, 0, none⟩) 1 1)).heap.size = w5.heap.size := by simp [World.setCell]
    have E7b := E7a.add (heap_new _ _) (by rw [hsz]; exact E6.sits.none (Nat.le_refl _)) (by rw [hsz]; exact E6.size)
    rw [hsz] at E7b
    have hrep : repInode ((fhOf W).add w5.heap.size (.cells #[.string ⟨#[]⟩, .int .i64 5] 38)) [.int .i64 7, .int .i64 1, .int .i64 1, .int .i64 0, .string ⟨#[]⟩, .slice (some ⟨w5.heap.size, 0, none⟩) 1 1, .slice none 0 0] (⟨7, 1, 1, 0, ⟨#[]⟩, [⟨⟨#[]⟩, 5⟩], []⟩ : Inode) := ⟨some ⟨w5.heap.size, 0, none⟩, 1, none, 0, rfl, by decide, Nat.le_refl _, RowAt.of_block (FH.add_same _ _ _) ⟨_, _, rfl, ⟨rfl, by decide⟩, rfl⟩ (by decide), Nat.le_refl _, RowAt.nil _ _⟩
    have K5 := hid (inode_Right _ _ false (by kernel_rfl) _ _ E7b.sits hrep)
    go_wp2_with fail
    refine K5.out.mono ?_
    rintro e w6 ⟨rfl, E8⟩
    go_wp2_with fail
    go_ret
    exact ⟨rfl, (E7b.trans E8).back⟩
  · have hgl : g < w5.heap.size := World.block_lt_of_cell? w5 _ x0
    have E7a := (E6.setCell (p := ⟨g, 6, none⟩) hge hn (.slice (some ⟨w5.heap.size, 0, none⟩) 1 1)).alloc (.cells #[.int .i64 64, .int .i64 0, .int .i64 1] 40)
    have hsz : (w5.setCell ⟨g, 6, none⟩ (.slice (some ⟨w5.heap.size, 0, none⟩) 1 1)).heap.size = w5.heap.size := by simp [World.setCell]
    have E7b := E7a.add (heap_new _ _) (by rw [hsz]; exact E6.sits.none (Nat.le_refl _)) (by rw [hsz]; exact E6.size)
    rw [hsz] at E7b
    have hrep : repInode ((fhOf W).add w5.heap.size (.cells #[.int .i64 64, .int .i64 0, .int .i64 1] 40)) [.int .i64 7, .int .i64 1, .int .i64 1, .int .i64 0, .string ⟨#[]⟩, .slice none 0 0, .slice (some ⟨w5.heap.size, 0, none⟩) 1 1] (⟨7, 1, 1, 0, ⟨#[]⟩, [], [⟨64, 0, 1⟩]⟩ : Inode) := ⟨none, 0, some ⟨w5.heap.size, 0, none⟩, 1, rfl, by decide, Nat.le_refl _, RowAt.nil _ _, Nat.le_refl _, RowAt.of_block (FH.add_same _ _ _) ⟨_, _, rfl, rfl, rfl⟩ (by decide)⟩
    have K5 := hid (inode_Right _ _ false (by kernel_rfl) _ _ E7b.sits hrep)
    go_wp2_with fail
    refine K5.out.mono ?_
    rintro e w6 ⟨rfl, E8⟩
    go_wp2_with fail
    go_ret
    exact ⟨rfl, (E7b.trans E8).back⟩
set_option maxHeartbeats 8000000 in
set_option maxRecDepth 100000 in
theorem InodeNeeds_2 (kind what : Int) (W : World) (hk : (IntKind.u64.wrap kind).tmod 3 = 1) :
    Calls Try.prog 5 #[.int .i64 kind, .int .i64 what] W fun e w' => e = .returned (.bool true) ∧ Ext (fhOf W) W (fhOf W) w' := by
  have hs := Sits.all W
  have H9 := hid (nine (wrap_u64_nonneg what))
  have KA := hid (fun w hs => law12_awake (fhOf W) w hs)
  have hV : newV 7 2 ⟨#[116]⟩ = .agg #[.int .i64 7, .int .i64 2, .int .i64 2, .int .i64 0, .string ⟨#[]⟩, .slice none 0 0, .slice none 0 0] := rfl
  have K1 := hid (fun w hs => inode_New 7 2 ⟨#[116]⟩ (by decide) (fhOf W) w hs)
  have K4 := hid (fun w hs => inode_Right (⟨7, 2, 2, 0, ⟨#[]⟩, [], []⟩ : Inode) _ true (by kernel_rfl) (fhOf W) w hs (rep_plain _ _ _ _ _ _ (by decide)))
  rw [hV] at K1
  clear hV
  go_enter Try.func5, Try.ntmps5
  go_wp2_with fail
  refine (K1.out _ hs).mono ?_
  rintro e w1 ⟨rfl, E1⟩
  have E2 := E1.alloc (.cells #[.int .i64 7, .int .i64 2, .int .i64 2, .int .i64 0, .string ⟨#[]⟩, .slice none 0 0, .slice none 0 0] 25)
  have z0 : (w1.alloc (.cells #[.int .i64 7, .int .i64 2, .int .i64 2, .int .i64 0, .string ⟨#[]⟩, .slice none 0 0, .slice none 0 0] 25)).cell? ⟨w1.heap.size, 0, none⟩ = some (.int .i64 7) := by go_simp
  have z1 : (w1.alloc (.cells #[.int .i64 7, .int .i64 2, .int .i64 2, .int .i64 0, .string ⟨#[]⟩, .slice none 0 0, .slice none 0 0] 25)).cell? ⟨w1.heap.size, 1, none⟩ = some (.int .i64 2) := by go_simp
  have z2 : (w1.alloc (.cells #[.int .i64 7, .int .i64 2, .int .i64 2, .int .i64 0, .string ⟨#[]⟩, .slice none 0 0, .slice none 0 0] 25)).cell? ⟨w1.heap.size, 2, none⟩ = some (.int .i64 2) := by go_simp
  have z3 : (w1.alloc (.cells #[.int .i64 7, .int .i64 2, .int .i64 2, .int .i64 0, .string ⟨#[]⟩, .slice none 0 0, .slice none 0 0] 25)).cell? ⟨w1.heap.size, 3, none⟩ = some (.int .i64 0) := by go_simp
  have z4 : (w1.alloc (.cells #[.int .i64 7, .int .i64 2, .int .i64 2, .int .i64 0, .string ⟨#[]⟩, .slice none 0 0, .slice none 0 0] 25)).cell? ⟨w1.heap.size, 4, none⟩ = some (.string ⟨#[]⟩) := by go_simp
  have z5 : (w1.alloc (.cells #[.int .i64 7, .int .i64 2, .int .i64 2, .int .i64 0, .string ⟨#[]⟩, .slice none 0 0, .slice none 0 0] 25)).cell? ⟨w1.heap.size, 5, none⟩ = some (.slice none 0 0) := by go_simp
  have z6 : (w1.alloc (.cells #[.int .i64 7, .int .i64 2, .int .i64 2, .int .i64 0, .string ⟨#[]⟩, .slice none 0 0, .slice none 0 0] 25)).cell? ⟨w1.heap.size, 6, none⟩ = some (.slice none 0 0) := by go_simp
  have hrow := heap_new w1 (.cells #[.int .i64 7, .int .i64 2, .int .i64 2, .int .i64 0, .string ⟨#[]⟩, .slice none 0 0, .slice none 0 0] 25)
  have hge := E1.size
  have hn := E1.sits.none (g := w1.heap.size) (Nat.le_refl _)
  go_upto_region 3 with (fail)
  generalize (w1.alloc (.cells #[.int .i64 7, .int .i64 2, .int .i64 2, .int .i64 0, .string ⟨#[]⟩, .slice none 0 0, .slice none 0 0] 25)) = w2 at *
  generalize w1.heap.size = g at *
  clear K1 hk
  go_wp2_with fail
  refine (KA.out _ E2.sits).mono ?_
  rintro e w3 ⟨rfl, E3⟩
  have E4 := E2.trans E3
  have y0 := E3.keep z0
  have y1 := E3.keep z1
  have y2 := E3.keep z2
  have y3 := E3.keep z3
  have y4 := E3.keep z4
  have y5 := E3.keep z5
  have y6 := E3.keep z6
  go_wp2_with fail
  refine (K4.out _ E4.sits).mono ?_
  rintro e w5 ⟨rfl, E5⟩
  have E6 := E4.trans E5
  have x0 := E5.keep y0
  have x1 := E5.keep y1
  have x2 := E5.keep y2
  have x3 := E5.keep y3
  have x4 := E5.keep y4
  have x5 := E5.keep y5
  have x6 := E5.keep y6
  have hrow5 := Ext.row' E5 (Ext.row' E3 hrow)
  have hf := fun j => frozen_of_row w5 g j _ _ hrow5
  clear KA K4 E1 E2 E3 E4 E5 hrow hrow5
  rcases H9.out with hq | hq | hq | hq | hq | hq | hq | hq | hq
  · have E7 := E6.setCell (p := ⟨g, 0, none⟩) hge hn (.int .i64 0)
    go_wp2_with fail
    refine (inode_Right (⟨0, 2, 2, 0, ⟨#[]⟩, [], []⟩ : Inode) _ false (by kernel_rfl) (fhOf W) _ E7.sits (rep_plain _ _ _ _ _ _ (by decide))).mono ?_
    rintro e w6 ⟨rfl, E8⟩
    go_wp2_with fail
    go_ret
    exact ⟨rfl, E7.trans E8⟩
  · have E7 := E6.setCell (p := ⟨g, 1, none⟩) hge hn (.int .i64 4)
    go_wp2_with fail
    refine (inode_Right (⟨7, 4, 2, 0, ⟨#[]⟩, [], []⟩ : Inode) _ false (by kernel_rfl) (fhOf W) _ E7.sits (rep_plain _ _ _ _ _ _ (by decide))).mono ?_
    rintro e w6 ⟨rfl, E8⟩
    go_wp2_with fail
    go_ret
    exact ⟨rfl, E7.trans E8⟩
  · have E7 := E6.setCell (p := ⟨g, 2, none⟩) hge hn (.int .i64 (-1))
    go_wp2_with fail
    refine (inode_Right (⟨7, 2, (-1), 0, ⟨#[]⟩, [], []⟩ : Inode) _ false (by kernel_rfl) (fhOf W) _ E7.sits (rep_plain _ _ _ _ _ _ (by decide))).mono ?_
    rintro e w6 ⟨rfl, E8⟩
    go_wp2_with fail
    go_ret
    exact ⟨rfl, E7.trans E8⟩
  · have E7 := E6.setCell (p := ⟨g, 2, none⟩) hge hn (.int .i64 101)
    go_wp2_with fail
    refine (inode_Right (⟨7, 2, 101, 0, ⟨#[]⟩, [], []⟩ : Inode) _ false (by kernel_rfl) (fhOf W) _ E7.sits (rep_plain _ _ _ _ _ _ (by decide))).mono ?_
    rintro e w6 ⟨rfl, E8⟩
    go_wp2_with fail
    go_ret
    exact ⟨rfl, E7.trans E8⟩
  · have E7 := E6.setCell (p := ⟨g, 3, none⟩) hge hn (.int .i64 (-1))
    go_wp2_with fail
    refine (inode_Right (⟨7, 2, 2, (-1), ⟨#[]⟩, [], []⟩ : Inode) _ false (by kernel_rfl) (fhOf W) _ E7.sits (rep_plain _ _ _ _ _ _ (by decide))).mono ?_
    rintro e w6 ⟨rfl, E8⟩
    go_wp2_with fail
    go_ret
    exact ⟨rfl, E7.trans E8⟩
  · have E7 := E6.setCell (p := ⟨g, 3, none⟩) hge hn (.int .i64 1)
    go_wp2_with fail
    refine (inode_Right (⟨7, 2, 2, 1, ⟨#[]⟩, [], []⟩ : Inode) _ false (by kernel_rfl) (fhOf W) _ E7.sits (rep_plain _ _ _ _ _ _ (by decide))).mono ?_
    rintro e w6 ⟨rfl, E8⟩
    go_wp2_with fail
    go_ret
    exact ⟨rfl, E7.trans E8⟩
  · have E7 := E6.setCell (p := ⟨g, 4, none⟩) hge hn (.string ⟨#[120]⟩)
    go_wp2_with fail
    refine (inode_Right (⟨7, 2, 2, 0, ⟨#[120]⟩, [], []⟩ : Inode) _ false (by kernel_rfl) (fhOf W) _ E7.sits (rep_plain _ _ _ _ _ _ (by decide))).mono ?_
    rintro e w6 ⟨rfl, E8⟩
    go_wp2_with fail
    go_ret
    exact ⟨rfl, E7.trans E8⟩
  · have hgl : g < w5.heap.size := World.block_lt_of_cell? w5 _ x0
    have E7a := (E6.setCell (p := ⟨g, 5, none⟩) hge hn (.slice (some ⟨w5.heap.size, 0, none⟩) 1 1)).alloc (.cells #[.string ⟨#[]⟩, .int .i64 5] 38)
    have hsz : (w5.setCell ⟨g, 5, none⟩ (.slice (some ⟨w5.heap.size, 0, none⟩) 1 1)).heap.size = w5.heap.size := by simp [World.setCell]
    have E7b := E7a.add (heap_new _ _) (by rw [hsz]; exact E6.sits.none (Nat.le_refl _)) (by rw [hsz]; exact E6.size)
    rw [hsz] at E7b
    have hrep : repInode ((fhOf W).add w5.heap.size (.cells #[.string ⟨#[]⟩, .int .i64 5] 38)) [.int .i64 7, .int .i64 2, .int .i64 2, .int .i64 0, .string ⟨#[]⟩, .slice (some ⟨w5.heap.size, 0, none⟩) 1 1, .slice none 0 0] (⟨7, 2, 2, 0, ⟨#[]⟩, [⟨⟨#[]⟩, 5⟩], []⟩ : Inode) := ⟨some ⟨w5.heap.size, 0, none⟩, 1, none, 0, rfl, by decide, Nat.le_refl _, RowAt.of_block (FH.add_same _ _ _) ⟨_, _, rfl, ⟨rfl, by decide⟩, rfl⟩ (by decide), Nat.le_refl _, RowAt.nil _ _⟩
    have K5 := hid (inode_Right _ _ false (by kernel_rfl) _ _ E7b.sits hrep)
    go_wp2_with fail
    refine K5.out.mono ?_
    rintro e w6 ⟨rfl, E8⟩
    go_wp2_with fail
    go_ret
    exact ⟨rfl, (E7b.trans E8).back⟩
  · have hgl : g < w5.heap.size := World.block_lt_of_cell? w5 _ x0
    have E7a := (E6.setCell (p := ⟨g, 6, none⟩) hge hn (.slice (some ⟨w5.heap.size, 0, none⟩) 1 1)).alloc (.cells #[.int .i64 64, .int .i64 0, .int .i64 1] 40)
    have hsz : (w5.setCell ⟨g, 6, none⟩ (.slice (some ⟨w5.heap.size, 0, none⟩) 1 1)).heap.size = w5.heap.size := by simp [World.setCell]
    have E7b := E7a.add (heap_new _ _) (by rw [hsz]; exact E6.sits.none (Nat.le_refl _)) (by rw [hsz]; exact E6.size)
    rw [hsz] at E7b
    have hrep : repInode ((fhOf W).add w5.heap.size (.cells #[.int .i64 64, .int .i64 0, .int .i64 1] 40)) [.int .i64 7, .int .i64 2, .int .i64 2, .int .i64 0, .string ⟨#[]⟩, .slice none 0 0, .slice (some ⟨w5.heap.size, 0, none⟩) 1 1] (⟨7, 2, 2, 0, ⟨#[]⟩, [], [⟨64, 0, 1⟩]⟩ : Inode) := ⟨none, 0, some ⟨w5.heap.size, 0, none⟩, 1, rfl, by decide, Nat.le_refl _, RowAt.nil _ _, Nat.le_refl _, RowAt.of_block (FH.add_same _ _ _) ⟨_, _, rfl, rfl, rfl⟩ (by decide)⟩
    have K5 := hid (inode_Right _ _ false (by kernel_rfl) _ _ E7b.sits hrep)
    go_wp2_with fail
    refine K5.out.mono ?_
    rintro e w6 ⟨rfl, E8⟩
    go_wp2_with fail
    go_ret
    exact ⟨rfl, (E7b.trans E8).back⟩
set_option maxHeartbeats 8000000 in
set_option maxRecDepth 100000 in
theorem InodeNeeds_3 (kind what : Int) (W : World) (hk : (IntKind.u64.wrap kind).tmod 3 = 2) :
    Calls Try.prog 5 #[.int .i64 kind, .int .i64 what] W fun e w' => e = .returned (.bool true) ∧ Ext (fhOf W) W (fhOf W) w' := by
  have hs := Sits.all W
  have H9 := hid (nine (wrap_u64_nonneg what))
  have KA := hid (fun w hs => law12_awake (fhOf W) w hs)
  have hV : newV 7 3 ⟨#[116]⟩ = .agg #[.int .i64 7, .int .i64 3, .int .i64 1, .int .i64 1, .string ⟨#[116]⟩, .slice none 0 0, .slice none 0 0] := rfl
  have K1 := hid (fun w hs => inode_New 7 3 ⟨#[116]⟩ (by decide) (fhOf W) w hs)
  have K4 := hid (fun w hs => inode_Right (⟨7, 3, 1, 1, ⟨#[116]⟩, [], []⟩ : Inode) _ true (by kernel_rfl) (fhOf W) w hs (rep_plain _ _ _ _ _ _ (by decide)))
  rw [hV] at K1
  clear hV
  go_enter Try.func5, Try.ntmps5
  go_wp2_with fail
  refine (K1.out _ hs).mono ?_
  rintro e w1 ⟨rfl, E1⟩
  have E2 := E1.alloc (.cells #[.int .i64 7, .int .i64 3, .int .i64 1, .int .i64 1, .string ⟨#[116]⟩, .slice none 0 0, .slice none 0 0] 25)
  have z0 : (w1.alloc (.cells #[.int .i64 7, .int .i64 3, .int .i64 1, .int .i64 1, .string ⟨#[116]⟩, .slice none 0 0, .slice none 0 0] 25)).cell? ⟨w1.heap.size, 0, none⟩ = some (.int .i64 7) := by go_simp
  have z1 : (w1.alloc (.cells #[.int .i64 7, .int .i64 3, .int .i64 1, .int .i64 1, .string ⟨#[116]⟩, .slice none 0 0, .slice none 0 0] 25)).cell? ⟨w1.heap.size, 1, none⟩ = some (.int .i64 3) := by go_simp
  have z2 : (w1.alloc (.cells #[.int .i64 7, .int .i64 3, .int .i64 1, .int .i64 1, .string ⟨#[116]⟩, .slice none 0 0, .slice none 0 0] 25)).cell? ⟨w1.heap.size, 2, none⟩ = some (.int .i64 1) := by go_simp
  have z3 : (w1.alloc (.cells #[.int .i64 7, .int .i64 3, .int .i64 1, .int .i64 1, .string ⟨#[116]⟩, .slice none 0 0, .slice none 0 0] 25)).cell? ⟨w1.heap.size, 3, none⟩ = some (.int .i64 1) := by go_simp
  have z4 : (w1.alloc (.cells #[.int .i64 7, .int .i64 3, .int .i64 1, .int .i64 1, .string ⟨#[116]⟩, .slice none 0 0, .slice none 0 0] 25)).cell? ⟨w1.heap.size, 4, none⟩ = some (.string ⟨#[116]⟩) := by go_simp
  have z5 : (w1.alloc (.cells #[.int .i64 7, .int .i64 3, .int .i64 1, .int .i64 1, .string ⟨#[116]⟩, .slice none 0 0, .slice none 0 0] 25)).cell? ⟨w1.heap.size, 5, none⟩ = some (.slice none 0 0) := by go_simp
  have z6 : (w1.alloc (.cells #[.int .i64 7, .int .i64 3, .int .i64 1, .int .i64 1, .string ⟨#[116]⟩, .slice none 0 0, .slice none 0 0] 25)).cell? ⟨w1.heap.size, 6, none⟩ = some (.slice none 0 0) := by go_simp
  have hrow := heap_new w1 (.cells #[.int .i64 7, .int .i64 3, .int .i64 1, .int .i64 1, .string ⟨#[116]⟩, .slice none 0 0, .slice none 0 0] 25)
  have hge := E1.size
  have hn := E1.sits.none (g := w1.heap.size) (Nat.le_refl _)
  go_upto_region 3 with (fail)
  generalize (w1.alloc (.cells #[.int .i64 7, .int .i64 3, .int .i64 1, .int .i64 1, .string ⟨#[116]⟩, .slice none 0 0, .slice none 0 0] 25)) = w2 at *
  generalize w1.heap.size = g at *
  clear K1 hk
  go_wp2_with fail
  refine (KA.out _ E2.sits).mono ?_
  rintro e w3 ⟨rfl, E3⟩
  have E4 := E2.trans E3
  have y0 := E3.keep z0
  have y1 := E3.keep z1
  have y2 := E3.keep z2
  have y3 := E3.keep z3
  have y4 := E3.keep z4
  have y5 := E3.keep z5
  have y6 := E3.keep z6
  go_wp2_with fail
  refine (K4.out _ E4.sits).mono ?_
  rintro e w5 ⟨rfl, E5⟩
  have E6 := E4.trans E5
  have x0 := E5.keep y0
  have x1 := E5.keep y1
  have x2 := E5.keep y2
  have x3 := E5.keep y3
  have x4 := E5.keep y4
  have x5 := E5.keep y5
  have x6 := E5.keep y6
  have hrow5 := Ext.row' E5 (Ext.row' E3 hrow)
  have hf := fun j => frozen_of_row w5 g j _ _ hrow5
  clear KA K4 E1 E2 E3 E4 E5 hrow hrow5
  rcases H9.out with hq | hq | hq | hq | hq | hq | hq | hq | hq
  · have E7 := E6.setCell (p := ⟨g, 0, none⟩) hge hn (.int .i64 0)
    go_wp2_with fail
    refine (inode_Right (⟨0, 3, 1, 1, ⟨#[116]⟩, [], []⟩ : Inode) _ false (by kernel_rfl) (fhOf W) _ E7.sits (rep_plain _ _ _ _ _ _ (by decide))).mono ?_
    rintro e w6 ⟨rfl, E8⟩
    go_wp2_with fail
    go_ret
    exact ⟨rfl, E7.trans E8⟩
  · have E7 := E6.setCell (p := ⟨g, 1, none⟩) hge hn (.int .i64 4)
    go_wp2_with fail
    refine (inode_Right (⟨7, 4, 1, 1, ⟨#[116]⟩, [], []⟩ : Inode) _ false (by kernel_rfl) (fhOf W) _ E7.sits (rep_plain _ _ _ _ _ _ (by decide))).mono ?_
    rintro e w6 ⟨rfl, E8⟩
    go_wp2_with fail
    go_ret
    exact ⟨rfl, E7.trans E8⟩
  · have E7 := E6.setCell (p := ⟨g, 2, none⟩) hge hn (.int .i64 (-1))
    go_wp2_with fail
    refine (inode_Right (⟨7, 3, (-1), 1, ⟨#[116]⟩, [], []⟩ : Inode) _ false (by kernel_rfl) (fhOf W) _ E7.sits (rep_plain _ _ _ _ _ _ (by decide))).mono ?_
    rintro e w6 ⟨rfl, E8⟩
    go_wp2_with fail
    go_ret
    exact ⟨rfl, E7.trans E8⟩
  · have E7 := E6.setCell (p := ⟨g, 2, none⟩) hge hn (.int .i64 101)
    go_wp2_with fail
    refine (inode_Right (⟨7, 3, 101, 1, ⟨#[116]⟩, [], []⟩ : Inode) _ false (by kernel_rfl) (fhOf W) _ E7.sits (rep_plain _ _ _ _ _ _ (by decide))).mono ?_
    rintro e w6 ⟨rfl, E8⟩
    go_wp2_with fail
    go_ret
    exact ⟨rfl, E7.trans E8⟩
  · have E7 := E6.setCell (p := ⟨g, 3, none⟩) hge hn (.int .i64 (-1))
    go_wp2_with fail
    refine (inode_Right (⟨7, 3, 1, (-1), ⟨#[116]⟩, [], []⟩ : Inode) _ false (by kernel_rfl) (fhOf W) _ E7.sits (rep_plain _ _ _ _ _ _ (by decide))).mono ?_
    rintro e w6 ⟨rfl, E8⟩
    go_wp2_with fail
    go_ret
    exact ⟨rfl, E7.trans E8⟩
  · have E7 := E6.setCell (p := ⟨g, 3, none⟩) hge hn (.int .i64 2)
    go_wp2_with fail
    refine (inode_Right (⟨7, 3, 1, 2, ⟨#[116]⟩, [], []⟩ : Inode) _ false (by kernel_rfl) (fhOf W) _ E7.sits (rep_plain _ _ _ _ _ _ (by decide))).mono ?_
    rintro e w6 ⟨rfl, E8⟩
    go_wp2_with fail
    go_ret
    exact ⟨rfl, E7.trans E8⟩
  · have E7 := E6.setCell (p := ⟨g, 4, none⟩) hge hn (.string ⟨#[116, 120]⟩)
    go_wp2_with fail
    refine (inode_Right (⟨7, 3, 1, 1, ⟨#[116, 120]⟩, [], []⟩ : Inode) _ false (by kernel_rfl) (fhOf W) _ E7.sits (rep_plain _ _ _ _ _ _ (by decide))).mono ?_
    rintro e w6 ⟨rfl, E8⟩
    go_wp2_with fail
    go_ret
    exact ⟨rfl, E7.trans E8⟩
  · have hgl : g < w5.heap.size := World.block_lt_of_cell? w5 _ x0
    have E7a := (E6.setCell (p := ⟨g, 5, none⟩) hge hn (.slice (some ⟨w5.heap.size, 0, none⟩) 1 1)).alloc (.cells #[.string ⟨#[]⟩, .int .i64 5] 38)
    have hsz : (w5.setCell ⟨g, 5, none⟩ (.slice (some ⟨w5.heap.size, 0, none⟩) 1 1)).heap.size = w5.heap.size := by simp [World.setCell]
    have E7b := E7a.add (heap_new _ _) (by rw [hsz]; exact E6.sits.none (Nat.le_refl _)) (by rw [hsz]; exact E6.size)
    rw [hsz] at E7b
    have hrep : repInode ((fhOf W).add w5.heap.size (.cells #[.string ⟨#[]⟩, .int .i64 5] 38)) [.int .i64 7, .int .i64 3, .int .i64 1, .int .i64 1, .string ⟨#[116]⟩, .slice (some ⟨w5.heap.size, 0, none⟩) 1 1, .slice none 0 0] (⟨7, 3, 1, 1, ⟨#[116]⟩, [⟨⟨#[]⟩, 5⟩], []⟩ : Inode) := ⟨some ⟨w5.heap.size, 0, none⟩, 1, none, 0, rfl, by decide, Nat.le_refl _, RowAt.of_block (FH.add_same _ _ _) ⟨_, _, rfl, ⟨rfl, by decide⟩, rfl⟩ (by decide), Nat.le_refl _, RowAt.nil _ _⟩
    have K5 := hid (inode_Right _ _ false (by kernel_rfl) _ _ E7b.sits hrep)
    go_wp2_with fail
    refine K5.out.mono ?_
    rintro e w6 ⟨rfl, E8⟩
    go_wp2_with fail
    go_ret
    exact ⟨rfl, (E7b.trans E8).back⟩
  · have hgl : g < w5.heap.size := World.block_lt_of_cell? w5 _ x0
    have E7a := (E6.setCell (p := ⟨g, 6, none⟩) hge hn (.slice (some ⟨w5.heap.size, 0, none⟩) 1 1)).alloc (.cells #[.int .i64 64, .int .i64 0, .int .i64 1] 40)
    have hsz : (w5.setCell ⟨g, 6, none⟩ (.slice (some ⟨w5.heap.size, 0, none⟩) 1 1)).heap.size = w5.heap.size := by simp [World.setCell]
    have E7b := E7a.add (heap_new _ _) (by rw [hsz]; exact E6.sits.none (Nat.le_refl _)) (by rw [hsz]; exact E6.size)
    rw [hsz] at E7b
    have hrep : repInode ((fhOf W).add w5.heap.size (.cells #[.int .i64 64, .int .i64 0, .int .i64 1] 40)) [.int .i64 7, .int .i64 3, .int .i64 1, .int .i64 1, .string ⟨#[116]⟩, .slice none 0 0, .slice (some ⟨w5.heap.size, 0, none⟩) 1 1] (⟨7, 3, 1, 1, ⟨#[116]⟩, [], [⟨64, 0, 1⟩]⟩ : Inode) := ⟨none, 0, some ⟨w5.heap.size, 0, none⟩, 1, rfl, by decide, Nat.le_refl _, RowAt.nil _ _, Nat.le_refl _, RowAt.of_block (FH.add_same _ _ _) ⟨_, _, rfl, rfl, rfl⟩ (by decide)⟩
    have K5 := hid (inode_Right _ _ false (by kernel_rfl) _ _ E7b.sits hrep)
    go_wp2_with fail
    refine K5.out.mono ?_
    rintro e w6 ⟨rfl, E8⟩
    go_wp2_with fail
    go_ret
    exact ⟨rfl, (E7b.trans E8).back⟩
theorem InodeNeeds_walk (kind what : Int) (W : World) :
    Calls Try.prog 5 #[.int .i64 kind, .int .i64 what] W fun e w' => e = .returned (.bool true) ∧ Ext (fhOf W) W (fhOf W) w' := by
  rcases three (wrap_u64_nonneg kind) with h | h | h
  · exact InodeNeeds_1 kind what W h
  · exact InodeNeeds_2 kind what W h
  · exact InodeNeeds_3 kind what W h
end Go.Proofs.Ytidfcdomeacppaa
