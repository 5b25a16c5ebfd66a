import Derived.Test.YtmljcjjhakhjaaaDoorBx
import Derived.Test.YtmljcjjhakhjaaaDoorEntAdd2
import Derived.Test.YtmljcjjhakhjaaaDoorEntRem
namespace Go.Proofs.YtmljcjjhakhjaaaDoor
open Go.RowKit Go.Sort
set_option linter.unusedVariables false
/-! ### package tree: right, put, without, letGo -/
theorem right_facts {t : ByteArray} (hc : partsCode t = 0) : noZero t = true ∧ 1 ≤ t.size := by
  have hs : (partsP t).isSome = true := by
    unfold partsCode at hc
    by_cases h : (partsP t).isSome = true
    · exact h
    · rw [if_neg h] at hc; exact absurd hc (by decide)
  unfold partsP at hs
  by_cases h1 : t.size < 1 ∨ 400 < t.size
  · rw [if_pos h1] at hs; cases hs
  · rw [if_neg h1] at hs
    refine ⟨?_, by omega⟩
    cases hz : noZero t with
    | true => rfl
    | false =>
      exfalso
      unfold noZero at hz
      rw [List.all_eq_false] at hz
      obtain ⟨c, hc1, hc2⟩ := hz
      have hc0 : c = 0 := by simpa using hc2
      subst hc0
      rw [parts_zero hc1] at hs
      cases hs
theorem right_iff (t : ByteArray) : (targetB t = true ∧ partsCode t = 0) ↔ (partsCode t = 0 ∧ t.size ≤ 200) := by
  constructor
  · rintro ⟨h1, h2⟩
    unfold targetB at h1
    simp only [Bool.and_eq_true, decide_eq_true_eq] at h1
    exact ⟨h2, by omega⟩
  · rintro ⟨h1, h2⟩
    obtain ⟨h3, h4⟩ := right_facts h1
    refine ⟨?_, h1⟩
    unfold targetB
    rw [h3]
    simp only [Bool.true_and, Bool.and_eq_true, decide_eq_true_eq]
    omega
set_option maxHeartbeats 4000000 in
set_option maxRecDepth 100000 in
theorem tree_right (t : ByteArray) (htz : t.size ≤ 9223372036854775807) (q : Bool) (hq : decide (targetB t = true ∧ partsCode t = 0) = q) (h : FH) (w : World) (hs : Sits h w) :
    Calls Tryd.prog 21 #[.string t] w fun e w' => e = .returned (.bool q) ∧ Ext h w h w' := by
  have KP := hid (name_Parts t htz h w hs)
  obtain ⟨code, hcd⟩ : ∃ code, partsCode t = code := ⟨_, rfl⟩
  obtain ⟨ls, hls⟩ : ∃ ls, partsXs t = ls := ⟨_, rfl⟩
  obtain ⟨top, htp⟩ : ∃ top, partsTop t = top := ⟨_, rfl⟩
  have hlen := (ways_lenW t).2
  rw [hcd, hls, htp] at KP
  rw [hls] at hlen
  have HQ := hid (show decide (code = 0 ∧ t.size ≤ 200) = q by rw [← hq, ← hcd]; exact decide_eq_decide.2 (right_iff t).symm)
  have HC := hid hcd
  clear hq hcd hls htp
  go_enter Tryd.func21, Tryd.ntmps21
  go_upto_region 2 with (go_at_call 46; refine KP.out.mono ?_; rintro e w1 R; obtain ⟨A, c, h1, rfl, kN, rN, F1⟩ := R.stayX (by omega); have E1 := hid F1; clear F1 kN R rN)
  by_cases hc : code = 0
  · subst hc
    have KI := hid (strings_IndexByte0 t (-1) (firstIdx_none (right_facts HC.out).1) h1 w1 E1.out.sits)
    by_cases hz : t.size ≤ 200
    · have HQ2 := hid (show true = q by rw [← HQ.out]; simp [hz])
      go_wp2_with (go_at_call 47; refine KI.out.mono ?_; rintro e w2 ⟨rfl, F2⟩; have E2 := hid (E1.out.trans F2); clear F2)
      all_goals first
        | (go_ret; exact ⟨by rw [← HQ2.out]; rfl, E2.out.back⟩)
        | skip
    · have hz1 : ¬ ((t.size : Int) ≤ 200) := by omega
      have HQ2 := hid (show false = q by rw [← HQ.out]; simp [hz])
      clear hz
      go_wp2_with fail
      go_ret
      exact ⟨by rw [← HQ2.out]; rfl, E1.out.back⟩
  · have hb : (code == 0) = false := by simpa using hc
    have HQ2 := hid (show false = q by rw [← HQ.out]; simp [hc])
    clear hc
    go_wp2_with fail
    go_ret
    exact ⟨by rw [← HQ2.out]; rfl, E1.out.back⟩

set_option maxHeartbeats 4000000 in
set_option maxRecDepth 100000 in
theorem tree_put (x : Inode) (A5 : Option Addr) (c5 : Nat) (A6 : Option Addr) (c6 : Nat) (h : FH) (w : World) (hs : Sits h w) :
    Calls Tryd.prog 24 #[.agg #[.int .i64 x.no, .int .i64 x.kind, .int .i64 x.links, .int .i64 x.size, .string x.target, .slice A5 x.entries.length c5, .slice A6 x.runs.length c6]] w fun e w' => e = .returned (.agg #[.int .i64 2, .int .i64 0, .int .i64 x.no, .int .i64 x.kind, .int .i64 x.links, .int .i64 x.size, .string x.target, .slice A5 x.entries.length c5, .slice A6 x.runs.length c6]) ∧ Ext h w h w' := by
  have E1 := (Ext.refl hs).alloc (.cells #[.int .i64 x.no, .int .i64 x.kind, .int .i64 x.links, .int .i64 x.size, .string x.target, .slice A5 x.entries.length c5, .slice A6 x.runs.length c6] 39)
  have E2 := E1.alloc (.cells #[.int .i64 0, .int .i64 0, .int .i64 0, .int .i64 0, .int .i64 0, .int .i64 0, .string ⟨#[]⟩, .slice none 0 0, .slice none 0 0] 69)
  have hX := box_alloc (heap_new w (.cells #[.int .i64 x.no, .int .i64 x.kind, .int .i64 x.links, .int .i64 x.size, .string x.target, .slice A5 x.entries.length c5, .slice A6 x.runs.length c6] 39)) (.cells #[.int .i64 0, .int .i64 0, .int .i64 0, .int .i64 0, .int .i64 0, .int .i64 0, .string ⟨#[]⟩, .slice none 0 0, .slice none 0 0] 69)
  have hR := heap_new (w.alloc (.cells #[.int .i64 x.no, .int .i64 x.kind, .int .i64 x.links, .int .i64 x.size, .string x.target, .slice A5 x.entries.length c5, .slice A6 x.runs.length c6] 39)) (.cells #[.int .i64 0, .int .i64 0, .int .i64 0, .int .i64 0, .int .i64 0, .int .i64 0, .string ⟨#[]⟩, .slice none 0 0, .slice none 0 0] 69)
  have nR := E1.sits.none (Nat.le_refl _)
  have hszR : (w.alloc (.cells #[.int .i64 x.no, .int .i64 x.kind, .int .i64 x.links, .int .i64 x.size, .string x.target, .slice A5 x.entries.length c5, .slice A6 x.runs.length c6] 39)).heap.size = w.heap.size + 1 := by simp
  rw [hszR] at hR nR
  clear E1
  go_enter Tryd.func24, Tryd.ntmps24
  go_upto_region 1 with (fail)
  obtain ⟨gx, hgx⟩ : ∃ gx, gx = w.heap.size := ⟨_, rfl⟩
  obtain ⟨gR, hgR⟩ : ∃ gR, gR = w.heap.size + 1 := ⟨_, rfl⟩
  rw [← hgx] at hX
  rw [← hgR] at hR nR
  rw [← hgR, ← hgx]
  with_reducible generalize (w.alloc (.cells #[.int .i64 x.no, .int .i64 x.kind, .int .i64 x.links, .int .i64 x.size, .string x.target, .slice A5 x.entries.length c5, .slice A6 x.runs.length c6] 39)).alloc (.cells #[.int .i64 0, .int .i64 0, .int .i64 0, .int .i64 0, .int .i64 0, .int .i64 0, .string ⟨#[]⟩, .slice none 0 0, .slice none 0 0] 69) = W2 at E2 hX hR ⊢
  have HgR := hid (show w.heap.size ≤ gR by omega)
  clear hgx hgR hszR
  have m0 : W2.cell? ⟨gx, 0, none⟩ = some (.int .i64 x.no) := box_cell (j := 0) hX rfl
  have m1 : W2.cell? ⟨gx, 1, none⟩ = some (.int .i64 x.kind) := box_cell (j := 1) hX rfl
  have m2 : W2.cell? ⟨gx, 2, none⟩ = some (.int .i64 x.links) := box_cell (j := 2) hX rfl
  have m3 : W2.cell? ⟨gx, 3, none⟩ = some (.int .i64 x.size) := box_cell (j := 3) hX rfl
  have m4 : W2.cell? ⟨gx, 4, none⟩ = some (.string x.target) := box_cell (j := 4) hX rfl
  have m5 : W2.cell? ⟨gx, 5, none⟩ = some (.slice A5 x.entries.length c5) := box_cell (j := 5) hX rfl
  have m6 : W2.cell? ⟨gx, 6, none⟩ = some (.slice A6 x.runs.length c6) := box_cell (j := 6) hX rfl
  have z0 : W2.cell? ⟨gR, 0, none⟩ = some (.int .i64 0) := box_cell (j := 0) hR rfl
  have f0 := box_free (j := 0) hR
  have z1 : W2.cell? ⟨gR, 1, none⟩ = some (.int .i64 0) := box_cell (j := 1) hR rfl
  have f1 := box_free (j := 1) hR
  have z2 : W2.cell? ⟨gR, 2, none⟩ = some (.int .i64 0) := box_cell (j := 2) hR rfl
  have f2 := box_free (j := 2) hR
  have z3 : W2.cell? ⟨gR, 3, none⟩ = some (.int .i64 0) := box_cell (j := 3) hR rfl
  have f3 := box_free (j := 3) hR
  have z4 : W2.cell? ⟨gR, 4, none⟩ = some (.int .i64 0) := box_cell (j := 4) hR rfl
  have f4 := box_free (j := 4) hR
  have z5 : W2.cell? ⟨gR, 5, none⟩ = some (.int .i64 0) := box_cell (j := 5) hR rfl
  have f5 := box_free (j := 5) hR
  have z6 : W2.cell? ⟨gR, 6, none⟩ = some (.string ⟨#[]⟩) := box_cell (j := 6) hR rfl
  have f6 := box_free (j := 6) hR
  have z7 : W2.cell? ⟨gR, 7, none⟩ = some (.slice none 0 0) := box_cell (j := 7) hR rfl
  have f7 := box_free (j := 7) hR
  have z8 : W2.cell? ⟨gR, 8, none⟩ = some (.slice none 0 0) := box_cell (j := 8) hR rfl
  have f8 := box_free (j := 8) hR
  have hR := hid hR
  have nR := hid nR
  have E2 := hid E2
  go_wp2_with fail
  have R7 : ((((((((((W2.setCell ⟨gR, 0, none⟩ (.int .i64 2)).setCell ⟨gR, 1, none⟩ (.int .i64 0)).setCell ⟨gR, 2, none⟩ (.int .i64 x.no)).setCell ⟨gR, 3, none⟩ (.int .i64 x.kind)).setCell ⟨gR, 4, none⟩ (.int .i64 x.links)).setCell ⟨gR, 5, none⟩ (.int .i64 x.size)).setCell ⟨gR, 6, none⟩ (.string x.target)).setCell ⟨gR, 7, none⟩ (.slice A5 x.entries.length c5)).setCell ⟨gR, 8, none⟩ (.slice A6 x.runs.length c6))).heap[gR]? = some (.cells #[.int .i64 2, .int .i64 0, .int .i64 x.no, .int .i64 x.kind, .int .i64 x.links, .int .i64 x.size, .string x.target, .slice A5 x.entries.length c5, .slice A6 x.runs.length c6] 69 (0, 0)) := setCells_row [.int .i64 2, .int .i64 0, .int .i64 x.no, .int .i64 x.kind, .int .i64 x.links, .int .i64 x.size, .string x.target, .slice A5 x.entries.length c5, .slice A6 x.runs.length c6] hR.out rfl
  have E7 : Ext h w h (((((((((W2.setCell ⟨gR, 0, none⟩ (.int .i64 2)).setCell ⟨gR, 1, none⟩ (.int .i64 0)).setCell ⟨gR, 2, none⟩ (.int .i64 x.no)).setCell ⟨gR, 3, none⟩ (.int .i64 x.kind)).setCell ⟨gR, 4, none⟩ (.int .i64 x.links)).setCell ⟨gR, 5, none⟩ (.int .i64 x.size)).setCell ⟨gR, 6, none⟩ (.string x.target)).setCell ⟨gR, 7, none⟩ (.slice A5 x.entries.length c5)).setCell ⟨gR, 8, none⟩ (.slice A6 x.runs.length c6)) := Ext.setCells (g := gR) HgR.out nR.out [.int .i64 2, .int .i64 0, .int .i64 x.no, .int .i64 x.kind, .int .i64 x.links, .int .i64 x.size, .string x.target, .slice A5 x.entries.length c5, .slice A6 x.runs.length c6] 0 _ E2.out
  refine bodyPost_ret (v := .agg #[.int .i64 2, .int .i64 0, .int .i64 x.no, .int .i64 x.kind, .int .i64 x.links, .int .i64 x.size, .string x.target, .slice A5 x.entries.length c5, .slice A6 x.runs.length c6]) ?_ rfl ⟨rfl, E7⟩
  exact results_cell_row (p := 2) (ty := 69) (by kernel_rfl) _ _ gR 69 #[.int .i64 2, .int .i64 0, .int .i64 x.no, .int .i64 x.kind, .int .i64 x.links, .int .i64 x.size, .string x.target, .slice A5 x.entries.length c5, .slice A6 x.runs.length c6] (0, 0) _ (by simp) R7 Tryd.underlying69 rfl (by kernel_rfl)

/-- A directory without a name. -/
def withoutP (d : Inode) (name : ByteArray) : Inode := if remC d.entries name = 0 then { d with entries := remE d.entries name } else d
def RetInode (h : FH) (w : World) (d : Inode) (e : Ending) (w' : World) : Prop := ∃ A5 c5 A6 c6 h1, e = .returned (.agg #[.int .i64 d.no, .int .i64 d.kind, .int .i64 d.links, .int .i64 d.size, .string d.target, .slice A5 d.entries.length c5, .slice A6 d.runs.length c6]) ∧ repInode h1 [.int .i64 d.no, .int .i64 d.kind, .int .i64 d.links, .int .i64 d.size, .string d.target, .slice A5 d.entries.length c5, .slice A6 d.runs.length c6] d ∧ Ext h w h1 w'
theorem remE_lenT (xs : List Entry) (s : ByteArray) : (remE xs s).length ≤ xs.length := by
  unfold remE
  split
  · simp; omega
  · simp
set_option maxHeartbeats 8000000 in
set_option maxRecDepth 100000 in
theorem tree_without (d : Inode) (A5 : Option Addr) (c5 : Nat) (A6 : Option Addr) (c6 : Nat) (hbig : d.entries.length ≤ 1000) (name : ByteArray) (hsz : name.size ≤ 9223372036854775807) (h : FH) (w : World) (hs : Sits h w) (r : repInode h [.int .i64 d.no, .int .i64 d.kind, .int .i64 d.links, .int .i64 d.size, .string d.target, .slice A5 d.entries.length c5, .slice A6 d.runs.length c6] d) :
    Calls Tryd.prog 37 #[.agg #[.int .i64 d.no, .int .i64 d.kind, .int .i64 d.links, .int .i64 d.size, .string d.target, .slice A5 d.entries.length c5, .slice A6 d.runs.length c6], .string name] w fun e w' => RetInode h w (withoutP d name) e w' := by
  obtain ⟨sz5, k5, row5, k6, row6⟩ := r.ent
  have E1 := (Ext.refl hs).alloc (.cells #[.int .i64 d.no, .int .i64 d.kind, .int .i64 d.links, .int .i64 d.size, .string d.target, .slice A5 d.entries.length c5, .slice A6 d.runs.length c6] 39)
  have BX := (BoxU.new (Ext.refl hs) #[.int .i64 d.no, .int .i64 d.kind, .int .i64 d.links, .int .i64 d.size, .string d.target, .slice A5 d.entries.length c5, .slice A6 d.runs.length c6] 39).alloc (.cells #[.int .i64 0, .int .i64 0, .int .i64 0, .int .i64 0, .string ⟨#[]⟩, .slice none 0 0, .slice none 0 0] 39)
  have BR := BoxU.new E1 #[.int .i64 0, .int .i64 0, .int .i64 0, .int .i64 0, .string ⟨#[]⟩, .slice none 0 0, .slice none 0 0] 39
  have E2 := E1.alloc (.cells #[.int .i64 0, .int .i64 0, .int .i64 0, .int .i64 0, .string ⟨#[]⟩, .slice none 0 0, .slice none 0 0] 39)
  have hszR : (w.alloc (.cells #[.int .i64 d.no, .int .i64 d.kind, .int .i64 d.links, .int .i64 d.size, .string d.target, .slice A5 d.entries.length c5, .slice A6 d.runs.length c6] 39)).heap.size = w.heap.size + 1 := by simp
  rw [hszR] at BR
  clear E1
  obtain ⟨l, hl⟩ : ∃ l, remE d.entries name = l := ⟨_, rfl⟩
  obtain ⟨code, hcd⟩ : ∃ code, remC d.entries name = code := ⟨_, rfl⟩
  have hll : l.length ≤ 1000 := by rw [← hl]; exact Nat.le_trans (remE_lenT _ _) hbig
  have HWP := hid (show withoutP d name = if code = 0 then { d with entries := l } else d by unfold withoutP; rw [hl, hcd])
  have HL := hid hl
  have HC := hid hcd
  clear hl hcd
  go_enter Tryd.func37, Tryd.ntmps37
  go_upto_region 1 with (fail)
  obtain ⟨gx, hgx⟩ : ∃ gx, gx = w.heap.size := ⟨_, rfl⟩
  obtain ⟨gR, hgR⟩ : ∃ gR, gR = w.heap.size + 1 := ⟨_, rfl⟩
  have hne := hid (show gR ≠ gx by omega)
  rw [← hgx] at BX
  rw [← hgR] at BR
  rw [← hgR, ← hgx]
  with_reducible generalize (w.alloc (.cells #[.int .i64 d.no, .int .i64 d.kind, .int .i64 d.links, .int .i64 d.size, .string d.target, .slice A5 d.entries.length c5, .slice A6 d.runs.length c6] 39)).alloc (.cells #[.int .i64 0, .int .i64 0, .int .i64 0, .int .i64 0, .string ⟨#[]⟩, .slice none 0 0, .slice none 0 0] 39) = W2 at E2 BR BX ⊢
  clear hgx hgR hszR
  have E2 := hid E2
  have BR := hid BR
  have BX := hid BX
  have KR := entries_Remove d.entries A5 c5 hbig name hsz h W2 E2.out.sits row5
  rw [HL.out, HC.out] at KR
  have KR := hid KR
  have y5 := BX.out.cell (j := 5) (v := .slice A5 d.entries.length c5) rfl
  go_upto_region 2 with (go_at_call 62; refine KR.out.mono ?_; rintro e w3 R; obtain ⟨A9, c9, h3, rfl, r9, F3, u0, u1, u2⟩ := R.stayX (by omega); have E3 := hid (E2.out.trans F3); have BX3 := hid (BX.out.ext F3); have BR3 := hid (BR.out.ext F3); have l3 := hid F3.le; have k9 := hid (show CapLe A9 l.length c9 from ⟨u1, u0, u2⟩); have r9 := hid r9; clear F3 u0 u1 u2 R y5)
  by_cases hc : code = 0
  · subst hc
    have HW := hid (show withoutP d name = { d with entries := l } by rw [HWP.out, if_pos rfl])
    have u5 := BX3.out.cell (j := 5) (v := .slice A5 d.entries.length c5) rfl
    have f5 := BX3.out.open_ 5
    go_upto_region 4 with (fail)
    have BX4 : BoxU w _ (w3.setCell ⟨gx, 5, none⟩ (.slice A9 l.length c9)) gx #[.int .i64 d.no, .int .i64 d.kind, .int .i64 d.links, .int .i64 d.size, .string d.target, .slice A9 l.length c9, .slice A6 d.runs.length c6] 39 := BX3.out.part 5 [.slice A9 l.length c9] (Nat.le_of_ble_eq_true rfl)
    have E4 : Ext h w _ (w3.setCell ⟨gx, 5, none⟩ (.slice A9 l.length c9)) := BX3.out.wr E3.out 5 [.slice A9 l.length c9]
    have BR4 : BoxU w _ (w3.setCell ⟨gx, 5, none⟩ (.slice A9 l.length c9)) _ _ _ := BR3.out.other hne.out 5 [.slice A9 l.length c9]
    with_reducible generalize (w3.setCell ⟨gx, 5, none⟩ (.slice A9 l.length c9)) = W4 at BX4 E4 BR4 ⊢
    have BX4 := hid BX4
    have E4 := hid E4
    have BR4 := hid BR4
    clear u5 f5 BX3 BR3 E3
    have y0 := BX4.out.cell (j := 0) (v := .int .i64 d.no) rfl
    have y1 := BX4.out.cell (j := 1) (v := .int .i64 d.kind) rfl
    have y2 := BX4.out.cell (j := 2) (v := .int .i64 d.links) rfl
    have y3 := BX4.out.cell (j := 3) (v := .int .i64 d.size) rfl
    have y4 := BX4.out.cell (j := 4) (v := .string d.target) rfl
    have y5 := BX4.out.cell (j := 5) (v := .slice A9 l.length c9) rfl
    have y6 := BX4.out.cell (j := 6) (v := .slice A6 d.runs.length c6) rfl
    have u0 := BR4.out.cell (j := 0) (v := .int .i64 0) rfl
    have u1 := BR4.out.cell (j := 1) (v := .int .i64 0) rfl
    have u2 := BR4.out.cell (j := 2) (v := .int .i64 0) rfl
    have u3 := BR4.out.cell (j := 3) (v := .int .i64 0) rfl
    have u4 := BR4.out.cell (j := 4) (v := .string ⟨#[]⟩) rfl
    have u5 := BR4.out.cell (j := 5) (v := .slice none 0 0) rfl
    have u6 := BR4.out.cell (j := 6) (v := .slice none 0 0) rfl
    have f0 := BR4.out.open_ 0
    have f1 := BR4.out.open_ 1
    have f2 := BR4.out.open_ 2
    have f3 := BR4.out.open_ 3
    have f4 := BR4.out.open_ 4
    have f5 := BR4.out.open_ 5
    have f6 := BR4.out.open_ 6
    go_wp2_with fail
    have BRz : BoxU w _ (((((((W4.setCell ⟨gR, 0, none⟩ (.int .i64 d.no)).setCell ⟨gR, 1, none⟩ (.int .i64 d.kind)).setCell ⟨gR, 2, none⟩ (.int .i64 d.links)).setCell ⟨gR, 3, none⟩ (.int .i64 d.size)).setCell ⟨gR, 4, none⟩ (.string d.target)).setCell ⟨gR, 5, none⟩ (.slice A9 l.length c9)).setCell ⟨gR, 6, none⟩ (.slice A6 d.runs.length c6)) gR #[.int .i64 d.no, .int .i64 d.kind, .int .i64 d.links, .int .i64 d.size, .string d.target, .slice A9 l.length c9, .slice A6 d.runs.length c6] 39 := BR4.out.sets [.int .i64 d.no, .int .i64 d.kind, .int .i64 d.links, .int .i64 d.size, .string d.target, .slice A9 l.length c9, .slice A6 d.runs.length c6] rfl
    have Ez : Ext h w _ (((((((W4.setCell ⟨gR, 0, none⟩ (.int .i64 d.no)).setCell ⟨gR, 1, none⟩ (.int .i64 d.kind)).setCell ⟨gR, 2, none⟩ (.int .i64 d.links)).setCell ⟨gR, 3, none⟩ (.int .i64 d.size)).setCell ⟨gR, 4, none⟩ (.string d.target)).setCell ⟨gR, 5, none⟩ (.slice A9 l.length c9)).setCell ⟨gR, 6, none⟩ (.slice A6 d.runs.length c6)) := BR4.out.wr E4.out 0 [.int .i64 d.no, .int .i64 d.kind, .int .i64 d.links, .int .i64 d.size, .string d.target, .slice A9 l.length c9, .slice A6 d.runs.length c6]
    with_reducible generalize (((((((W4.setCell ⟨gR, 0, none⟩ (.int .i64 d.no)).setCell ⟨gR, 1, none⟩ (.int .i64 d.kind)).setCell ⟨gR, 2, none⟩ (.int .i64 d.links)).setCell ⟨gR, 3, none⟩ (.int .i64 d.size)).setCell ⟨gR, 4, none⟩ (.string d.target)).setCell ⟨gR, 5, none⟩ (.slice A9 l.length c9)).setCell ⟨gR, 6, none⟩ (.slice A6 d.runs.length c6)) = Wz at BRz Ez ⊢
    have BRz := hid BRz
    have Ez := hid Ez
    have r0 := BRz.out.cell (j := 0) (v := .int .i64 d.no) rfl
    have r1 := BRz.out.cell (j := 1) (v := .int .i64 d.kind) rfl
    have r2 := BRz.out.cell (j := 2) (v := .int .i64 d.links) rfl
    have r3 := BRz.out.cell (j := 3) (v := .int .i64 d.size) rfl
    have r4 := BRz.out.cell (j := 4) (v := .string d.target) rfl
    have r5 := BRz.out.cell (j := 5) (v := .slice A9 l.length c9) rfl
    have r6 := BRz.out.cell (j := 6) (v := .slice A6 d.runs.length c6) rfl
    refine bodyPost_ret (v := .agg #[.int .i64 d.no, .int .i64 d.kind, .int .i64 d.links, .int .i64 d.size, .string d.target, .slice A9 l.length c9, .slice A6 d.runs.length c6]) (by simp [results, Tryd.results37, go_sem, r0, r1, r2, r3, r4, r5, r6]) rfl ?_
    exact ⟨A9, c9, A6, c6, h3, by rw [HW.out], by rw [HW.out]; exact ⟨A9, c9, A6, c6, rfl, sz5, k9.out, r9.out, k6, row6.mono l3.out⟩, Ez.out⟩
  · have hb : (code == 0) = false := by simpa using hc
    have HW := hid (show withoutP d name = d by rw [HWP.out, if_neg hc])
    clear hc
    have y0 := BX3.out.cell (j := 0) (v := .int .i64 d.no) rfl
    have y1 := BX3.out.cell (j := 1) (v := .int .i64 d.kind) rfl
    have y2 := BX3.out.cell (j := 2) (v := .int .i64 d.links) rfl
    have y3 := BX3.out.cell (j := 3) (v := .int .i64 d.size) rfl
    have y4 := BX3.out.cell (j := 4) (v := .string d.target) rfl
    have y5 := BX3.out.cell (j := 5) (v := .slice A5 d.entries.length c5) rfl
    have y6 := BX3.out.cell (j := 6) (v := .slice A6 d.runs.length c6) rfl
    have u0 := BR3.out.cell (j := 0) (v := .int .i64 0) rfl
    have u1 := BR3.out.cell (j := 1) (v := .int .i64 0) rfl
    have u2 := BR3.out.cell (j := 2) (v := .int .i64 0) rfl
    have u3 := BR3.out.cell (j := 3) (v := .int .i64 0) rfl
    have u4 := BR3.out.cell (j := 4) (v := .string ⟨#[]⟩) rfl
    have u5 := BR3.out.cell (j := 5) (v := .slice none 0 0) rfl
    have u6 := BR3.out.cell (j := 6) (v := .slice none 0 0) rfl
    have f0 := BR3.out.open_ 0
    have f1 := BR3.out.open_ 1
    have f2 := BR3.out.open_ 2
    have f3 := BR3.out.open_ 3
    have f4 := BR3.out.open_ 4
    have f5 := BR3.out.open_ 5
    have f6 := BR3.out.open_ 6
    go_wp2_with fail
    have BRz : BoxU w _ (((((((w3.setCell ⟨gR, 0, none⟩ (.int .i64 d.no)).setCell ⟨gR, 1, none⟩ (.int .i64 d.kind)).setCell ⟨gR, 2, none⟩ (.int .i64 d.links)).setCell ⟨gR, 3, none⟩ (.int .i64 d.size)).setCell ⟨gR, 4, none⟩ (.string d.target)).setCell ⟨gR, 5, none⟩ (.slice A5 d.entries.length c5)).setCell ⟨gR, 6, none⟩ (.slice A6 d.runs.length c6)) gR #[.int .i64 d.no, .int .i64 d.kind, .int .i64 d.links, .int .i64 d.size, .string d.target, .slice A5 d.entries.length c5, .slice A6 d.runs.length c6] 39 := BR3.out.sets [.int .i64 d.no, .int .i64 d.kind, .int .i64 d.links, .int .i64 d.size, .string d.target, .slice A5 d.entries.length c5, .slice A6 d.runs.length c6] rfl
    have Ez : Ext h w _ (((((((w3.setCell ⟨gR, 0, none⟩ (.int .i64 d.no)).setCell ⟨gR, 1, none⟩ (.int .i64 d.kind)).setCell ⟨gR, 2, none⟩ (.int .i64 d.links)).setCell ⟨gR, 3, none⟩ (.int .i64 d.size)).setCell ⟨gR, 4, none⟩ (.string d.target)).setCell ⟨gR, 5, none⟩ (.slice A5 d.entries.length c5)).setCell ⟨gR, 6, none⟩ (.slice A6 d.runs.length c6)) := BR3.out.wr E3.out 0 [.int .i64 d.no, .int .i64 d.kind, .int .i64 d.links, .int .i64 d.size, .string d.target, .slice A5 d.entries.length c5, .slice A6 d.runs.length c6]
    with_reducible generalize (((((((w3.setCell ⟨gR, 0, none⟩ (.int .i64 d.no)).setCell ⟨gR, 1, none⟩ (.int .i64 d.kind)).setCell ⟨gR, 2, none⟩ (.int .i64 d.links)).setCell ⟨gR, 3, none⟩ (.int .i64 d.size)).setCell ⟨gR, 4, none⟩ (.string d.target)).setCell ⟨gR, 5, none⟩ (.slice A5 d.entries.length c5)).setCell ⟨gR, 6, none⟩ (.slice A6 d.runs.length c6)) = Wz at BRz Ez ⊢
    have BRz := hid BRz
    have Ez := hid Ez
    have r0 := BRz.out.cell (j := 0) (v := .int .i64 d.no) rfl
    have r1 := BRz.out.cell (j := 1) (v := .int .i64 d.kind) rfl
    have r2 := BRz.out.cell (j := 2) (v := .int .i64 d.links) rfl
    have r3 := BRz.out.cell (j := 3) (v := .int .i64 d.size) rfl
    have r4 := BRz.out.cell (j := 4) (v := .string d.target) rfl
    have r5 := BRz.out.cell (j := 5) (v := .slice A5 d.entries.length c5) rfl
    have r6 := BRz.out.cell (j := 6) (v := .slice A6 d.runs.length c6) rfl
    refine bodyPost_ret (v := .agg #[.int .i64 d.no, .int .i64 d.kind, .int .i64 d.links, .int .i64 d.size, .string d.target, .slice A5 d.entries.length c5, .slice A6 d.runs.length c6]) (by simp [results, Tryd.results37, go_sem, r0, r1, r2, r3, r4, r5, r6]) rfl ?_
    exact ⟨A5, c5, A6, c6, h3, by rw [HW.out], by rw [HW.out]; exact (show repInode h _ d from r).mono l3.out, Ez.out⟩

def letGoP (x : Inode) (open_ : List Int) : Deed := if x.links ≤ 1 ∧ open_.any (eqZ x.no) = false then ⟨3, x.no, zeroI⟩ else ⟨2, 0, { x with links := max (x.links - 1) 0 }⟩
/-- A deed. -/
def RetDeed (h : FH) (w : World) (d : Deed) (e : Ending) (w' : World) : Prop := ∃ A5 c5 A6 c6, e = .returned (.agg #[.int .i64 d.kind, .int .i64 d.no, .int .i64 d.inode.no, .int .i64 d.inode.kind, .int .i64 d.inode.links, .int .i64 d.inode.size, .string d.inode.target, .slice A5 d.inode.entries.length c5, .slice A6 d.inode.runs.length c6]) ∧ repInode h [.int .i64 d.inode.no, .int .i64 d.inode.kind, .int .i64 d.inode.links, .int .i64 d.inode.size, .string d.inode.target, .slice A5 d.inode.entries.length c5, .slice A6 d.inode.runs.length c6] d.inode ∧ Ext h w h w'
set_option maxHeartbeats 8000000 in
set_option maxRecDepth 100000 in
theorem tree_letGo (x : Inode) (A5 : Option Addr) (c5 : Nat) (A6 : Option Addr) (c6 : Nat) (os : List Int) (AO : Option Addr) (cO : Nat) (hl0 : -1000000 ≤ x.links) (hl1 : x.links ≤ 1000000) (h : FH) (w : World) (hs : Sits h w) (r : repInode h [.int .i64 x.no, .int .i64 x.kind, .int .i64 x.links, .int .i64 x.size, .string x.target, .slice A5 x.entries.length c5, .slice A6 x.runs.length c6] x) (ro : RowAt h AO os) :
    Calls Tryd.prog 38 #[.agg #[.int .i64 x.no, .int .i64 x.kind, .int .i64 x.links, .int .i64 x.size, .string x.target, .slice A5 x.entries.length c5, .slice A6 x.runs.length c6], .slice AO os.length cO] w fun e w' => RetDeed h w (letGoP x os) e w' := by
  obtain ⟨sz5, k5, row5, k6, row6⟩ := r.ent
  have E1 := (Ext.refl hs).alloc (.cells #[.int .i64 x.no, .int .i64 x.kind, .int .i64 x.links, .int .i64 x.size, .string x.target, .slice A5 x.entries.length c5, .slice A6 x.runs.length c6] 39)
  have BX := (BoxU.new (Ext.refl hs) #[.int .i64 x.no, .int .i64 x.kind, .int .i64 x.links, .int .i64 x.size, .string x.target, .slice A5 x.entries.length c5, .slice A6 x.runs.length c6] 39).alloc (.cells #[.int .i64 0, .int .i64 0, .int .i64 0, .int .i64 0, .int .i64 0, .int .i64 0, .string ⟨#[]⟩, .slice none 0 0, .slice none 0 0] 69)
  have BR := BoxU.new E1 #[.int .i64 0, .int .i64 0, .int .i64 0, .int .i64 0, .int .i64 0, .int .i64 0, .string ⟨#[]⟩, .slice none 0 0, .slice none 0 0] 69
  have E2 := E1.alloc (.cells #[.int .i64 0, .int .i64 0, .int .i64 0, .int .i64 0, .int .i64 0, .int .i64 0, .string ⟨#[]⟩, .slice none 0 0, .slice none 0 0] 69)
  have hszR : (w.alloc (.cells #[.int .i64 x.no, .int .i64 x.kind, .int .i64 x.links, .int .i64 x.size, .string x.target, .slice A5 x.entries.length c5, .slice A6 x.runs.length c6] 39)).heap.size = w.heap.size + 1 := by simp
  rw [hszR] at BR
  clear E1
  obtain ⟨q, hq⟩ : ∃ q, os.any (eqZ x.no) = q := ⟨_, rfl⟩
  obtain ⟨m, hm⟩ : ∃ m, max (x.links - 1) 0 = m := ⟨_, rfl⟩
  have HWP := hid (show letGoP x os = if x.links ≤ 1 ∧ q = false then ⟨3, x.no, zeroI⟩ else ⟨2, 0, { x with links := m }⟩ by unfold letGoP; rw [hq, hm])
  have HQ := hid hq
  have HM := hid hm
  have hwr : IntKind.i64.wrap (x.links - 1) = x.links - 1 := by rw [IntKind.wrap_i64]; omega
  clear hq
  go_enter Tryd.func38, Tryd.ntmps38
  go_upto_region 1 with (fail)
  obtain ⟨gx, hgx⟩ : ∃ gx, gx = w.heap.size := ⟨_, rfl⟩
  obtain ⟨gR, hgR⟩ : ∃ gR, gR = w.heap.size + 1 := ⟨_, rfl⟩
  have hne := hid (show gR ≠ gx by omega)
  rw [← hgx] at BX
  rw [← hgR] at BR
  rw [← hgR, ← hgx]
  with_reducible generalize (w.alloc (.cells #[.int .i64 x.no, .int .i64 x.kind, .int .i64 x.links, .int .i64 x.size, .string x.target, .slice A5 x.entries.length c5, .slice A6 x.runs.length c6] 39)).alloc (.cells #[.int .i64 0, .int .i64 0, .int .i64 0, .int .i64 0, .int .i64 0, .int .i64 0, .string ⟨#[]⟩, .slice none 0 0, .slice none 0 0] 69) = W2 at E2 BR BX ⊢
  clear hgx hgR hszR
  have E2 := hid E2
  have BR := hid BR
  have BX := hid BX
  have KC := hid (contains_Int os AO cO x.no q HQ.out h W2 E2.out.sits ro)
  have m0 := BX.out.cell (j := 0) (v := .int .i64 x.no) rfl
  have m2 := BX.out.cell (j := 2) (v := .int .i64 x.links) rfl
  by_cases hle : x.links ≤ 1
  · cases q
    · have HW := hid (show letGoP x os = ⟨3, x.no, zeroI⟩ by rw [HWP.out, if_pos ⟨hle, rfl⟩])
      go_upto_region 2 with (go_at_call 63; refine KC.out.mono ?_; rintro e w3 ⟨rfl, F3⟩; have E3 := hid (E2.out.trans F3); have BX3 := hid (BX.out.ext F3); have BR3 := hid (BR.out.ext F3); clear F3 m0 m2)
      have y0 := BX3.out.cell (j := 0) (v := .int .i64 x.no) rfl
      have u0 := BR3.out.cell (j := 0) (v := .int .i64 0) rfl
      have u1 := BR3.out.cell (j := 1) (v := .int .i64 0) rfl
      have u2 := BR3.out.cell (j := 2) (v := .int .i64 0) rfl
      have u3 := BR3.out.cell (j := 3) (v := .int .i64 0) rfl
      have u4 := BR3.out.cell (j := 4) (v := .int .i64 0) rfl
      have u5 := BR3.out.cell (j := 5) (v := .int .i64 0) rfl
      have u6 := BR3.out.cell (j := 6) (v := .string ⟨#[]⟩) rfl
      have u7 := BR3.out.cell (j := 7) (v := .slice none 0 0) rfl
      have u8 := BR3.out.cell (j := 8) (v := .slice none 0 0) rfl
      have f0 := BR3.out.open_ 0
      have f1 := BR3.out.open_ 1
      have f2 := BR3.out.open_ 2
      have f3 := BR3.out.open_ 3
      have f4 := BR3.out.open_ 4
      have f5 := BR3.out.open_ 5
      have f6 := BR3.out.open_ 6
      have f7 := BR3.out.open_ 7
      have f8 := BR3.out.open_ 8
      go_wp2_with fail
      have BRz : BoxU w _ (((((((((w3.setCell ⟨gR, 0, none⟩ (.int .i64 3)).setCell ⟨gR, 1, none⟩ (.int .i64 x.no)).setCell ⟨gR, 2, none⟩ (.int .i64 0)).setCell ⟨gR, 3, none⟩ (.int .i64 0)).setCell ⟨gR, 4, none⟩ (.int .i64 0)).setCell ⟨gR, 5, none⟩ (.int .i64 0)).setCell ⟨gR, 6, none⟩ (.string ⟨#[]⟩)).setCell ⟨gR, 7, none⟩ (.slice none 0 0)).setCell ⟨gR, 8, none⟩ (.slice none 0 0)) gR #[.int .i64 3, .int .i64 x.no, .int .i64 0, .int .i64 0, .int .i64 0, .int .i64 0, .string ⟨#[]⟩, .slice none 0 0, .slice none 0 0] 69 := BR3.out.sets [.int .i64 3, .int .i64 x.no, .int .i64 0, .int .i64 0, .int .i64 0, .int .i64 0, .string ⟨#[]⟩, .slice none 0 0, .slice none 0 0] rfl
      have Ez : Ext h w _ (((((((((w3.setCell ⟨gR, 0, none⟩ (.int .i64 3)).setCell ⟨gR, 1, none⟩ (.int .i64 x.no)).setCell ⟨gR, 2, none⟩ (.int .i64 0)).setCell ⟨gR, 3, none⟩ (.int .i64 0)).setCell ⟨gR, 4, none⟩ (.int .i64 0)).setCell ⟨gR, 5, none⟩ (.int .i64 0)).setCell ⟨gR, 6, none⟩ (.string ⟨#[]⟩)).setCell ⟨gR, 7, none⟩ (.slice none 0 0)).setCell ⟨gR, 8, none⟩ (.slice none 0 0)) := BR3.out.wr E3.out 0 [.int .i64 3, .int .i64 x.no, .int .i64 0, .int .i64 0, .int .i64 0, .int .i64 0, .string ⟨#[]⟩, .slice none 0 0, .slice none 0 0]
      with_reducible generalize (((((((((w3.setCell ⟨gR, 0, none⟩ (.int .i64 3)).setCell ⟨gR, 1, none⟩ (.int .i64 x.no)).setCell ⟨gR, 2, none⟩ (.int .i64 0)).setCell ⟨gR, 3, none⟩ (.int .i64 0)).setCell ⟨gR, 4, none⟩ (.int .i64 0)).setCell ⟨gR, 5, none⟩ (.int .i64 0)).setCell ⟨gR, 6, none⟩ (.string ⟨#[]⟩)).setCell ⟨gR, 7, none⟩ (.slice none 0 0)).setCell ⟨gR, 8, none⟩ (.slice none 0 0)) = Wz at BRz Ez ⊢
      have BRz := hid BRz
      have Ez := hid Ez
      have r0 := BRz.out.cell (j := 0) (v := .int .i64 3) rfl
      have r1 := BRz.out.cell (j := 1) (v := .int .i64 x.no) rfl
      have r2 := BRz.out.cell (j := 2) (v := .int .i64 0) rfl
      have r3 := BRz.out.cell (j := 3) (v := .int .i64 0) rfl
      have r4 := BRz.out.cell (j := 4) (v := .int .i64 0) rfl
      have r5 := BRz.out.cell (j := 5) (v := .int .i64 0) rfl
      have r6 := BRz.out.cell (j := 6) (v := .string ⟨#[]⟩) rfl
      have r7 := BRz.out.cell (j := 7) (v := .slice none 0 0) rfl
      have r8 := BRz.out.cell (j := 8) (v := .slice none 0 0) rfl
      refine bodyPost_ret (v := .agg #[.int .i64 3, .int .i64 x.no, .int .i64 0, .int .i64 0, .int .i64 0, .int .i64 0, .string ⟨#[]⟩, .slice none 0 0, .slice none 0 0]) (by simp [results, Tryd.results38, go_sem, r0, r1, r2, r3, r4, r5, r6, r7, r8]) rfl ?_
      exact ⟨none, 0, none, 0, by rw [HW.out]; (first | done | rfl), by rw [HW.out]; exact zeroI_rep _, Ez.out⟩
    · have HW := hid (show letGoP x os = ⟨2, 0, { x with links := m }⟩ by rw [HWP.out, if_neg (by simp)])
      go_upto_region 3 with (go_at_call 63; refine KC.out.mono ?_; rintro e w3 ⟨rfl, F3⟩; have E3 := hid (E2.out.trans F3); have BX3 := hid (BX.out.ext F3); have BR3 := hid (BR.out.ext F3); clear F3 m0 m2)
      have hmax := fun ts t (w : World) => show (Builtin.max_ ts t #[.int .i64 (x.links - 1), .int .i64 0]).run Tryd.prog w = .ok (.int .i64 m) w by rw [run_max_int2, ← HM.out]; congr 2; split <;> omega
      clear hm
      have q2 := BX3.out.cell (j := 2) (v := .int .i64 x.links) rfl
      have g2 := BX3.out.open_ 2
      go_upto_region 4 with (fail)
      have BX4 : BoxU w _ (w3.setCell ⟨gx, 2, none⟩ (.int .i64 m)) gx #[.int .i64 x.no, .int .i64 x.kind, .int .i64 m, .int .i64 x.size, .string x.target, .slice A5 x.entries.length c5, .slice A6 x.runs.length c6] 39 := BX3.out.part 2 [.int .i64 m] (Nat.le_of_ble_eq_true rfl)
      have E4 : Ext h w _ (w3.setCell ⟨gx, 2, none⟩ (.int .i64 m)) := BX3.out.wr E3.out 2 [.int .i64 m]
      have BR4 : BoxU w _ (w3.setCell ⟨gx, 2, none⟩ (.int .i64 m)) _ _ _ := BR3.out.other hne.out 2 [.int .i64 m]
      with_reducible generalize (w3.setCell ⟨gx, 2, none⟩ (.int .i64 m)) = W4 at BX4 E4 BR4 ⊢
      have BX4 := hid BX4
      have E4 := hid E4
      have BR4 := hid BR4
      clear q2 g2
      have y0 := BX4.out.cell (j := 0) (v := .int .i64 x.no) rfl
      have y1 := BX4.out.cell (j := 1) (v := .int .i64 x.kind) rfl
      have y2 := BX4.out.cell (j := 2) (v := .int .i64 m) rfl
      have y3 := BX4.out.cell (j := 3) (v := .int .i64 x.size) rfl
      have y4 := BX4.out.cell (j := 4) (v := .string x.target) rfl
      have y5 := BX4.out.cell (j := 5) (v := .slice A5 x.entries.length c5) rfl
      have y6 := BX4.out.cell (j := 6) (v := .slice A6 x.runs.length c6) rfl
      have KP := hid (show Calls Tryd.prog 24 #[.agg #[.int .i64 x.no, .int .i64 x.kind, .int .i64 m, .int .i64 x.size, .string x.target, .slice A5 x.entries.length c5, .slice A6 x.runs.length c6]] W4 fun e w' => e = .returned (.agg #[.int .i64 2, .int .i64 0, .int .i64 x.no, .int .i64 x.kind, .int .i64 m, .int .i64 x.size, .string x.target, .slice A5 x.entries.length c5, .slice A6 x.runs.length c6]) ∧ Ext h W4 h w' from tree_put ⟨x.no, x.kind, m, x.size, x.target, x.entries, x.runs⟩ A5 c5 A6 c6 h W4 E4.out.sits)
      go_wp2_with (go_at_call 24; refine KP.out.mono ?_; rintro e w5 ⟨rfl, F5⟩; have E5 := hid (E4.out.trans F5); have BR5 := hid (BR4.out.ext F5); clear F5 y0 y1 y2 y3 y4 y5 y6; have u0 := BR5.out.cell (j := 0) (v := .int .i64 0) rfl; have u1 := BR5.out.cell (j := 1) (v := .int .i64 0) rfl; have u2 := BR5.out.cell (j := 2) (v := .int .i64 0) rfl; have u3 := BR5.out.cell (j := 3) (v := .int .i64 0) rfl; have u4 := BR5.out.cell (j := 4) (v := .int .i64 0) rfl; have u5 := BR5.out.cell (j := 5) (v := .int .i64 0) rfl; have u6 := BR5.out.cell (j := 6) (v := .string ⟨#[]⟩) rfl; have u7 := BR5.out.cell (j := 7) (v := .slice none 0 0) rfl; have u8 := BR5.out.cell (j := 8) (v := .slice none 0 0) rfl; have f0 := BR5.out.open_ 0; have f1 := BR5.out.open_ 1; have f2 := BR5.out.open_ 2; have f3 := BR5.out.open_ 3; have f4 := BR5.out.open_ 4; have f5 := BR5.out.open_ 5; have f6 := BR5.out.open_ 6; have f7 := BR5.out.open_ 7; have f8 := BR5.out.open_ 8)
      have BRz : BoxU w _ (((((((((w5.setCell ⟨gR, 0, none⟩ (.int .i64 2)).setCell ⟨gR, 1, none⟩ (.int .i64 0)).setCell ⟨gR, 2, none⟩ (.int .i64 x.no)).setCell ⟨gR, 3, none⟩ (.int .i64 x.kind)).setCell ⟨gR, 4, none⟩ (.int .i64 m)).setCell ⟨gR, 5, none⟩ (.int .i64 x.size)).setCell ⟨gR, 6, none⟩ (.string x.target)).setCell ⟨gR, 7, none⟩ (.slice A5 x.entries.length c5)).setCell ⟨gR, 8, none⟩ (.slice A6 x.runs.length c6)) gR #[.int .i64 2, .int .i64 0, .int .i64 x.no, .int .i64 x.kind, .int .i64 m, .int .i64 x.size, .string x.target, .slice A5 x.entries.length c5, .slice A6 x.runs.length c6] 69 := BR5.out.sets [.int .i64 2, .int .i64 0, .int .i64 x.no, .int .i64 x.kind, .int .i64 m, .int .i64 x.size, .string x.target, .slice A5 x.entries.length c5, .slice A6 x.runs.length c6] rfl
      have Ez : Ext h w _ (((((((((w5.setCell ⟨gR, 0, none⟩ (.int .i64 2)).setCell ⟨gR, 1, none⟩ (.int .i64 0)).setCell ⟨gR, 2, none⟩ (.int .i64 x.no)).setCell ⟨gR, 3, none⟩ (.int .i64 x.kind)).setCell ⟨gR, 4, none⟩ (.int .i64 m)).setCell ⟨gR, 5, none⟩ (.int .i64 x.size)).setCell ⟨gR, 6, none⟩ (.string x.target)).setCell ⟨gR, 7, none⟩ (.slice A5 x.entries.length c5)).setCell ⟨gR, 8, none⟩ (.slice A6 x.runs.length c6)) := BR5.out.wr E5.out 0 [.int .i64 2, .int .i64 0, .int .i64 x.no, .int .i64 x.kind, .int .i64 m, .int .i64 x.size, .string x.target, .slice A5 x.entries.length c5, .slice A6 x.runs.length c6]
      with_reducible generalize (((((((((w5.setCell ⟨gR, 0, none⟩ (.int .i64 2)).setCell ⟨gR, 1, none⟩ (.int .i64 0)).setCell ⟨gR, 2, none⟩ (.int .i64 x.no)).setCell ⟨gR, 3, none⟩ (.int .i64 x.kind)).setCell ⟨gR, 4, none⟩ (.int .i64 m)).setCell ⟨gR, 5, none⟩ (.int .i64 x.size)).setCell ⟨gR, 6, none⟩ (.string x.target)).setCell ⟨gR, 7, none⟩ (.slice A5 x.entries.length c5)).setCell ⟨gR, 8, none⟩ (.slice A6 x.runs.length c6)) = Wz at BRz Ez ⊢
      have BRz := hid BRz
      have Ez := hid Ez
      have r0 := BRz.out.cell (j := 0) (v := .int .i64 2) rfl
      have r1 := BRz.out.cell (j := 1) (v := .int .i64 0) rfl
      have r2 := BRz.out.cell (j := 2) (v := .int .i64 x.no) rfl
      have r3 := BRz.out.cell (j := 3) (v := .int .i64 x.kind) rfl
      have r4 := BRz.out.cell (j := 4) (v := .int .i64 m) rfl
      have r5 := BRz.out.cell (j := 5) (v := .int .i64 x.size) rfl
      have r6 := BRz.out.cell (j := 6) (v := .string x.target) rfl
      have r7 := BRz.out.cell (j := 7) (v := .slice A5 x.entries.length c5) rfl
      have r8 := BRz.out.cell (j := 8) (v := .slice A6 x.runs.length c6) rfl
      refine bodyPost_ret (v := .agg #[.int .i64 2, .int .i64 0, .int .i64 x.no, .int .i64 x.kind, .int .i64 m, .int .i64 x.size, .string x.target, .slice A5 x.entries.length c5, .slice A6 x.runs.length c6]) (by simp [results, Tryd.results38, go_sem, r0, r1, r2, r3, r4, r5, r6, r7, r8]) rfl ?_
      exact ⟨A5, c5, A6, c6, by rw [HW.out], by rw [HW.out]; exact ⟨A5, c5, A6, c6, rfl, sz5, k5, row5, k6, row6⟩, Ez.out⟩
  · have HW := hid (show letGoP x os = ⟨2, 0, { x with links := m }⟩ by rw [HWP.out, if_neg (by omega)])
    have hmax := fun ts t (w : World) => show (Builtin.max_ ts t #[.int .i64 (x.links - 1), .int .i64 0]).run Tryd.prog w = .ok (.int .i64 m) w by rw [run_max_int2, ← HM.out]; congr 2; split <;> omega
    clear hm
    go_upto_region 3 with (fail)
    clear m0 m2
    have q2 := BX.out.cell (j := 2) (v := .int .i64 x.links) rfl
    have g2 := BX.out.open_ 2
    go_upto_region 4 with (fail)
    have BX4 : BoxU w _ (W2.setCell ⟨gx, 2, none⟩ (.int .i64 m)) gx #[.int .i64 x.no, .int .i64 x.kind, .int .i64 m, .int .i64 x.size, .string x.target, .slice A5 x.entries.length c5, .slice A6 x.runs.length c6] 39 := BX.out.part 2 [.int .i64 m] (Nat.le_of_ble_eq_true rfl)
    have E4 : Ext h w _ (W2.setCell ⟨gx, 2, none⟩ (.int .i64 m)) := BX.out.wr E2.out 2 [.int .i64 m]
    have BR4 : BoxU w _ (W2.setCell ⟨gx, 2, none⟩ (.int .i64 m)) _ _ _ := BR.out.other hne.out 2 [.int .i64 m]
    with_reducible generalize (W2.setCell ⟨gx, 2, none⟩ (.int .i64 m)) = W4 at BX4 E4 BR4 ⊢
    have BX4 := hid BX4
    have E4 := hid E4
    have BR4 := hid BR4
    clear q2 g2
    have y0 := BX4.out.cell (j := 0) (v := .int .i64 x.no) rfl
    have y1 := BX4.out.cell (j := 1) (v := .int .i64 x.kind) rfl
    have y2 := BX4.out.cell (j := 2) (v := .int .i64 m) rfl
    have y3 := BX4.out.cell (j := 3) (v := .int .i64 x.size) rfl
    have y4 := BX4.out.cell (j := 4) (v := .string x.target) rfl
    have y5 := BX4.out.cell (j := 5) (v := .slice A5 x.entries.length c5) rfl
    have y6 := BX4.out.cell (j := 6) (v := .slice A6 x.runs.length c6) rfl
    have KP := hid (show Calls Tryd.prog 24 #[.agg #[.int .i64 x.no, .int .i64 x.kind, .int .i64 m, .int .i64 x.size, .string x.target, .slice A5 x.entries.length c5, .slice A6 x.runs.length c6]] W4 fun e w' => e = .returned (.agg #[.int .i64 2, .int .i64 0, .int .i64 x.no, .int .i64 x.kind, .int .i64 m, .int .i64 x.size, .string x.target, .slice A5 x.entries.length c5, .slice A6 x.runs.length c6]) ∧ Ext h W4 h w' from tree_put ⟨x.no, x.kind, m, x.size, x.target, x.entries, x.runs⟩ A5 c5 A6 c6 h W4 E4.out.sits)
    go_wp2_with (go_at_call 24; refine KP.out.mono ?_; rintro e w5 ⟨rfl, F5⟩; have E5 := hid (E4.out.trans F5); have BR5 := hid (BR4.out.ext F5); clear F5 y0 y1 y2 y3 y4 y5 y6; have u0 := BR5.out.cell (j := 0) (v := .int .i64 0) rfl; have u1 := BR5.out.cell (j := 1) (v := .int .i64 0) rfl; have u2 := BR5.out.cell (j := 2) (v := .int .i64 0) rfl; have u3 := BR5.out.cell (j := 3) (v := .int .i64 0) rfl; have u4 := BR5.out.cell (j := 4) (v := .int .i64 0) rfl; have u5 := BR5.out.cell (j := 5) (v := .int .i64 0) rfl; have u6 := BR5.out.cell (j := 6) (v := .string ⟨#[]⟩) rfl; have u7 := BR5.out.cell (j := 7) (v := .slice none 0 0) rfl; have u8 := BR5.out.cell (j := 8) (v := .slice none 0 0) rfl; have f0 := BR5.out.open_ 0; have f1 := BR5.out.open_ 1; have f2 := BR5.out.open_ 2; have f3 := BR5.out.open_ 3; have f4 := BR5.out.open_ 4; have f5 := BR5.out.open_ 5; have f6 := BR5.out.open_ 6; have f7 := BR5.out.open_ 7; have f8 := BR5.out.open_ 8)
    have BRz : BoxU w _ (((((((((w5.setCell ⟨gR, 0, none⟩ (.int .i64 2)).setCell ⟨gR, 1, none⟩ (.int .i64 0)).setCell ⟨gR, 2, none⟩ (.int .i64 x.no)).setCell ⟨gR, 3, none⟩ (.int .i64 x.kind)).setCell ⟨gR, 4, none⟩ (.int .i64 m)).setCell ⟨gR, 5, none⟩ (.int .i64 x.size)).setCell ⟨gR, 6, none⟩ (.string x.target)).setCell ⟨gR, 7, none⟩ (.slice A5 x.entries.length c5)).setCell ⟨gR, 8, none⟩ (.slice A6 x.runs.length c6)) gR #[.int .i64 2, .int .i64 0, .int .i64 x.no, .int .i64 x.kind, .int .i64 m, .int .i64 x.size, .string x.target, .slice A5 x.entries.length c5, .slice A6 x.runs.length c6] 69 := BR5.out.sets [.int .i64 2, .int .i64 0, .int .i64 x.no, .int .i64 x.kind, .int .i64 m, .int .i64 x.size, .string x.target, .slice A5 x.entries.length c5, .slice A6 x.runs.length c6] rfl
    have Ez : Ext h w _ (((((((((w5.setCell ⟨gR, 0, none⟩ (.int .i64 2)).setCell ⟨gR, 1, none⟩ (.int .i64 0)).setCell ⟨gR, 2, none⟩ (.int .i64 x.no)).setCell ⟨gR, 3, none⟩ (.int .i64 x.kind)).setCell ⟨gR, 4, none⟩ (.int .i64 m)).setCell ⟨gR, 5, none⟩ (.int .i64 x.size)).setCell ⟨gR, 6, none⟩ (.string x.target)).setCell ⟨gR, 7, none⟩ (.slice A5 x.entries.length c5)).setCell ⟨gR, 8, none⟩ (.slice A6 x.runs.length c6)) := BR5.out.wr E5.out 0 [.int .i64 2, .int .i64 0, .int .i64 x.no, .int .i64 x.kind, .int .i64 m, .int .i64 x.size, .string x.target, .slice A5 x.entries.length c5, .slice A6 x.runs.length c6]
    with_reducible generalize (((((((((w5.setCell ⟨gR, 0, none⟩ (.int .i64 2)).setCell ⟨gR, 1, none⟩ (.int .i64 0)).setCell ⟨gR, 2, none⟩ (.int .i64 x.no)).setCell ⟨gR, 3, none⟩ (.int .i64 x.kind)).setCell ⟨gR, 4, none⟩ (.int .i64 m)).setCell ⟨gR, 5, none⟩ (.int .i64 x.size)).setCell ⟨gR, 6, none⟩ (.string x.target)).setCell ⟨gR, 7, none⟩ (.slice A5 x.entries.length c5)).setCell ⟨gR, 8, none⟩ (.slice A6 x.runs.length c6)) = Wz at BRz Ez ⊢
    have BRz := hid BRz
    have Ez := hid Ez
    have r0 := BRz.out.cell (j := 0) (v := .int .i64 2) rfl
    have r1 := BRz.out.cell (j := 1) (v := .int .i64 0) rfl
    have r2 := BRz.out.cell (j := 2) (v := .int .i64 x.no) rfl
    have r3 := BRz.out.cell (j := 3) (v := .int .i64 x.kind) rfl
    have r4 := BRz.out.cell (j := 4) (v := .int .i64 m) rfl
    have r5 := BRz.out.cell (j := 5) (v := .int .i64 x.size) rfl
    have r6 := BRz.out.cell (j := 6) (v := .string x.target) rfl
    have r7 := BRz.out.cell (j := 7) (v := .slice A5 x.entries.length c5) rfl
    have r8 := BRz.out.cell (j := 8) (v := .slice A6 x.runs.length c6) rfl
    refine bodyPost_ret (v := .agg #[.int .i64 2, .int .i64 0, .int .i64 x.no, .int .i64 x.kind, .int .i64 m, .int .i64 x.size, .string x.target, .slice A5 x.entries.length c5, .slice A6 x.runs.length c6]) (by simp [results, Tryd.results38, go_sem, r0, r1, r2, r3, r4, r5, r6, r7, r8]) rfl ?_
    exact ⟨A5, c5, A6, c6, by rw [HW.out], by rw [HW.out]; exact ⟨A5, c5, A6, c6, rfl, sz5, k5, row5, k6, row6⟩, Ez.out⟩

end Go.Proofs.YtmljcjjhakhjaaaDoor
