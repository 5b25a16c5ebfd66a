import Derived.Test.YtdiaibkpcnknbaaDoorBxA
import Derived.Test.YtdiaibkpcnknbaaDoorEntOps
import Derived.Test.YtdiaibkpcnknbaaDoorPkN
namespace Go.Proofs.YtdiaibkpcnknbaaDoor
open Go.RowKit Go.Sort
set_option linter.unusedVariables false
/-! ### package tree: right, put, without, letGo -/
theorem right_facts {t : ByteArray} (hc : partsCode t = 0) : noZero t = true ∧ 1 ≤ t.size := by
  have hs : (partsP t).isSome = true := by
    unfold partsCode at hc
    by_cases h : (partsP t).isSome = true
    · exact h
    · rw [if_neg h] at hc; exact absurd hc (by decide)
  unfold partsP at hs
  by_cases h1 : t.size < 1 ∨ 400 < t.size
  · rw [if_pos h1] at hs; cases hs
  · rw [if_neg h1] at hs
    refine ⟨?_, by omega⟩
    cases hz : noZero t with
    | true => rfl
    | false =>
      exfalso
      unfold noZero at hz
      rw [List.all_eq_false] at hz
      obtain ⟨c, hc1, hc2⟩ := hz
      have hc0 : c = 0 := by simpa using hc2
      subst hc0
      rw [parts_zero hc1] at hs
      cases hs
theorem right_iff (t : ByteArray) : (targetB t = true ∧ partsCode t = 0) ↔ (partsCode t = 0 ∧ t.size ≤ 200) := by
  constructor
  · rintro ⟨h1, h2⟩
    unfold targetB at h1
    simp only [Bool.and_eq_true, decide_eq_true_eq] at h1
    exact ⟨h2, by omega⟩
  · rintro ⟨h1, h2⟩
    obtain ⟨h3, h4⟩ := right_facts h1
    refine ⟨?_, h1⟩
    unfold targetB
    rw [h3]
    simp only [Bool.true_and, Bool.and_eq_true, decide_eq_true_eq]
    omega
set_option maxHeartbeats 4000000 in
set_option maxRecDepth 100000 in
theorem tree_right (t : ByteArray) (htz : t.size ≤ 9223372036854775807) (q : Bool) (hq : decide (targetB t = true ∧ partsCode t = 0) = q) (h : FH) (w : World) (hs : Sits h w) :
    Calls Tryd.prog 16 #[.string t] w fun e w' => e = .returned (.bool q) ∧ Ext h w h w' := by
  have KP := hid (name_Parts t htz h w hs)
  obtain ⟨code, hcd⟩ : ∃ code, partsCode t = code := ⟨_, rfl⟩
  obtain ⟨ls, hls⟩ : ∃ ls, partsXs t = ls := ⟨_, rfl⟩
  obtain ⟨top, htp⟩ : ∃ top, partsTop t = top := ⟨_, rfl⟩
  have hlen := (ways_lenW t).2
  rw [hcd, hls, htp] at KP
  rw [hls] at hlen
  have HQ := hid (show decide (code = 0 ∧ t.size ≤ 200) = q by rw [← hq, ← hcd]; exact decide_eq_decide.2 (right_iff t).symm)
  have HC := hid hcd
  clear hq hcd hls htp
  go_enter Tryd.func16, Tryd.ntmps16
  go_upto_region 2 with (go_at_call 36; refine KP.out.mono ?_; rintro e w1 R; obtain ⟨A, c, h1, rfl, kN, rN, F1⟩ := R.stayX (by omega); have E1 := hid F1; clear F1 kN R rN)
  by_cases hc : code = 0
  · subst hc
    have KI := hid (strings_IndexByte0 t (-1) (firstIdx_none (right_facts HC.out).1) h1 w1 E1.out.sits)
    by_cases hz : t.size ≤ 200
    · have HQ2 := hid (show true = q by rw [← HQ.out]; simp [hz])
      go_wp2_with (go_at_call 37; refine KI.out.mono ?_; rintro e w2 ⟨rfl, F2⟩; have E2 := hid (E1.out.trans F2); clear F2)
      all_goals first
        | (go_ret; exact ⟨by rw [← HQ2.out]; rfl, E2.out.back⟩)
        | skip
    · have hz1 : ¬ ((t.size : Int) ≤ 200) := by omega
      have HQ2 := hid (show false = q by rw [← HQ.out]; simp [hz])
      clear hz
      go_wp2_with fail
      go_ret
      exact ⟨by rw [← HQ2.out]; rfl, E1.out.back⟩
  · have hb : (code == 0) = false := by simpa using hc
    have HQ2 := hid (show false = q by rw [← HQ.out]; simp [hc])
    clear hc
    go_wp2_with fail
    go_ret
    exact ⟨by rw [← HQ2.out]; rfl, E1.out.back⟩

set_option maxHeartbeats 4000000 in
set_option maxRecDepth 100000 in
theorem tree_put (x : Inode) (A5 : Option Addr) (c5 : Nat) (A6 : Option Addr) (c6 : Nat) (h : FH) (w : World) (hs : Sits h w) :
    Calls Tryd.prog 19 #[.agg #[.int .i64 x.no, .int .i64 x.kind, .int .i64 x.links, .int .i64 x.size, .string x.target, .slice A5 x.entries.length c5, .slice A6 x.runs.length c6]] w fun e w' => e = .returned (.agg #[.int .i64 2, .int .i64 0, .int .i64 x.no, .int .i64 x.kind, .int .i64 x.links, .int .i64 x.size, .string x.target, .slice A5 x.entries.length c5, .slice A6 x.runs.length c6]) ∧ Ext h w h w' := by
  have E1 := (Ext.refl hs).alloc (.cells #[.int .i64 x.no, .int .i64 x.kind, .int .i64 x.links, .int .i64 x.size, .string x.target, .slice A5 x.entries.length c5, .slice A6 x.runs.length c6] 51)
  have E2 := E1.alloc (.cells #[.int .i64 0, .int .i64 0, .int .i64 0, .int .i64 0, .int .i64 0, .int .i64 0, .string ⟨#[]⟩, .slice none 0 0, .slice none 0 0] 63)
  have hX := box_alloc (heap_new w (.cells #[.int .i64 x.no, .int .i64 x.kind, .int .i64 x.links, .int .i64 x.size, .string x.target, .slice A5 x.entries.length c5, .slice A6 x.runs.length c6] 51)) (.cells #[.int .i64 0, .int .i64 0, .int .i64 0, .int .i64 0, .int .i64 0, .int .i64 0, .string ⟨#[]⟩, .slice none 0 0, .slice none 0 0] 63)
  have hR := heap_new (w.alloc (.cells #[.int .i64 x.no, .int .i64 x.kind, .int .i64 x.links, .int .i64 x.size, .string x.target, .slice A5 x.entries.length c5, .slice A6 x.runs.length c6] 51)) (.cells #[.int .i64 0, .int .i64 0, .int .i64 0, .int .i64 0, .int .i64 0, .int .i64 0, .string ⟨#[]⟩, .slice none 0 0, .slice none 0 0] 63)
  have nR := E1.sits.none (Nat.le_refl _)
  have hszR : (w.alloc (.cells #[.int .i64 x.no, .int .i64 x.kind, .int .i64 x.links, .int .i64 x.size, .string x.target, .slice A5 x.entries.length c5, .slice A6 x.runs.length c6] 51)).heap.size = w.heap.size + 1 := by simp
  rw [hszR] at hR nR
  clear E1
  go_enter Tryd.func19, Tryd.ntmps19
  go_upto_region 1 with (fail)
  obtain ⟨gx, hgx⟩ : ∃ gx, gx = w.heap.size := ⟨_, rfl⟩
  obtain ⟨gR, hgR⟩ : ∃ gR, gR = w.heap.size + 1 := ⟨_, rfl⟩
  rw [← hgx] at hX
  rw [← hgR] at hR nR
  rw [← hgR, ← hgx]
  with_reducible generalize (w.alloc (.cells #[.int .i64 x.no, .int .i64 x.kind, .int .i64 x.links, .int .i64 x.size, .string x.target, .slice A5 x.entries.length c5, .slice A6 x.runs.length c6] 51)).alloc (.cells #[.int .i64 0, .int .i64 0, .int .i64 0, .int .i64 0, .int .i64 0, .int .i64 0, .string ⟨#[]⟩, .slice none 0 0, .slice none 0 0] 63) = W2 at E2 hX hR ⊢
  have HgR := hid (show w.heap.size ≤ gR by omega)
  clear hgx hgR hszR
  have m0 : W2.cell? ⟨gx, 0, none⟩ = some (.int .i64 x.no) := box_cell (j := 0) hX rfl
  have m1 : W2.cell? ⟨gx, 1, none⟩ = some (.int .i64 x.kind) := box_cell (j := 1) hX rfl
  have m2 : W2.cell? ⟨gx, 2, none⟩ = some (.int .i64 x.links) := box_cell (j := 2) hX rfl
  have m3 : W2.cell? ⟨gx, 3, none⟩ = some (.int .i64 x.size) := box_cell (j := 3) hX rfl
  have m4 : W2.cell? ⟨gx, 4, none⟩ = some (.string x.target) := box_cell (j := 4) hX rfl
  have m5 : W2.cell? ⟨gx, 5, none⟩ = some (.slice A5 x.entries.length c5) := box_cell (j := 5) hX rfl
  have m6 : W2.cell? ⟨gx, 6, none⟩ = some (.slice A6 x.runs.length c6) := box_cell (j := 6) hX rfl
  have z0 : W2.cell? ⟨gR, 0, none⟩ = some (.int .i64 0) := box_cell (j := 0) hR rfl
  have f0 := box_free (j := 0) hR
  have z1 : W2.cell? ⟨gR, 1, none⟩ = some (.int .i64 0) := box_cell (j := 1) hR rfl
  have f1 := box_free (j := 1) hR
  have z2 : W2.cell? ⟨gR, 2, none⟩ = some (.int .i64 0) := box_cell (j := 2) hR rfl
  have f2 := box_free (j := 2) hR
  have z3 : W2.cell? ⟨gR, 3, none⟩ = some (.int .i64 0) := box_cell (j := 3) hR rfl
  have f3 := box_free (j := 3) hR
  have z4 : W2.cell? ⟨gR, 4, none⟩ = some (.int .i64 0) := box_cell (j := 4) hR rfl
  have f4 := box_free (j := 4) hR
  have z5 : W2.cell? ⟨gR, 5, none⟩ = some (.int .i64 0) := box_cell (j := 5) hR rfl
  have f5 := box_free (j := 5) hR
  have z6 : W2.cell? ⟨gR, 6, none⟩ = some (.string ⟨#[]⟩) := box_cell (j := 6) hR rfl
  have f6 := box_free (j := 6) hR
  have z7 : W2.cell? ⟨gR, 7, none⟩ = some (.slice none 0 0) := box_cell (j := 7) hR rfl
  have f7 := box_free (j := 7) hR
  have z8 : W2.cell? ⟨gR, 8, none⟩ = some (.slice none 0 0) := box_cell (j := 8) hR rfl
  have f8 := box_free (j := 8) hR
  have hR := hid hR
  have nR := hid nR
  have E2 := hid E2
  go_wp2_with fail
  have R7 : ((((((((((W2.setCell ⟨gR, 0, none⟩ (.int .i64 2)).setCell ⟨gR, 1, none⟩ (.int .i64 0)).setCell ⟨gR, 2, none⟩ (.int .i64 x.no)).setCell ⟨gR, 3, none⟩ (.int .i64 x.kind)).setCell ⟨gR, 4, none⟩ (.int .i64 x.links)).setCell ⟨gR, 5, none⟩ (.int .i64 x.size)).setCell ⟨gR, 6, none⟩ (.string x.target)).setCell ⟨gR, 7, none⟩ (.slice A5 x.entries.length c5)).setCell ⟨gR, 8, none⟩ (.slice A6 x.runs.length c6))).heap[gR]? = some (.cells #[.int .i64 2, .int .i64 0, .int .i64 x.no, .int .i64 x.kind, .int .i64 x.links, .int .i64 x.size, .string x.target, .slice A5 x.entries.length c5, .slice A6 x.runs.length c6] 63 (0, 0)) := setCells_row [.int .i64 2, .int .i64 0, .int .i64 x.no, .int .i64 x.kind, .int .i64 x.links, .int .i64 x.size, .string x.target, .slice A5 x.entries.length c5, .slice A6 x.runs.length c6] hR.out rfl
  have E7 : Ext h w h (((((((((W2.setCell ⟨gR, 0, none⟩ (.int .i64 2)).setCell ⟨gR, 1, none⟩ (.int .i64 0)).setCell ⟨gR, 2, none⟩ (.int .i64 x.no)).setCell ⟨gR, 3, none⟩ (.int .i64 x.kind)).setCell ⟨gR, 4, none⟩ (.int .i64 x.links)).setCell ⟨gR, 5, none⟩ (.int .i64 x.size)).setCell ⟨gR, 6, none⟩ (.string x.target)).setCell ⟨gR, 7, none⟩ (.slice A5 x.entries.length c5)).setCell ⟨gR, 8, none⟩ (.slice A6 x.runs.length c6)) := Ext.setCells (g := gR) HgR.out nR.out [.int .i64 2, .int .i64 0, .int .i64 x.no, .int .i64 x.kind, .int .i64 x.links, .int .i64 x.size, .string x.target, .slice A5 x.entries.length c5, .slice A6 x.runs.length c6] 0 _ E2.out
  refine bodyPost_ret (v := .agg #[.int .i64 2, .int .i64 0, .int .i64 x.no, .int .i64 x.kind, .int .i64 x.links, .int .i64 x.size, .string x.target, .slice A5 x.entries.length c5, .slice A6 x.runs.length c6]) ?_ rfl ⟨rfl, E7⟩
  exact results_cell_row (p := 2) (ty := 63) (by kernel_rfl) _ _ gR 63 #[.int .i64 2, .int .i64 0, .int .i64 x.no, .int .i64 x.kind, .int .i64 x.links, .int .i64 x.size, .string x.target, .slice A5 x.entries.length c5, .slice A6 x.runs.length c6] (0, 0) _ (by simp) R7 Tryd.underlying63 rfl (by kernel_rfl)

/-- A directory without a name. -/
def withoutP (d : Inode) (name : ByteArray) : Inode := if remC d.entries name = 0 then { d with entries := remE d.entries name } else d
def RetInode (h : FH) (w : World) (d : Inode) (e : Ending) (w' : World) : Prop := ∃ A5 c5 A6 c6 h1, e = .returned (.agg #[.int .i64 d.no, .int .i64 d.kind, .int .i64 d.links, .int .i64 d.size, .string d.target, .slice A5 d.entries.length c5, .slice A6 d.runs.length c6]) ∧ repInode h1 [.int .i64 d.no, .int .i64 d.kind, .int .i64 d.links, .int .i64 d.size, .string d.target, .slice A5 d.entries.length c5, .slice A6 d.runs.length c6] d ∧ Ext h w h1 w'
theorem remE_lenT (xs : List Entry) (s : ByteArray) : (remE xs s).length ≤ xs.length := by
  unfold remE
  split
  · simp; omega
  · simp
set_option maxHeartbeats 8000000 in
set_option maxRecDepth 100000 in
theorem tree_without (d : Inode) (A5 : Option Addr) (c5 : Nat) (A6 : Option Addr) (c6 : Nat) (hbig : d.entries.length ≤ 1000) (name : ByteArray) (hsz : name.size ≤ 9223372036854775807) (h : FH) (w : World) (hs : Sits h w) (r : repInode h [.int .i64 d.no, .int .i64 d.kind, .int .i64 d.links, .int .i64 d.size, .string d.target, .slice A5 d.entries.length c5, .slice A6 d.runs.length c6] d) :
    Calls Tryd.prog 28 #[.agg #[.int .i64 d.no, .int .i64 d.kind, .int .i64 d.links, .int .i64 d.size, .string d.target, .slice A5 d.entries.length c5, .slice A6 d.runs.length c6], .string name] w fun e w' => RetInode h w (withoutP d name) e w' := by
  obtain ⟨sz5, k5, row5, k6, row6⟩ := r.ent
  have E1 := (Ext.refl hs).alloc (.cells #[.int .i64 d.no, .int .i64 d.kind, .int .i64 d.links, .int .i64 d.size, .string d.target, .slice A5 d.entries.length c5, .slice A6 d.runs.length c6] 51)
  have BX := (BoxU.new (Ext.refl hs) #[.int .i64 d.no, .int .i64 d.kind, .int .i64 d.links, .int .i64 d.size, .string d.target, .slice A5 d.entries.length c5, .slice A6 d.runs.length c6] 51).alloc (.cells #[.int .i64 0, .int .i64 0, .int .i64 0, .int .i64 0, .string ⟨#[]⟩, .slice none 0 0, .slice none 0 0] 51)
  have BR := BoxU.new E1 #[.int .i64 0, .int .i64 0, .int .i64 0, .int .i64 0, .string ⟨#[]⟩, .slice none 0 0, .slice none 0 0] 51
  have E2 := E1.alloc (.cells #[.int .i64 0, .int .i64 0, .int .i64 0, .int .i64 0, .string ⟨#[]⟩, .slice none 0 0, .slice none 0 0] 51)
  have hszR : (w.alloc (.cells #[.int .i64 d.no, .int .i64 d.kind, .int .i64 d.links, .int .i64 d.size, .string d.target, .slice A5 d.entries.length c5, .slice A6 d.runs.length c6] 51)).heap.size = w.heap.size + 1 := by simp
  rw [hszR] at BR
  clear E1
  obtain ⟨l, hl⟩ : ∃ l, remE d.entries name = l := ⟨_, rfl⟩
  obtain ⟨code, hcd⟩ : ∃ code, remC d.entries name = code := ⟨_, rfl⟩
  have hll : l.length ≤ 1000 := by rw [← hl]; exact Nat.le_trans (remE_lenT _ _) hbig
  have HWP := hid (show withoutP d name = if code = 0 then { d with entries := l } else d by unfold withoutP; rw [hl, hcd])
  have HL := hid hl
  have HC := hid hcd
  clear hl hcd
  go_enter Tryd.func28, Tryd.ntmps28
  go_upto_region 1 with (fail)
  obtain ⟨gx, hgx⟩ : ∃ gx, gx = w.heap.size := ⟨_, rfl⟩
  obtain ⟨gR, hgR⟩ : ∃ gR, gR = w.heap.size + 1 := ⟨_, rfl⟩
  have hne := hid (show gR ≠ gx by omega)
  rw [← hgx] at BX
  rw [← hgR] at BR
  rw [← hgR, ← hgx]
  with_reducible generalize (w.alloc (.cells #[.int .i64 d.no, .int .i64 d.kind, .int .i64 d.links, .int .i64 d.size, .string d.target, .slice A5 d.entries.length c5, .slice A6 d.runs.length c6] 51)).alloc (.cells #[.int .i64 0, .int .i64 0, .int .i64 0, .int .i64 0, .string ⟨#[]⟩, .slice none 0 0, .slice none 0 0] 51) = W2 at E2 BR BX ⊢
  clear hgx hgR hszR
  have E2 := hid E2
  have BR := hid BR
  have BX := hid BX
  have KR := entries_Remove d.entries A5 c5 hbig name hsz h W2 E2.out.sits row5
  rw [HL.out, HC.out] at KR
  have KR := hid KR
  have y5 := BX.out.cell (j := 5) (v := .slice A5 d.entries.length c5) rfl
  go_upto_region 2 with (go_at_call 52; refine KR.out.mono ?_; rintro e w3 R; obtain ⟨A9, c9, h3, rfl, r9, F3, u0, u1, u2⟩ := R.stayX (by omega); have E3 := hid (E2.out.trans F3); have BX3 := hid (BX.out.ext F3); have BR3 := hid (BR.out.ext F3); have l3 := hid F3.le; have k9 := hid (show CapLe A9 l.length c9 from ⟨u1, u0, u2⟩); have r9 := hid r9; clear F3 u0 u1 u2 R y5)
  by_cases hc : code = 0
  · subst hc
    have HW := hid (show withoutP d name = { d with entries := l } by rw [HWP.out, if_pos rfl])
    have u5 := BX3.out.cell (j := 5) (v := .slice A5 d.entries.length c5) rfl
    have f5 := BX3.out.open_ 5
    go_upto_region 4 with (fail)
    have BX4 : BoxU w _ (w3.setCell ⟨gx, 5, none⟩ (.slice A9 l.length c9)) gx #[.int .i64 d.no, .int .i64 d.kind, .int .i64 d.links, .int .i64 d.size, .string d.target, .slice A9 l.length c9, .slice A6 d.runs.length c6] 51 := BX3.out.part 5 [.slice A9 l.length c9] (Nat.le_of_ble_eq_true rfl)
    have E4 : Ext h w _ (w3.setCell ⟨gx, 5, none⟩ (.slice A9 l.length c9)) := BX3.out.wr E3.out 5 [.slice A9 l.length c9]
    have BR4 : BoxU w _ (w3.setCell ⟨gx, 5, none⟩ (.slice A9 l.length c9)) _ _ _ := BR3.out.other hne.out 5 [.slice A9 l.length c9]
    with_reducible generalize (w3.setCell ⟨gx, 5, none⟩ (.slice A9 l.length c9)) = W4 at BX4 E4 BR4 ⊢
    have BX4 := hid BX4
    have E4 := hid E4
    have BR4 := hid BR4
    clear u5 f5 BX3 BR3 E3
    have y0 := BX4.out.cell (j := 0) (v := .int .i64 d.no) rfl
    have y1 := BX4.out.cell (j := 1) (v := .int .i64 d.kind) rfl
    have y2 := BX4.out.cell (j := 2) (v := .int .i64 d.links) rfl
    have y3 := BX4.out.cell (j := 3) (v := .int .i64 d.size) rfl
    have y4 := BX4.out.cell (j := 4) (v := .string d.target) rfl
    have y5 := BX4.out.cell (j := 5) (v := .slice A9 l.length c9) rfl
    have y6 := BX4.out.cell (j := 6) (v := .slice A6 d.runs.length c6) rfl
    have u0 := BR4.out.cell (j := 0) (v := .int .i64 0) rfl
    have u1 := BR4.out.cell (j := 1) (v := .int .i64 0) rfl
    have u2 := BR4.out.cell (j := 2) (v := .int .i64 0) rfl
    have u3 := BR4.out.cell (j := 3) (v := .int .i64 0) rfl
    have u4 := BR4.out.cell (j := 4) (v := .string ⟨#[]⟩) rfl
    have u5 := BR4.out.cell (j := 5) (v := .slice none 0 0) rfl
    have u6 := BR4.out.cell (j := 6) (v := .slice none 0 0) rfl
    have f0 := BR4.out.open_ 0
    have f1 := BR4.out.open_ 1
    have f2 := BR4.out.open_ 2
    have f3 := BR4.out.open_ 3
    have f4 := BR4.out.open_ 4
    have f5 := BR4.out.open_ 5
    have f6 := BR4.out.open_ 6
    go_wp2_with fail
    have BRz : BoxU w _ (((((((W4.setCell ⟨gR, 0, none⟩ (.int .i64 d.no)).setCell ⟨gR, 1, none⟩ (.int .i64 d.kind)).setCell ⟨gR, 2, none⟩ (.int .i64 d.links)).setCell ⟨gR, 3, none⟩ (.int .i64 d.size)).setCell ⟨gR, 4, none⟩ (.string d.target)).setCell ⟨gR, 5, none⟩ (.slice A9 l.length c9)).setCell ⟨gR, 6, none⟩ (.slice A6 d.runs.length c6)) gR #[.int .i64 d.no, .int .i64 d.kind, .int .i64 d.links, .int .i64 d.size, .string d.target, .slice A9 l.length c9, .slice A6 d.runs.length c6] 51 := BR4.out.sets [.int .i64 d.no, .int .i64 d.kind, .int .i64 d.links, .int .i64 d.size, .string d.target, .slice A9 l.length c9, .slice A6 d.runs.length c6] rfl
    have Ez : Ext h w _ (((((((W4.setCell ⟨gR, 0, none⟩ (.int .i64 d.no)).setCell ⟨gR, 1, none⟩ (.int .i64 d.kind)).setCell ⟨gR, 2, none⟩ (.int .i64 d.links)).setCell ⟨gR, 3, none⟩ (.int .i64 d.size)).setCell ⟨gR, 4, none⟩ (.string d.target)).setCell ⟨gR, 5, none⟩ (.slice A9 l.length c9)).setCell ⟨gR, 6, none⟩ (.slice A6 d.runs.length c6)) := BR4.out.wr E4.out 0 [.int .i64 d.no, .int .i64 d.kind, .int .i64 d.links, .int .i64 d.size, .string d.target, .slice A9 l.length c9, .slice A6 d.runs.length c6]
    with_reducible generalize (((((((W4.setCell ⟨gR, 0, none⟩ (.int .i64 d.no)).setCell ⟨gR, 1, none⟩ (.int .i64 d.kind)).setCell ⟨gR, 2, none⟩ (.int .i64 d.links)).setCell ⟨gR, 3, none⟩ (.int .i64 d.size)).setCell ⟨gR, 4, none⟩ (.string d.target)).setCell ⟨gR, 5, none⟩ (.slice A9 l.length c9)).setCell ⟨gR, 6, none⟩ (.slice A6 d.runs.length c6)) = Wz at BRz Ez ⊢
    have BRz := hid BRz
    have Ez := hid Ez
    have r0 := BRz.out.cell (j := 0) (v := .int .i64 d.no) rfl
    have r1 := BRz.out.cell (j := 1) (v := .int .i64 d.kind) rfl
    have r2 := BRz.out.cell (j := 2) (v := .int .i64 d.links) rfl
    have r3 := BRz.out.cell (j := 3) (v := .int .i64 d.size) rfl
    have r4 := BRz.out.cell (j := 4) (v := .string d.target) rfl
    have r5 := BRz.out.cell (j := 5) (v := .slice A9 l.length c9) rfl
    have r6 := BRz.out.cell (j := 6) (v := .slice A6 d.runs.length c6) rfl
    refine bodyPost_ret (v := .agg #[.int .i64 d.no, .int .i64 d.kind, .int .i64 d.links, .int .i64 d.size, .string d.target, .slice A9 l.length c9, .slice A6 d.runs.length c6]) (by simp [results, Tryd.results28, go_sem, r0, r1, r2, r3, r4, r5, r6]) rfl ?_
    exact ⟨A9, c9, A6, c6, h3, by rw [HW.out], by rw [HW.out]; exact ⟨A9, c9, A6, c6, rfl, sz5, k9.out, r9.out, k6, row6.mono l3.out⟩, Ez.out⟩
  · have hb : (code == 0) = false := by simpa using hc
    have HW := hid (show withoutP d name = d by rw [HWP.out, if_neg hc])
    clear hc
    have y0 := BX3.out.cell (j := 0) (v := .int .i64 d.no) rfl
    have y1 := BX3.out.cell (j := 1) (v := .int .i64 d.kind) rfl
    have y2 := BX3.out.cell (j := 2) (v := .int .i64 d.links) rfl
    have y3 := BX3.out.cell (j := 3) (v := .int .i64 d.size) rfl
    have y4 := BX3.out.cell (j := 4) (v := .string d.target) rfl
    have y5 := BX3.out.cell (j := 5) (v := .slice A5 d.entries.length c5) rfl
    have y6 := BX3.out.cell (j := 6) (v := .slice A6 d.runs.length c6) rfl
    have u0 := BR3.out.cell (j := 0) (v := .int .i64 0) rfl
    have u1 := BR3.out.cell (j := 1) (v := .int .i64 0) rfl
    have u2 := BR3.out.cell (j := 2) (v := .int .i64 0) rfl
    have u3 := BR3.out.cell (j := 3) (v := .int .i64 0) rfl
    have u4 := BR3.out.cell (j := 4) (v := .string ⟨#[]⟩) rfl
    have u5 := BR3.out.cell (j := 5) (v := .slice none 0 0) rfl
    have u6 := BR3.out.cell (j := 6) (v := .slice none 0 0) rfl
    have f0 := BR3.out.open_ 0
    have f1 := BR3.out.open_ 1
    have f2 := BR3.out.open_ 2
    have f3 := BR3.out.open_ 3
    have f4 := BR3.out.open_ 4
    have f5 := BR3.out.open_ 5
    have f6 := BR3.out.open_ 6
    go_wp2_with fail
    have BRz : BoxU w _ (((((((w3.setCell ⟨gR, 0, none⟩ (.int .i64 d.no)).setCell ⟨gR, 1, none⟩ (.int .i64 d.kind)).setCell ⟨gR, 2, none⟩ (.int .i64 d.links)).setCell ⟨gR, 3, none⟩ (.int .i64 d.size)).setCell ⟨gR, 4, none⟩ (.string d.target)).setCell ⟨gR, 5, none⟩ (.slice A5 d.entries.length c5)).setCell ⟨gR, 6, none⟩ (.slice A6 d.runs.length c6)) gR #[.int .i64 d.no, .int .i64 d.kind, .int .i64 d.links, .int .i64 d.size, .string d.target, .slice A5 d.entries.length c5, .slice A6 d.runs.length c6] 51 := BR3.out.sets [.int .i64 d.no, .int .i64 d.kind, .int .i64 d.links, .int .i64 d.size, .string d.target, .slice A5 d.entries.length c5, .slice A6 d.runs.length c6] rfl
    have Ez : Ext h w _ (((((((w3.setCell ⟨gR, 0, none⟩ (.int .i64 d.no)).setCell ⟨gR, 1, none⟩ (.int .i64 d.kind)).setCell ⟨gR, 2, none⟩ (.int .i64 d.links)).setCell ⟨gR, 3, none⟩ (.int .i64 d.size)).setCell ⟨gR, 4, none⟩ (.string d.target)).setCell ⟨gR, 5, none⟩ (.slice A5 d.entries.length c5)).setCell ⟨gR, 6, none⟩ (.slice A6 d.runs.length c6)) := BR3.out.wr E3.out 0 [.int .i64 d.no, .int .i64 d.kind, .int .i64 d.links, .int .i64 d.size, .string d.target, .slice A5 d.entries.length c5, .slice A6 d.runs.length c6]
    with_reducible generalize (((((((w3.setCell ⟨gR, 0, none⟩ (.int .i64 d.no)).setCell ⟨gR, 1, none⟩ (.int .i64 d.kind)).setCell ⟨gR, 2, none⟩ (.int .i64 d.links)).setCell ⟨gR, 3, none⟩ (.int .i64 d.size)).setCell ⟨gR, 4, none⟩ (.string d.target)).setCell ⟨gR, 5, none⟩ (.slice A5 d.entries.length c5)).setCell ⟨gR, 6, none⟩ (.slice A6 d.runs.length c6)) = Wz at BRz Ez ⊢
    have BRz := hid BRz
    have Ez := hid Ez
    have r0 := BRz.out.cell (j := 0) (v := .int .i64 d.no) rfl
    have r1 := BRz.out.cell (j := 1) (v := .int .i64 d.kind) rfl
    have r2 := BRz.out.cell (j := 2) (v := .int .i64 d.links) rfl
    have r3 := BRz.out.cell (j := 3) (v := .int .i64 d.size) rfl
    have r4 := BRz.out.cell (j := 4) (v := .string d.target) rfl
    have r5 := BRz.out.cell (j := 5) (v := .slice A5 d.entries.length c5) rfl
    have r6 := BRz.out.cell (j := 6) (v := .slice A6 d.runs.length c6) rfl
    refine bodyPost_ret (v := .agg #[.int .i64 d.no, .int .i64 d.kind, .int .i64 d.links, .int .i64 d.size, .string d.target, .slice A5 d.entries.length c5, .slice A6 d.runs.length c6]) (by simp [results, Tryd.results28, go_sem, r0, r1, r2, r3, r4, r5, r6]) rfl ?_
    exact ⟨A5, c5, A6, c6, h3, by rw [HW.out], by rw [HW.out]; exact (show repInode h _ d from r).mono l3.out, Ez.out⟩

def letGoP (x : Inode) (open_ : List Int) : Deed := if x.links ≤ 1 ∧ open_.any (eqZ x.no) = false then ⟨3, x.no, zeroI⟩ else ⟨2, 0, { x with links := max (x.links - 1) 0 }⟩
/-- A deed. -/
def RetDeed (h : FH) (w : World) (d : Deed) (e : Ending) (w' : World) : Prop := ∃ A5 c5 A6 c6, e = .returned (.agg #[.int .i64 d.kind, .int .i64 d.no, .int .i64 d.inode.no, .int .i64 d.inode.kind, .int .i64 d.inode.links, .int .i64 d.inode.size, .string d.inode.target, .slice A5 d.inode.entries.length c5, .slice A6 d.inode.runs.length c6]) ∧ repInode h [.int .i64 d.inode.no, .int .i64 d.inode.kind, .int .i64 d.inode.links, .int .i64 d.inode.size, .string d.inode.target, .slice A5 d.inode.entries.length c5, .slice A6 d.inode.runs.length c6] d.inode ∧ Ext h w h w'
set_option maxHeartbeats 8000000 in
set_option maxRecDepth 100000 in
theorem tree_letGo (x : Inode) (A5 : Option Addr) (c5 : Nat) (A6 : Option Addr) (c6 : Nat) (os : List Int) (AO : Option Addr) (cO : Nat) (hl0 : -1000000 ≤ x.links) (hl1 : x.links ≤ 1000000) (h : FH) (w : World) (hs : Sits h w) (r : repInode h [.int .i64 x.no, .int .i64 x.kind, .int .i64 x.links, .int .i64 x.size, .string x.target, .slice A5 x.entries.length c5, .slice A6 x.runs.length c6] x) (ro : RowAt h AO os) :
    Calls Tryd.prog 27 #[.agg #[.int .i64 x.no, .int .i64 x.kind, .int .i64 x.links, .int .i64 x.size, .string x.target, .slice A5 x.entries.length c5, .slice A6 x.runs.length c6], .slice AO os.length cO] w fun e w' => RetDeed h w (letGoP x os) e w' := by
  obtain ⟨sz5, k5, row5, k6, row6⟩ := r.ent
  have E1 := (Ext.refl hs).alloc (.cells #[.int .i64 x.no, .int .i64 x.kind, .int .i64 x.links, .int .i64 x.size, .string x.target, .slice A5 x.entries.length c5, .slice A6 x.runs.length c6] 51)
  have BX := (BoxU.new (Ext.refl hs) #[.int .i64 x.no, .int .i64 x.kind, .int .i64 x.links, .int .i64 x.size, .string x.target, .slice A5 x.entries.length c5, .slice A6 x.runs.length c6] 51).alloc (.cells #[.int .i64 0, .int .i64 0, .int .i64 0, .int .i64 0, .int .i64 0, .int .i64 0, .string ⟨#[]⟩, .slice none 0 0, .slice none 0 0] 63)
  have BR := BoxU.new E1 #[.int .i64 0, .int .i64 0, .int .i64 0, .int .i64 0, .int .i64 0, .int .i64 0, .string ⟨#[]⟩, .slice none 0 0, .slice none 0 0] 63
  have E2 := E1.alloc (.cells #[.int .i64 0, .int .i64 0, .int .i64 0, .int .i64 0, .int .i64 0, .int .i64 0, .string ⟨#[]⟩, .slice none 0 0, .slice none 0 0] 63)
  have hszR : (w.alloc (.cells #[.int .i64 x.no, .int .i64 x.kind, .int .i64 x.links, .int .i64 x.size, .string x.target, .slice A5 x.entries.length c5, .slice A6 x.runs.length c6] 51)).heap.size = w.heap.size + 1 := by simp
  rw [hszR] at BR
  clear E1
  obtain ⟨q, hq⟩ : ∃ q, os.any (eqZ x.no) = q := ⟨_, rfl⟩
  obtain ⟨m, hm⟩ : ∃ m, max (x.links - 1) 0 = m := ⟨_, rfl⟩
  have HWP := hid (show letGoP x os = if x.links ≤ 1 ∧ q = false then ⟨3, x.no, zeroI⟩ else ⟨2, 0, { x with links := m }⟩ by unfold letGoP; rw [hq, hm])
  have HQ := hid hq
  have HM := hid hm
  have hwr : IntKind.i64.wrap (x.links - 1) = x.links - 1 := by rw [IntKind.wrap_i64]; omega
  clear hq
  go_enter Tryd.func27, Tryd.ntmps27
  go_upto_region 1 with (fail)
  obtain ⟨gx, hgx⟩ : ∃ gx, gx = w.heap.size := ⟨_, rfl⟩
  obtain ⟨gR, hgR⟩ : ∃ gR, gR = w.heap.size + 1 := ⟨_, rfl⟩
  have hne := hid (show gR ≠ gx by omega)
  rw [← hgx] at BX
  rw [← hgR] at BR
  rw [← hgR, ← hgx]
  with_reducible generalize (w.alloc (.cells #[.int .i64 x.no, .int .i64 x.kind, .int .i64 x.links, .int .i64 x.size, .string x.target, .slice A5 x.entries.length c5, .slice A6 x.runs.length c6] 51)).alloc (.cells #[.int .i64 0, .int .i64 0, .int .i64 0, .int .i64 0, .int .i64 0, .int .i64 0, .string ⟨#[]⟩, .slice none 0 0, .slice none 0 0] 63) = W2 at E2 BR BX ⊢
  clear hgx hgR hszR
  have E2 := hid E2
  have BR := hid BR
  have BX := hid BX
  have KC := hid (contains_Int os AO cO x.no q HQ.out h W2 E2.out.sits ro)
  have m0 := BX.out.cell (j := 0) (v := .int .i64 x.no) rfl
  have m2 := BX.out.cell (j := 2) (v := .int .i64 x.links) rfl
  by_cases hle : x.links ≤ 1
  · cases q
    · have HW := hid (show letGoP x os = ⟨3, x.no, zeroI⟩ by rw [HWP.out, if_pos ⟨hle, rfl⟩])
      go_upto_region 2 with (go_at_call 51; refine KC.out.mono ?_; rintro e w3 ⟨rfl, F3⟩; have E3 := hid (E2.out.trans F3); have BX3 := hid (BX.out.ext F3); have BR3 := hid (BR.out.ext F3); clear F3 m0 m2)
      have y0 := BX3.out.cell (j := 0) (v := .int .i64 x.no) rfl
      have u0 := BR3.out.cell (j := 0) (v := .int .i64 0) rfl
      have u1 := BR3.out.cell (j := 1) (v := .int .i64 0) rfl
      have u2 := BR3.out.cell (j := 2) (v := .int .i64 0) rfl
      have u3 := BR3.out.cell (j := 3) (v := .int .i64 0) rfl
      have u4 := BR3.out.cell (j := 4) (v := .int .i64 0) rfl
      have u5 := BR3.out.cell (j := 5) (v := .int .i64 0) rfl
      have u6 := BR3.out.cell (j := 6) (v := .string ⟨#[]⟩) rfl
      have u7 := BR3.out.cell (j := 7) (v := .slice none 0 0) rfl
      have u8 := BR3.out.cell (j := 8) (v := .slice none 0 0) rfl
      have f0 := BR3.out.open_ 0
      have f1 := BR3.out.open_ 1
      have f2 := BR3.out.open_ 2
      have f3 := BR3.out.open_ 3
      have f4 := BR3.out.open_ 4
      have f5 := BR3.out.open_ 5
      have f6 := BR3.out.open_ 6
      have f7 := BR3.out.open_ 7
      have f8 := BR3.out.open_ 8
      go_wp2_with fail
      have BRz : BoxU w _ (((((((((w3.setCell ⟨gR, 0, none⟩ (.int .i64 3)).setCell ⟨gR, 1, none⟩ (.int .i64 x.no)).setCell ⟨gR, 2, none⟩ (.int .i64 0)).setCell ⟨gR, 3, none⟩ (.int .i64 0)).setCell ⟨gR, 4, none⟩ (.int .i64 0)).setCell ⟨gR, 5, none⟩ (.int .i64 0)).setCell ⟨gR, 6, none⟩ (.string ⟨#[]⟩)).setCell ⟨gR, 7, none⟩ (.slice none 0 0)).setCell ⟨gR, 8, none⟩ (.slice none 0 0)) gR #[.int .i64 3, .int .i64 x.no, .int .i64 0, .int .i64 0, .int .i64 0, .int .i64 0, .string ⟨#[]⟩, .slice none 0 0, .slice none 0 0] 63 := BR3.out.sets [.int .i64 3, .int .i64 x.no, .int .i64 0, .int .i64 0, .int .i64 0, .int .i64 0, .string ⟨#[]⟩, .slice none 0 0, .slice none 0 0] rfl
      have Ez : Ext h w _ (((((((((w3.setCell ⟨gR, 0, none⟩ (.int .i64 3)).setCell ⟨gR, 1, none⟩ (.int .i64 x.no)).setCell ⟨gR, 2, none⟩ (.int .i64 0)).setCell ⟨gR, 3, none⟩ (.int .i64 0)).setCell ⟨gR, 4, none⟩ (.int .i64 0)).setCell ⟨gR, 5, none⟩ (.int .i64 0)).setCell ⟨gR, 6, none⟩ (.string ⟨#[]⟩)).setCell ⟨gR, 7, none⟩ (.slice none 0 0)).setCell ⟨gR, 8, none⟩ (.slice none 0 0)) := BR3.out.wr E3.out 0 [.int .i64 3, .int .i64 x.no, .int .i64 0, .int .i64 0, .int .i64 0, .int .i64 0, .string ⟨#[]⟩, .slice none 0 0, .slice none 0 0]
      with_reducible generalize (((((((((w3.setCell ⟨gR, 0, none⟩ (.int .i64 3)).setCell ⟨gR, 1, none⟩ (.int .i64 x.no)).setCell ⟨gR, 2, none⟩ (.int .i64 0)).setCell ⟨gR, 3, none⟩ (.int .i64 0)).setCell ⟨gR, 4, none⟩ (.int .i64 0)).setCell ⟨gR, 5, none⟩ (.int .i64 0)).setCell ⟨gR, 6, none⟩ (.string ⟨#[]⟩)).setCell ⟨gR, 7, none⟩ (.slice none 0 0)).setCell ⟨gR, 8, none⟩ (.slice none 0 0)) = Wz at BRz Ez ⊢
      have BRz := hid BRz
      have Ez := hid Ez
      have r0 := BRz.out.cell (j := 0) (v := .int .i64 3) rfl
      have r1 := BRz.out.cell (j := 1) (v := .int .i64 x.no) rfl
      have r2 := BRz.out.cell (j := 2) (v := .int .i64 0) rfl
      have r3 := BRz.out.cell (j := 3) (v := .int .i64 0) rfl
      have r4 := BRz.out.cell (j := 4) (v := .int .i64 0) rfl
      have r5 := BRz.out.cell (j := 5) (v := .int .i64 0) rfl
      have r6 := BRz.out.cell (j := 6) (v := .string ⟨#[]⟩) rfl
      have r7 := BRz.out.cell (j := 7) (v := .slice none 0 0) rfl
      have r8 := BRz.out.cell (j := 8) (v := .slice none 0 0) rfl
      refine bodyPost_ret (v := .agg #[.int .i64 3, .int .i64 x.no, .int .i64 0, .int .i64 0, .int .i64 0, .int .i64 0, .string ⟨#[]⟩, .slice none 0 0, .slice none 0 0]) (by simp [results, Tryd.results27, go_sem, r0, r1, r2, r3, r4, r5, r6, r7, r8]) rfl ?_
      exact ⟨none, 0, none, 0, by rw [HW.out]; (first | done | rfl), by rw [HW.out]; exact zeroI_rep _, Ez.out⟩
    · have HW := hid (show letGoP x os = ⟨2, 0, { x with links := m }⟩ by rw [HWP.out, if_neg (by simp)])
      go_upto_region 3 with (go_at_call 51; refine KC.out.mono ?_; rintro e w3 ⟨rfl, F3⟩; have E3 := hid (E2.out.trans F3); have BX3 := hid (BX.out.ext F3); have BR3 := hid (BR.out.ext F3); clear F3 m0 m2)
      have hmax := fun ts t (w : World) => show (Builtin.max_ ts t #[.int .i64 (x.links - 1), .int .i64 0]).run Tryd.prog w = .ok (.int .i64 m) w by rw [run_max_int2, ← HM.out]; congr 2; split <;> omega
      clear hm
      have q2 := BX3.out.cell (j := 2) (v := .int .i64 x.links) rfl
      have g2 := BX3.out.open_ 2
      go_upto_region 4 with (fail)
      have BX4 : BoxU w _ (w3.setCell ⟨gx, 2, none⟩ (.int .i64 m)) gx #[.int .i64 x.no, .int .i64 x.kind, .int .i64 m, .int .i64 x.size, .string x.target, .slice A5 x.entries.length c5, .slice A6 x.runs.length c6] 51 := BX3.out.part 2 [.int .i64 m] (Nat.le_of_ble_eq_true rfl)
      have E4 : Ext h w _ (w3.setCell ⟨gx, 2, none⟩ (.int .i64 m)) := BX3.out.wr E3.out 2 [.int .i64 m]
      have BR4 : BoxU w _ (w3.setCell ⟨gx, 2, none⟩ (.int .i64 m)) _ _ _ := BR3.out.other hne.out 2 [.int .i64 m]
      with_reducible generalize (w3.setCell ⟨gx, 2, none⟩ (.int .i64 m)) = W4 at BX4 E4 BR4 ⊢
      have BX4 := hid BX4
      have E4 := hid E4
      have BR4 := hid BR4
      clear q2 g2
      have y0 := BX4.out.cell (j := 0) (v := .int .i64 x.no) rfl
      have y1 := BX4.out.cell (j := 1) (v := .int .i64 x.kind) rfl
      have y2 := BX4.out.cell (j := 2) (v := .int .i64 m) rfl
      have y3 := BX4.out.cell (j := 3) (v := .int .i64 x.size) rfl
      have y4 := BX4.out.cell (j := 4) (v := .string x.target) rfl
      have y5 := BX4.out.cell (j := 5) (v := .slice A5 x.entries.length c5) rfl
      have y6 := BX4.out.cell (j := 6) (v := .slice A6 x.runs.length c6) rfl
      have KP := hid (show Calls Tryd.prog 19 #[.agg #[.int .i64 x.no, .int .i64 x.kind, .int .i64 m, .int .i64 x.size, .string x.target, .slice A5 x.entries.length c5, .slice A6 x.runs.length c6]] W4 fun e w' => e = .returned (.agg #[.int .i64 2, .int .i64 0, .int .i64 x.no, .int .i64 x.kind, .int .i64 m, .int .i64 x.size, .string x.target, .slice A5 x.entries.length c5, .slice A6 x.runs.length c6]) ∧ Ext h W4 h w' from tree_put ⟨x.no, x.kind, m, x.size, x.target, x.entries, x.runs⟩ A5 c5 A6 c6 h W4 E4.out.sits)
      go_wp2_with (go_at_call 19; refine KP.out.mono ?_; rintro e w5 ⟨rfl, F5⟩; have E5 := hid (E4.out.trans F5); have BR5 := hid (BR4.out.ext F5); clear F5 y0 y1 y2 y3 y4 y5 y6; have u0 := BR5.out.cell (j := 0) (v := .int .i64 0) rfl; have u1 := BR5.out.cell (j := 1) (v := .int .i64 0) rfl; have u2 := BR5.out.cell (j := 2) (v := .int .i64 0) rfl; have u3 := BR5.out.cell (j := 3) (v := .int .i64 0) rfl; have u4 := BR5.out.cell (j := 4) (v := .int .i64 0) rfl; have u5 := BR5.out.cell (j := 5) (v := .int .i64 0) rfl; have u6 := BR5.out.cell (j := 6) (v := .string ⟨#[]⟩) rfl; have u7 := BR5.out.cell (j := 7) (v := .slice none 0 0) rfl; have u8 := BR5.out.cell (j := 8) (v := .slice none 0 0) rfl; have f0 := BR5.out.open_ 0; have f1 := BR5.out.open_ 1; have f2 := BR5.out.open_ 2; have f3 := BR5.out.open_ 3; have f4 := BR5.out.open_ 4; have f5 := BR5.out.open_ 5; have f6 := BR5.out.open_ 6; have f7 := BR5.out.open_ 7; have f8 := BR5.out.open_ 8)
      have BRz : BoxU w _ (((((((((w5.setCell ⟨gR, 0, none⟩ (.int .i64 2)).setCell ⟨gR, 1, none⟩ (.int .i64 0)).setCell ⟨gR, 2, none⟩ (.int .i64 x.no)).setCell ⟨gR, 3, none⟩ (.int .i64 x.kind)).setCell ⟨gR, 4, none⟩ (.int .i64 m)).setCell ⟨gR, 5, none⟩ (.int .i64 x.size)).setCell ⟨gR, 6, none⟩ (.string x.target)).setCell ⟨gR, 7, none⟩ (.slice A5 x.entries.length c5)).setCell ⟨gR, 8, none⟩ (.slice A6 x.runs.length c6)) gR #[.int .i64 2, .int .i64 0, .int .i64 x.no, .int .i64 x.kind, .int .i64 m, .int .i64 x.size, .string x.target, .slice A5 x.entries.length c5, .slice A6 x.runs.length c6] 63 := BR5.out.sets [.int .i64 2, .int .i64 0, .int .i64 x.no, .int .i64 x.kind, .int .i64 m, .int .i64 x.size, .string x.target, .slice A5 x.entries.length c5, .slice A6 x.runs.length c6] rfl
      have Ez : Ext h w _ (((((((((w5.setCell ⟨gR, 0, none⟩ (.int .i64 2)).setCell ⟨gR, 1, none⟩ (.int .i64 0)).setCell ⟨gR, 2, none⟩ (.int .i64 x.no)).setCell ⟨gR, 3, none⟩ (.int .i64 x.kind)).setCell ⟨gR, 4, none⟩ (.int .i64 m)).setCell ⟨gR, 5, none⟩ (.int .i64 x.size)).setCell ⟨gR, 6, none⟩ (.string x.target)).setCell ⟨gR, 7, none⟩ (.slice A5 x.entries.length c5)).setCell ⟨gR, 8, none⟩ (.slice A6 x.runs.length c6)) := BR5.out.wr E5.out 0 [.int .i64 2, .int .i64 0, .int .i64 x.no, .int .i64 x.kind, .int .i64 m, .int .i64 x.size, .string x.target, .slice A5 x.entries.length c5, .slice A6 x.runs.length c6]
      with_reducible generalize (((((((((w5.setCell ⟨gR, 0, none⟩ (.int .i64 2)).setCell ⟨gR, 1, none⟩ (.int .i64 0)).setCell ⟨gR, 2, none⟩ (.int .i64 x.no)).setCell ⟨gR, 3, none⟩ (.int .i64 x.kind)).setCell ⟨gR, 4, none⟩ (.int .i64 m)).setCell ⟨gR, 5, none⟩ (.int .i64 x.size)).setCell ⟨gR, 6, none⟩ (.string x.target)).setCell ⟨gR, 7, none⟩ (.slice A5 x.entries.length c5)).setCell ⟨gR, 8, none⟩ (.slice A6 x.runs.length c6)) = Wz at BRz Ez ⊢
      have BRz := hid BRz
      have Ez := hid Ez
      have r0 := BRz.out.cell (j := 0) (v := .int .i64 2) rfl
      have r1 := BRz.out.cell (j := 1) (v := .int .i64 0) rfl
      have r2 := BRz.out.cell (j := 2) (v := .int .i64 x.no) rfl
      have r3 := BRz.out.cell (j := 3) (v := .int .i64 x.kind) rfl
      have r4 := BRz.out.cell (j := 4) (v := .int .i64 m) rfl
      have r5 := BRz.out.cell (j := 5) (v := .int .i64 x.size) rfl
      have r6 := BRz.out.cell (j := 6) (v := .string x.target) rfl
      have r7 := BRz.out.cell (j := 7) (v := .slice A5 x.entries.length c5) rfl
      have r8 := BRz.out.cell (j := 8) (v := .slice A6 x.runs.length c6) rfl
      refine bodyPost_ret (v := .agg #[.int .i64 2, .int .i64 0, .int .i64 x.no, .int .i64 x.kind, .int .i64 m, .int .i64 x.size, .string x.target, .slice A5 x.entries.length c5, .slice A6 x.runs.length c6]) (by simp [results, Tryd.results27, go_sem, r0, r1, r2, r3, r4, r5, r6, r7, r8]) rfl ?_
      exact ⟨A5, c5, A6, c6, by rw [HW.out], by rw [HW.out]; exact ⟨A5, c5, A6, c6, rfl, sz5, k5, row5, k6, row6⟩, Ez.out⟩
  · have HW := hid (show letGoP x os = ⟨2, 0, { x with links := m }⟩ by rw [HWP.out, if_neg (by omega)])
    have hmax := fun ts t (w : World) => show (Builtin.max_ ts t #[.int .i64 (x.links - 1), .int .i64 0]).run Tryd.prog w = .ok (.int .i64 m) w by rw [run_max_int2, ← HM.out]; congr 2; split <;> omega
    clear hm
    go_upto_region 3 with (fail)
    clear m0 m2
    have q2 := BX.out.cell (j := 2) (v := .int .i64 x.links) rfl
    have g2 := BX.out.open_ 2
    go_upto_region 4 with (fail)
    have BX4 : BoxU w _ (W2.setCell ⟨gx, 2, none⟩ (.int .i64 m)) gx #[.int .i64 x.no, .int .i64 x.kind, .int .i64 m, .int .i64 x.size, .string x.target, .slice A5 x.entries.length c5, .slice A6 x.runs.length c6] 51 := BX.out.part 2 [.int .i64 m] (Nat.le_of_ble_eq_true rfl)
    have E4 : Ext h w _ (W2.setCell ⟨gx, 2, none⟩ (.int .i64 m)) := BX.out.wr E2.out 2 [.int .i64 m]
    have BR4 : BoxU w _ (W2.setCell ⟨gx, 2, none⟩ (.int .i64 m)) _ _ _ := BR.out.other hne.out 2 [.int .i64 m]
    with_reducible generalize (W2.setCell ⟨gx, 2, none⟩ (.int .i64 m)) = W4 at BX4 E4 BR4 ⊢
    have BX4 := hid BX4
    have E4 := hid E4
    have BR4 := hid BR4
    clear q2 g2
    have y0 := BX4.out.cell (j := 0) (v := .int .i64 x.no) rfl
    have y1 := BX4.out.cell (j := 1) (v := .int .i64 x.kind) rfl
    have y2 := BX4.out.cell (j := 2) (v := .int .i64 m) rfl
    have y3 := BX4.out.cell (j := 3) (v := .int .i64 x.size) rfl
    have y4 := BX4.out.cell (j := 4) (v := .string x.target) rfl
    have y5 := BX4.out.cell (j := 5) (v := .slice A5 x.entries.length c5) rfl
    have y6 := BX4.out.cell (j := 6) (v := .slice A6 x.runs.length c6) rfl
    have KP := hid (show Calls Tryd.prog 19 #[.agg #[.int .i64 x.no, .int .i64 x.kind, .int .i64 m, .int .i64 x.size, .string x.target, .slice A5 x.entries.length c5, .slice A6 x.runs.length c6]] W4 fun e w' => e = .returned (.agg #[.int .i64 2, .int .i64 0, .int .i64 x.no, .int .i64 x.kind, .int .i64 m, .int .i64 x.size, .string x.target, .slice A5 x.entries.length c5, .slice A6 x.runs.length c6]) ∧ Ext h W4 h w' from tree_put ⟨x.no, x.kind, m, x.size, x.target, x.entries, x.runs⟩ A5 c5 A6 c6 h W4 E4.out.sits)
    go_wp2_with (go_at_call 19; refine KP.out.mono ?_; rintro e w5 ⟨rfl, F5⟩; have E5 := hid (E4.out.trans F5); have BR5 := hid (BR4.out.ext F5); clear F5 y0 y1 y2 y3 y4 y5 y6; have u0 := BR5.out.cell (j := 0) (v := .int .i64 0) rfl; have u1 := BR5.out.cell (j := 1) (v := .int .i64 0) rfl; have u2 := BR5.out.cell (j := 2) (v := .int .i64 0) rfl; have u3 := BR5.out.cell (j := 3) (v := .int .i64 0) rfl; have u4 := BR5.out.cell (j := 4) (v := .int .i64 0) rfl; have u5 := BR5.out.cell (j := 5) (v := .int .i64 0) rfl; have u6 := BR5.out.cell (j := 6) (v := .string ⟨#[]⟩) rfl; have u7 := BR5.out.cell (j := 7) (v := .slice none 0 0) rfl; have u8 := BR5.out.cell (j := 8) (v := .slice none 0 0) rfl; have f0 := BR5.out.open_ 0; have f1 := BR5.out.open_ 1; have f2 := BR5.out.open_ 2; have f3 := BR5.out.open_ 3; have f4 := BR5.out.open_ 4; have f5 := BR5.out.open_ 5; have f6 := BR5.out.open_ 6; have f7 := BR5.out.open_ 7; have f8 := BR5.out.open_ 8)
    have BRz : BoxU w _ (((((((((w5.setCell ⟨gR, 0, none⟩ (.int .i64 2)).setCell ⟨gR, 1, none⟩ (.int .i64 0)).setCell ⟨gR, 2, none⟩ (.int .i64 x.no)).setCell ⟨gR, 3, none⟩ (.int .i64 x.kind)).setCell ⟨gR, 4, none⟩ (.int .i64 m)).setCell ⟨gR, 5, none⟩ (.int .i64 x.size)).setCell ⟨gR, 6, none⟩ (.string x.target)).setCell ⟨gR, 7, none⟩ (.slice A5 x.entries.length c5)).setCell ⟨gR, 8, none⟩ (.slice A6 x.runs.length c6)) gR #[.int .i64 2, .int .i64 0, .int .i64 x.no, .int .i64 x.kind, .int .i64 m, .int .i64 x.size, .string x.target, .slice A5 x.entries.length c5, .slice A6 x.runs.length c6] 63 := BR5.out.sets [.int .i64 2, .int .i64 0, .int .i64 x.no, .int .i64 x.kind, .int .i64 m, .int .i64 x.size, .string x.target, .slice A5 x.entries.length c5, .slice A6 x.runs.length c6] rfl
    have Ez : Ext h w _ (((((((((w5.setCell ⟨gR, 0, none⟩ (.int .i64 2)).setCell ⟨gR, 1, none⟩ (.int .i64 0)).setCell ⟨gR, 2, none⟩ (.int .i64 x.no)).setCell ⟨gR, 3, none⟩ (.int .i64 x.kind)).setCell ⟨gR, 4, none⟩ (.int .i64 m)).setCell ⟨gR, 5, none⟩ (.int .i64 x.size)).setCell ⟨gR, 6, none⟩ (.string x.target)).setCell ⟨gR, 7, none⟩ (.slice A5 x.entries.length c5)).setCell ⟨gR, 8, none⟩ (.slice A6 x.runs.length c6)) := BR5.out.wr E5.out 0 [.int .i64 2, .int .i64 0, .int .i64 x.no, .int .i64 x.kind, .int .i64 m, .int .i64 x.size, .string x.target, .slice A5 x.entries.length c5, .slice A6 x.runs.length c6]
    with_reducible generalize (((((((((w5.setCell ⟨gR, 0, none⟩ (.int .i64 2)).setCell ⟨gR, 1, none⟩ (.int .i64 0)).setCell ⟨gR, 2, none⟩ (.int .i64 x.no)).setCell ⟨gR, 3, none⟩ (.int .i64 x.kind)).setCell ⟨gR, 4, none⟩ (.int .i64 m)).setCell ⟨gR, 5, none⟩ (.int .i64 x.size)).setCell ⟨gR, 6, none⟩ (.string x.target)).setCell ⟨gR, 7, none⟩ (.slice A5 x.entries.length c5)).setCell ⟨gR, 8, none⟩ (.slice A6 x.runs.length c6)) = Wz at BRz Ez ⊢
    have BRz := hid BRz
    have Ez := hid Ez
    have r0 := BRz.out.cell (j := 0) (v := .int .i64 2) rfl
    have r1 := BRz.out.cell (j := 1) (v := .int .i64 0) rfl
    have r2 := BRz.out.cell (j := 2) (v := .int .i64 x.no) rfl
    have r3 := BRz.out.cell (j := 3) (v := .int .i64 x.kind) rfl
    have r4 := BRz.out.cell (j := 4) (v := .int .i64 m) rfl
    have r5 := BRz.out.cell (j := 5) (v := .int .i64 x.size) rfl
    have r6 := BRz.out.cell (j := 6) (v := .string x.target) rfl
    have r7 := BRz.out.cell (j := 7) (v := .slice A5 x.entries.length c5) rfl
    have r8 := BRz.out.cell (j := 8) (v := .slice A6 x.runs.length c6) rfl
    refine bodyPost_ret (v := .agg #[.int .i64 2, .int .i64 0, .int .i64 x.no, .int .i64 x.kind, .int .i64 m, .int .i64 x.size, .string x.target, .slice A5 x.entries.length c5, .slice A6 x.runs.length c6]) (by simp [results, Tryd.results27, go_sem, r0, r1, r2, r3, r4, r5, r6, r7, r8]) rfl ?_
    exact ⟨A5, c5, A6, c6, by rw [HW.out], by rw [HW.out]; exact ⟨A5, c5, A6, c6, rfl, sz5, k5, row5, k6, row6⟩, Ez.out⟩

end Go.Proofs.YtdiaibkpcnknbaaDoor

namespace Go.Proofs.YtdiaibkpcnknbaaDoor
open Go.RowKit Go.Sort
set_option linter.unusedVariables false
/-! ### package tree: find, there, fresh -/
structure Spot where
  dir : Inode
  name : ByteArray
  x : Inode
  is : Bool
def zeroSpot : Spot := ⟨zeroI, ⟨#[]⟩, zeroI, false⟩
/-- A spot, in the memory. -/
def repSpot (h : FH) (cs : List Value) (p : Spot) : Prop := ∃ dl xl, cs = spotL dl p.name xl p.is ∧ repInode h dl p.dir ∧ repInode h xl p.x ∧ p.name.size ≤ 9223372036854775807
theorem repSpot.mono {h h' : FH} {cs : List Value} {p : Spot} (l : FLe h h') (r : repSpot h cs p) : repSpot h' cs p := by
  obtain ⟨dl, xl, e, r1, r2, r3⟩ := r
  exact ⟨dl, xl, e, r1.mono l, r2.mono l, r3⟩
theorem repSpot.len {h : FH} {cs : List Value} {p : Spot} (r : repSpot h cs p) : cs.length = 16 := by
  obtain ⟨dl, xl, rfl, r1, r2, r3⟩ := r
  exact spotL_len r1.len r2.len _ _
theorem repSpot.one {h : FH} {cs : List Value} {p : Spot} (r : repSpot h cs p) : ∀ u ∈ cs, u.oneCell' = true := by
  obtain ⟨dl, xl, rfl, r1, r2, r3⟩ := r
  exact spotL_one r1.one r2.one _ _
theorem info_Spot {cs : List Value} (h : cs.length = 16) : (Tryd.prog.info? 55).map (·.size) = some cs.toArray.size := by rw [List.size_toArray, h]; kernel_rfl
/-- Where a way's last name stands. -/
def RetSpot (h : FH) (w : World) (p : Spot) (code : Int) (e : Ending) (w' : World) : Prop := ∃ cs h1, e = .returned (.tuple #[.agg cs.toArray, .int .i64 code]) ∧ repSpot h1 cs p ∧ Ext h w h1 w'
def atS (xs : List Inode) (no : Int) (name : ByteArray) : Spot :=
  match findE ((findI xs no).getD zeroI).entries name with
  | none => ⟨(findI xs no).getD zeroI, name, zeroI, false⟩
  | some to_ => ⟨(findI xs no).getD zeroI, name, (findI xs to_).getD zeroI, (findI xs to_).isSome⟩
def findS (xs : List Inode) (path : ByteArray) : Spot × Int :=
  if (parentP xs path).2.2 ≠ 0 then (zeroSpot, (parentP xs path).2.2) else (atS xs (parentP xs path).1 (parentP xs path).2.1, 0)
theorem zeroSpot_rep (h : FH) : repSpot h (spotL zeroL ⟨#[]⟩ zeroL false) zeroSpot := ⟨zeroL, zeroL, rfl, zeroL_rep h, zeroL_rep h, Nat.zero_le _⟩

set_option maxHeartbeats 16000000 in
set_option maxRecDepth 100000 in
theorem tree_find (s : State) (cs : List Value) (path : ByteArray) (hsz : path.size ≤ 9223372036854775807) (hfit : ∀ x ∈ s.inodes, fitI x) (p : Spot) (code : Int) (hp : findS s.inodes path = (p, code)) (h : FH) (w : World) (hs : Sits h w) (rS : repState h cs s) :
    Calls Tryd.prog 24 #[.agg cs.toArray, .string path] w fun e w' => RetSpot h w p code e w' := by
  have RS := hid rS
  have HFIT := hid hfit
  clear rS hfit
  obtain ⟨h1, E1, hb1, le1, hh1⟩ := (Ext.refl hs).boxF cs.toArray 31
  have BR := BoxU.new E1 #[.int .i64 0, .int .i64 0, .int .i64 0, .int .i64 0, .string ⟨#[]⟩, .slice none 0 0, .slice none 0 0, .string ⟨#[]⟩, .int .i64 0, .int .i64 0, .int .i64 0, .int .i64 0, .string ⟨#[]⟩, .slice none 0 0, .slice none 0 0, .bool false] 55
  have E2 := E1.alloc (.cells #[.int .i64 0, .int .i64 0, .int .i64 0, .int .i64 0, .string ⟨#[]⟩, .slice none 0 0, .slice none 0 0, .string ⟨#[]⟩, .int .i64 0, .int .i64 0, .int .i64 0, .int .i64 0, .string ⟨#[]⟩, .slice none 0 0, .slice none 0 0, .bool false] 55)
  have hszR : (w.alloc (.cells cs.toArray 31)).heap.size = w.heap.size + 1 := by simp
  rw [hszR] at BR
  clear hh1 E1
  obtain ⟨par, hpar⟩ : ∃ par, parentP s.inodes path = par := ⟨_, rfl⟩
  obtain ⟨no, name, code1⟩ := par
  have HPA := hid (show (if code1 ≠ 0 then (zeroSpot, code1) else (atS s.inodes no name, 0)) = (p, code) by rw [← hp]; unfold findS; rw [hpar])
  have HPAR := hid hpar
  clear hpar hp
  go_enter Tryd.func24, Tryd.ntmps24
  go_upto_region 1 with (fail)
  obtain ⟨gx, hgx⟩ : ∃ gx, gx = w.heap.size := ⟨_, rfl⟩
  obtain ⟨gR, hgR⟩ : ∃ gR, gR = w.heap.size + 1 := ⟨_, rfl⟩
  rw [← hgx] at hb1
  rw [← hgR] at BR
  rw [← hgR, ← hgx]
  with_reducible generalize (w.alloc (.cells cs.toArray 31)).alloc (.cells #[.int .i64 0, .int .i64 0, .int .i64 0, .int .i64 0, .string ⟨#[]⟩, .slice none 0 0, .slice none 0 0, .string ⟨#[]⟩, .int .i64 0, .int .i64 0, .int .i64 0, .int .i64 0, .string ⟨#[]⟩, .slice none 0 0, .slice none 0 0, .bool false] 55) = W2 at E2 BR ⊢
  clear hgx hgR hszR
  have E2 := hid E2
  have BR := hid BR
  have hb1 := hid hb1
  have le1 := hid le1
  have KP := hid (show Calls Tryd.prog 48 #[.agg cs.toArray, .string path] W2 fun e w' => e = .returned (.tuple #[.int .i64 no, .string name, .int .i64 code1]) ∧ Ext h1 W2 h1 w' ∧ name.size ≤ 9223372036854775807 from path_Parent s _ path hsz _ HPAR.out h1 W2 E2.out.sits (repState.mono le1.out RS.out))
  go_upto_region 2 with (first | (refine wpList_load_row rfl 31 _ rfl gx rfl 31 cs.toArray (0, 0) _ (E2.out.sits _ _ hb1.out) Tryd.underlying31 rfl (info_State RS.out.len) ?_) | (go_at_call 48; refine KP.out.mono ?_; rintro e w3 ⟨rfl, F3, hnz⟩; have E3 := hid (E2.out.trans F3); have BR3 := hid (BR.out.ext F3); clear F3))
  by_cases hc : code1 = 0
  · subst hc
    have HPP := hid (show p = atS s.inodes no name ∧ code = 0 by have q := HPA.out; rw [if_neg (by simp)] at q; exact ⟨(congrArg Prod.fst q).symm, (congrArg Prod.snd q).symm⟩)
    have HNZ := hid hnz
    clear hnz
    go_upto_region 5 with (fail)
    have BP4 := BoxU.new E3.out #[.int .i64 0, .int .i64 0, .int .i64 0, .int .i64 0, .string ⟨#[]⟩, .slice none 0 0, .slice none 0 0, .string name, .int .i64 0, .int .i64 0, .int .i64 0, .int .i64 0, .string ⟨#[]⟩, .slice none 0 0, .slice none 0 0, .bool false] 55
    have E4 := E3.out.alloc (.cells #[.int .i64 0, .int .i64 0, .int .i64 0, .int .i64 0, .string ⟨#[]⟩, .slice none 0 0, .slice none 0 0, .string name, .int .i64 0, .int .i64 0, .int .i64 0, .int .i64 0, .string ⟨#[]⟩, .slice none 0 0, .slice none 0 0, .bool false] 55)
    have BR4 := BR3.out.alloc (.cells #[.int .i64 0, .int .i64 0, .int .i64 0, .int .i64 0, .string ⟨#[]⟩, .slice none 0 0, .slice none 0 0, .string name, .int .i64 0, .int .i64 0, .int .i64 0, .int .i64 0, .string ⟨#[]⟩, .slice none 0 0, .slice none 0 0, .bool false] 55)
    have hne4 := hid (Nat.ne_of_lt BR3.out.lt)
    with_reducible generalize (w3.alloc (.cells #[.int .i64 0, .int .i64 0, .int .i64 0, .int .i64 0, .string ⟨#[]⟩, .slice none 0 0, .slice none 0 0, .string name, .int .i64 0, .int .i64 0, .int .i64 0, .int .i64 0, .string ⟨#[]⟩, .slice none 0 0, .slice none 0 0, .bool false] 55)) = W4 at BP4 E4 BR4 ⊢
    have BP4 := hid BP4
    have E4 := hid E4
    have BR4 := hid BR4
    generalize w3.heap.size = gp at *
    have BP4 := hid (show BoxU w h1 W4 gp (spotL zeroL name zeroL false).toArray 55 from BP4.out)
    clear BR3 E3
    obtain ⟨v1, hv1⟩ : ∃ v, findI s.inodes no = v := ⟨_, rfl⟩
    obtain ⟨d, hd⟩ : ∃ d, v1.getD zeroI = d := ⟨_, rfl⟩
    have HAT := hid (show p = (match findE d.entries name with | none => ⟨d, name, zeroI, false⟩ | some to_ => ⟨d, name, (findI s.inodes to_).getD zeroI, (findI s.inodes to_).isSome⟩) by rw [HPP.out.1]; unfold atS; rw [hv1, hd])
    have KF := hid (state_Find s _ no HFIT.out v1 hv1 h1 W4 E4.out.sits (repState.mono le1.out RS.out))
    have HD := hid hd
    clear hv1 hd
    go_upto_region 6 with (first | (refine wpList_load_row rfl 31 _ rfl gx rfl 31 cs.toArray (0, 0) _ (E4.out.sits _ _ hb1.out) Tryd.underlying31 rfl (info_State RS.out.len) ?_) | (go_at_call 22; refine KF.out.mono ?_; rintro e w5 ⟨dl, h5, rfl, r5, F5⟩; rw [HD.out] at r5; have E5 := hid (E4.out.trans F5); have BP5 := hid (BP4.out.ext F5); have BR5 := hid (BR4.out.ext F5); have le5 := hid F5.le; have r5 := hid r5; have hth5 : 0 + dl.toArray.size ≤ (spotL zeroL name zeroL false).toArray.size := (by rw [List.size_toArray, List.size_toArray, r5.out.len, spotL_len rfl rfl]; decide); clear F5) | (refine wpList_store_mid rfl 51 _ _ rfl gp 0 dl.toArray rfl rfl (BP5.out.there_ 0 _ hth5) (info_Inode r5.out.len) (one_arr r5.out.one) ?_))
    have BP6 := (BP5.out.part 0 dl (by rw [List.size_toArray, r5.out.len, spotL_len rfl rfl]; decide))
    rw [spotL_setDir rfl r5.out.len] at BP6
    have E6 := BP5.out.wr E5.out 0 dl
    have BR6 := BR5.out.other hne4.out 0 dl
    try rw [List.toList_toArray]
    with_reducible generalize w5.setCells gp 0 dl = W6 at BP6 E6 BR6 ⊢
    have BP6 := hid BP6
    have E6 := hid E6
    have BR6 := hid BR6
    clear BP5 BR5 E5 hth5
    obtain ⟨A5, c5, at5, k5, row5⟩ := r5.out.at5
    obtain ⟨v2, hv2⟩ : ∃ v, findE d.entries name = v := ⟨_, rfl⟩
    have KE := hid (entries_Find d.entries A5 c5 name HNZ.out v2 hv2 h5 W6 E6.out.sits row5)
    rw [hv2] at HAT
    have m5 := BP6.out.cell (spotL_dir (xl := zeroL) (name := name) (is := false) 5 _ at5)
    clear hv2 k5 row5 at5
    go_upto_region 7 with (go_at_call 38; refine KE.out.mono ?_; rintro e w7 ⟨rfl, F7⟩; have E7 := hid (E6.out.trans F7); have BP7 := hid (BP6.out.ext F7); have BR7 := hid (BR6.out.ext F7); clear F7 m5)
    cases v2 with
    | none =>
      dsimp only [Option.isSome_none, Option.getD_none] at *
      have RP7 := hid (show repSpot h5 (spotL dl name zeroL false) ⟨d, name, zeroI, false⟩ from ⟨dl, zeroL, rfl, r5.out, zeroL_rep _, HNZ.out⟩)
      have hinf := info_Spot (cs := spotL dl name zeroL false) RP7.out.len
      have hone := one_arr RP7.out.one
      have hsz16 : (#[.int .i64 0, .int .i64 0, .int .i64 0, .int .i64 0, .string ⟨#[]⟩, .slice none 0 0, .slice none 0 0, .string ⟨#[]⟩, .int .i64 0, .int .i64 0, .int .i64 0, .int .i64 0, .string ⟨#[]⟩, .slice none 0 0, .slice none 0 0, .bool false] : Array Value).size = (spotL dl name zeroL false).toArray.size := by refine Eq.trans (b := 16) rfl ?_; rw [List.size_toArray, RP7.out.len]
      go_wp2_with (first | (refine wpList_load_row rfl 55 _ rfl gp rfl 55 (spotL dl name zeroL false).toArray (0, 0) _ BP7.out.row Tryd.underlying55 rfl hinf ?_) | (refine wpList_store_row rfl 55 _ _ rfl gR (spotL dl name zeroL false).toArray rfl rfl 55 #[.int .i64 0, .int .i64 0, .int .i64 0, .int .i64 0, .string ⟨#[]⟩, .slice none 0 0, .slice none 0 0, .string ⟨#[]⟩, .int .i64 0, .int .i64 0, .int .i64 0, .int .i64 0, .string ⟨#[]⟩, .slice none 0 0, .slice none 0 0, .bool false] BR7.out.row hinf hsz16 hone ?_))
      have BRz := BR7.out.setRow (spotL dl name zeroL false).toArray
      have Ez := BR7.out.wrRow E7.out (spotL dl name zeroL false).toArray
      refine bodyPost_ret (v := .tuple #[.agg (spotL dl name zeroL false).toArray, .int .i64 0]) (results_cell_tmp (p := 4) (q := 5) (ty := 55) (by kernel_rfl) _ _ gR 55 (spotL dl name zeroL false).toArray (0, 0) _ _ (by simp) (by simp) BRz.row Tryd.underlying55 rfl hinf) rfl ?_
      rw [HAT.out, HPP.out.2]
      exact ⟨_, h5, rfl, RP7.out, Ez⟩
    | some to_ =>
      dsimp only [Option.isSome_some, Option.getD_some] at *
      obtain ⟨v3, hv3⟩ : ∃ v, findI s.inodes to_ = v := ⟨_, rfl⟩
      obtain ⟨x, hx⟩ : ∃ x, v3.getD zeroI = x := ⟨_, rfl⟩
      have HAX := hid (show p = ⟨d, name, x, v3.isSome⟩ by rw [HAT.out, hv3, hx])
      have KF3 := hid (state_Find s _ to_ HFIT.out v3 hv3 h5 w7 E7.out.sits (repState.mono (le1.out.trans le5.out) RS.out))
      have HX := hid hx
      clear hv3 hx
      go_upto_region 9 with (first | (refine wpList_load_row rfl 31 _ rfl gx rfl 31 cs.toArray (0, 0) _ (E7.out.sits _ _ (le5.out _ _ hb1.out)) Tryd.underlying31 rfl (info_State RS.out.len) ?_) | (go_at_call 22; refine KF3.out.mono ?_; rintro e w8 ⟨xl, h8, rfl, r8, F8⟩; rw [HX.out] at r8; have E8 := hid (E7.out.trans F8); have BP8 := hid (BP7.out.ext F8); have BR8 := hid (BR7.out.ext F8); have le8 := hid F8.le; have r8 := hid r8; have hth8 : 8 + xl.toArray.size ≤ (spotL dl name zeroL false).toArray.size := (by rw [List.size_toArray, List.size_toArray, r8.out.len, spotL_len r5.out.len rfl]; decide); have BP8a := BP8.out.part 8 xl (by rw [List.size_toArray, r8.out.len, spotL_len r5.out.len rfl]; decide); (rw [spotL_setX r5.out.len rfl r8.out.len] at BP8a); have m15 := BP8a.cell (spotL_is r5.out.len r8.out.len); have f15 := BP8a.open_ 15; have BP8a := hid BP8a; clear F8) | (refine wpList_store_mid rfl 51 _ _ rfl gp 8 xl.toArray rfl rfl (BP8.out.there_ 8 _ hth8) (info_Inode r8.out.len) (one_arr r8.out.one) ?_))
      have BP9 := hid (show BoxU w h8 _ gp (spotL dl name xl v3.isSome).toArray 55 from (spotL_setIs (name := name) (is := false) (b := v3.isSome) r5.out.len r8.out.len) ▸ (⟨box_set (i := 15) BP8a.out.row (.bool v3.isSome), BP8a.out.free, BP8a.out.base⟩ : BoxU w h8 _ gp _ 55))
      have E9 := hid ((BP8.out.wr E8.out 8 xl).setCell (p := ⟨gp, 15, none⟩) BP8.out.base BP8.out.free (.bool v3.isSome))
      have BR9 := hid ((BR8.out.other hne4.out 8 xl).other hne4.out 15 [.bool v3.isSome])
      have RP9 := hid (show repSpot h8 (spotL dl name xl v3.isSome) ⟨d, name, x, v3.isSome⟩ from ⟨dl, xl, rfl, r5.out.mono le8.out, r8.out, HNZ.out⟩)
      have e9 : (w8.setCells gp 8 xl).setCells gp 15 [.bool v3.isSome] = (w8.setCells gp 8 xl).setCell ⟨gp, 15, none⟩ (.bool v3.isSome) := rfl
      rw [e9] at BR9
      try rw [List.toList_toArray]
      with_reducible generalize (w8.setCells gp 8 xl).setCell ⟨gp, 15, none⟩ (.bool v3.isSome) = W9 at BP9 E9 BR9 ⊢
      clear BP8 BR8 E8 BP8a m15 f15 hth8 e9
      have hinf := info_Spot (cs := spotL dl name xl v3.isSome) RP9.out.len
      have hone := one_arr RP9.out.one
      have hsz16 : (#[.int .i64 0, .int .i64 0, .int .i64 0, .int .i64 0, .string ⟨#[]⟩, .slice none 0 0, .slice none 0 0, .string ⟨#[]⟩, .int .i64 0, .int .i64 0, .int .i64 0, .int .i64 0, .string ⟨#[]⟩, .slice none 0 0, .slice none 0 0, .bool false] : Array Value).size = (spotL dl name xl v3.isSome).toArray.size := by refine Eq.trans (b := 16) rfl ?_; rw [List.size_toArray, RP9.out.len]
      go_wp2_with (first | (refine wpList_load_row rfl 55 _ rfl gp rfl 55 (spotL dl name xl v3.isSome).toArray (0, 0) _ BP9.out.row Tryd.underlying55 rfl hinf ?_) | (refine wpList_store_row rfl 55 _ _ rfl gR (spotL dl name xl v3.isSome).toArray rfl rfl 55 #[.int .i64 0, .int .i64 0, .int .i64 0, .int .i64 0, .string ⟨#[]⟩, .slice none 0 0, .slice none 0 0, .string ⟨#[]⟩, .int .i64 0, .int .i64 0, .int .i64 0, .int .i64 0, .string ⟨#[]⟩, .slice none 0 0, .slice none 0 0, .bool false] BR9.out.row hinf hsz16 hone ?_))
      have BRz := BR9.out.setRow (spotL dl name xl v3.isSome).toArray
      have Ez := BR9.out.wrRow E9.out (spotL dl name xl v3.isSome).toArray
      refine bodyPost_ret (v := .tuple #[.agg (spotL dl name xl v3.isSome).toArray, .int .i64 0]) (results_cell_tmp (p := 4) (q := 5) (ty := 55) (by kernel_rfl) _ _ gR 55 (spotL dl name xl v3.isSome).toArray (0, 0) _ _ (by simp) (by simp) BRz.row Tryd.underlying55 rfl hinf) rfl ?_
      rw [HAX.out, HPP.out.2]
      exact ⟨_, h8, rfl, RP9.out, Ez⟩
  · have hb : (code1 == 0) = false := by simpa using hc
    have hb2 : (code1 != 0) = true := by simpa using hc
    have HPP := hid (show p = zeroSpot ∧ code = code1 by have q := HPA.out; rw [if_pos hc] at q; exact ⟨(congrArg Prod.fst q).symm, (congrArg Prod.snd q).symm⟩)
    clear hc
    have hinf := info_Spot (cs := spotL zeroL ⟨#[]⟩ zeroL false) (zeroSpot_rep h1).len
    have hone := one_arr (zeroSpot_rep h1).one
    go_wp2_with (refine wpList_store_row rfl 55 _ _ rfl gR (spotL zeroL ⟨#[]⟩ zeroL false).toArray rfl rfl 55 #[.int .i64 0, .int .i64 0, .int .i64 0, .int .i64 0, .string ⟨#[]⟩, .slice none 0 0, .slice none 0 0, .string ⟨#[]⟩, .int .i64 0, .int .i64 0, .int .i64 0, .int .i64 0, .string ⟨#[]⟩, .slice none 0 0, .slice none 0 0, .bool false] BR3.out.row hinf rfl hone ?_)
    have BRz := BR3.out.setRow (spotL zeroL ⟨#[]⟩ zeroL false).toArray
    have Ez := BR3.out.wrRow E3.out (spotL zeroL ⟨#[]⟩ zeroL false).toArray
    refine bodyPost_ret (v := .tuple #[.agg (spotL zeroL ⟨#[]⟩ zeroL false).toArray, .int .i64 code1]) (results_cell_tmp (p := 4) (q := 5) (ty := 55) (by kernel_rfl) _ _ gR 55 (spotL zeroL ⟨#[]⟩ zeroL false).toArray (0, 0) _ _ (by simp) (by simp) BRz.row Tryd.underlying55 rfl hinf) rfl ?_
    rw [HPP.out.1, HPP.out.2]
    exact ⟨_, h1, rfl, zeroSpot_rep _, Ez⟩
end Go.Proofs.YtdiaibkpcnknbaaDoor

namespace Go.Proofs.YtdiaibkpcnknbaaDoor
open Go.RowKit Go.Sort
set_option linter.unusedVariables false
theorem repSpot.dir {h : FH} {cs : List Value} {p : Spot} (r : repSpot h cs p) : ∃ dl : List Value, repInode h dl p.dir ∧ ∀ (j : Nat) (v : Value), dl[j]? = some v → cs.toArray[j]? = some v := by
  obtain ⟨dl, xl, rfl, r1, r2, r3⟩ := r
  exact ⟨dl, r1, spotL_dir⟩
theorem repSpot.xx {h : FH} {cs : List Value} {p : Spot} (r : repSpot h cs p) : ∃ xl : List Value, repInode h xl p.x ∧ ∀ (j : Nat) (v : Value), xl[j]? = some v → cs.toArray[8 + j]? = some v := by
  obtain ⟨dl, xl, rfl, r1, r2, r3⟩ := r
  exact ⟨xl, r2, spotL_x r1.len⟩
theorem repSpot.nm {h : FH} {cs : List Value} {p : Spot} (r : repSpot h cs p) : cs.toArray[7]? = some (.string p.name) ∧ p.name.size ≤ 9223372036854775807 := by
  obtain ⟨dl, xl, rfl, r1, r2, r3⟩ := r
  exact ⟨spotL_name r1.len, r3⟩
theorem repSpot.iss {h : FH} {cs : List Value} {p : Spot} (r : repSpot h cs p) : cs.toArray[15]? = some (.bool p.is) := by
  obtain ⟨dl, xl, rfl, r1, r2, r3⟩ := r
  exact spotL_is r1.len r2.len
theorem zs_size {h : FH} {cs : List Value} {p : Spot} (r : repSpot h cs p) : (#[.int .i64 0, .int .i64 0, .int .i64 0, .int .i64 0, .string ⟨#[]⟩, .slice none 0 0, .slice none 0 0, .string ⟨#[]⟩, .int .i64 0, .int .i64 0, .int .i64 0, .int .i64 0, .string ⟨#[]⟩, .slice none 0 0, .slice none 0 0, .bool false] : Array Value).size = cs.toArray.size := by refine Eq.trans (b := 16) rfl ?_; rw [List.size_toArray, r.len]
/-- put, without, letGo: their cells behind letters. -/
theorem putL_rep {h : FH} {cs : List Value} {x : Inode} (r : repInode h cs x) : repDeed h (.int .i64 2 :: .int .i64 0 :: cs) ⟨2, 0, x⟩ := by
  obtain ⟨A5, c5, A6, c6, rfl, s⟩ := r
  exact ⟨A5, c5, A6, c6, rfl, s⟩
theorem tree_putL {h : FH} {cs : List Value} {x : Inode} (r : repInode h cs x) (w : World) (hs : Sits h w) :
    Calls Tryd.prog 19 #[.agg cs.toArray] w fun e w' => e = .returned (.agg (Value.int .i64 2 :: Value.int .i64 0 :: cs).toArray) ∧ Ext h w h w' := by
  obtain ⟨A5, c5, A6, c6, rfl, s⟩ := r
  exact tree_put x A5 c5 A6 c6 h w hs
theorem tree_withoutL {h : FH} {cs : List Value} {d : Inode} (r : repInode h cs d) (hbig : d.entries.length ≤ 1000) (name : ByteArray) (hsz : name.size ≤ 9223372036854775807) (w : World) (hs : Sits h w) :
    Calls Tryd.prog 28 #[.agg cs.toArray, .string name] w fun e w' => ∃ cs' h1, e = .returned (.agg cs'.toArray) ∧ repInode h1 cs' (withoutP d name) ∧ Ext h w h1 w' := by
  have r' := r
  obtain ⟨A5, c5, A6, c6, rfl, s⟩ := r'
  refine (tree_without d A5 c5 A6 c6 hbig name hsz h w hs r).mono ?_
  rintro e w' ⟨B5, b5, B6, b6, h1, rfl, r1, E⟩
  exact ⟨_, h1, rfl, r1, E⟩
def thereS (xs : List Inode) (path : ByteArray) : Spot × Int := if (findS xs path).2 = 0 ∧ (findS xs path).1.is = false then ((findS xs path).1, 11) else findS xs path
def freshS (xs : List Inode) (path : ByteArray) : Spot × Int := if (findS xs path).2 ≠ 0 then findS xs path else if (findE (findS xs path).1.dir.entries (findS xs path).1.name).isSome = true then ((findS xs path).1, 12) else ((findS xs path).1, 0)

set_option maxHeartbeats 16000000 in
set_option maxRecDepth 100000 in
theorem tree_there (s : State) (cs : List Value) (path : ByteArray) (hsz : path.size ≤ 9223372036854775807) (hfit : ∀ x ∈ s.inodes, fitI x) (p' : Spot) (code' : Int) (hp' : thereS s.inodes path = (p', code')) (h : FH) (w : World) (hs : Sits h w) (rS : repState h cs s) :
    Calls Tryd.prog 23 #[.agg cs.toArray, .string path] w fun e w' => RetSpot h w p' code' e w' := by
  have RS := hid rS
  have HFIT := hid hfit
  clear rS hfit
  obtain ⟨h1, E1, hb1, le1, hh1⟩ := (Ext.refl hs).boxF cs.toArray 31
  have BR := BoxU.new E1 #[.int .i64 0, .int .i64 0, .int .i64 0, .int .i64 0, .string ⟨#[]⟩, .slice none 0 0, .slice none 0 0, .string ⟨#[]⟩, .int .i64 0, .int .i64 0, .int .i64 0, .int .i64 0, .string ⟨#[]⟩, .slice none 0 0, .slice none 0 0, .bool false] 55
  have E2 := E1.alloc (.cells #[.int .i64 0, .int .i64 0, .int .i64 0, .int .i64 0, .string ⟨#[]⟩, .slice none 0 0, .slice none 0 0, .string ⟨#[]⟩, .int .i64 0, .int .i64 0, .int .i64 0, .int .i64 0, .string ⟨#[]⟩, .slice none 0 0, .slice none 0 0, .bool false] 55)
  have hszR : (w.alloc (.cells cs.toArray 31)).heap.size = w.heap.size + 1 := by simp
  rw [hszR] at BR
  clear hh1 E1
  obtain ⟨⟨p, code⟩, hf⟩ : ∃ fs, findS s.inodes path = fs := ⟨_, rfl⟩
  have HP := hid hf
  rw [thereS, hf] at hp'
  have HT := hid hp'
  clear hf hp'
  go_enter Tryd.func23, Tryd.ntmps23
  go_upto_region 1 with (fail)
  obtain ⟨gx, hgx⟩ : ∃ gx, gx = w.heap.size := ⟨_, rfl⟩
  obtain ⟨gR, hgR⟩ : ∃ gR, gR = w.heap.size + 1 := ⟨_, rfl⟩
  rw [← hgx] at hb1
  rw [← hgR] at BR
  rw [← hgR, ← hgx]
  with_reducible generalize (w.alloc (.cells cs.toArray 31)).alloc (.cells #[.int .i64 0, .int .i64 0, .int .i64 0, .int .i64 0, .string ⟨#[]⟩, .slice none 0 0, .slice none 0 0, .string ⟨#[]⟩, .int .i64 0, .int .i64 0, .int .i64 0, .int .i64 0, .string ⟨#[]⟩, .slice none 0 0, .slice none 0 0, .bool false] 55) = W2 at E2 BR ⊢
  clear hgx hgR hszR
  have E2 := hid E2
  have BR := hid BR
  have hb1 := hid hb1
  have le1 := hid le1
  have KF := hid (tree_find s _ path hsz HFIT.out p code HP.out h1 W2 E2.out.sits (repState.mono le1.out RS.out))
  go_upto_region 2 with (first | (refine wpList_load_row rfl 31 _ rfl gx rfl 31 cs.toArray (0, 0) _ (E2.out.sits _ _ hb1.out) Tryd.underlying31 rfl (info_State RS.out.len) ?_) | (go_at_call 24; refine KF.out.mono ?_; rintro e w3 ⟨pl, h3, rfl, rp, F3⟩; have E3 := hid (E2.out.trans F3); have BR3 := hid (BR.out.ext F3); have rp := hid rp; clear F3) | (refine wpList_store_row rfl 55 _ _ rfl w3.heap.size pl.toArray rfl rfl 55 #[.int .i64 0, .int .i64 0, .int .i64 0, .int .i64 0, .string ⟨#[]⟩, .slice none 0 0, .slice none 0 0, .string ⟨#[]⟩, .int .i64 0, .int .i64 0, .int .i64 0, .int .i64 0, .string ⟨#[]⟩, .slice none 0 0, .slice none 0 0, .bool false] (heap_new w3 _) (info_Spot rp.out.len) (zs_size rp.out) (one_arr rp.out.one) ?_))
  rw [World.setRow_alloc_new]
  have BP4 := BoxU.new E3.out pl.toArray 55
  have E4 := E3.out.alloc (.cells pl.toArray 55)
  have BR4 := BR3.out.alloc (.cells pl.toArray 55)
  have hne4 := hid (Nat.ne_of_lt BR3.out.lt)
  with_reducible generalize (w3.alloc (.cells pl.toArray 55)) = W4 at BP4 E4 BR4 ⊢
  have BP4 := hid BP4
  have E4 := hid E4
  have BR4 := hid BR4
  generalize w3.heap.size = gp at *
  clear BR3 E3
  by_cases hc : code = 0
  · subst hc
    obtain ⟨b, hb⟩ : ∃ b, p.is = b := ⟨_, rfl⟩
    have m15 := BP4.out.cell (rp.out.iss)
    rw [hb] at m15
    have HB := hid hb
    clear hb
    cases b
    · have HQ := hid (show p' = p ∧ code' = 11 by have q := HT.out; rw [if_pos ⟨rfl, HB.out⟩] at q; exact ⟨(congrArg Prod.fst q).symm, (congrArg Prod.snd q).symm⟩)
      go_upto_region 4 with (fail)
      clear m15
      have hinf := info_Spot (cs := pl) rp.out.len
      have hone := one_arr rp.out.one
      have hsz16 := zs_size rp.out
      go_wp2_with (first | (refine wpList_load_row rfl 55 _ rfl gp rfl 55 pl.toArray (0, 0) _ BP4.out.row Tryd.underlying55 rfl hinf ?_) | (refine wpList_store_row rfl 55 _ _ rfl gR pl.toArray rfl rfl 55 #[.int .i64 0, .int .i64 0, .int .i64 0, .int .i64 0, .string ⟨#[]⟩, .slice none 0 0, .slice none 0 0, .string ⟨#[]⟩, .int .i64 0, .int .i64 0, .int .i64 0, .int .i64 0, .string ⟨#[]⟩, .slice none 0 0, .slice none 0 0, .bool false] BR4.out.row hinf hsz16 hone ?_))
      have BRz := BR4.out.setRow pl.toArray
      have Ez := BR4.out.wrRow E4.out pl.toArray
      refine bodyPost_ret (v := .tuple #[.agg pl.toArray, .int .i64 11]) (results_cell_tmp (p := 4) (q := 5) (ty := 55) (by kernel_rfl) _ _ gR 55 pl.toArray (0, 0) _ _ (by simp) (by simp) BRz.row Tryd.underlying55 rfl hinf) rfl ?_
      rw [HQ.out.1, HQ.out.2]
      exact ⟨pl, h3, rfl, rp.out, Ez⟩
    · have HQ := hid (show p' = p ∧ code' = 0 by have q := HT.out; rw [if_neg (by simp [HB.out])] at q; exact ⟨(congrArg Prod.fst q).symm, (congrArg Prod.snd q).symm⟩)
      go_upto_region 4 with (fail)
      clear m15
      have hinf := info_Spot (cs := pl) rp.out.len
      have hone := one_arr rp.out.one
      have hsz16 := zs_size rp.out
      go_wp2_with (first | (refine wpList_load_row rfl 55 _ rfl gp rfl 55 pl.toArray (0, 0) _ BP4.out.row Tryd.underlying55 rfl hinf ?_) | (refine wpList_store_row rfl 55 _ _ rfl gR pl.toArray rfl rfl 55 #[.int .i64 0, .int .i64 0, .int .i64 0, .int .i64 0, .string ⟨#[]⟩, .slice none 0 0, .slice none 0 0, .string ⟨#[]⟩, .int .i64 0, .int .i64 0, .int .i64 0, .int .i64 0, .string ⟨#[]⟩, .slice none 0 0, .slice none 0 0, .bool false] BR4.out.row hinf hsz16 hone ?_))
      have BRz := BR4.out.setRow pl.toArray
      have Ez := BR4.out.wrRow E4.out pl.toArray
      refine bodyPost_ret (v := .tuple #[.agg pl.toArray, .int .i64 0]) (results_cell_tmp (p := 4) (q := 5) (ty := 55) (by kernel_rfl) _ _ gR 55 pl.toArray (0, 0) _ _ (by simp) (by simp) BRz.row Tryd.underlying55 rfl hinf) rfl ?_
      rw [HQ.out.1, HQ.out.2]
      exact ⟨pl, h3, rfl, rp.out, Ez⟩
  · have hb : (code == 0) = false := by simpa using hc
    have HQ := hid (show p' = p ∧ code' = code by have q := HT.out; rw [if_neg (by intro q1; exact hc q1.1)] at q; exact ⟨(congrArg Prod.fst q).symm, (congrArg Prod.snd q).symm⟩)
    clear hc
    have hinf := info_Spot (cs := pl) rp.out.len
    have hone := one_arr rp.out.one
    have hsz16 := zs_size rp.out
    go_wp2_with (first | (refine wpList_load_row rfl 55 _ rfl gp rfl 55 pl.toArray (0, 0) _ BP4.out.row Tryd.underlying55 rfl hinf ?_) | (refine wpList_store_row rfl 55 _ _ rfl gR pl.toArray rfl rfl 55 #[.int .i64 0, .int .i64 0, .int .i64 0, .int .i64 0, .string ⟨#[]⟩, .slice none 0 0, .slice none 0 0, .string ⟨#[]⟩, .int .i64 0, .int .i64 0, .int .i64 0, .int .i64 0, .string ⟨#[]⟩, .slice none 0 0, .slice none 0 0, .bool false] BR4.out.row hinf hsz16 hone ?_))
    have BRz := BR4.out.setRow pl.toArray
    have Ez := BR4.out.wrRow E4.out pl.toArray
    refine bodyPost_ret (v := .tuple #[.agg pl.toArray, .int .i64 code]) (results_cell_tmp (p := 4) (q := 5) (ty := 55) (by kernel_rfl) _ _ gR 55 pl.toArray (0, 0) _ _ (by simp) (by simp) BRz.row Tryd.underlying55 rfl hinf) rfl ?_
    rw [HQ.out.1, HQ.out.2]
    exact ⟨pl, h3, rfl, rp.out, Ez⟩

set_option maxHeartbeats 16000000 in
set_option maxRecDepth 100000 in
theorem tree_fresh (s : State) (cs : List Value) (path : ByteArray) (hsz : path.size ≤ 9223372036854775807) (hfit : ∀ x ∈ s.inodes, fitI x) (p' : Spot) (code' : Int) (hp' : freshS s.inodes path = (p', code')) (h : FH) (w : World) (hs : Sits h w) (rS : repState h cs s) :
    Calls Tryd.prog 17 #[.agg cs.toArray, .string path] w fun e w' => RetSpot h w p' code' e w' := by
  have RS := hid rS
  have HFIT := hid hfit
  clear rS hfit
  obtain ⟨h1, E1, hb1, le1, hh1⟩ := (Ext.refl hs).boxF cs.toArray 31
  have BR := BoxU.new E1 #[.int .i64 0, .int .i64 0, .int .i64 0, .int .i64 0, .string ⟨#[]⟩, .slice none 0 0, .slice none 0 0, .string ⟨#[]⟩, .int .i64 0, .int .i64 0, .int .i64 0, .int .i64 0, .string ⟨#[]⟩, .slice none 0 0, .slice none 0 0, .bool false] 55
  have E2 := E1.alloc (.cells #[.int .i64 0, .int .i64 0, .int .i64 0, .int .i64 0, .string ⟨#[]⟩, .slice none 0 0, .slice none 0 0, .string ⟨#[]⟩, .int .i64 0, .int .i64 0, .int .i64 0, .int .i64 0, .string ⟨#[]⟩, .slice none 0 0, .slice none 0 0, .bool false] 55)
  have hszR : (w.alloc (.cells cs.toArray 31)).heap.size = w.heap.size + 1 := by simp
  rw [hszR] at BR
  clear hh1 E1
  obtain ⟨⟨p, code⟩, hf⟩ : ∃ fs, findS s.inodes path = fs := ⟨_, rfl⟩
  have HP := hid hf
  rw [freshS, hf] at hp'
  have HT := hid hp'
  clear hf hp'
  go_enter Tryd.func17, Tryd.ntmps17
  go_upto_region 1 with (fail)
  obtain ⟨gx, hgx⟩ : ∃ gx, gx = w.heap.size := ⟨_, rfl⟩
  obtain ⟨gR, hgR⟩ : ∃ gR, gR = w.heap.size + 1 := ⟨_, rfl⟩
  rw [← hgx] at hb1
  rw [← hgR] at BR
  rw [← hgR, ← hgx]
  with_reducible generalize (w.alloc (.cells cs.toArray 31)).alloc (.cells #[.int .i64 0, .int .i64 0, .int .i64 0, .int .i64 0, .string ⟨#[]⟩, .slice none 0 0, .slice none 0 0, .string ⟨#[]⟩, .int .i64 0, .int .i64 0, .int .i64 0, .int .i64 0, .string ⟨#[]⟩, .slice none 0 0, .slice none 0 0, .bool false] 55) = W2 at E2 BR ⊢
  clear hgx hgR hszR
  have E2 := hid E2
  have BR := hid BR
  have hb1 := hid hb1
  have le1 := hid le1
  have KF := hid (tree_find s _ path hsz HFIT.out p code HP.out h1 W2 E2.out.sits (repState.mono le1.out RS.out))
  go_upto_region 2 with (first | (refine wpList_load_row rfl 31 _ rfl gx rfl 31 cs.toArray (0, 0) _ (E2.out.sits _ _ hb1.out) Tryd.underlying31 rfl (info_State RS.out.len) ?_) | (go_at_call 24; refine KF.out.mono ?_; rintro e w3 ⟨pl, h3, rfl, rp, F3⟩; have E3 := hid (E2.out.trans F3); have BR3 := hid (BR.out.ext F3); have rp := hid rp; clear F3) | (refine wpList_store_row rfl 55 _ _ rfl w3.heap.size pl.toArray rfl rfl 55 #[.int .i64 0, .int .i64 0, .int .i64 0, .int .i64 0, .string ⟨#[]⟩, .slice none 0 0, .slice none 0 0, .string ⟨#[]⟩, .int .i64 0, .int .i64 0, .int .i64 0, .int .i64 0, .string ⟨#[]⟩, .slice none 0 0, .slice none 0 0, .bool false] (heap_new w3 _) (info_Spot rp.out.len) (zs_size rp.out) (one_arr rp.out.one) ?_))
  rw [World.setRow_alloc_new]
  have BP4 := BoxU.new E3.out pl.toArray 55
  have E4 := E3.out.alloc (.cells pl.toArray 55)
  have BR4 := BR3.out.alloc (.cells pl.toArray 55)
  have hne4 := hid (Nat.ne_of_lt BR3.out.lt)
  with_reducible generalize (w3.alloc (.cells pl.toArray 55)) = W4 at BP4 E4 BR4 ⊢
  have BP4 := hid BP4
  have E4 := hid E4
  have BR4 := hid BR4
  generalize w3.heap.size = gp at *
  clear BR3 E3
  by_cases hc : code = 0
  · subst hc
    obtain ⟨dl, rd, hd⟩ := rp.out.dir
    obtain ⟨A5, c5, at5, k5, row5⟩ := rd.at5
    obtain ⟨v, hv⟩ : ∃ v, findE p.dir.entries p.name = v := ⟨_, rfl⟩
    have KE := hid (entries_Find p.dir.entries A5 c5 p.name rp.out.nm.2 v hv h3 W4 E4.out.sits row5)
    have HT2 := hid (show p' = p ∧ code' = if v.isSome = true then 12 else 0 by have q := HT.out; rw [if_neg (by simp), hv] at q; split at q <;> simp_all)
    have m5 := BP4.out.cell (hd 5 _ at5)
    have m7 := BP4.out.cell (rp.out.nm.1)
    clear hv k5 row5 at5 rd hd
    go_upto_region 5 with (go_at_call 38; refine KE.out.mono ?_; rintro e w5 ⟨rfl, F5⟩; have E5 := hid (E4.out.trans F5); have BP5 := hid (BP4.out.ext F5); have BR5 := hid (BR4.out.ext F5); clear F5 m5 m7)
    cases v with
    | none =>
      dsimp only [Option.isSome_none, Option.getD_none] at *
      have HQ := hid (show p' = p ∧ code' = 0 from ⟨HT2.out.1, by rw [HT2.out.2, if_neg (by simp)]⟩)
      have hinf := info_Spot (cs := pl) rp.out.len
      have hone := one_arr rp.out.one
      have hsz16 := zs_size rp.out
      go_wp2_with (first | (refine wpList_load_row rfl 55 _ rfl gp rfl 55 pl.toArray (0, 0) _ BP5.out.row Tryd.underlying55 rfl hinf ?_) | (refine wpList_store_row rfl 55 _ _ rfl gR pl.toArray rfl rfl 55 #[.int .i64 0, .int .i64 0, .int .i64 0, .int .i64 0, .string ⟨#[]⟩, .slice none 0 0, .slice none 0 0, .string ⟨#[]⟩, .int .i64 0, .int .i64 0, .int .i64 0, .int .i64 0, .string ⟨#[]⟩, .slice none 0 0, .slice none 0 0, .bool false] BR5.out.row hinf hsz16 hone ?_))
      have BRz := BR5.out.setRow pl.toArray
      have Ez := BR5.out.wrRow E5.out pl.toArray
      refine bodyPost_ret (v := .tuple #[.agg pl.toArray, .int .i64 0]) (results_cell_tmp (p := 4) (q := 5) (ty := 55) (by kernel_rfl) _ _ gR 55 pl.toArray (0, 0) _ _ (by simp) (by simp) BRz.row Tryd.underlying55 rfl hinf) rfl ?_
      rw [HQ.out.1, HQ.out.2]
      exact ⟨pl, h3, rfl, rp.out, Ez⟩
    | some to_ =>
      dsimp only [Option.isSome_some, Option.getD_some] at *
      have HQ := hid (show p' = p ∧ code' = 12 from ⟨HT2.out.1, by rw [HT2.out.2, if_pos rfl]⟩)
      have hinf := info_Spot (cs := pl) rp.out.len
      have hone := one_arr rp.out.one
      have hsz16 := zs_size rp.out
      go_wp2_with (first | (refine wpList_load_row rfl 55 _ rfl gp rfl 55 pl.toArray (0, 0) _ BP5.out.row Tryd.underlying55 rfl hinf ?_) | (refine wpList_store_row rfl 55 _ _ rfl gR pl.toArray rfl rfl 55 #[.int .i64 0, .int .i64 0, .int .i64 0, .int .i64 0, .string ⟨#[]⟩, .slice none 0 0, .slice none 0 0, .string ⟨#[]⟩, .int .i64 0, .int .i64 0, .int .i64 0, .int .i64 0, .string ⟨#[]⟩, .slice none 0 0, .slice none 0 0, .bool false] BR5.out.row hinf hsz16 hone ?_))
      have BRz := BR5.out.setRow pl.toArray
      have Ez := BR5.out.wrRow E5.out pl.toArray
      refine bodyPost_ret (v := .tuple #[.agg pl.toArray, .int .i64 12]) (results_cell_tmp (p := 4) (q := 5) (ty := 55) (by kernel_rfl) _ _ gR 55 pl.toArray (0, 0) _ _ (by simp) (by simp) BRz.row Tryd.underlying55 rfl hinf) rfl ?_
      rw [HQ.out.1, HQ.out.2]
      exact ⟨pl, h3, rfl, rp.out, Ez⟩
  · have hb : (code == 0) = false := by simpa using hc
    have hb2 : (code != 0) = true := by simpa using hc
    have HQ := hid (show p' = p ∧ code' = code by have q := HT.out; rw [if_pos hc] at q; exact ⟨(congrArg Prod.fst q).symm, (congrArg Prod.snd q).symm⟩)
    clear hc
    have hinf := info_Spot (cs := pl) rp.out.len
    have hone := one_arr rp.out.one
    have hsz16 := zs_size rp.out
    go_wp2_with (first | (refine wpList_load_row rfl 55 _ rfl gp rfl 55 pl.toArray (0, 0) _ BP4.out.row Tryd.underlying55 rfl hinf ?_) | (refine wpList_store_row rfl 55 _ _ rfl gR pl.toArray rfl rfl 55 #[.int .i64 0, .int .i64 0, .int .i64 0, .int .i64 0, .string ⟨#[]⟩, .slice none 0 0, .slice none 0 0, .string ⟨#[]⟩, .int .i64 0, .int .i64 0, .int .i64 0, .int .i64 0, .string ⟨#[]⟩, .slice none 0 0, .slice none 0 0, .bool false] BR4.out.row hinf hsz16 hone ?_))
    have BRz := BR4.out.setRow pl.toArray
    have Ez := BR4.out.wrRow E4.out pl.toArray
    refine bodyPost_ret (v := .tuple #[.agg pl.toArray, .int .i64 code]) (results_cell_tmp (p := 4) (q := 5) (ty := 55) (by kernel_rfl) _ _ gR 55 pl.toArray (0, 0) _ _ (by simp) (by simp) BRz.row Tryd.underlying55 rfl hinf) rfl ?_
    rw [HQ.out.1, HQ.out.2]
    exact ⟨pl, h3, rfl, rp.out, Ez⟩
end Go.Proofs.YtdiaibkpcnknbaaDoor

namespace Go.Proofs.YtdiaibkpcnknbaaDoor
open Go.RowKit Go.Sort
set_option linter.unusedVariables false
theorem BoxU.set1 {w0 : World} {h : FH} {w : World} {g : Nat} {cs : List Value} {T : TypeId} (b : BoxU w0 h w g cs.toArray T) (i : Nat) (v : Value) : BoxU w0 h (w.setCell ⟨g, i, none⟩ v) g (cs.set i v).toArray T :=
  ⟨by have q := box_set (i := i) b.row v; rwa [List.setIfInBounds_toArray] at q, b.free, b.base⟩
theorem BoxU.wr1 {w0 : World} {h h1 : FH} {w : World} {g : Nat} {cs : Array Value} {T : TypeId} (b : BoxU w0 h1 w g cs T) (E : Ext h w0 h1 w) (i : Nat) (v : Value) : Ext h w0 h1 (w.setCell ⟨g, i, none⟩ v) := E.setCell (p := ⟨g, i, none⟩) b.base b.free v
theorem BoxU.other1 {w0 : World} {h : FH} {w : World} {g k : Nat} {cs : Array Value} {T : TypeId} (b : BoxU w0 h w g cs T) (hne : g ≠ k) (i : Nat) (v : Value) : BoxU w0 h (w.setCell ⟨k, i, none⟩ v) g cs T := ⟨box_other b.row hne v, b.free, b.base⟩
theorem list_set_same {α : Type} {l : List α} {i : Nat} {v : α} (h : l[i]? = some v) : l.set i v = l := by
  apply List.ext_getElem?
  intro j
  rw [List.getElem?_set]
  by_cases e : i = j
  · subst e; rw [if_pos rfl, h, if_pos (List.getElem?_eq_some_iff.1 h).1]
  · rw [if_neg e]
theorem repSpot.setEnt {h : FH} {cs : List Value} {p : Spot} (r : repSpot h cs p) {A : Option Addr} {c : Nat} {l : List Entry} (k : CapLe A l.length c) (ra : RowAt h A l) : repSpot h (cs.set 5 (.slice A l.length c)) ⟨{ p.dir with entries := l }, p.name, p.x, p.is⟩ := by
  obtain ⟨dl, xl, rfl, r1, r2, r3⟩ := r
  refine ⟨dl.set 5 (.slice A l.length c), xl, ?_, r1.setEnt k ra, r2, r3⟩
  unfold spotL
  rw [List.set_append, if_pos (by rw [r1.len]; decide)]
theorem repSpot.setLinks {h : FH} {cs : List Value} {p : Spot} (r : repSpot h cs p) (n : Int) : repSpot h (cs.set 2 (.int .i64 n)) ⟨{ p.dir with links := n }, p.name, p.x, p.is⟩ := by
  obtain ⟨dl, xl, rfl, r1, r2, r3⟩ := r
  refine ⟨dl.set 2 (.int .i64 n), xl, ?_, r1.setLinks n, r2, r3⟩
  unfold spotL
  rw [List.set_append, if_pos (by rw [r1.len]; decide)]
theorem atS_dir (xs : List Inode) (no : Int) (name : ByteArray) : (atS xs no name).dir = (findI xs no).getD zeroI ∧ (atS xs no name).name = name := by
  unfold atS; split <;> exact ⟨rfl, rfl⟩
theorem freshS_of {xs : List Inode} {path : ByteArray} {no : Int} {name : ByteArray} {c : Int} (hp : parentP xs path = (no, name, c)) : freshS xs path = if c ≠ 0 then (zeroSpot, c) else if (findE ((findI xs no).getD zeroI).entries name).isSome = true then (atS xs no name, 12) else (atS xs no name, 0) := by
  unfold freshS findS
  rw [hp]
  by_cases hc : c = 0
  · subst hc
    simp only [ne_eq, not_true_eq_false, if_false]
    rw [(atS_dir xs no name).1, (atS_dir xs no name).2]
  · simp only [ne_eq, hc, not_false_eq_true, if_true]

set_option maxHeartbeats 16000000 in
set_option maxRecDepth 100000 in
theorem tree_Make (s : State) (cs : List Value) (path : ByteArray) (hsz : path.size ≤ 9223372036854775807) (kind : Int) (target : ByteArray) (htz : target.size ≤ 9223372036854775807) (hn0 : 0 ≤ s.next) (hn1 : s.next ≤ 1000000) (hent : ∀ x ∈ s.inodes, midI x) (hfit : ∀ x ∈ s.inodes, fitI x) (h : FH) (w : World) (hs : Sits h w) (rS : repState h cs s) :
    Calls Tryd.prog 8 #[.agg cs.toArray, .string path, .int .i64 kind, .string target] w fun e w' => RetMake h w (makeP s path kind target) e w' := by
  have HENT := hid hent
  clear hent
  have RS := hid rS
  have HFIT := hid hfit
  clear rS hfit
  obtain ⟨h1, E1, hb1, le1, hh1⟩ := (Ext.refl hs).boxF cs.toArray 31
  clear hh1
  go_enter Tryd.func8, Tryd.ntmps8
  go_upto_region 1 with (fail)
  generalize hgx : w.heap.size = gx at *
  with_reducible generalize w.alloc (.cells cs.toArray 31) = W2 at E1 ⊢
  clear hgx
  have E2 := hid E1
  have hb1 := hid hb1
  have le1 := hid le1
  clear E1
  by_cases hk1 : kind < 1 ∨ 3 < kind
  · have HQ := hid (show makeP s path kind target = ([], 0, 1) by unfold makeP; rw [if_pos hk1])
    have b1 : (kind == 1) = false := by simp; omega
    have b2 : (kind == 2) = false := by simp; omega
    have b3 : (kind == 3) = false := by simp; omega
    have n1 : (kind != 1) = true := by simp; omega
    have n2 : (kind != 2) = true := by simp; omega
    have n3 : (kind != 3) = true := by simp; omega
    clear hk1
    go_wp2_with fail
    go_ret3
    exact (by rw [HQ.out]; exact ⟨none, 0, h, rfl, ⟨Nat.zero_le _, fun _ => rfl, by decide⟩, RowAt.nil _ _, E2.out.back⟩)
  · have HK1 := hid hk1
    have hk123 : kind = 1 ∨ kind = 2 ∨ kind = 3 := by omega
    clear hk1
    go_cut [13] (fun s13 wx => s13 = .bool false ∧ wx = W2)
    case first =>
      rcases hk123 with rfl | rfl | rfl
      all_goals
        go_wp2_with fail
        go_meet
        exact ⟨rfl, rfl⟩
    case rest =>
      obtain ⟨rfl, rfl⟩ := hcut
      obtain ⟨q, hq⟩ : ∃ q, decide (targetB target = true ∧ partsCode target = 0) = q := ⟨_, rfl⟩
      have HQR := hid hq
      have KT := hid (tree_right target htz q hq h1 wc E2.out.sits)
      obtain ⟨b0, hb0⟩ : ∃ b0, decide (kind = 3 ∧ q = false) = b0 := ⟨_, rfl⟩
      have HB0 := hid hb0
      clear hq hb0 hk123
      go_upto_region 3 with (fail)
      go_cut [24] (fun s24 wx => s24 = .bool b0 ∧ Hid (Ext h w h1 wx))
      case first =>
        by_cases hk3 : kind = 3
        · subst hk3
          cases q
          · have HB1 := hid (show true = b0 by rw [← HB0.out]; simp)
            go_wp2_with (go_at_call 16; refine KT.out.mono ?_; rintro e w3 ⟨rfl, F3⟩; have E3 := hid (E2.out.trans F3); clear F3)
            go_meet
            exact ⟨by rw [← HB1.out], E3⟩
          · have HB1 := hid (show false = b0 by rw [← HB0.out]; simp)
            go_wp2_with (go_at_call 16; refine KT.out.mono ?_; rintro e w3 ⟨rfl, F3⟩; have E3 := hid (E2.out.trans F3); clear F3)
            go_meet
            exact ⟨by rw [← HB1.out], E3⟩
        · have bk : (kind == 3) = false := by simpa using hk3
          have HB1 := hid (show false = b0 by rw [← HB0.out]; simp [hk3])
          clear hk3
          go_wp2_with fail
          go_meet
          exact ⟨by rw [← HB1.out], E2⟩
      case rest =>
      obtain ⟨rfl, E3⟩ := hcut
      clear E2 KT
      cases b0
      · have HK2 := hid (show ¬ (kind = 3 ∧ (targetB target = false ∨ partsCode target ≠ 0)) by
          rintro ⟨q1, q2⟩
          refine of_decide_eq_false HB0.out ⟨q1, ?_⟩
          rw [← HQR.out]
          refine decide_eq_false ?_
          rintro ⟨q3, q4⟩
          rcases q2 with q2 | q2
          · rw [q3] at q2; cases q2
          · exact q2 q4)
        obtain ⟨⟨no, name, code⟩, hpar⟩ : ∃ r, parentP s.inodes path = r := ⟨_, rfl⟩
        have HPAR := hid hpar
        obtain ⟨⟨p, fc⟩, hf⟩ : ∃ r, freshS s.inodes path = r := ⟨_, rfl⟩
        have HFS := hid ((freshS_of hpar).symm.trans hf)
        have KR := hid (tree_fresh s _ path hsz HFIT.out p fc hf h1 wc E3.out.sits (repState.mono le1.out RS.out))
        clear hpar hf
        go_upto_region 6 with (first | (refine wpList_load_row rfl 31 _ rfl gx rfl 31 cs.toArray (0, 0) _ (E3.out.sits _ _ hb1.out) Tryd.underlying31 rfl (info_State RS.out.len) ?_) | (go_at_call 17; refine KR.out.mono ?_; rintro e w5 ⟨pl, h5, rfl, rp, F5⟩; have E5 := hid (E3.out.trans F5); have l5 := hid F5.le; have rp := hid rp; clear F5) | (refine wpList_store_row rfl 55 _ _ rfl w5.heap.size pl.toArray rfl rfl 55 #[.int .i64 0, .int .i64 0, .int .i64 0, .int .i64 0, .string ⟨#[]⟩, .slice none 0 0, .slice none 0 0, .string ⟨#[]⟩, .int .i64 0, .int .i64 0, .int .i64 0, .int .i64 0, .string ⟨#[]⟩, .slice none 0 0, .slice none 0 0, .bool false] (heap_new w5 _) (info_Spot rp.out.len) (zs_size rp.out) (one_arr rp.out.one) ?_))
        rw [World.setRow_alloc_new]
        have BP6 := BoxU.new E5.out pl.toArray 55
        have E6 := E5.out.alloc (.cells pl.toArray 55)
        with_reducible generalize (w5.alloc (.cells pl.toArray 55)) = W6 at BP6 E6 ⊢
        have BP6 := hid BP6
        have E6 := hid E6
        generalize w5.heap.size = gp at *
        clear E5
        by_cases hcode : fc = 0
        · subst hcode
          obtain ⟨v, hv⟩ : ∃ v, findI s.inodes no = v := ⟨_, rfl⟩
          obtain ⟨d, hd⟩ : ∃ d, v.getD zeroI = d := ⟨_, rfl⟩
          have hall0 : code = 0 ∧ (findE d.entries name).isSome = false ∧ p = atS s.inodes no name := by
            have q := HFS.out
            by_cases hc : code = 0
            · subst hc
              rw [if_neg (by simp), hv, hd] at q
              cases hz : (findE d.entries name).isSome with
              | true => rw [hz, if_pos rfl] at q; cases q
              | false => rw [hz, if_neg (by simp)] at q; exact ⟨rfl, rfl, (congrArg Prod.fst q).symm⟩
            · rw [if_pos hc] at q; exact absurd (congrArg Prod.snd q) hc
          have HND := hid hall0.2.1
          have HPD := hid (show p.dir = d ∧ p.name = name by rw [hall0.2.2, (atS_dir _ _ _).1, (atS_dir _ _ _).2, hv, hd]; exact ⟨rfl, rfl⟩)
          have HML := hid (makeP_late (target := target) (d := d) HK1.out HK2.out (by rw [HPAR.out, hall0.1]) (by rw [hv]; exact hd))
          have hmid : midI d := by
            rw [← hd]
            cases v with
            | none => exact midI_zero
            | some x => exact HENT.out x (mem_of_findI hv)
          have HEL := hid hmid.1
          have HLB := hid hmid.2.1
          have HMM := hid (HML.out.trans (by rw [HND.out, if_neg (by simp)]))
          clear hv hd hmid hall0
          obtain ⟨A1, c1, q1, -⟩ := RS.out.at1
          have q1 : W6.cell? ⟨gx, 1, none⟩ = some (.slice A1 s.inodes.length c1) := Sits_at E6.out.sits (l5.out _ _ hb1.out) (by rw [List.getElem?_toArray]; exact q1)
          by_cases h200 : 200 ≤ s.inodes.length
          · have HQ := hid (show makeP s path kind target = ([], 0, 10) by rw [HMM.out, if_pos h200])
            have h201 : (200 : Int) ≤ (s.inodes.length : Int) := by omega
            clear h200
            go_wp2_with fail
            go_ret3
            exact (by rw [HQ.out]; exact ⟨none, 0, h, rfl, ⟨Nat.zero_le _, fun _ => rfl, by decide⟩, RowAt.nil _ _, E6.out.back⟩)
          · have HMN := hid (HMM.out.trans (by rw [if_neg h200]))
            have h201 : ¬ ((200 : Int) ≤ (s.inodes.length : Int)) := by omega
            clear h200
            obtain ⟨dl, rd, hdl⟩ := rp.out.dir
            rw [HPD.out.1] at rd
            have m2 := BP6.out.cell (hdl 2 _ rd.at2)
            obtain ⟨b9, hb9⟩ : ∃ b9, decide (kind = 2 ∧ 100 ≤ d.links) = b9 := ⟨_, rfl⟩
            have HB9 := hid hb9
            clear hb9
            go_upto_region 10 with (fail)
            go_cut [47] (fun s47 wx => s47 = .bool b9 ∧ wx = W6)
            case first =>
              by_cases hk2 : kind = 2
              · subst hk2
                by_cases hdl : 100 ≤ d.links
                · have HB1 := hid (show true = b9 by rw [← HB9.out]; simp [hdl])
                  go_wp2_with fail
                  go_meet
                  exact ⟨by rw [← HB1.out], rfl⟩
                · have HB1 := hid (show false = b9 by rw [← HB9.out]; simp [hdl])
                  go_wp2_with fail
                  go_meet
                  exact ⟨by rw [← HB1.out], rfl⟩
              · have bk : (kind == 2) = false := by simpa using hk2
                have HB1 := hid (show false = b9 by rw [← HB9.out]; simp [hk2])
                clear hk2
                go_wp2_with fail
                go_meet
                exact ⟨by rw [← HB1.out], rfl⟩
            case rest =>
            obtain ⟨rfl, rfl⟩ := hcut
            clear m2 q1
            cases b9
            · have HNB := hid (of_decide_eq_false HB9.out)
              have HMO := hid (HMN.out.trans (by rw [if_neg HNB.out]))
              obtain ⟨A5, c5, at5, k5, row5⟩ := rd.at5
              have hnz := rp.out.nm.2
              rw [HPD.out.2] at hnz
              obtain ⟨ac, hac⟩ : ∃ ac, addC d.entries ⟨name, s.next⟩ = ac := ⟨_, rfl⟩
              obtain ⟨al, hal⟩ : ∃ al, addL d.entries ⟨name, s.next⟩ = al := ⟨_, rfl⟩
              have KA := entries_Add d.entries A5 c5 HEL.out ⟨name, s.next⟩ hnz h5 wc E6.out.sits row5
              rw [hac, hal] at KA
              have KA := hid KA
              have HAC := hid hac
              have HAL := hid hal
              have hall : al.length ≤ 1001 := by
                rw [← hal]; unfold addL; split
                · unfold insE; have := HEL.out; simp; omega
                · simp
              have q0 : wc.cell? ⟨gx, 0, none⟩ = some (.int .i64 s.next) := Sits_at E6.out.sits (l5.out _ _ hb1.out) (by rw [List.getElem?_toArray]; exact RS.out.at0)
              have m5 := BP6.out.cell (hdl 5 _ at5)
              have m7 := BP6.out.cell (rp.out.nm.1)
              rw [HPD.out.2] at m7
              clear hac hal hnz k5 row5
              go_upto_region 13 with (go_at_call 18; refine KA.out.mono ?_; rintro e w9 R; obtain ⟨A9, c9, h9, rfl, r9, F9, u0, u1, u2⟩ := R.stayX (by omega); have E9 := hid (E6.out.trans F9); have BP9 := hid (BP6.out.ext F9); have l9 := hid F9.le; have k9 := hid (show CapLe A9 al.length c9 from ⟨u1, u0, u2⟩); have r9 := hid r9; clear F9 u0 u1 u2 R q0 m5 m7; have m5 := BP9.out.cell (hdl 5 _ at5); have f5 := BP9.out.open_ 5)
              have BP10 := hid (BP9.out.set1 5 (.slice A9 al.length c9))
              have E10 := hid (BP9.out.wr1 E9.out 5 (.slice A9 al.length c9))
              have RP10 := hid ((rp.out.mono l9.out).setEnt k9.out r9.out)
              with_reducible generalize w9.setCell ⟨gp, 5, none⟩ (.slice A9 al.length c9) = w10 at BP10 E10 ⊢
              clear m5 f5 at5 BP9 E9
              by_cases hac : ac = 0
              · subst hac
                have HMP := hid (show makeP s path kind target = ([⟨1, s.next + 1, zeroI⟩, putD (makeD d name s.next kind), putD (newI s.next kind target)], s.next, 0) by rw [HMO.out, if_neg (by rw [HAC.out]; simp)])
                obtain ⟨lk, hlk⟩ : ∃ lk, (if kind = 2 then d.links + 1 else d.links) = lk := ⟨_, rfl⟩
                have HLK := hid hlk
                clear hlk
                have m2c := (show (pl.set 5 (.slice A9 al.length c9)).toArray[2]? = some (.int .i64 d.links) by have q := hdl 2 _ rd.at2; simpa using q)
                go_upto_if 74 with (fail)
                go_cut [0] (fun s0 wx => Hid (BoxU w h9 wx gp ((pl.set 5 (.slice A9 al.length c9)).set 2 (.int .i64 lk)).toArray 55) ∧ Hid (Ext h w h9 wx))
                case first =>
                  by_cases hk2 : kind = 2
                  · subst hk2
                    have hl100 : d.links < 100 := by have q := HNB.out; omega
                    have hlb := HLB.out
                    have m2 := BP10.out.cell m2c
                    have f2 := BP10.out.open_ 2
                    have HL := hid (show d.links + 1 = lk by rw [← HLK.out, if_pos rfl])
                    clear m2c
                    go_wp2_with fail
                    go_meet
                    exact ⟨hid (by rw [← HL.out]; exact BP10.out.set1 2 _), hid (BP10.out.wr1 E10.out 2 _)⟩
                  · have bk : (kind == 2) = false := by simpa using hk2
                    have HL := hid (show d.links = lk by rw [← HLK.out, if_neg hk2])
                    clear hk2
                    have hsame := hid (show (pl.set 5 (.slice A9 al.length c9)).set 2 (.int .i64 lk) = pl.set 5 (.slice A9 al.length c9) from list_set_same (by rw [← HL.out]; simpa using m2c))
                    clear m2c
                    go_wp2_with fail
                    go_meet
                    exact ⟨hid (by rw [hsame.out]; exact BP10.out), E10⟩
                case rest =>
                      obtain ⟨BP11, E11⟩ := hcut
                      obtain ⟨h12, E12, hb12, l12, -⟩ := BP11.out.freeze E11.out
                      obtain ⟨dm, rdm, hdm⟩ := ((RP10.out.setLinks lk).mono l12).dir
                      have hpdm : ({ { p.dir with entries := al } with links := lk } : Inode) = ⟨d.no, d.kind, lk, d.size, d.target, al, d.runs⟩ := by rw [HPD.out.1]
                      have rdm : repInode h12 dm ⟨d.no, d.kind, lk, d.size, d.target, al, d.runs⟩ := by rw [← hpdm]; exact rdm
                      obtain ⟨A9', c9', A6, c6, rfl, sz5, k9', r9', k6, row6⟩ := rdm
                      have e5 : (Value.slice A9' al.length c9') = .slice A9 al.length c9 := by
                        have q := hdm 5 _ rfl
                        have q2 : ((pl.set 5 (.slice A9 al.length c9)).set 2 (.int .i64 lk)).toArray[5]? = some (.slice A9 al.length c9) := by
                          have hl := rp.out.len
                          simp [hl]
                        rw [q2] at q; exact (Option.some.inj q).symm
                      injection e5 with ea eb ec
                      subst ea; subst ec
                      have hd12 : ∀ j v, ([.int .i64 d.no, .int .i64 d.kind, .int .i64 lk, .int .i64 d.size, .string d.target, .slice A9' al.length c9', .slice A6 d.runs.length c6] : List Value)[j]? = some v → ((pl.set 5 (.slice A9' al.length c9')).set 2 (.int .i64 lk)).toArray[j]? = some v := hdm
                      have lS12 := hid (l12 _ _ (l9.out _ _ (l5.out _ _ hb1.out)))
                      have hMD := hid (show makeD d name s.next kind = ⟨d.no, d.kind, lk, d.size, d.target, al, d.runs⟩ by unfold makeD; rw [HAL.out, HLK.out])
                      have HL12 := hid l12
                      clear l12 hpdm m2c hdm
                      have hc0 : ∀ w' : World, Ext h w h12 w' → w'.cell? ⟨gp, 0, none⟩ = some (.int .i64 d.no) := fun w' E => Sits_at E.sits hb12 (hd12 0 _ rfl)
                      have hc1 : ∀ w' : World, Ext h w h12 w' → w'.cell? ⟨gp, 1, none⟩ = some (.int .i64 d.kind) := fun w' E => Sits_at E.sits hb12 (hd12 1 _ rfl)
                      have hc2 : ∀ w' : World, Ext h w h12 w' → w'.cell? ⟨gp, 2, none⟩ = some (.int .i64 lk) := fun w' E => Sits_at E.sits hb12 (hd12 2 _ rfl)
                      have hc3 : ∀ w' : World, Ext h w h12 w' → w'.cell? ⟨gp, 3, none⟩ = some (.int .i64 d.size) := fun w' E => Sits_at E.sits hb12 (hd12 3 _ rfl)
                      have hc4 : ∀ w' : World, Ext h w h12 w' → w'.cell? ⟨gp, 4, none⟩ = some (.string d.target) := fun w' E => Sits_at E.sits hb12 (hd12 4 _ rfl)
                      have hc5 : ∀ w' : World, Ext h w h12 w' → w'.cell? ⟨gp, 5, none⟩ = some (.slice A9' al.length c9') := fun w' E => Sits_at E.sits hb12 (hd12 5 _ rfl)
                      have hc6 : ∀ w' : World, Ext h w h12 w' → w'.cell? ⟨gp, 6, none⟩ = some (.slice A6 d.runs.length c6) := fun w' E => Sits_at E.sits hb12 (hd12 6 _ rfl)
                      have hq0 : ∀ w' : World, Ext h w h12 w' → w'.cell? ⟨gx, 0, none⟩ = some (.int .i64 s.next) := fun w' E => Sits_at E.sits lS12.out (by rw [List.getElem?_toArray]; exact RS.out.at0)
                      have KN := hid (fun (w' : World) (hs' : Sits h12 w') => inode_New s.next kind target htz h12 w' hs')
                      have KPa := hid (fun (w' : World) (hs' : Sits h12 w') => tree_put ⟨d.no, d.kind, lk, d.size, d.target, al, d.runs⟩ A9' c9' A6 c6 h12 w' hs')
                      have KPb := hid (fun (w' : World) (hs' : Sits h12 w') => (tree_put (newI s.next kind target) none 0 none 0 h12 w' hs' : Calls Tryd.prog 19 #[newV s.next kind target] w' fun e w2 => e = .returned (.agg #[.int .i64 2, .int .i64 0, .int .i64 s.next, .int .i64 kind, .int .i64 (newI s.next kind target).links, .int .i64 (newI s.next kind target).size, .string (newI s.next kind target).target, .slice none 0 0, .slice none 0 0]) ∧ Ext h12 w' h12 w2))
                      have E13 := E12.drew
                      have hwr : IntKind.i64.wrap (s.next + 1) = s.next + 1 := by rw [IntKind.wrap_i64]; omega
                      have HSZ := hid sz5
                      have HK9 := hid k9'
                      have HR9 := hid r9'
                      have HK6 := hid k6
                      have HR6 := hid row6
                      clear hd12 BP11 E11 BP10 E10 sz5 k9' r9' k6 row6
                      go_upto_region 17 with (fail)
                      go_region_held3 (fun w' => Ext h w h12 w') (first | with_reducible assumption | with_reducible exact Eg | with_reducible exact Ext.alloc Eg _) (first | (go_at_call 19; with_reducible refine (KPa.out _ (Ext.sits (h := h) (h' := h12) (w := w) (by with_reducible assumption))).mono ?_; rintro e wf ⟨rfl, Ef⟩; have Eg := Ext.trans (h := h) (w := w) (h1 := h12) (by with_reducible assumption) Ef; clear Ef) | (go_at_call 19; refine (KPb.out _ (Ext.sits (h := h) (h' := h12) (w := w) (by with_reducible assumption))).mono ?_; rintro e wf ⟨rfl, Ef⟩; have Eg := Ext.trans (h := h) (w := w) (h1 := h12) (by with_reducible assumption) Ef; clear Ef) | (go_at_call 20; with_reducible refine (KN.out _ (Ext.sits (h := h) (h' := h12) (w := w) (by with_reducible assumption))).mono ?_; rintro e wf ⟨rfl, Ef⟩; have Eg := Ext.trans (h := h) (w := w) (h1 := h12) (by with_reducible assumption) Ef; clear Ef))
                      all_goals
                        go_wp2_with fail
                        obtain ⟨h14, E14, hb14, le14, hh14⟩ := Eg.boxF #[.int .i64 1, .int .i64 (s.next + 1), .int .i64 0, .int .i64 0, .int .i64 0, .int .i64 0, .string ⟨#[]⟩, .slice none 0 0, .slice none 0 0, .int .i64 2, .int .i64 0, .int .i64 d.no, .int .i64 d.kind, .int .i64 lk, .int .i64 d.size, .string d.target, .slice A9' al.length c9', .slice A6 d.runs.length c6, .int .i64 2, .int .i64 0, .int .i64 s.next, .int .i64 kind, .int .i64 (newI s.next kind target).links, .int .i64 (newI s.next kind target).size, .string (newI s.next kind target).target, .slice none 0 0, .slice none 0 0] 63
                        go_ret3
                        rw [HMP.out, hMD.out]
                        exact ⟨some ⟨wf.heap.size, 0, none⟩, 3, h14, rfl, ⟨Nat.le_refl _, (fun e => by cases e), by decide⟩, RowAt.of_block hb14 ⟨[.int .i64 1, .int .i64 (s.next + 1), .int .i64 0, .int .i64 0, .int .i64 0, .int .i64 0, .string ⟨#[]⟩, .slice none 0 0, .slice none 0 0], _, rfl, ⟨none, 0, none, 0, rfl, Nat.zero_le _, ⟨Nat.le_refl _, fun _ => rfl, by decide⟩, RowAt.nil _ _, ⟨Nat.le_refl _, fun _ => rfl, by decide⟩, RowAt.nil _ _⟩, [.int .i64 2, .int .i64 0, .int .i64 d.no, .int .i64 d.kind, .int .i64 lk, .int .i64 d.size, .string d.target, .slice A9' al.length c9', .slice A6 d.runs.length c6], _, rfl, ⟨A9', c9', A6, c6, rfl, HSZ.out, HK9.out, HR9.out.mono le14, HK6.out, HR6.out.mono le14⟩, [.int .i64 2, .int .i64 0, .int .i64 s.next, .int .i64 kind, .int .i64 (newI s.next kind target).links, .int .i64 (newI s.next kind target).size, .string (newI s.next kind target).target, .slice none 0 0, .slice none 0 0], [], rfl, ⟨none, 0, none, 0, rfl, newI_size _ _ _ htz, ⟨Nat.le_refl _, fun _ => rfl, by decide⟩, RowAt.nil _ _, ⟨Nat.le_refl _, fun _ => rfl, by decide⟩, RowAt.nil _ _⟩, rfl⟩ (by show 3 ≤ 9223372036854775807; decide), E14.drop (le1.out.trans (l5.out.trans (l9.out.trans (HL12.out.trans le14)))) (FLe.refl _)⟩
              · have hb : (ac == 0) = false := by simpa using hac
                have hb2 : (ac != 0) = true := by simpa using hac
                have HQ := hid (show makeP s path kind target = ([], 0, ac) by rw [HMO.out, if_pos (by rw [HAC.out]; exact hac), HAC.out])
                clear hac
                go_wp2_with fail
                go_ret3
                exact (by rw [HQ.out]; exact ⟨none, 0, h, rfl, ⟨Nat.zero_le _, fun _ => rfl, by decide⟩, RowAt.nil _ _, E10.out.back⟩)
            · have HQ := hid (show makeP s path kind target = ([], 0, 18) by rw [HMN.out, if_pos (of_decide_eq_true HB9.out)])
              go_wp2_with fail
              go_ret3
              exact (by rw [HQ.out]; exact ⟨none, 0, h, rfl, ⟨Nat.zero_le _, fun _ => rfl, by decide⟩, RowAt.nil _ _, E6.out.back⟩)
        · have hb : (fc == 0) = false := by simpa using hcode
          have hb2 : (fc != 0) = true := by simpa using hcode
          have HQ := hid (show makeP s path kind target = ([], 0, fc) by
            have q := HFS.out
            by_cases hc : code = 0
            · subst hc
              rw [if_neg (by simp)] at q
              cases hz : (findE ((findI s.inodes no).getD zeroI).entries name).isSome with
              | true =>
                rw [hz, if_pos rfl] at q
                rw [makeP_late (target := target) HK1.out HK2.out HPAR.out rfl, if_pos hz, show (12 : Int) = fc from congrArg Prod.snd q]
              | false => rw [hz, if_neg (by simp)] at q; exact absurd (congrArg Prod.snd q).symm hcode
            · rw [if_pos hc] at q
              rw [makeP_par HK1.out HK2.out (by rw [HPAR.out]; exact hc), HPAR.out, show (no, name, code).2.2 = fc from congrArg Prod.snd q])
          clear hcode
          go_wp2_with fail
          go_ret3
          exact (by rw [HQ.out]; exact ⟨none, 0, h, rfl, ⟨Nat.zero_le _, fun _ => rfl, by decide⟩, RowAt.nil _ _, E6.out.back⟩)
      · have HQ := hid (show makeP s path kind target = ([], 0, 17) by
          unfold makeP
          have q := of_decide_eq_true HB0.out
          rw [if_neg HK1.out, if_pos ⟨q.1, by
            have q2 := q.2
            rw [← HQR.out] at q2
            have q3 := of_decide_eq_false q2
            cases ht : targetB target with
            | false => exact .inl rfl
            | true => exact .inr fun e => q3 ⟨ht, e⟩⟩])
        go_wp2_with fail
        go_ret3
        exact (by rw [HQ.out]; exact ⟨none, 0, h, rfl, ⟨Nat.zero_le _, fun _ => rfl, by decide⟩, RowAt.nil _ _, E3.out.back⟩)
end Go.Proofs.YtdiaibkpcnknbaaDoor

namespace Go.Proofs.YtdiaibkpcnknbaaDoor
open Go.RowKit Go.Sort
set_option linter.unusedVariables false
/-- Deeds, and why not. -/
def RetDC (h : FH) (w : World) (r : List Deed × Int) (e : Ending) (w' : World) : Prop := ∃ A c h1, e = .returned (.tuple #[.slice A r.1.length c, .int .i64 r.2]) ∧ CapLe A r.1.length c ∧ RowAt h1 A r.1 ∧ Ext h w h1 w'
theorem zi_size {h : FH} {cs : List Value} {x : Inode} (r : repInode h cs x) : (#[.int .i64 0, .int .i64 0, .int .i64 0, .int .i64 0, .string ⟨#[]⟩, .slice none 0 0, .slice none 0 0] : Array Value).size = cs.toArray.size := by refine Eq.trans (b := 7) rfl ?_; rw [List.size_toArray, r.len]
theorem findI_all {Q : Inode → Prop} {xs : List Inode} (h0 : Q zeroI) (hq : ∀ x ∈ xs, Q x) (no : Int) : Q ((findI xs no).getD zeroI) := by
  cases h : findI xs no with
  | none => exact h0
  | some x => exact hq x (mem_of_findI h)
theorem findS_all {Q : Inode → Prop} {xs : List Inode} (h0 : Q zeroI) (hq : ∀ x ∈ xs, Q x) (path : ByteArray) : Q (findS xs path).1.dir ∧ Q (findS xs path).1.x := by
  unfold findS
  split
  · exact ⟨h0, h0⟩
  · unfold atS
    split
    · exact ⟨findI_all h0 hq _, h0⟩
    · exact ⟨findI_all h0 hq _, findI_all h0 hq _⟩
theorem thereS_all {Q : Inode → Prop} {xs : List Inode} (h0 : Q zeroI) (hq : ∀ x ∈ xs, Q x) (path : ByteArray) : Q (thereS xs path).1.dir ∧ Q (thereS xs path).1.x := by
  unfold thereS; split <;> exact findS_all h0 hq path
theorem freshS_all {Q : Inode → Prop} {xs : List Inode} (h0 : Q zeroI) (hq : ∀ x ∈ xs, Q x) (path : ByteArray) : Q (freshS xs path).1.dir ∧ Q (freshS xs path).1.x := by
  unfold freshS; split
  · exact findS_all h0 hq path
  · split <;> exact findS_all h0 hq path
def linkT (s : State) (x : Inode) (no : Int) (f : Spot × Int) : List Deed × Int :=
  if f.2 ≠ 0 then ([], f.2)
  else if 100 ≤ x.links then ([], 18)
  else if addC f.1.dir.entries ⟨f.1.name, no⟩ ≠ 0 then ([], addC f.1.dir.entries ⟨f.1.name, no⟩)
  else ([putD { f.1.dir with entries := addL f.1.dir.entries ⟨f.1.name, no⟩ }, putD { x with links := x.links + 1 }], 0)
def linkF (s : State) (v : Option Inode) (no : Int) (way : ByteArray) : List Deed × Int := match v with
    | none => ([], 11)
    | some x => if x.kind = 2 then ([], 14) else linkT s x no (freshS s.inodes way)
def linkP (s : State) (old way : ByteArray) : List Deed × Int :=
  if (resolveP s.inodes old false).2 ≠ 0 then ([], (resolveP s.inodes old false).2)
  else linkF s (findI s.inodes (resolveP s.inodes old false).1) (resolveP s.inodes old false).1 way
set_option maxHeartbeats 16000000 in
set_option maxRecDepth 100000 in
theorem tree_Link (s : State) (cs : List Value) (old way : ByteArray) (hso : old.size ≤ 9223372036854775807) (hsw : way.size ≤ 9223372036854775807) (hent : ∀ x ∈ s.inodes, midI x) (hfit : ∀ x ∈ s.inodes, fitI x) (h : FH) (w : World) (hs : Sits h w) (rS : repState h cs s) :
    Calls Tryd.prog 9 #[.agg cs.toArray, .string old, .string way] w fun e w' => RetDC h w (linkP s old way) e w' := by
  have HENT := hid hent
  clear hent
  have RS := hid rS
  have HFIT := hid hfit
  clear rS hfit
  obtain ⟨h1, E1, hb1, le1, hh1⟩ := (Ext.refl hs).boxF cs.toArray 31
  clear hh1
  go_enter Tryd.func9, Tryd.ntmps9
  go_upto_region 1 with (fail)
  generalize hgx : w.heap.size = gx at *
  with_reducible generalize w.alloc (.cells cs.toArray 31) = W2 at E1 ⊢
  clear hgx
  have E2 := hid E1
  have hb1 := hid hb1
  have le1 := hid le1
  clear E1
  obtain ⟨⟨no, code⟩, hres⟩ : ∃ r, resolveP s.inodes old false = r := ⟨_, rfl⟩
  have HR := hid hres
  have KR := hid (show Calls Tryd.prog 21 #[.agg cs.toArray, .string old, .bool false] W2 fun e w' => e = .returned (.tuple #[.int .i64 no, .int .i64 code]) ∧ Ext h1 W2 h1 w' from path_Resolve s _ old hso false _ hres h1 W2 E2.out.sits (repState.mono le1.out RS.out))
  clear hres
  go_upto_region 2 with (first | (refine wpList_load_row rfl 31 _ rfl gx rfl 31 cs.toArray (0, 0) _ (E2.out.sits _ _ hb1.out) Tryd.underlying31 rfl (info_State RS.out.len) ?_) | (go_at_call 21; refine KR.out.mono ?_; rintro e w3 ⟨rfl, F3⟩; have E3 := hid (E2.out.trans F3); clear F3))
  by_cases hc : code = 0
  · subst hc
    obtain ⟨v, hv⟩ : ∃ v, findI s.inodes no = v := ⟨_, rfl⟩
    have KF := hid (state_Find s _ no HFIT.out v hv h1 w3 E3.out.sits (repState.mono le1.out RS.out))
    have HLP := hid (show linkP s old way = linkF s v no way by unfold linkP; rw [HR.out, if_neg (by simp), hv])
    have HV := hid hv
    clear hv
    go_upto_region 5 with (first | (refine wpList_load_row rfl 31 _ rfl gx rfl 31 cs.toArray (0, 0) _ (E3.out.sits _ _ hb1.out) Tryd.underlying31 rfl (info_State RS.out.len) ?_) | (go_at_call 22; refine KF.out.mono ?_; rintro e w5 ⟨xl, h5, rfl, rx, F5⟩; have E5 := hid (E3.out.trans F5); have l5 := hid F5.le; have rx := hid rx; clear F5) | (refine wpList_store_row rfl 51 _ _ rfl w5.heap.size xl.toArray rfl rfl 51 #[.int .i64 0, .int .i64 0, .int .i64 0, .int .i64 0, .string ⟨#[]⟩, .slice none 0 0, .slice none 0 0] (heap_new w5 _) (info_Inode rx.out.len) (zi_size rx.out) (one_arr rx.out.one) ?_))
    rw [World.setRow_alloc_new]
    have BX6 := BoxU.new E5.out xl.toArray 51
    have E6 := E5.out.alloc (.cells xl.toArray 51)
    with_reducible generalize (w5.alloc (.cells xl.toArray 51)) = W6 at BX6 E6 ⊢
    have BX6 := hid BX6
    have E6 := hid E6
    generalize w5.heap.size = gi at *
    clear E5
    cases v with
    | none =>
      have HQ := hid (show linkP s old way = ([], 11) from HLP.out)
      dsimp only [Option.isSome_none] at *
      go_wp2_with fail
      go_ret2
      exact (by rw [HQ.out]; exact ⟨none, 0, h, rfl, ⟨Nat.zero_le _, fun _ => rfl, by decide⟩, RowAt.nil _ _, E6.out.back⟩)
    | some x =>
      dsimp only [Option.isSome_some, Option.getD_some] at *
      have m1 := BX6.out.cell (by rw [List.getElem?_toArray]; exact rx.out.at1)
      by_cases hk : x.kind = 2
      · have HQ := hid (show linkP s old way = ([], 14) by rw [HLP.out]; exact if_pos hk)
        have bk : (x.kind == 2) = true := by simpa using hk
        clear hk
        go_wp2_with fail
        go_ret2
        exact (by rw [HQ.out]; exact ⟨none, 0, h, rfl, ⟨Nat.zero_le _, fun _ => rfl, by decide⟩, RowAt.nil _ _, E6.out.back⟩)
      · have bk : (x.kind == 2) = false := by simpa using hk
        obtain ⟨⟨p, fc⟩, hf⟩ : ∃ r, freshS s.inodes way = r := ⟨_, rfl⟩
        have HL2 := hid (show linkP s old way = linkT s x no (p, fc) by rw [HLP.out, ← hf]; exact if_neg hk)
        have hpm : midI p.dir := by have q := (freshS_all midI_zero HENT.out way).1; rw [hf] at q; exact q
        have hxm : midI x := HENT.out x (mem_of_findI HV.out)
        have HPM := hid hpm
        have HXM := hid hxm
        have KG := hid (tree_fresh s _ way hsw HFIT.out p fc hf h5 W6 E6.out.sits (repState.mono (le1.out.trans l5.out) RS.out))
        clear hk hf hpm hxm
        go_upto_region 10 with (first | (refine wpList_load_row rfl 31 _ rfl gx rfl 31 cs.toArray (0, 0) _ (E6.out.sits _ _ (l5.out _ _ hb1.out)) Tryd.underlying31 rfl (info_State RS.out.len) ?_) | (go_at_call 17; refine KG.out.mono ?_; rintro e w7 ⟨pl, h7, rfl, rp, F7⟩; have E7 := hid (E6.out.trans F7); have BX7 := hid (BX6.out.ext F7); have l7 := hid F7.le; have rp := hid rp; clear F7 m1) | (refine wpList_store_row rfl 55 _ _ rfl w7.heap.size pl.toArray rfl rfl 55 #[.int .i64 0, .int .i64 0, .int .i64 0, .int .i64 0, .string ⟨#[]⟩, .slice none 0 0, .slice none 0 0, .string ⟨#[]⟩, .int .i64 0, .int .i64 0, .int .i64 0, .int .i64 0, .string ⟨#[]⟩, .slice none 0 0, .slice none 0 0, .bool false] (heap_new w7 _) (info_Spot rp.out.len) (zs_size rp.out) (one_arr rp.out.one) ?_))
        rw [World.setRow_alloc_new]
        have BP8 := BoxU.new E7.out pl.toArray 55
        have E8 := E7.out.alloc (.cells pl.toArray 55)
        have BX8 := BX7.out.alloc (.cells pl.toArray 55)
        have hne8 := hid (Nat.ne_of_lt BX7.out.lt)
        with_reducible generalize (w7.alloc (.cells pl.toArray 55)) = W8 at BP8 E8 BX8 ⊢
        have BP8 := hid BP8
        have E8 := hid E8
        have BX8 := hid BX8
        generalize w7.heap.size = gp at *
        clear E7 BX7
        by_cases hfc : fc = 0
        · subst hfc
          have m2 := BX8.out.cell (by rw [List.getElem?_toArray]; exact rx.out.at2)
          by_cases hl : 100 ≤ x.links
          · have HQ := hid (show linkP s old way = ([], 18) by rw [HL2.out]; unfold linkT; rw [if_neg (by simp), if_pos hl])
            go_wp2_with fail
            go_ret2
            exact (by rw [HQ.out]; exact ⟨none, 0, h, rfl, ⟨Nat.zero_le _, fun _ => rfl, by decide⟩, RowAt.nil _ _, E8.out.back⟩)
          · have HL3 := hid (show linkP s old way = if addC p.dir.entries ⟨p.name, no⟩ ≠ 0 then ([], addC p.dir.entries ⟨p.name, no⟩) else ([putD { p.dir with entries := addL p.dir.entries ⟨p.name, no⟩ }, putD { x with links := x.links + 1 }], 0) by rw [HL2.out]; unfold linkT; rw [if_neg (by simp), if_neg hl])
            obtain ⟨dl, rd, hdl⟩ := rp.out.dir
            obtain ⟨A5, c5, at5, k5, row5⟩ := rd.at5
            have hnz := rp.out.nm.2
            obtain ⟨ac, hac⟩ : ∃ ac, addC p.dir.entries ⟨p.name, no⟩ = ac := ⟨_, rfl⟩
            obtain ⟨al, hal⟩ : ∃ al, addL p.dir.entries ⟨p.name, no⟩ = al := ⟨_, rfl⟩
            have KA := entries_Add p.dir.entries A5 c5 HPM.out.1 ⟨p.name, no⟩ hnz h7 W8 E8.out.sits row5
            rw [hac, hal] at KA HL3
            have KA := hid KA
            have hall : al.length ≤ 1001 := by
              rw [← hal]; unfold addL; split
              · unfold insE; have := HPM.out.1; simp; omega
              · simp
            have m5 := BP8.out.cell (hdl 5 _ at5)
            have m7 := BP8.out.cell (rp.out.nm.1)
            clear hac hal hnz k5 row5
            go_upto_region 15 with (go_at_call 18; refine KA.out.mono ?_; rintro e w9 R; obtain ⟨A9, c9, h9, rfl, r9, F9, u0, u1, u2⟩ := R.stayX (by omega); have E9 := hid (E8.out.trans F9); have BP9 := hid (BP8.out.ext F9); have BX9 := hid (BX8.out.ext F9); have l9 := hid F9.le; have k9 := hid (show CapLe A9 al.length c9 from ⟨u1, u0, u2⟩); have r9 := hid r9; clear F9 u0 u1 u2 R m5 m7 m2; have m5 := BP9.out.cell (hdl 5 _ at5); have f5 := BP9.out.open_ 5)
            have BP10 := hid (BP9.out.set1 5 (.slice A9 al.length c9))
            have BX10 := hid (BX9.out.other1 hne8.out 5 (.slice A9 al.length c9))
            have E10 := hid (BP9.out.wr1 E9.out 5 (.slice A9 al.length c9))
            have RP10 := hid ((rp.out.mono l9.out).setEnt k9.out r9.out)
            with_reducible generalize w9.setCell ⟨gp, 5, none⟩ (.slice A9 al.length c9) = w10 at BP10 BX10 E10 ⊢
            clear m5 f5 at5 BP9 E9 BX9
            by_cases hac : ac = 0
            · subst hac
              have HL4 := hid (show linkP s old way = ([putD { p.dir with entries := al }, putD { x with links := x.links + 1 }], 0) by rw [HL3.out, if_neg (by simp)])
              have m2 := BX10.out.cell (by rw [List.getElem?_toArray]; exact rx.out.at2)
              have f2 := BX10.out.open_ 2
              have hwr : IntKind.i64.wrap (x.links + 1) = x.links + 1 := by have := HXM.out.2.1; rw [IntKind.wrap_i64]; omega
              go_upto_region 18 with (fail)
              have BX11 := BX10.out.set1 2 (.int .i64 (x.links + 1))
              have BP11 := BP10.out.other1 (fun e => hne8.out e.symm) 2 (.int .i64 (x.links + 1))
              have E11 := BX10.out.wr1 E10.out 2 (.int .i64 (x.links + 1))
              with_reducible generalize w10.setCell ⟨gi, 2, none⟩ (.int .i64 (x.links + 1)) = w11 at BX11 BP11 E11 ⊢
              obtain ⟨h12, E12, hb12, l12, k12⟩ := BP11.freeze E11
              obtain ⟨h13, E13, hb13, l13, -⟩ := (BX11.keep k12 hne8.out).freeze E12
              have hb13p := l13 _ _ hb12
              obtain ⟨dm, rdm, hd12⟩ := (RP10.out.mono (l12.trans l13)).dir
              obtain ⟨A9', c9', A6, c6, rfl, sz5, k9', r9', k6, row6⟩ := rdm
              have e5 : (Value.slice A9' al.length c9') = .slice A9 al.length c9 := by
                have q := hd12 5 _ rfl
                have q2 : (pl.set 5 (.slice A9 al.length c9)).toArray[5]? = some (.slice A9 al.length c9) := by
                  have hl := rp.out.len
                  simp [hl]
                rw [q2] at q; exact (Option.some.inj q).symm
              injection e5 with ea eb ec
              subst ea; subst ec
              obtain ⟨B5, d5, B6, d6, hxs, sx5, kx5, rwx5, kx6, rwx6⟩ := ((rx.out.mono (l7.out.trans (l9.out.trans (l12.trans l13)))).setLinks (x.links + 1))
              have hc0 : ∀ w' : World, Ext h w h13 w' → w'.cell? ⟨gp, 0, none⟩ = some (.int .i64 p.dir.no) := fun w' E => Sits_at E.sits hb13p (hd12 0 _ rfl)
              have hc1 : ∀ w' : World, Ext h w h13 w' → w'.cell? ⟨gp, 1, none⟩ = some (.int .i64 p.dir.kind) := fun w' E => Sits_at E.sits hb13p (hd12 1 _ rfl)
              have hc2 : ∀ w' : World, Ext h w h13 w' → w'.cell? ⟨gp, 2, none⟩ = some (.int .i64 p.dir.links) := fun w' E => Sits_at E.sits hb13p (hd12 2 _ rfl)
              have hc3 : ∀ w' : World, Ext h w h13 w' → w'.cell? ⟨gp, 3, none⟩ = some (.int .i64 p.dir.size) := fun w' E => Sits_at E.sits hb13p (hd12 3 _ rfl)
              have hc4 : ∀ w' : World, Ext h w h13 w' → w'.cell? ⟨gp, 4, none⟩ = some (.string p.dir.target) := fun w' E => Sits_at E.sits hb13p (hd12 4 _ rfl)
              have hc5 : ∀ w' : World, Ext h w h13 w' → w'.cell? ⟨gp, 5, none⟩ = some (.slice A9' al.length c9') := fun w' E => Sits_at E.sits hb13p (hd12 5 _ rfl)
              have hc6 : ∀ w' : World, Ext h w h13 w' → w'.cell? ⟨gp, 6, none⟩ = some (.slice A6 p.dir.runs.length c6) := fun w' E => Sits_at E.sits hb13p (hd12 6 _ rfl)
              have hx0 : ∀ w' : World, Ext h w h13 w' → w'.cell? ⟨gi, 0, none⟩ = some (.int .i64 x.no) := fun w' E => Sits_at E.sits hb13 (by rw [hxs]; rfl)
              have hx1 : ∀ w' : World, Ext h w h13 w' → w'.cell? ⟨gi, 1, none⟩ = some (.int .i64 x.kind) := fun w' E => Sits_at E.sits hb13 (by rw [hxs]; rfl)
              have hx2 : ∀ w' : World, Ext h w h13 w' → w'.cell? ⟨gi, 2, none⟩ = some (.int .i64 (x.links + 1)) := fun w' E => Sits_at E.sits hb13 (by rw [hxs]; rfl)
              have hx3 : ∀ w' : World, Ext h w h13 w' → w'.cell? ⟨gi, 3, none⟩ = some (.int .i64 x.size) := fun w' E => Sits_at E.sits hb13 (by rw [hxs]; rfl)
              have hx4 : ∀ w' : World, Ext h w h13 w' → w'.cell? ⟨gi, 4, none⟩ = some (.string x.target) := fun w' E => Sits_at E.sits hb13 (by rw [hxs]; rfl)
              have hx5 : ∀ w' : World, Ext h w h13 w' → w'.cell? ⟨gi, 5, none⟩ = some (.slice B5 x.entries.length d5) := fun w' E => Sits_at E.sits hb13 (by rw [hxs]; rfl)
              have hx6 : ∀ w' : World, Ext h w h13 w' → w'.cell? ⟨gi, 6, none⟩ = some (.slice B6 x.runs.length d6) := fun w' E => Sits_at E.sits hb13 (by rw [hxs]; rfl)
              have KPa := hid (fun (w' : World) (hs' : Sits h13 w') => (tree_put ⟨p.dir.no, p.dir.kind, p.dir.links, p.dir.size, p.dir.target, al, p.dir.runs⟩ A9' c9' A6 c6 h13 w' hs' : Calls Tryd.prog 19 #[.agg #[.int .i64 p.dir.no, .int .i64 p.dir.kind, .int .i64 p.dir.links, .int .i64 p.dir.size, .string p.dir.target, .slice A9' al.length c9', .slice A6 p.dir.runs.length c6]] w' fun e w2 => e = .returned (.agg #[.int .i64 2, .int .i64 0, .int .i64 p.dir.no, .int .i64 p.dir.kind, .int .i64 p.dir.links, .int .i64 p.dir.size, .string p.dir.target, .slice A9' al.length c9', .slice A6 p.dir.runs.length c6]) ∧ Ext h13 w' h13 w2))
              have KPb := hid (fun (w' : World) (hs' : Sits h13 w') => (tree_put ⟨x.no, x.kind, x.links + 1, x.size, x.target, x.entries, x.runs⟩ B5 d5 B6 d6 h13 w' hs' : Calls Tryd.prog 19 #[.agg #[.int .i64 x.no, .int .i64 x.kind, .int .i64 (x.links + 1), .int .i64 x.size, .string x.target, .slice B5 x.entries.length d5, .slice B6 x.runs.length d6]] w' fun e w2 => e = .returned (.agg #[.int .i64 2, .int .i64 0, .int .i64 x.no, .int .i64 x.kind, .int .i64 (x.links + 1), .int .i64 x.size, .string x.target, .slice B5 x.entries.length d5, .slice B6 x.runs.length d6]) ∧ Ext h13 w' h13 w2))
              have E14 := E13.drew
              have LALL := hid (le1.out.trans (l5.out.trans (l7.out.trans (l9.out.trans (l12.trans l13)))))
              have H1 := hid sz5
              have H2 := hid k9'
              have H3 := hid r9'
              have H4 := hid k6
              have H5 := hid row6
              have H6 := hid sx5
              have H7 := hid kx5
              have H8 := hid rwx5
              have H9 := hid kx6
              have H10 := hid rwx6
              clear hd12 hxs sz5 k9' r9' k6 row6 sx5 kx5 rwx5 kx6 rwx6 BX11 BP11 E11 BX10 BP10 E10 m2 f2 E12 hb12 l12 k12 hb13 hb13p l13
              go_region_held3 (fun w' => Ext h w h13 w') (first | with_reducible assumption | with_reducible exact Eg | with_reducible exact Ext.alloc Eg _) (first | (go_at_call 19; with_reducible refine (KPa.out _ (Ext.sits (h := h) (h' := h13) (w := w) (by with_reducible assumption))).mono ?_; rintro e wf ⟨rfl, Ef⟩; have Eg := Ext.trans (h := h) (w := w) (h1 := h13) (by with_reducible assumption) Ef; clear Ef) | (go_at_call 19; with_reducible refine (KPb.out _ (Ext.sits (h := h) (h' := h13) (w := w) (by with_reducible assumption))).mono ?_; rintro e wf ⟨rfl, Ef⟩; have Eg := Ext.trans (h := h) (w := w) (h1 := h13) (by with_reducible assumption) Ef; clear Ef))
              all_goals
                go_wp2_with fail
                obtain ⟨h15, E15, hb15, le15, hh15⟩ := Eg.boxF #[.int .i64 2, .int .i64 0, .int .i64 p.dir.no, .int .i64 p.dir.kind, .int .i64 p.dir.links, .int .i64 p.dir.size, .string p.dir.target, .slice A9' al.length c9', .slice A6 p.dir.runs.length c6, .int .i64 2, .int .i64 0, .int .i64 x.no, .int .i64 x.kind, .int .i64 (x.links + 1), .int .i64 x.size, .string x.target, .slice B5 x.entries.length d5, .slice B6 x.runs.length d6] 63
                go_ret2
                rw [HL4.out]
                exact ⟨some ⟨wf.heap.size, 0, none⟩, 2, h15, rfl, ⟨Nat.le_refl _, (fun e => by cases e), by decide⟩, RowAt.of_block hb15 ⟨[.int .i64 2, .int .i64 0, .int .i64 p.dir.no, .int .i64 p.dir.kind, .int .i64 p.dir.links, .int .i64 p.dir.size, .string p.dir.target, .slice A9' al.length c9', .slice A6 p.dir.runs.length c6], _, rfl, ⟨A9', c9', A6, c6, rfl, H1.out, H2.out, H3.out.mono le15, H4.out, H5.out.mono le15⟩, [.int .i64 2, .int .i64 0, .int .i64 x.no, .int .i64 x.kind, .int .i64 (x.links + 1), .int .i64 x.size, .string x.target, .slice B5 x.entries.length d5, .slice B6 x.runs.length d6], [], rfl, ⟨B5, d5, B6, d6, rfl, H6.out, H7.out, H8.out.mono le15, H9.out, H10.out.mono le15⟩, rfl⟩ (by show 2 ≤ 9223372036854775807; decide), E15⟩
            · have hb : (ac == 0) = false := by simpa using hac
              have hb2 : (ac != 0) = true := by simpa using hac
              have HQ := hid (show linkP s old way = ([], ac) by rw [HL3.out, if_pos hac])
              clear hac
              go_wp2_with fail
              go_ret2
              exact (by rw [HQ.out]; exact ⟨none, 0, h, rfl, ⟨Nat.zero_le _, fun _ => rfl, by decide⟩, RowAt.nil _ _, E10.out.back⟩)
        · have hb : (fc == 0) = false := by simpa using hfc
          have hb2 : (fc != 0) = true := by simpa using hfc
          have HQ := hid (show linkP s old way = ([], fc) by rw [HL2.out]; unfold linkT; rw [if_pos hfc])
          clear hfc
          go_wp2_with fail
          go_ret2
          exact (by rw [HQ.out]; exact ⟨none, 0, h, rfl, ⟨Nat.zero_le _, fun _ => rfl, by decide⟩, RowAt.nil _ _, E8.out.back⟩)
  · have hb : (code == 0) = false := by simpa using hc
    have hb2 : (code != 0) = true := by simpa using hc
    have HQ := hid (show linkP s old way = ([], code) by unfold linkP; rw [HR.out, if_pos hc])
    clear hc
    go_wp2_with fail
    go_ret2
    exact (by rw [HQ.out]; exact ⟨none, 0, h, rfl, ⟨Nat.zero_le _, fun _ => rfl, by decide⟩, RowAt.nil _ _, E3.out.back⟩)
end Go.Proofs.YtdiaibkpcnknbaaDoor

namespace Go.Proofs.YtdiaibkpcnknbaaDoor
open Go.RowKit Go.Sort
set_option linter.unusedVariables false
theorem withoutP_mid {d : Inode} {name : ByteArray} (h : midI d) : midI (withoutP d name) := by
  unfold withoutP
  split
  · exact ⟨Nat.le_trans (remE_lenT _ _) h.1, h.2⟩
  · exact h
theorem deed_repT {h : FH} {d : Deed} {A5 A6 : Option Addr} {c5 c6 : Nat} (r : repInode h [.int .i64 d.inode.no, .int .i64 d.inode.kind, .int .i64 d.inode.links, .int .i64 d.inode.size, .string d.inode.target, .slice A5 d.inode.entries.length c5, .slice A6 d.inode.runs.length c6] d.inode) : repDeed h (.int .i64 d.kind :: .int .i64 d.no :: [.int .i64 d.inode.no, .int .i64 d.inode.kind, .int .i64 d.inode.links, .int .i64 d.inode.size, .string d.inode.target, .slice A5 d.inode.entries.length c5, .slice A6 d.inode.runs.length c6]) d := by
  obtain ⟨B5, b5, B6, b6, hq, s1⟩ := r
  injection hq with a1 hq; injection hq with a2 hq; injection hq with a3 hq; injection hq with a4 hq; injection hq with a5 hq; injection hq with a6 hq; injection hq with a7 hq
  injection a6 with b1 b2 b3; injection a7 with b4 b5 b6
  subst b1; subst b3; subst b4; subst b6
  exact ⟨_, _, _, _, rfl, s1⟩
def unlinkP (s : State) (path : ByteArray) (os : List Int) : List Deed × Int :=
  if (thereS s.inodes path).2 ≠ 0 then ([], (thereS s.inodes path).2)
  else if (thereS s.inodes path).1.x.kind = 2 then ([], 14)
  else ([putD (withoutP (thereS s.inodes path).1.dir (thereS s.inodes path).1.name), letGoP (thereS s.inodes path).1.x os], 0)
def rmdirP (s : State) (path : ByteArray) : List Deed × Int :=
  if (thereS s.inodes path).2 ≠ 0 then ([], (thereS s.inodes path).2)
  else if (thereS s.inodes path).1.x.kind ≠ 2 then ([], 13)
  else if 0 < (thereS s.inodes path).1.x.entries.length then ([], 15)
  else ([putD { withoutP (thereS s.inodes path).1.dir (thereS s.inodes path).1.name with links := (withoutP (thereS s.inodes path).1.dir (thereS s.inodes path).1.name).links - 1 }, ⟨3, (thereS s.inodes path).1.x.no, zeroI⟩], 0)

set_option maxHeartbeats 16000000 in
set_option maxRecDepth 100000 in
theorem tree_Unlink (s : State) (cs : List Value) (path : ByteArray) (hsz : path.size ≤ 9223372036854775807) (os : List Int) (AO : Option Addr) (cO : Nat) (hent : ∀ x ∈ s.inodes, midI x) (hfit : ∀ x ∈ s.inodes, fitI x) (h : FH) (w : World) (hs : Sits h w) (rS : repState h cs s) (ro : RowAt h AO os) :
    Calls Tryd.prog 11 #[.agg cs.toArray, .string path, .slice AO os.length cO] w fun e w' => RetDC h w (unlinkP s path os) e w' := by
  have HENT := hid hent
  clear hent
  have RS := hid rS
  have HFIT := hid hfit
  clear rS hfit
  obtain ⟨h1, E1, hb1, le1, hh1⟩ := (Ext.refl hs).boxF cs.toArray 31
  clear hh1
  obtain ⟨⟨p, code⟩, hf⟩ : ∃ fs, thereS s.inodes path = fs := ⟨_, rfl⟩
  have HP := hid hf
  have hpm := thereS_all midI_zero HENT.out path
  rw [hf] at hpm
  have HDM := hid hpm.1
  have HXM := hid hpm.2
  clear hpm hf
  go_enter Tryd.func11, Tryd.ntmps11
  go_upto_region 1 with (fail)
  generalize hgx : w.heap.size = gx at *
  with_reducible generalize w.alloc (.cells cs.toArray 31) = W2 at E1 ⊢
  clear hgx
  have E2 := hid E1
  have hb1 := hid hb1
  have le1 := hid le1
  clear E1
  have KT := hid (tree_there s _ path hsz HFIT.out p code HP.out h1 W2 E2.out.sits (repState.mono le1.out RS.out))
  go_upto_region 2 with (first | (refine wpList_load_row rfl 31 _ rfl gx rfl 31 cs.toArray (0, 0) _ (E2.out.sits _ _ hb1.out) Tryd.underlying31 rfl (info_State RS.out.len) ?_) | (go_at_call 23; refine KT.out.mono ?_; rintro e w3 ⟨pl, h3, rfl, rp, F3⟩; have E3 := hid (E2.out.trans F3); have l3 := hid F3.le; have rp := hid rp; clear F3) | (refine wpList_store_row rfl 55 _ _ rfl w3.heap.size pl.toArray rfl rfl 55 #[.int .i64 0, .int .i64 0, .int .i64 0, .int .i64 0, .string ⟨#[]⟩, .slice none 0 0, .slice none 0 0, .string ⟨#[]⟩, .int .i64 0, .int .i64 0, .int .i64 0, .int .i64 0, .string ⟨#[]⟩, .slice none 0 0, .slice none 0 0, .bool false] (heap_new w3 _) (info_Spot rp.out.len) (zs_size rp.out) (one_arr rp.out.one) ?_))
  rw [World.setRow_alloc_new]
  have BP4 := BoxU.new E3.out pl.toArray 55
  have E4 := E3.out.alloc (.cells pl.toArray 55)
  with_reducible generalize (w3.alloc (.cells pl.toArray 55)) = W4 at BP4 E4 ⊢
  have BP4 := hid BP4
  have E4 := hid E4
  generalize w3.heap.size = gp at *
  clear E3 KT
  obtain ⟨xl, rx, hxx⟩ := rp.out.xx
  have m9 := BP4.out.cell (hxx 1 _ rx.at1)
  by_cases hc : code = 0
  · subst hc
    by_cases hk : p.x.kind = 2
    · have bk : (p.x.kind == 2) = true := by simpa using hk
      have HQ := hid (show unlinkP s path os = ([], 14) by unfold unlinkP; rw [HP.out, if_neg (by simp), if_pos hk])
      clear hk
      go_wp2_with fail
      go_ret2
      exact (by rw [HQ.out]; exact ⟨none, 0, h, rfl, ⟨Nat.zero_le _, fun _ => rfl, by decide⟩, RowAt.nil _ _, E4.out.back⟩)
    · have bk : (p.x.kind == 2) = false := by simpa using hk
      obtain ⟨g, hg⟩ : ∃ g, letGoP p.x os = g := ⟨_, rfl⟩
      obtain ⟨y, hy⟩ : ∃ y, withoutP p.dir p.name = y := ⟨_, rfl⟩
      have HQ := hid (show unlinkP s path os = ([putD y, g], 0) by unfold unlinkP; rw [HP.out, if_neg (by simp), if_neg hk]; show ([putD (withoutP p.dir p.name), letGoP p.x os], (0 : Int)) = _; rw [hg, hy])
      have HG := hid hg
      have HY := hid hy
      clear hk hg hy
      go_upto_region 6 with (fail)
      clear m9
      obtain ⟨h12, E12, hb12, l12, -⟩ := BP4.out.freeze E4.out
      obtain ⟨dl, rd, hdd⟩ := rp.out.dir
      have rd := rd.mono l12
      have rx := rx.mono l12
      obtain ⟨A5, c5, A6, c6, rfl⟩ := rd.open
      obtain ⟨B5, d5, B6, d6, rfl⟩ := rx.open
      have KW := hid (fun (w' : World) (hs' : Sits h12 w') => tree_without p.dir A5 c5 A6 c6 HDM.out.1 p.name rp.out.nm.2 h12 w' hs' rd)
      have KLG := hid (fun (w' : World) (hs' : Sits h12 w') => tree_letGo p.x B5 d5 B6 d6 os AO cO HXM.out.2.1 HXM.out.2.2 h12 w' hs' rx (ro.mono (le1.out.trans (l3.out.trans l12))))
      have KPU := hid (fun (C5 : Option Addr) (f5 : Nat) (C6 : Option Addr) (f6 : Nat) (w' : World) (hs' : Sits h12 w') => (tree_put y C5 f5 C6 f6 h12 w' hs' : Calls Tryd.prog 19 #[.agg #[.int .i64 y.no, .int .i64 y.kind, .int .i64 y.links, .int .i64 y.size, .string y.target, .slice C5 y.entries.length f5, .slice C6 y.runs.length f6]] w' fun e w2 => e = .returned (.agg #[.int .i64 2, .int .i64 0, .int .i64 y.no, .int .i64 y.kind, .int .i64 y.links, .int .i64 y.size, .string y.target, .slice C5 y.entries.length f5, .slice C6 y.runs.length f6]) ∧ Ext h12 w' h12 w2))
      have hc0 : ∀ w' : World, Ext h w h12 w' → w'.cell? ⟨gp, 0, none⟩ = some (.int .i64 p.dir.no) := fun w' E => Sits_at E.sits hb12 (hdd 0 _ rfl)
      have hc1 : ∀ w' : World, Ext h w h12 w' → w'.cell? ⟨gp, 1, none⟩ = some (.int .i64 p.dir.kind) := fun w' E => Sits_at E.sits hb12 (hdd 1 _ rfl)
      have hc2 : ∀ w' : World, Ext h w h12 w' → w'.cell? ⟨gp, 2, none⟩ = some (.int .i64 p.dir.links) := fun w' E => Sits_at E.sits hb12 (hdd 2 _ rfl)
      have hc3 : ∀ w' : World, Ext h w h12 w' → w'.cell? ⟨gp, 3, none⟩ = some (.int .i64 p.dir.size) := fun w' E => Sits_at E.sits hb12 (hdd 3 _ rfl)
      have hc4 : ∀ w' : World, Ext h w h12 w' → w'.cell? ⟨gp, 4, none⟩ = some (.string p.dir.target) := fun w' E => Sits_at E.sits hb12 (hdd 4 _ rfl)
      have hc5 : ∀ w' : World, Ext h w h12 w' → w'.cell? ⟨gp, 5, none⟩ = some (.slice A5 p.dir.entries.length c5) := fun w' E => Sits_at E.sits hb12 (hdd 5 _ rfl)
      have hc6 : ∀ w' : World, Ext h w h12 w' → w'.cell? ⟨gp, 6, none⟩ = some (.slice A6 p.dir.runs.length c6) := fun w' E => Sits_at E.sits hb12 (hdd 6 _ rfl)
      have hn7 : ∀ w' : World, Ext h w h12 w' → w'.cell? ⟨gp, 7, none⟩ = some (.string p.name) := fun w' E => Sits_at E.sits hb12 rp.out.nm.1
      have hx0 : ∀ w' : World, Ext h w h12 w' → w'.cell? ⟨gp, 8, none⟩ = some (.int .i64 p.x.no) := fun w' E => Sits_at E.sits hb12 (hxx 0 _ rfl)
      have hx1 : ∀ w' : World, Ext h w h12 w' → w'.cell? ⟨gp, 9, none⟩ = some (.int .i64 p.x.kind) := fun w' E => Sits_at E.sits hb12 (hxx 1 _ rfl)
      have hx2 : ∀ w' : World, Ext h w h12 w' → w'.cell? ⟨gp, 10, none⟩ = some (.int .i64 p.x.links) := fun w' E => Sits_at E.sits hb12 (hxx 2 _ rfl)
      have hx3 : ∀ w' : World, Ext h w h12 w' → w'.cell? ⟨gp, 11, none⟩ = some (.int .i64 p.x.size) := fun w' E => Sits_at E.sits hb12 (hxx 3 _ rfl)
      have hx4 : ∀ w' : World, Ext h w h12 w' → w'.cell? ⟨gp, 12, none⟩ = some (.string p.x.target) := fun w' E => Sits_at E.sits hb12 (hxx 4 _ rfl)
      have hx5 : ∀ w' : World, Ext h w h12 w' → w'.cell? ⟨gp, 13, none⟩ = some (.slice B5 p.x.entries.length d5) := fun w' E => Sits_at E.sits hb12 (hxx 5 _ rfl)
      have hx6 : ∀ w' : World, Ext h w h12 w' → w'.cell? ⟨gp, 14, none⟩ = some (.slice B6 p.x.runs.length d6) := fun w' E => Sits_at E.sits hb12 (hxx 6 _ rfl)
      have E13 := E12.drew
      have Ec := hid E13
      clear hdd hxx rd rx BP4 E4 E12 hb12
      go_region_held3 (fun w' => Ext h w h12 w') (first | with_reducible assumption | with_reducible exact Eg | with_reducible exact Ext.alloc Eg _) (first | (go_at_call 28; (with_reducible refine (KW.out _ (Ext.sits (h := h) (h' := h12) (w := w) (by with_reducible assumption))).mono ?_); rintro e wf ⟨C5, f5, C6, f6, hz, rfl, rz, Fz⟩; rw [HY.out] at rz ⊢; have Eg := Ext.trans (h := h) (w := w) (h1 := h12) (by with_reducible assumption) Fz.back; have Ec := hid (Ec.out.trans Fz); have LE := hid Fz.le; have rz := hid rz; clear Fz) | (go_at_call 27; (with_reducible refine (KLG.out _ (Ext.sits (h := h) (h' := h12) (w := w) (by with_reducible assumption))).mono ?_); rintro e wf ⟨G5, g5, G6, g6, rfl, rg, Fl⟩; rw [HG.out] at rg ⊢; have Eg := Ext.trans (h := h) (w := w) (h1 := h12) (by with_reducible assumption) Fl; have Ec := hid (Ec.out.more Fl); have rg := hid rg; clear Fl) | (go_at_call 19; (with_reducible refine (KPU.out _ _ _ _ _ (Ext.sits (h := h) (h' := h12) (w := w) (by with_reducible assumption))).mono ?_); rintro e wf ⟨rfl, Fp⟩; have Eg := Ext.trans (h := h) (w := w) (h1 := h12) (by with_reducible assumption) Fp; have Ec := hid (Ec.out.more Fp); clear Fp))
      all_goals
        go_wp2_with fail
        obtain ⟨h15, E15, hb15, le15, hh15⟩ := Ec.out.boxF #[.int .i64 2, .int .i64 0, .int .i64 y.no, .int .i64 y.kind, .int .i64 y.links, .int .i64 y.size, .string y.target, .slice C5 y.entries.length f5, .slice C6 y.runs.length f6, .int .i64 g.kind, .int .i64 g.no, .int .i64 g.inode.no, .int .i64 g.inode.kind, .int .i64 g.inode.links, .int .i64 g.inode.size, .string g.inode.target, .slice G5 g.inode.entries.length g5, .slice G6 g.inode.runs.length g6] 63
        go_ret2
        rw [HQ.out]
        have rz2 := rz.out.mono le15
        have rg2 := rg.out.mono (LE.out.trans le15)
        exact ⟨some ⟨wf.heap.size, 0, none⟩, 2, h15, rfl, ⟨Nat.le_refl _, (fun e => by cases e), by decide⟩, RowAt.of_block hb15 ⟨[.int .i64 2, .int .i64 0, .int .i64 y.no, .int .i64 y.kind, .int .i64 y.links, .int .i64 y.size, .string y.target, .slice C5 y.entries.length f5, .slice C6 y.runs.length f6], _, rfl, putL_rep rz2, [.int .i64 g.kind, .int .i64 g.no, .int .i64 g.inode.no, .int .i64 g.inode.kind, .int .i64 g.inode.links, .int .i64 g.inode.size, .string g.inode.target, .slice G5 g.inode.entries.length g5, .slice G6 g.inode.runs.length g6], [], rfl, deed_repT rg2, rfl⟩ (by show 2 ≤ 9223372036854775807; decide), E15⟩
  · have hb : (code == 0) = false := by simpa using hc
    have hb2 : (code != 0) = true := by simpa using hc
    have HQ := hid (show unlinkP s path os = ([], code) by unfold unlinkP; rw [HP.out, if_pos hc])
    clear hc
    go_wp2_with fail
    go_ret2
    exact (by rw [HQ.out]; exact ⟨none, 0, h, rfl, ⟨Nat.zero_le _, fun _ => rfl, by decide⟩, RowAt.nil _ _, E4.out.back⟩)

end Go.Proofs.YtdiaibkpcnknbaaDoor

namespace Go.Proofs.YtdiaibkpcnknbaaDoor
open Go.RowKit Go.Sort
set_option linter.unusedVariables false
set_option maxHeartbeats 16000000 in
set_option maxRecDepth 100000 in
theorem tree_Rmdir (s : State) (cs : List Value) (path : ByteArray) (hsz : path.size ≤ 9223372036854775807) (hent : ∀ x ∈ s.inodes, midI x) (hfit : ∀ x ∈ s.inodes, fitI x) (h : FH) (w : World) (hs : Sits h w) (rS : repState h cs s) :
    Calls Tryd.prog 12 #[.agg cs.toArray, .string path] w fun e w' => RetDC h w (rmdirP s path) e w' := by
  have HENT := hid hent
  clear hent
  have RS := hid rS
  have HFIT := hid hfit
  clear rS hfit
  obtain ⟨h1, E1, hb1, le1, hh1⟩ := (Ext.refl hs).boxF cs.toArray 31
  clear hh1
  obtain ⟨⟨p, code⟩, hf⟩ : ∃ fs, thereS s.inodes path = fs := ⟨_, rfl⟩
  have HP := hid hf
  have hpm := thereS_all midI_zero HENT.out path
  rw [hf] at hpm
  have HDM := hid hpm.1
  have HXM := hid hpm.2
  clear hpm hf
  go_enter Tryd.func12, Tryd.ntmps12
  go_upto_region 1 with (fail)
  generalize hgx : w.heap.size = gx at *
  with_reducible generalize w.alloc (.cells cs.toArray 31) = W2 at E1 ⊢
  clear hgx
  have E2 := hid E1
  have hb1 := hid hb1
  have le1 := hid le1
  clear E1
  have KT := hid (tree_there s _ path hsz HFIT.out p code HP.out h1 W2 E2.out.sits (repState.mono le1.out RS.out))
  go_upto_region 2 with (first | (refine wpList_load_row rfl 31 _ rfl gx rfl 31 cs.toArray (0, 0) _ (E2.out.sits _ _ hb1.out) Tryd.underlying31 rfl (info_State RS.out.len) ?_) | (go_at_call 23; refine KT.out.mono ?_; rintro e w3 ⟨pl, h3, rfl, rp, F3⟩; have E3 := hid (E2.out.trans F3); have l3 := hid F3.le; have rp := hid rp; clear F3) | (refine wpList_store_row rfl 55 _ _ rfl w3.heap.size pl.toArray rfl rfl 55 #[.int .i64 0, .int .i64 0, .int .i64 0, .int .i64 0, .string ⟨#[]⟩, .slice none 0 0, .slice none 0 0, .string ⟨#[]⟩, .int .i64 0, .int .i64 0, .int .i64 0, .int .i64 0, .string ⟨#[]⟩, .slice none 0 0, .slice none 0 0, .bool false] (heap_new w3 _) (info_Spot rp.out.len) (zs_size rp.out) (one_arr rp.out.one) ?_))
  rw [World.setRow_alloc_new]
  have BP4 := BoxU.new E3.out pl.toArray 55
  have E4 := E3.out.alloc (.cells pl.toArray 55)
  with_reducible generalize (w3.alloc (.cells pl.toArray 55)) = W4 at BP4 E4 ⊢
  have BP4 := hid BP4
  have E4 := hid E4
  generalize w3.heap.size = gp at *
  clear E3 KT
  obtain ⟨xl, rx, hxx⟩ := rp.out.xx
  have m9 := BP4.out.cell (hxx 1 _ rx.at1)
  by_cases hc : code = 0
  · subst hc
    by_cases hk : p.x.kind = 2
    · have bk : (p.x.kind == 2) = true := by simpa using hk
      have bk2 : (p.x.kind != 2) = false := by simpa using hk
      obtain ⟨B5, d5, atx, -, -⟩ := rx.at5
      have m13 := BP4.out.cell (hxx 5 _ atx)
      by_cases hl : 0 < p.x.entries.length
      · have HQ := hid (show rmdirP s path = ([], 15) by unfold rmdirP; rw [HP.out, if_neg (by simp), if_neg (by simpa using hk), if_pos hl])
        have hl2 : (0 : Int) < (p.x.entries.length : Int) := by omega
        clear hk hl
        go_wp2_with fail
        go_ret2
        exact (by rw [HQ.out]; exact ⟨none, 0, h, rfl, ⟨Nat.zero_le _, fun _ => rfl, by decide⟩, RowAt.nil _ _, E4.out.back⟩)
      · have hl2 : ¬ ((0 : Int) < (p.x.entries.length : Int)) := by omega
        obtain ⟨y, hy⟩ : ∃ y, withoutP p.dir p.name = y := ⟨_, rfl⟩
        have HQ := hid (show rmdirP s path = ([putD { y with links := y.links - 1 }, ⟨3, p.x.no, zeroI⟩], 0) by unfold rmdirP; rw [HP.out, if_neg (by simp), if_neg (by simpa using hk), if_neg hl]; show ([putD { withoutP p.dir p.name with links := (withoutP p.dir p.name).links - 1 }, (⟨3, p.x.no, zeroI⟩ : Deed)], (0 : Int)) = _; rw [hy])
        have hym : midI y := by rw [← hy]; exact withoutP_mid HDM.out
        have HYM := hid hym
        obtain ⟨dl, rd, hdd⟩ := rp.out.dir
        have m7 := BP4.out.cell (rp.out.nm.1)
        have KW := hid (by have q := tree_withoutL rd HDM.out.1 p.name rp.out.nm.2 W4 E4.out.sits; rw [hy] at q; exact q : Calls Tryd.prog 28 #[.agg dl.toArray, .string p.name] W4 fun e w' => ∃ cs' h1, e = .returned (.agg cs'.toArray) ∧ repInode h1 cs' y ∧ Ext h3 W4 h1 w')
        clear hk hl hy hym
        go_upto_region 9 with (first | (refine wpList_load_mid rfl 51 _ rfl gp 0 rfl dl _ (BP4.out.range 0 dl (fun j v hj => by rw [Nat.zero_add]; exact hdd j v hj)) Tryd.underlying51 rfl (infoL_Inode rd.len) ?_) | (go_at_call 28; refine KW.out.mono ?_; rintro e w5 ⟨yl, h5, rfl, ry, F5⟩; have E5 := hid (E4.out.trans F5); have BP5 := hid (BP4.out.ext F5); have l5 := hid F5.le; have ry := hid ry; clear F5 m7 m9 m13) | (refine wpList_store_row rfl 51 _ _ rfl w5.heap.size yl.toArray rfl rfl 51 #[.int .i64 0, .int .i64 0, .int .i64 0, .int .i64 0, .string ⟨#[]⟩, .slice none 0 0, .slice none 0 0] (heap_new w5 _) (info_Inode ry.out.len) (zi_size ry.out) (one_arr ry.out.one) ?_))
        rw [World.setRow_alloc_new]
        have BY6 := BoxU.new E5.out yl.toArray 51
        have E6 := E5.out.alloc (.cells yl.toArray 51)
        have BP6 := BP5.out.alloc (.cells yl.toArray 51)
        have hne6 := hid (Nat.ne_of_lt BP5.out.lt)
        with_reducible generalize (w5.alloc (.cells yl.toArray 51)) = W6 at BY6 E6 BP6 ⊢
        have BY6 := hid BY6
        have E6 := hid E6
        have BP6 := hid BP6
        generalize w5.heap.size = gy at *
        have m2 := BY6.out.cell (by rw [List.getElem?_toArray]; exact ry.out.at2)
        have f2 := BY6.out.open_ 2
        have hwr : IntKind.i64.wrap (y.links - 1) = y.links - 1 := by have := HYM.out; unfold midI at this; rw [IntKind.wrap_i64]; omega
        go_upto_region 10 with (fail)
        have BY7 := BY6.out.set1 2 (.int .i64 (y.links - 1))
        have BP7 := BP6.out.other1 hne6.out 2 (.int .i64 (y.links - 1))
        have E7 := BY6.out.wr1 E6.out 2 (.int .i64 (y.links - 1))
        with_reducible generalize W6.setCell ⟨gy, 2, none⟩ (.int .i64 (y.links - 1)) = w7 at BY7 BP7 E7 ⊢
        obtain ⟨h11, E11, hb11, l11, k11⟩ := BP7.freeze E7
        obtain ⟨h12, E12, hb12y, l12, -⟩ := (BY7.keep k11 (fun e => hne6.out e.symm)).freeze E11
        have hb12p := l12 _ _ hb11
        obtain ⟨C5, f5, C6, f6, hys, sy5, ky5, rwy5, ky6, rwy6⟩ := ((ry.out.mono (l11.trans l12)).setLinks (y.links - 1))
        have hy0 : ∀ w' : World, Ext h w h12 w' → w'.cell? ⟨gy, 0, none⟩ = some (.int .i64 y.no) := fun w' E => Sits_at E.sits hb12y (by rw [hys]; rfl)
        have hy1 : ∀ w' : World, Ext h w h12 w' → w'.cell? ⟨gy, 1, none⟩ = some (.int .i64 y.kind) := fun w' E => Sits_at E.sits hb12y (by rw [hys]; rfl)
        have hy2 : ∀ w' : World, Ext h w h12 w' → w'.cell? ⟨gy, 2, none⟩ = some (.int .i64 (y.links - 1)) := fun w' E => Sits_at E.sits hb12y (by rw [hys]; rfl)
        have hy3 : ∀ w' : World, Ext h w h12 w' → w'.cell? ⟨gy, 3, none⟩ = some (.int .i64 y.size) := fun w' E => Sits_at E.sits hb12y (by rw [hys]; rfl)
        have hy4 : ∀ w' : World, Ext h w h12 w' → w'.cell? ⟨gy, 4, none⟩ = some (.string y.target) := fun w' E => Sits_at E.sits hb12y (by rw [hys]; rfl)
        have hy5 : ∀ w' : World, Ext h w h12 w' → w'.cell? ⟨gy, 5, none⟩ = some (.slice C5 y.entries.length f5) := fun w' E => Sits_at E.sits hb12y (by rw [hys]; rfl)
        have hy6 : ∀ w' : World, Ext h w h12 w' → w'.cell? ⟨gy, 6, none⟩ = some (.slice C6 y.runs.length f6) := fun w' E => Sits_at E.sits hb12y (by rw [hys]; rfl)
        have hx0 : ∀ w' : World, Ext h w h12 w' → w'.cell? ⟨gp, 8, none⟩ = some (.int .i64 p.x.no) := fun w' E => Sits_at E.sits hb12p (hxx 0 _ rx.at0)
        have KPU := hid (fun (w' : World) (hs' : Sits h12 w') => (tree_put ⟨y.no, y.kind, y.links - 1, y.size, y.target, y.entries, y.runs⟩ C5 f5 C6 f6 h12 w' hs' : Calls Tryd.prog 19 #[.agg #[.int .i64 y.no, .int .i64 y.kind, .int .i64 (y.links - 1), .int .i64 y.size, .string y.target, .slice C5 y.entries.length f5, .slice C6 y.runs.length f6]] w' fun e w2 => e = .returned (.agg #[.int .i64 2, .int .i64 0, .int .i64 y.no, .int .i64 y.kind, .int .i64 (y.links - 1), .int .i64 y.size, .string y.target, .slice C5 y.entries.length f5, .slice C6 y.runs.length f6]) ∧ Ext h12 w' h12 w2))
        have E13 := E12.drew
        have H1 := hid sy5
        have H2 := hid ky5
        have H3 := hid rwy5
        have H4 := hid ky6
        have H5 := hid rwy6
        clear hys sy5 ky5 rwy5 ky6 rwy6 BY7 BP7 E7 BY6 BP6 E6 m2 f2 hb12y hb12p hb11 hdd hxx rx rd
        go_region_held3 (fun w' => Ext h w h12 w') (first | with_reducible assumption | with_reducible exact Eg | with_reducible exact Ext.alloc Eg _) (first | (go_at_call 19; (with_reducible refine (KPU.out _ (Ext.sits (h := h) (h' := h12) (w := w) (by with_reducible assumption))).mono ?_); rintro e wf ⟨rfl, Fp⟩; have Eg := Ext.trans (h := h) (w := w) (h1 := h12) (by with_reducible assumption) Fp; clear Fp))
        all_goals
          go_wp2_with fail
          obtain ⟨h15, E15, hb15, le15, hh15⟩ := Eg.boxF #[.int .i64 2, .int .i64 0, .int .i64 y.no, .int .i64 y.kind, .int .i64 (y.links - 1), .int .i64 y.size, .string y.target, .slice C5 y.entries.length f5, .slice C6 y.runs.length f6, .int .i64 3, .int .i64 p.x.no, .int .i64 0, .int .i64 0, .int .i64 0, .int .i64 0, .string ⟨#[]⟩, .slice none 0 0, .slice none 0 0] 63
          go_ret2
          rw [HQ.out]
          exact ⟨some ⟨wf.heap.size, 0, none⟩, 2, h15, rfl, ⟨Nat.le_refl _, (fun e => by cases e), by decide⟩, RowAt.of_block hb15 ⟨[.int .i64 2, .int .i64 0, .int .i64 y.no, .int .i64 y.kind, .int .i64 (y.links - 1), .int .i64 y.size, .string y.target, .slice C5 y.entries.length f5, .slice C6 y.runs.length f6], _, rfl, ⟨C5, f5, C6, f6, rfl, H1.out, H2.out, H3.out.mono le15, H4.out, H5.out.mono le15⟩, [.int .i64 3, .int .i64 p.x.no, .int .i64 0, .int .i64 0, .int .i64 0, .int .i64 0, .string ⟨#[]⟩, .slice none 0 0, .slice none 0 0], [], rfl, ⟨none, 0, none, 0, rfl, Nat.zero_le _, ⟨Nat.le_refl _, fun _ => rfl, by decide⟩, RowAt.nil _ _, ⟨Nat.le_refl _, fun _ => rfl, by decide⟩, RowAt.nil _ _⟩, rfl⟩ (by show 2 ≤ 9223372036854775807; decide), E15⟩
    · have bk : (p.x.kind == 2) = false := by simpa using hk
      have bk2 : (p.x.kind != 2) = true := by simpa using hk
      have HQ := hid (show rmdirP s path = ([], 13) by unfold rmdirP; rw [HP.out, if_neg (by simp), if_pos hk])
      clear hk
      go_wp2_with fail
      go_ret2
      exact (by rw [HQ.out]; exact ⟨none, 0, h, rfl, ⟨Nat.zero_le _, fun _ => rfl, by decide⟩, RowAt.nil _ _, E4.out.back⟩)
  · have hb : (code == 0) = false := by simpa using hc
    have hb2 : (code != 0) = true := by simpa using hc
    have HQ := hid (show rmdirP s path = ([], code) by unfold rmdirP; rw [HP.out, if_pos hc])
    clear hc
    go_wp2_with fail
    go_ret2
    exact (by rw [HQ.out]; exact ⟨none, 0, h, rfl, ⟨Nat.zero_le _, fun _ => rfl, by decide⟩, RowAt.nil _ _, E4.out.back⟩)

end Go.Proofs.YtdiaibkpcnknbaaDoor
