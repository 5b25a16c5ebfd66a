import Derived.Test.YtcnbnehammbncaaDoorPathP
namespace Go.Proofs.YtcnbnehammbncaaDoor
open Go.RowKit Go.Sort
set_option linter.unusedVariables false
theorem alloc_ltS (w : World) (ob : Obj) : w.heap.size < (w.alloc ob).heap.size := by simp
/-- A state in a box that is replaced. -/
structure SBox (h : FH) (W : World) (gS : Nat) (s : State) (h' : FH) (w : World) (A1 : Option Addr) (c1 : Nat) (A2 : Option Addr) (c2 : Nat) : Prop where
  ext : Ext h W h' w
  box : w.heap[gS]? = some (.cells #[.int .i64 s.next, .slice A1 s.inodes.length c1, .slice A2 s.bads.length c2] 28 (0, 0))
  free : h' gS = none
  big : W.heap.size ≤ gS
  rep : repState h' [.int .i64 s.next, .slice A1 s.inodes.length c1, .slice A2 s.bads.length c2] s
theorem SBox.more {h : FH} {W : World} {gS : Nat} {s : State} {h' h2 : FH} {w w2 : World} {A1 A2 : Option Addr} {c1 c2 : Nat} (I : SBox h W gS s h' w A1 c1 A2 c2) (E : Ext h' w h2 w2) : SBox h W gS s h2 w2 A1 c1 A2 c2 :=
  ⟨I.ext.trans E, E.row I.box, E.none I.free (Array.getElem?_eq_some_iff.1 I.box).1, I.big, repState.mono E.le I.rep⟩
theorem SBox.put {h : FH} {W : World} {gS : Nat} {s t : State} {h' h2 : FH} {w w2 : World} {A1 A2 A3 A4 : Option Addr} {c1 c2 c3 c4 : Nat} (I : SBox h W gS s h' w A1 c1 A2 c2) (E : Ext h' w h2 w2) (r : repState h2 [.int .i64 t.next, .slice A3 t.inodes.length c3, .slice A4 t.bads.length c4] t) : SBox h W gS t h2 (((w2.setCell ⟨gS, 0, none⟩ (.int .i64 t.next)).setCell ⟨gS, 1, none⟩ (.slice A3 t.inodes.length c3)).setCell ⟨gS, 2, none⟩ (.slice A4 t.bads.length c4)) A3 c3 A4 c4 :=
  ⟨Ext.setCells (g := gS) I.big (I.more E).free [.int .i64 t.next, .slice A3 t.inodes.length c3, .slice A4 t.bads.length c4] 0 _ (I.ext.trans E), setCells_row [.int .i64 t.next, .slice A3 t.inodes.length c3, .slice A4 t.bads.length c4] (I.more E).box rfl, (I.more E).free, I.big, r⟩
theorem SBox.new {h : FH} {W : World} {s : State} {h1 : FH} {w1 : World} {A1 A2 : Option Addr} {c1 c2 : Nat} (E : Ext h W h1 w1) (r : repState h1 [.int .i64 s.next, .slice A1 s.inodes.length c1, .slice A2 s.bads.length c2] s) : SBox h W w1.heap.size s h1 (w1.alloc (.cells #[.int .i64 s.next, .slice A1 s.inodes.length c1, .slice A2 s.bads.length c2] 28)) A1 c1 A2 c2 :=
  ⟨E.alloc _, heap_new _ _, E.sits.none (Nat.le_refl _), E.size, r⟩
def midB (s : State) : Bool := decide (0 ≤ s.next) && decide (s.next ≤ 1000) && decide (s.inodes.length ≤ 300) && decide (s.bads.length ≤ 300) && s.inodes.all fun x => decide (x.entries.length ≤ 1000) && decide (-1000000 ≤ x.links) && decide (x.links ≤ 1000000)
theorem midB_all {s : State} (h : midB s = true) : 0 ≤ s.next ∧ s.next ≤ 1000 ∧ s.inodes.length ≤ 300 ∧ s.bads.length ≤ 300 ∧ ∀ x ∈ s.inodes, midI x := by
  unfold midB at h
  simp only [Bool.and_eq_true, decide_eq_true_eq, List.all_eq_true] at h
  obtain ⟨⟨⟨⟨a, b⟩, c⟩, d⟩, e⟩ := h
  exact ⟨a, b, c, d, fun x hx => ⟨(e x hx).1.1, (e x hx).1.2, (e x hx).2⟩⟩
/-- What Make leads to. -/
def madeS (s : State) (path : ByteArray) (kind : Int) (target : ByteArray) : State := applyS s (makeP s path kind target).1
theorem makeP_len (s : State) (path : ByteArray) (kind : Int) (target : ByteArray) : (makeP s path kind target).1.length ≤ 3 := by
  unfold makeP
  simp only
  repeat' split
  all_goals simp
def lineW : Nat → ByteArray
  | 0 => ⟨#[]⟩
  | k + 1 => lineW k ++ ⟨#[47, 100]⟩
def lineS : Nat → State
  | 0 => newS
  | k + 1 => madeS (lineS k) (lineW (k + 1)) 2 ⟨#[]⟩
def stateP (n : Nat) (target : ByteArray) : State := madeS (lineS n) ⟨#[47, 120]⟩ 3 target
theorem lineW_size : ∀ k, (lineW k).size = 2 * k
  | 0 => rfl
  | k + 1 => by rw [lineW, ByteArray.size_append, lineW_size k]; show 2 * k + 2 = _; omega
theorem lineS_mid : ∀ k, k < 9 → midB (lineS k) = true := by decide +kernel

set_option maxHeartbeats 8000000 in
set_option maxRecDepth 100000 in
theorem law15_state (n : Nat) (hn : n ≤ 8) (target : ByteArray) (htz : target.size ≤ 1000) (h : FH) (w : World) (hs : Sits h w) :
    Calls Tryd.prog 23 #[.int .i64 n, .string target] w fun e w' => RetState h w (stateP n target) e w' := by
  have E0 := (Ext.refl hs).alloc (.cells #[.int .i64 0, .slice none 0 0, .slice none 0 0] 28)
  have hR := heap_new w (.cells #[.int .i64 0, .slice none 0 0, .slice none 0 0] 28)
  have nR := hid (hs.none (Nat.le_refl w.heap.size))
  have hlt := alloc_ltS w (.cells #[.int .i64 0, .slice none 0 0, .slice none 0 0] 28)
  go_enter Tryd.func23, Tryd.ntmps23
  go_upto_region 1 with (fail)
  obtain ⟨gR, hgR⟩ : ∃ gR, gR = w.heap.size := ⟨_, rfl⟩
  rw [← hgR] at hR nR hlt ⊢
  have HgR := hid (show w.heap.size ≤ gR by omega)
  clear hgR
  with_reducible generalize w.alloc (.cells #[.int .i64 0, .slice none 0 0, .slice none 0 0] 28) = w0 at E0 hR hlt ⊢
  have KN := hid (ref_NewState h w0 E0.sits)
  have E0 := hid E0
  have hR := hid hR
  have hlt := hid hlt
  go_upto_region 2 with (go_at_call 19; refine KN.out.mono ?_; rintro e w1 ⟨cs, h1, rfl, rs, F1⟩; obtain ⟨A1, c1, A2, c2, rfl⟩ := rs.open; have I0 := hid (SBox.new F1 rs))
  generalize w1.heap.size = gS at *
  with_reducible generalize w1.alloc (.cells #[.int .i64 newS.next, .slice A1 newS.inodes.length c1, .slice A2 newS.bads.length c2] 28) = w2 at I0 ⊢
  go_wp2_with fail
  go_loopw [6, 7] (fun s6 i wr => ∃ (k : Nat) (h' : FH) (A1 : Option Addr) (c1 : Nat) (A2 : Option Addr) (c2 : Nat), k ≤ n ∧ i = .int .i64 k ∧ s6 = .string (lineW k) ∧ Hid (SBox h w0 gS (lineS k) h' wr A1 c1 A2 c2)) (fun _ i _ => n - (intOf i).toNat)
  case atStart => exact ⟨0, _, _, _, _, _, Nat.zero_le _, rfl, rfl, I0⟩
  case round =>
    obtain ⟨k, h', A1, c1, A2, c2, hk, rfl, rfl, I⟩ := hrel
    have hwz := lineW_size k
    by_cases hkn : k < n
    · have hmid := midB_all (lineS_mid k (by omega))
      have s0 : wr.cell? ⟨gS, 0, none⟩ = some (.int .i64 (lineS k).next) := box_cell (j := 0) I.out.box rfl
      have s1 : wr.cell? ⟨gS, 1, none⟩ = some (.slice A1 (lineS k).inodes.length c1) := box_cell (j := 1) I.out.box rfl
      have s2 : wr.cell? ⟨gS, 2, none⟩ = some (.slice A2 (lineS k).bads.length c2) := box_cell (j := 2) I.out.box rfl
      have hz1 : (lineW k).size ≤ 100 := by omega
      have KM := ref_Make (lineS k) _ (lineW k ++ ⟨#[47, 100]⟩) (by rw [ByteArray.size_append, hwz]; show 2 * k + 2 ≤ _; omega) 2 ⟨#[]⟩ (by decide) hmid.1 (by omega) hmid.2.2.2.2 h' wr I.out.ext.sits I.out.rep
      have KM := hid KM
      have HLW := hid hwz
      have hln := makeP_len (lineS k) (lineW k ++ ⟨#[47, 100]⟩) 2 ⟨#[]⟩
      have HLN := hid hln
      have HMD := hid hmid
      clear hwz hmid hln
      go_upto_region 8 with (go_at_call 20; refine KM.out.mono ?_; rintro e w3 ⟨Ad, cd, h3, rfl, kd, rd, F3⟩; have I3 := hid (I.out.more F3); have rd := hid rd; clear F3 s0 s1 s2)
      have t0 : w3.cell? ⟨gS, 0, none⟩ = some (.int .i64 (lineS k).next) := box_cell (j := 0) I3.out.box rfl
      have t1 : w3.cell? ⟨gS, 1, none⟩ = some (.slice A1 (lineS k).inodes.length c1) := box_cell (j := 1) I3.out.box rfl
      have t2 : w3.cell? ⟨gS, 2, none⟩ = some (.slice A2 (lineS k).bads.length c2) := box_cell (j := 2) I3.out.box rfl
      have KA := ref_Apply (lineS k) _ _ Ad cd (by have := HMD.out; have := HLN.out; omega) (by have := HMD.out; have := HLN.out; omega) h3 w3 I3.out.ext.sits I3.out.rep rd.out
      have KA := hid KA
      go_wp2_with (go_at_call 21; refine KA.out.mono ?_; rintro e w4 ⟨cs4, h4, rfl, rs4, F4⟩; obtain ⟨A3, c3, A4, c4, rfl⟩ := rs4.open; have I6 := hid (I3.out.put F4 rs4); have I5 := hid (I3.out.more F4); have u0 := box_cell (j := 0) (v := .int .i64 (lineS k).next) I5.out.box rfl; have f0 := box_free (j := 0) I5.out.box; have u1 := box_cell (j := 1) (v := .slice A1 (lineS k).inodes.length c1) I5.out.box rfl; have f1 := box_free (j := 1) I5.out.box; have u2 := box_cell (j := 2) (v := .slice A2 (lineS k).bads.length c2) I5.out.box rfl; have f2 := box_free (j := 2) I5.out.box; clear F4 t0 t1 t2)
      go_roundw
      case rel => exact ⟨k + 1, h4, A3, c3, A4, c4, by omega, by go_num, rfl, I6⟩
      case measure => simp [intOf]; omega
    · have hkn' : k = n := by omega
      subst hkn'
      have hmid := midB_all (lineS_mid k (by omega))
      have s0 : wr.cell? ⟨gS, 0, none⟩ = some (.int .i64 (lineS k).next) := box_cell (j := 0) I.out.box rfl
      have s1 : wr.cell? ⟨gS, 1, none⟩ = some (.slice A1 (lineS k).inodes.length c1) := box_cell (j := 1) I.out.box rfl
      have s2 : wr.cell? ⟨gS, 2, none⟩ = some (.slice A2 (lineS k).bads.length c2) := box_cell (j := 2) I.out.box rfl
      have KM := hid (ref_Make (lineS k) _ ⟨#[47, 120]⟩ (by decide) 3 target (by omega) hmid.1 (by omega) hmid.2.2.2.2 h' wr I.out.ext.sits I.out.rep)
      have HLN := hid (makeP_len (lineS k) ⟨#[47, 120]⟩ 3 target)
      have HMD := hid hmid
      clear hwz hmid
      go_upto_region 10 with (go_at_call 20; refine KM.out.mono ?_; rintro e w3 ⟨Ad, cd, h3, rfl, kd, rd, F3⟩; have I3 := hid (I.out.more F3); have rd := hid rd; clear F3 s0 s1 s2)
      have t0 : w3.cell? ⟨gS, 0, none⟩ = some (.int .i64 (lineS k).next) := box_cell (j := 0) I3.out.box rfl
      have t1 : w3.cell? ⟨gS, 1, none⟩ = some (.slice A1 (lineS k).inodes.length c1) := box_cell (j := 1) I3.out.box rfl
      have t2 : w3.cell? ⟨gS, 2, none⟩ = some (.slice A2 (lineS k).bads.length c2) := box_cell (j := 2) I3.out.box rfl
      have KA := ref_Apply (lineS k) _ _ Ad cd (by have := HMD.out; have := HLN.out; omega) (by have := HMD.out; have := HLN.out; omega) h3 w3 I3.out.ext.sits I3.out.rep rd.out
      have KA := hid KA
      go_wp2_with (go_at_call 21; refine KA.out.mono ?_; rintro e w4 ⟨cs4, h4, rfl, rs4, F4⟩; obtain ⟨A3, c3, A4, c4, rfl⟩ := rs4.open; have I5 := hid (I3.out.more F4); have RS4 := hid rs4; have hR4 := I5.out.ext.row hR.out; have u0 := box_cell (j := 0) (v := .int .i64 0) hR4 rfl; have f0 := box_free (j := 0) hR4; have u1 := box_cell (j := 1) (v := .slice none 0 0) hR4 rfl; have f1 := box_free (j := 1) hR4; have u2 := box_cell (j := 2) (v := .slice none 0 0) hR4 rfl; have f2 := box_free (j := 2) hR4; have hR4 := hid hR4; clear F4 t0 t1 t2)
      have n4 := I5.out.ext.none nR.out hlt.out
      have R7 : ((((w4.setCell ⟨gR, 0, none⟩ (.int .i64 (stateP k target).next)).setCell ⟨gR, 1, none⟩ (.slice A3 (stateP k target).inodes.length c3)).setCell ⟨gR, 2, none⟩ (.slice A4 (stateP k target).bads.length c4))).heap[gR]? = some (.cells #[.int .i64 (stateP k target).next, .slice A3 (stateP k target).inodes.length c3, .slice A4 (stateP k target).bads.length c4] 28 (0, 0)) := setCells_row [.int .i64 (stateP k target).next, .slice A3 (stateP k target).inodes.length c3, .slice A4 (stateP k target).bads.length c4] hR4.out rfl
      have E7 : Ext h w h4 (((w4.setCell ⟨gR, 0, none⟩ (.int .i64 (stateP k target).next)).setCell ⟨gR, 1, none⟩ (.slice A3 (stateP k target).inodes.length c3)).setCell ⟨gR, 2, none⟩ (.slice A4 (stateP k target).bads.length c4)) := Ext.setCells (g := gR) HgR.out n4 [.int .i64 (stateP k target).next, .slice A3 (stateP k target).inodes.length c3, .slice A4 (stateP k target).bads.length c4] 0 _ (E0.out.trans I5.out.ext)
      refine bodyPost_ret (v := .agg #[.int .i64 (stateP k target).next, .slice A3 (stateP k target).inodes.length c3, .slice A4 (stateP k target).bads.length c4]) ?_ rfl ⟨_, h4, rfl, RS4.out, E7⟩
      exact results_cell_row (p := 4) (ty := 28) (by kernel_rfl) _ _ gR 28 #[.int .i64 (stateP k target).next, .slice A3 (stateP k target).inodes.length c3, .slice A4 (stateP k target).bads.length c4] (0, 0) _ (by simp) R7 Tryd.underlying28 rfl (by kernel_rfl)
end Go.Proofs.YtcnbnehammbncaaDoor
