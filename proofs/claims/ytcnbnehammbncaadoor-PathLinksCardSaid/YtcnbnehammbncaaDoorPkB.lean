import Derived.Test.YtcnbnehammbncaaDoorPk
namespace Go.Proofs.YtcnbnehammbncaaDoor
open Go.RowKit Go.Sort
set_option linter.unusedVariables false
/-- A walk that stands at the root. -/
def RetBegin (h : FH) (w : World) (s : State) (e : Ending) (w' : World) : Prop := ∃ gp bm C h1 D cD, e = .returned (.pointer (some ⟨gp, 0, none⟩)) ∧ Ext h w h1 w' ∧ PkAt w.heap.size h1 w' gp bm D cD st0 ∧ FMap encI h1 bm C ∧ ByIs h1 s.inodes C
set_option maxHeartbeats 8000000 in
set_option maxRecDepth 100000 in
theorem path_begin (s : State) (cs : List Value) (h : FH) (w : World) (hs : Sits h w) (rS : repState h cs s) :
    Calls Tryd.prog 30 #[.agg cs.toArray] w fun e w' => RetBegin h w s e w' := by
  obtain ⟨A1, c1, A2, c2, rfl, l1, r1, l2, r2⟩ := rS
  have hl := r1.1
  obtain ⟨h1, E1, hb1, le1, hh1⟩ := (Ext.refl hs).boxF #[.int .i64 s.next, .slice A1 s.inodes.length c1, .slice A2 s.bads.length c2] 28
  have r1 := r1.mono le1
  have hmm := @run_makeMap Tryd.prog
  clear hh1 l1 l2 r2
  go_enter Tryd.func30, Tryd.ntmps30
  go_upto_region 1 with (fail)
  generalize hgS : w.heap.size = gS at *
  with_reducible generalize w.alloc (.cells #[.int .i64 s.next, .slice A1 s.inodes.length c1, .slice A2 s.bads.length c2] 28) = w1 at E1 ⊢
  go_upto_region 2 with (fail)
  have M2 := MapIs.made encI w1
  have E2 := E1.alloc (.map #[] 0)
  have O3 := OwnL.mk1 E2.sits 3 (show Enc.rep h1 [.int .i64 1] (1 : Int) from rfl)
  have E3 := E2.alloc (.cells #[.int .i64 1] 3)
  have M3 := M2.alloc (.cells #[.int .i64 1] 3)
  have n2 := E1.sits.none (Nat.le_refl _)
  have n4 := E3.sits.none (Nat.le_refl _)
  have hz2 : (w1.alloc (.map #[] 0)).heap.size = w1.heap.size + 1 := by simp
  have hz3 : ((w1.alloc (.map #[] 0)).alloc (.cells #[.int .i64 1] 3)).heap.size = w1.heap.size + 2 := by simp
  obtain ⟨bm, hbm⟩ : ∃ b, b = w1.heap.size := ⟨_, rfl⟩
  obtain ⟨g1, hg1⟩ : ∃ b, b = w1.heap.size + 1 := ⟨_, rfl⟩
  obtain ⟨gp, hgp⟩ : ∃ b, b = w1.heap.size + 2 := ⟨_, rfl⟩
  rw [← hbm] at M3 n2
  rw [← hg1] at hz2
  rw [hz2] at O3
  rw [← hgp] at hz3
  rw [hz3] at n4
  simp only [← hgp]
  simp only [← hg1]
  simp only [← hbm]
  have hw1 := E1.size
  have hwB := hid (show w.heap.size ≤ bm by omega)
  have E4 := E3.alloc (.cells #[.map (some bm), .slice (some ⟨g1, 0, none⟩) 1 1, .int .i64 1, .int .i64 0] 73)
  have M4 := hid (M3.alloc (.cells #[.map (some bm), .slice (some ⟨g1, 0, none⟩) 1 1, .int .i64 1, .int .i64 0] 73))
  have hb4 := heap_new ((w1.alloc (.map #[] 0)).alloc (.cells #[.int .i64 1] 3)) (.cells #[.map (some bm), .slice (some ⟨g1, 0, none⟩) 1 1, .int .i64 1, .int .i64 0] 73)
  rw [hz3] at hb4
  have I4 := hid (show PkAt w.heap.size h1 (((w1.alloc (.map #[] 0)).alloc (.cells #[.int .i64 1] 3)).alloc (.cells #[.map (some bm), .slice (some ⟨g1, 0, none⟩) 1 1, .int .i64 1, .int .i64 0] 73)) gp bm (some ⟨g1, 0, none⟩) 1 st0 from ⟨hb4, n4, (O3.alloc _).rebase (by omega), by omega, E4.size⟩)
  have E4 := hid E4
  have n2 := hid n2
  have hbp := hid (show bm ≠ gp by omega)
  have hb2 := hid (show bm ≠ g1 by omega)
  clear M2 E2 E3 O3 M3 n4 hz2 hz3 hb4 hbm hg1 hgp hw1
  with_reducible generalize ((w1.alloc (.map #[] 0)).alloc (.cells #[.int .i64 1] 3)).alloc (.cells #[.map (some bm), .slice (some ⟨g1, 0, none⟩) 1 1, .int .i64 1, .int .i64 0] 73) = w4 at M4 E4 I4 ⊢
  have s1 : w4.cell? ⟨gS, 1, none⟩ = some (.slice A1 s.inodes.length c1) := Sits_at E4.out.sits hb1 rfl
  have hw0 : IntKind.i64.wrap ((s.inodes.length : Int) - 1) = (s.inodes.length : Int) - 1 := by rw [IntKind.wrap_i64]; omega
  go_wp2_with fail
  go_loopw [4] (fun i wr => ∃ (k : Nat) (C : Int → Option Value), k ≤ s.inodes.length ∧ i = .int .i64 ((k : Int) - 1) ∧ Hid (ByIs h1 (s.inodes.drop k) C) ∧ Hid (MapIs encI wr bm C) ∧ Hid (PkAt w.heap.size h1 wr gp bm (some ⟨g1, 0, none⟩) 1 st0) ∧ Hid (Ext h w h1 wr)) (fun i _ => (intOf i + 1).toNat)
  case atStart => exact ⟨s.inodes.length, _, Nat.le_refl _, rfl, hid (by rw [List.drop_length]; exact ByIs.nil _), M4, I4, E4⟩
  case round =>
    obtain ⟨k, C, hk, rfl, HB, M, I, E⟩ := hrel
    clear s1
    by_cases hk0 : k = 0
    · subst hk0
      obtain ⟨h2, E2, l2, FM, hh2⟩ := M.out.freeze E.out n2.out hwB.out
      have I2 : Hid (PkAt w.heap.size h2 wr gp bm (some ⟨g1, 0, none⟩) 1 st0) := hid ⟨I.out.box, by rw [hh2 _ hbp.out.symm]; exact I.out.free, by
        obtain ⟨cc, a, b⟩ := I.out.own.own
        refine ⟨⟨cc, a, b.mono l2⟩, fun g hg => ?_⟩
        have : g = g1 := by simpa [Value.ownBlock] using hg.symm
        subst this
        rw [hh2 _ hb2.out.symm]; exact I.out.own.free _ hg, I.out.hB, I.out.hw⟩
      have hlt : ¬ ((0 : Int) ≤ (0 : Int) - 1) := by omega
      have FM := hid FM
      have E2 := hid E2
      have HB := hid (HB.out.mono l2)
      clear hh2
      go_wp2_with fail
      go_ret
      exact ⟨gp, bm, C, h2, _, _, rfl, E2.out, I2.out, FM.out, HB.out⟩
    · obtain ⟨j, rfl⟩ : ∃ j, k = j + 1 := ⟨k - 1, by omega⟩
      obtain ⟨x, hx⟩ : ∃ x, s.inodes[j]? = some x := ⟨s.inodes[j], List.getElem?_eq_getElem (by omega)⟩
      have s1 : wr.cell? ⟨gS, 1, none⟩ = some (.slice A1 s.inodes.length c1) := Sits_at E.out.sits hb1 rfl
      obtain ⟨b, off, A5, c5, A6, c6, ha, hA, ⟨z0, z1, z2, z3, z4, z5, z6⟩, RX⟩ := r1.ixInode hx E.out.sits c1
      have hdr : s.inodes.drop j = x :: s.inodes.drop (j + 1) := by
        rw [List.drop_eq_getElem_cons (by omega)]
        congr 1
        rw [List.getElem?_eq_getElem (by omega)] at hx
        simpa using hx
      have HB2 := hid (show ByIs h1 (s.inodes.drop j) (fun a => if a = x.no then some (.agg #[.int .i64 x.no, .int .i64 x.kind, .int .i64 x.links, .int .i64 x.size, .string x.target, .slice A5 x.entries.length c5, .slice A6 x.runs.length c6]) else C a) by rw [hdr]; exact HB.out.cons RX)
      have p0 := box_cell (j := 0) (v := .map (some bm)) I.out.box rfl
      obtain ⟨w', hrun, M', G⟩ := M.out.drew.update kt_path_key Tryd.underlying71 x.no (.agg #[.int .i64 x.no, .int .i64 x.kind, .int .i64 x.links, .int .i64 x.size, .string x.target, .slice A5 x.entries.length c5, .slice A6 x.runs.length c6])
      have E' := hid (E.out.drew.grown G (fun k hk => by cases hk; exact ⟨hwB.out, n2.out⟩))
      have I' : Hid (PkAt w.heap.size h1 w' gp bm (some ⟨g1, 0, none⟩) 1 st0) := hid ⟨(G.block gp I.out.lt (by simpa using hbp.out.symm)).trans I.out.box, I.out.free, I.out.own.drew.kept G (.inr (by simpa [Value.ownBlock] using hb2.out.symm)) (FLe.refl _) I.out.own.free, I.out.hB, Nat.le_trans I.out.hw G.size⟩
      have M' := hid M'
      have hrun : (Instr.mapUpdate 71 (.map (some bm)) (.agg #[.int .i64 x.no]) (.agg #[.int .i64 x.no, .int .i64 x.kind, .int .i64 x.links, .int .i64 x.size, .string x.target, .slice A5 x.entries.length c5, .slice A6 x.runs.length c6])).run Tryd.prog wr.drew = .ok () w' := hrun
      have hcj : ((j + 1 : Nat) : Int) - 1 = (j : Int) := by omega
      have hj0 : (0 : Int) ≤ (j : Int) := by omega
      have hwj : IntKind.i64.wrap ((j : Int) - 1) = (j : Int) - 1 := by rw [IntKind.wrap_i64]; omega
      rw [hcj]
      clear hx hA hdr RX hcj hk0
      go_upto_region 5 with (fail)
      go_region
      all_goals
        go_wp2_with fail
        go_roundw
        case rel => exact ⟨j, _, by omega, by go_num, HB2, M', I', E'⟩
        case measure => first | (simp [intOf]; done) | (simp [intOf]; omega)

/-- The number's inode, and why it may not be gone on from. -/
def hereC (v : Option Inode) : Int := match v with
  | none => 11
  | some x => if x.kind = 2 then 0 else 13
def RetHere (h : FH) (w : World) (v : Option Inode) (e : Ending) (w' : World) : Prop := ∃ cs h1, e = .returned (.tuple #[.agg cs.toArray, .int .i64 (hereC v)]) ∧ repInode h1 cs (v.getD zeroI) ∧ Ext h w h1 w'
theorem ByIs.get {h : FH} {xs : List Inode} {C : Int → Option Value} (b : ByIs h xs C) (no : Int) : ∃ cs : List Value, (C no).getD (.agg #[.int .i64 0, .int .i64 0, .int .i64 0, .int .i64 0, .string ⟨#[]⟩, .slice none 0 0, .slice none 0 0]) = .agg cs.toArray ∧ (C no).isSome = (findI xs no).isSome ∧ repInode h cs ((findI xs no).getD zeroI) := by
  cases e : findI xs no with
  | none => exact ⟨_, by rw [(b no).1 e]; rfl, by rw [(b no).1 e]; rfl, zeroI_rep h⟩
  | some x =>
    obtain ⟨cs, h1, h2⟩ := (b no).2 x e
    exact ⟨cs, by rw [h1]; rfl, by rw [h1]; rfl, h2⟩
set_option maxHeartbeats 8000000 in
set_option maxRecDepth 100000 in
theorem path_here (xs : List Inode) (gp bm : Nat) (C : Int → Option Value) (D : Option Addr) (cD : Nat) (B : Nat) (st : Wk) (v : Option Inode) (hv : findI xs st.at_ = v) (h : FH) (w : World) (hs : Sits h w) (I : PkAt B h w gp bm D cD st) (FM : FMap encI h bm C) (HB : ByIs h xs C) :
    Calls Tryd.prog 34 #[.pointer (some ⟨gp, 0, none⟩)] w fun e w' => RetHere h w v e w' := by
  obtain ⟨cs, hc1, hc2, hc3⟩ := HB.get st.at_
  rw [hv] at hc2 hc3
  obtain ⟨A5, c5, A6, c6, rfl⟩ := hc3.open
  obtain ⟨y, hy⟩ : ∃ y, v.getD zeroI = y := ⟨_, rfl⟩
  rw [hy] at hc1 hc3
  have HC3 := hid hc3
  have HY := hid hy
  have hlook : ∀ wx : World, Ext h w h wx → (Instr.lookup 71 (.map (some bm)) (.agg #[.int .i64 st.at_]) true).run Tryd.prog wx = .ok (.tuple #[.agg #[.int .i64 y.no, .int .i64 y.kind, .int .i64 y.links, .int .i64 y.size, .string y.target, .slice A5 y.entries.length c5, .slice A6 y.runs.length c6], .bool v.isSome]) wx := fun wx E => by
    have q := (FM wx E.sits).lookOk kt_path_key Tryd.underlying71 zero_inode st.at_
    rw [hc1, hc2] at q
    exact q
  have E1 := (Ext.refl hs).alloc (.cells #[.int .i64 0, .int .i64 0, .int .i64 0, .int .i64 0, .string ⟨#[]⟩, .slice none 0 0, .slice none 0 0] 50)
  have hR := heap_new w (.cells #[.int .i64 0, .int .i64 0, .int .i64 0, .int .i64 0, .string ⟨#[]⟩, .slice none 0 0, .slice none 0 0] 50)
  have nR := hs.none (Nat.le_refl w.heap.size)
  have HgR := hid (Nat.le_refl w.heap.size)
  have I1 := I.more E1
  have hlt1 : w.heap.size < (w.alloc (.cells #[.int .i64 0, .int .i64 0, .int .i64 0, .int .i64 0, .string ⟨#[]⟩, .slice none 0 0, .slice none 0 0] 50)).heap.size := by simp
  go_enter Tryd.func34, Tryd.ntmps34
  go_upto_region 1 with (fail)
  with_reducible generalize w.alloc (.cells #[.int .i64 0, .int .i64 0, .int .i64 0, .int .i64 0, .string ⟨#[]⟩, .slice none 0 0, .slice none 0 0] 50) = W1 at E1 hR I1 hlt1 ⊢
  obtain ⟨gR, hgR⟩ : ∃ gR, gR = w.heap.size := ⟨_, rfl⟩
  rw [← hgR] at hR nR hlt1 ⊢
  have HgR := hid (show w.heap.size ≤ gR by omega)
  clear hgR
  have hlk := hlook _ E1.drew
  have hlk2 := hlook _ (E1.alloc (.cells #[.int .i64 0, .int .i64 0, .int .i64 0, .int .i64 0, .string ⟨#[]⟩, .slice none 0 0, .slice none 0 0] 50)).drew
  have b0 : W1.cell? ⟨gp, 0, none⟩ = some (.map (some bm)) := box_cell (j := 0) I1.box rfl
  have b2 : W1.cell? ⟨gp, 2, none⟩ = some (.int .i64 st.at_) := box_cell (j := 2) I1.box rfl
  have a0 := keep1 b0 (.cells #[.int .i64 0, .int .i64 0, .int .i64 0, .int .i64 0, .string ⟨#[]⟩, .slice none 0 0, .slice none 0 0] 50)
  have a2 := keep1 b2 (.cells #[.int .i64 0, .int .i64 0, .int .i64 0, .int .i64 0, .string ⟨#[]⟩, .slice none 0 0, .slice none 0 0] 50)
  have z0 := box_alloc hR (.cells #[.int .i64 0, .int .i64 0, .int .i64 0, .int .i64 0, .string ⟨#[]⟩, .slice none 0 0, .slice none 0 0] 50)
  have hRR := hid hR
  have hX := heap_new W1 (.cells #[.int .i64 0, .int .i64 0, .int .i64 0, .int .i64 0, .string ⟨#[]⟩, .slice none 0 0, .slice none 0 0] 50)
  have nX := E1.sits.none (Nat.le_refl _)
  have E2 := E1.alloc (.cells #[.int .i64 0, .int .i64 0, .int .i64 0, .int .i64 0, .string ⟨#[]⟩, .slice none 0 0, .slice none 0 0] 50)
  have x0 : (W1.alloc (.cells #[.int .i64 0, .int .i64 0, .int .i64 0, .int .i64 0, .string ⟨#[]⟩, .slice none 0 0, .slice none 0 0] 50)).cell? ⟨W1.heap.size, 0, none⟩ = some (.int .i64 0) := box_cell (j := 0) hX rfl
  have f0 := box_free (j := 0) hX
  have x1 : (W1.alloc (.cells #[.int .i64 0, .int .i64 0, .int .i64 0, .int .i64 0, .string ⟨#[]⟩, .slice none 0 0, .slice none 0 0] 50)).cell? ⟨W1.heap.size, 1, none⟩ = some (.int .i64 0) := box_cell (j := 1) hX rfl
  have f1 := box_free (j := 1) hX
  have x2 : (W1.alloc (.cells #[.int .i64 0, .int .i64 0, .int .i64 0, .int .i64 0, .string ⟨#[]⟩, .slice none 0 0, .slice none 0 0] 50)).cell? ⟨W1.heap.size, 2, none⟩ = some (.int .i64 0) := box_cell (j := 2) hX rfl
  have f2 := box_free (j := 2) hX
  have x3 : (W1.alloc (.cells #[.int .i64 0, .int .i64 0, .int .i64 0, .int .i64 0, .string ⟨#[]⟩, .slice none 0 0, .slice none 0 0] 50)).cell? ⟨W1.heap.size, 3, none⟩ = some (.int .i64 0) := box_cell (j := 3) hX rfl
  have f3 := box_free (j := 3) hX
  have x4 : (W1.alloc (.cells #[.int .i64 0, .int .i64 0, .int .i64 0, .int .i64 0, .string ⟨#[]⟩, .slice none 0 0, .slice none 0 0] 50)).cell? ⟨W1.heap.size, 4, none⟩ = some (.string ⟨#[]⟩) := box_cell (j := 4) hX rfl
  have f4 := box_free (j := 4) hX
  have x5 : (W1.alloc (.cells #[.int .i64 0, .int .i64 0, .int .i64 0, .int .i64 0, .string ⟨#[]⟩, .slice none 0 0, .slice none 0 0] 50)).cell? ⟨W1.heap.size, 5, none⟩ = some (.slice none 0 0) := box_cell (j := 5) hX rfl
  have f5 := box_free (j := 5) hX
  have x6 : (W1.alloc (.cells #[.int .i64 0, .int .i64 0, .int .i64 0, .int .i64 0, .string ⟨#[]⟩, .slice none 0 0, .slice none 0 0] 50)).cell? ⟨W1.heap.size, 6, none⟩ = some (.slice none 0 0) := box_cell (j := 6) hX rfl
  have f6 := box_free (j := 6) hX
  have HgX := hid E1.size
  have hRX := hid (show gR ≠ W1.heap.size by omega)
  have E2 := hid E2
  have hX := hid hX
  have z0 := hid z0
  have nR := hid nR
  have nX := hid nX
  have HC4 := hid hc3
  have HLT1 := hid hlt1
  clear hlook hc1 hc2 hR HB FM I1 hlt1 hc3
  have ER := hid (Ext.refl E1.sits)
  have E1 := hid E1
  have L1 := hid (FLe.refl h)
  go_cut [4, 5] (fun s4 s5 wx => s5 = .bool v.isSome ∧ InBox h W1 h y s4 wx ∧ Hid (wx.heap[gR]? = some (.cells #[.int .i64 0, .int .i64 0, .int .i64 0, .int .i64 0, .string ⟨#[]⟩, .slice none 0 0, .slice none 0 0] 50 (0, 0))))
  case first =>
    go_region
    all_goals
      go_wp2_with fail
      go_meet
      exact ⟨rfl, InBox.drewB (InBox.last ER.out L1.out HC4.out), hid (box_alloc hRR.out _)⟩
  case rest =>
    obtain ⟨rfl, ⟨g, h3, A5, c5, A6, c6, rfl, E3, l3, hb3, R3, hg3⟩, Z3⟩ := hcut
    have n3 := hid (E3.none nR.out HLT1.out)
    have m0 : wc.cell? ⟨g, 0, none⟩ = some (.int .i64 y.no) := Sits_at E3.sits hb3 rfl
    have m1 : wc.cell? ⟨g, 1, none⟩ = some (.int .i64 y.kind) := Sits_at E3.sits hb3 rfl
    have m2 : wc.cell? ⟨g, 2, none⟩ = some (.int .i64 y.links) := Sits_at E3.sits hb3 rfl
    have m3 : wc.cell? ⟨g, 3, none⟩ = some (.int .i64 y.size) := Sits_at E3.sits hb3 rfl
    have m4 : wc.cell? ⟨g, 4, none⟩ = some (.string y.target) := Sits_at E3.sits hb3 rfl
    have m5 : wc.cell? ⟨g, 5, none⟩ = some (.slice A5 y.entries.length c5) := Sits_at E3.sits hb3 rfl
    have m6 : wc.cell? ⟨g, 6, none⟩ = some (.slice A6 y.runs.length c6) := Sits_at E3.sits hb3 rfl
    have n10 : wc.cell? ⟨gR, 0, none⟩ = some (.int .i64 0) := box_cell (j := 0) Z3.out rfl
    have q0 := box_free (j := 0) Z3.out
    have n11 : wc.cell? ⟨gR, 1, none⟩ = some (.int .i64 0) := box_cell (j := 1) Z3.out rfl
    have q1 := box_free (j := 1) Z3.out
    have n12 : wc.cell? ⟨gR, 2, none⟩ = some (.int .i64 0) := box_cell (j := 2) Z3.out rfl
    have q2 := box_free (j := 2) Z3.out
    have n13 : wc.cell? ⟨gR, 3, none⟩ = some (.int .i64 0) := box_cell (j := 3) Z3.out rfl
    have q3 := box_free (j := 3) Z3.out
    have n14 : wc.cell? ⟨gR, 4, none⟩ = some (.string ⟨#[]⟩) := box_cell (j := 4) Z3.out rfl
    have q4 := box_free (j := 4) Z3.out
    have n15 : wc.cell? ⟨gR, 5, none⟩ = some (.slice none 0 0) := box_cell (j := 5) Z3.out rfl
    have q5 := box_free (j := 5) Z3.out
    have n16 : wc.cell? ⟨gR, 6, none⟩ = some (.slice none 0 0) := box_cell (j := 6) Z3.out rfl
    have q6 := box_free (j := 6) Z3.out
    have E3 := hid (E1.out.trans E3)
    have R3 := hid R3
    clear a0 a2 hlk hlk2 b0 b2 x0 f0 x1 f1 x2 f2 x3 f3 x4 f4 x5 f5 x6 f6 hb3 l3 hg3
    cases v with
    | none =>
      have b5 : (none : Option Inode).isSome = false := rfl
      go_wp2_with fail
      have E7 : Ext h w h3 (((((((wc.setCell ⟨gR, 0, none⟩ (.int .i64 y.no)).setCell ⟨gR, 1, none⟩ (.int .i64 y.kind)).setCell ⟨gR, 2, none⟩ (.int .i64 y.links)).setCell ⟨gR, 3, none⟩ (.int .i64 y.size)).setCell ⟨gR, 4, none⟩ (.string y.target)).setCell ⟨gR, 5, none⟩ (.slice A5 y.entries.length c5)).setCell ⟨gR, 6, none⟩ (.slice A6 y.runs.length c6)) := Ext.setCells (g := gR) HgR.out n3.out [.int .i64 y.no, .int .i64 y.kind, .int .i64 y.links, .int .i64 y.size, .string y.target, .slice A5 y.entries.length c5, .slice A6 y.runs.length c6] 0 _ E3.out
      have R7 : ((((((((wc.setCell ⟨gR, 0, none⟩ (.int .i64 y.no)).setCell ⟨gR, 1, none⟩ (.int .i64 y.kind)).setCell ⟨gR, 2, none⟩ (.int .i64 y.links)).setCell ⟨gR, 3, none⟩ (.int .i64 y.size)).setCell ⟨gR, 4, none⟩ (.string y.target)).setCell ⟨gR, 5, none⟩ (.slice A5 y.entries.length c5)).setCell ⟨gR, 6, none⟩ (.slice A6 y.runs.length c6))).heap[gR]? = some (.cells #[.int .i64 y.no, .int .i64 y.kind, .int .i64 y.links, .int .i64 y.size, .string y.target, .slice A5 y.entries.length c5, .slice A6 y.runs.length c6] 50 (0, 0)) := setCells_row [.int .i64 y.no, .int .i64 y.kind, .int .i64 y.links, .int .i64 y.size, .string y.target, .slice A5 y.entries.length c5, .slice A6 y.runs.length c6] Z3.out rfl
      with_reducible generalize (((((((wc.setCell ⟨gR, 0, none⟩ (.int .i64 y.no)).setCell ⟨gR, 1, none⟩ (.int .i64 y.kind)).setCell ⟨gR, 2, none⟩ (.int .i64 y.links)).setCell ⟨gR, 3, none⟩ (.int .i64 y.size)).setCell ⟨gR, 4, none⟩ (.string y.target)).setCell ⟨gR, 5, none⟩ (.slice A5 y.entries.length c5)).setCell ⟨gR, 6, none⟩ (.slice A6 y.runs.length c6)) = W9 at E7 R7 ⊢
      have y0 : W9.cell? ⟨gR, 0, none⟩ = some (.int .i64 y.no) := box_cell (j := 0) R7 rfl
      have y1 : W9.cell? ⟨gR, 1, none⟩ = some (.int .i64 y.kind) := box_cell (j := 1) R7 rfl
      have y2 : W9.cell? ⟨gR, 2, none⟩ = some (.int .i64 y.links) := box_cell (j := 2) R7 rfl
      have y3 : W9.cell? ⟨gR, 3, none⟩ = some (.int .i64 y.size) := box_cell (j := 3) R7 rfl
      have y4 : W9.cell? ⟨gR, 4, none⟩ = some (.string y.target) := box_cell (j := 4) R7 rfl
      have y5 : W9.cell? ⟨gR, 5, none⟩ = some (.slice A5 y.entries.length c5) := box_cell (j := 5) R7 rfl
      have y6 : W9.cell? ⟨gR, 6, none⟩ = some (.slice A6 y.runs.length c6) := box_cell (j := 6) R7 rfl
      refine bodyPost_ret (v := .tuple #[.agg #[.int .i64 y.no, .int .i64 y.kind, .int .i64 y.links, .int .i64 y.size, .string y.target, .slice A5 y.entries.length c5, .slice A6 y.runs.length c6], .int .i64 (11)]) (by simp [results, Tryd.results34, go_sem, y0, y1, y2, y3, y4, y5, y6]) rfl ⟨_, h3, rfl, by rw [HY.out]; exact R3.out, E7⟩
    | some x =>
      have b5 : (some x).isSome = true := rfl
      obtain rfl : x = y := HY.out
      by_cases hk : x.kind = 2
      · have b2 : (x.kind == 2) = true := by simpa using hk
        have b3 : (x.kind != 2) = false := by simpa using hk
        have HQ := hid (show hereC (some x) = 0 by unfold hereC; simp [hk])
        clear hk
        go_wp2_with fail
        have E7 : Ext h w h3 (((((((wc.setCell ⟨gR, 0, none⟩ (.int .i64 x.no)).setCell ⟨gR, 1, none⟩ (.int .i64 x.kind)).setCell ⟨gR, 2, none⟩ (.int .i64 x.links)).setCell ⟨gR, 3, none⟩ (.int .i64 x.size)).setCell ⟨gR, 4, none⟩ (.string x.target)).setCell ⟨gR, 5, none⟩ (.slice A5 x.entries.length c5)).setCell ⟨gR, 6, none⟩ (.slice A6 x.runs.length c6)) := Ext.setCells (g := gR) HgR.out n3.out [.int .i64 x.no, .int .i64 x.kind, .int .i64 x.links, .int .i64 x.size, .string x.target, .slice A5 x.entries.length c5, .slice A6 x.runs.length c6] 0 _ E3.out
        have R7 : ((((((((wc.setCell ⟨gR, 0, none⟩ (.int .i64 x.no)).setCell ⟨gR, 1, none⟩ (.int .i64 x.kind)).setCell ⟨gR, 2, none⟩ (.int .i64 x.links)).setCell ⟨gR, 3, none⟩ (.int .i64 x.size)).setCell ⟨gR, 4, none⟩ (.string x.target)).setCell ⟨gR, 5, none⟩ (.slice A5 x.entries.length c5)).setCell ⟨gR, 6, none⟩ (.slice A6 x.runs.length c6))).heap[gR]? = some (.cells #[.int .i64 x.no, .int .i64 x.kind, .int .i64 x.links, .int .i64 x.size, .string x.target, .slice A5 x.entries.length c5, .slice A6 x.runs.length c6] 50 (0, 0)) := setCells_row [.int .i64 x.no, .int .i64 x.kind, .int .i64 x.links, .int .i64 x.size, .string x.target, .slice A5 x.entries.length c5, .slice A6 x.runs.length c6] Z3.out rfl
        with_reducible generalize (((((((wc.setCell ⟨gR, 0, none⟩ (.int .i64 x.no)).setCell ⟨gR, 1, none⟩ (.int .i64 x.kind)).setCell ⟨gR, 2, none⟩ (.int .i64 x.links)).setCell ⟨gR, 3, none⟩ (.int .i64 x.size)).setCell ⟨gR, 4, none⟩ (.string x.target)).setCell ⟨gR, 5, none⟩ (.slice A5 x.entries.length c5)).setCell ⟨gR, 6, none⟩ (.slice A6 x.runs.length c6)) = W9 at E7 R7 ⊢
        have y0 : W9.cell? ⟨gR, 0, none⟩ = some (.int .i64 x.no) := box_cell (j := 0) R7 rfl
        have y1 : W9.cell? ⟨gR, 1, none⟩ = some (.int .i64 x.kind) := box_cell (j := 1) R7 rfl
        have y2 : W9.cell? ⟨gR, 2, none⟩ = some (.int .i64 x.links) := box_cell (j := 2) R7 rfl
        have y3 : W9.cell? ⟨gR, 3, none⟩ = some (.int .i64 x.size) := box_cell (j := 3) R7 rfl
        have y4 : W9.cell? ⟨gR, 4, none⟩ = some (.string x.target) := box_cell (j := 4) R7 rfl
        have y5 : W9.cell? ⟨gR, 5, none⟩ = some (.slice A5 x.entries.length c5) := box_cell (j := 5) R7 rfl
        have y6 : W9.cell? ⟨gR, 6, none⟩ = some (.slice A6 x.runs.length c6) := box_cell (j := 6) R7 rfl
        refine bodyPost_ret (v := .tuple #[.agg #[.int .i64 x.no, .int .i64 x.kind, .int .i64 x.links, .int .i64 x.size, .string x.target, .slice A5 x.entries.length c5, .slice A6 x.runs.length c6], .int .i64 (0)]) (by simp [results, Tryd.results34, go_sem, y0, y1, y2, y3, y4, y5, y6]) rfl ⟨_, h3, by rw [HQ.out], R3.out, E7⟩
      · have b2 : (x.kind == 2) = false := by simpa using hk
        have b3 : (x.kind != 2) = true := by simpa using hk
        have HQ := hid (show hereC (some x) = 13 by unfold hereC; simp [hk])
        clear hk
        go_wp2_with fail
        have E7 : Ext h w h3 (((((((wc.setCell ⟨gR, 0, none⟩ (.int .i64 x.no)).setCell ⟨gR, 1, none⟩ (.int .i64 x.kind)).setCell ⟨gR, 2, none⟩ (.int .i64 x.links)).setCell ⟨gR, 3, none⟩ (.int .i64 x.size)).setCell ⟨gR, 4, none⟩ (.string x.target)).setCell ⟨gR, 5, none⟩ (.slice A5 x.entries.length c5)).setCell ⟨gR, 6, none⟩ (.slice A6 x.runs.length c6)) := Ext.setCells (g := gR) HgR.out n3.out [.int .i64 x.no, .int .i64 x.kind, .int .i64 x.links, .int .i64 x.size, .string x.target, .slice A5 x.entries.length c5, .slice A6 x.runs.length c6] 0 _ E3.out
        have R7 : ((((((((wc.setCell ⟨gR, 0, none⟩ (.int .i64 x.no)).setCell ⟨gR, 1, none⟩ (.int .i64 x.kind)).setCell ⟨gR, 2, none⟩ (.int .i64 x.links)).setCell ⟨gR, 3, none⟩ (.int .i64 x.size)).setCell ⟨gR, 4, none⟩ (.string x.target)).setCell ⟨gR, 5, none⟩ (.slice A5 x.entries.length c5)).setCell ⟨gR, 6, none⟩ (.slice A6 x.runs.length c6))).heap[gR]? = some (.cells #[.int .i64 x.no, .int .i64 x.kind, .int .i64 x.links, .int .i64 x.size, .string x.target, .slice A5 x.entries.length c5, .slice A6 x.runs.length c6] 50 (0, 0)) := setCells_row [.int .i64 x.no, .int .i64 x.kind, .int .i64 x.links, .int .i64 x.size, .string x.target, .slice A5 x.entries.length c5, .slice A6 x.runs.length c6] Z3.out rfl
        with_reducible generalize (((((((wc.setCell ⟨gR, 0, none⟩ (.int .i64 x.no)).setCell ⟨gR, 1, none⟩ (.int .i64 x.kind)).setCell ⟨gR, 2, none⟩ (.int .i64 x.links)).setCell ⟨gR, 3, none⟩ (.int .i64 x.size)).setCell ⟨gR, 4, none⟩ (.string x.target)).setCell ⟨gR, 5, none⟩ (.slice A5 x.entries.length c5)).setCell ⟨gR, 6, none⟩ (.slice A6 x.runs.length c6)) = W9 at E7 R7 ⊢
        have y0 : W9.cell? ⟨gR, 0, none⟩ = some (.int .i64 x.no) := box_cell (j := 0) R7 rfl
        have y1 : W9.cell? ⟨gR, 1, none⟩ = some (.int .i64 x.kind) := box_cell (j := 1) R7 rfl
        have y2 : W9.cell? ⟨gR, 2, none⟩ = some (.int .i64 x.links) := box_cell (j := 2) R7 rfl
        have y3 : W9.cell? ⟨gR, 3, none⟩ = some (.int .i64 x.size) := box_cell (j := 3) R7 rfl
        have y4 : W9.cell? ⟨gR, 4, none⟩ = some (.string x.target) := box_cell (j := 4) R7 rfl
        have y5 : W9.cell? ⟨gR, 5, none⟩ = some (.slice A5 x.entries.length c5) := box_cell (j := 5) R7 rfl
        have y6 : W9.cell? ⟨gR, 6, none⟩ = some (.slice A6 x.runs.length c6) := box_cell (j := 6) R7 rfl
        refine bodyPost_ret (v := .tuple #[.agg #[.int .i64 x.no, .int .i64 x.kind, .int .i64 x.links, .int .i64 x.size, .string x.target, .slice A5 x.entries.length c5, .slice A6 x.runs.length c6], .int .i64 (13)]) (by simp [results, Tryd.results34, go_sem, y0, y1, y2, y3, y4, y5, y6]) rfl ⟨_, h3, by rw [HQ.out], R3.out, E7⟩

/-- Behind a method that goes on. -/
def RetBack (B : Nat) (h : FH) (w : World) (gp bm : Nat) (st : Wk) (e : Ending) (w' : World) : Prop := ∃ D cD, e = .returned (.tuple #[]) ∧ PkAt B h w' gp bm D cD st ∧ BExt B h w h w'
set_option maxHeartbeats 8000000 in
set_option maxRecDepth 100000 in
theorem path_back (gp bm : Nat) (D : Option Addr) (cD : Nat) (B : Nat) (st : Wk) (hk1 : 1 ≤ st.kept.length) (hk2 : st.kept.length ≤ 1000000) (h : FH) (w : World) (hs : Sits h w) (I : PkAt B h w gp bm D cD st) :
    Calls Tryd.prog 63 #[.pointer (some ⟨gp, 0, none⟩)] w fun e w' => RetBack B h w gp bm ⟨backK st.kept, (backK st.kept).getLast?.getD 0, st.loops⟩ e w' := by
  obtain ⟨ks, hks⟩ : ∃ ks, backK st.kept = ks := ⟨_, rfl⟩
  have HKS := hid hks
  have hkl := backK_len st.kept hk1
  rw [hks] at hkl
  rw [hks]
  clear hks
  have II := hid I
  have c1 := box_cell (j := 1) (v := .slice D st.kept.length cD) I.box rfl
  have hDn : D ≠ none := by
    obtain ⟨g2, cap2, cs2, hv2, _⟩ := I.own.get (List.getElem?_eq_getElem (show 0 < st.kept.length by omega))
    simp only [Value.slice.injEq] at hv2
    rw [hv2.1]; simp
  have HDN := hid hDn
  clear hDn
  go_enter Tryd.func63, Tryd.ntmps63
  go_upto_if 7 with (fail)
  go_cut [0] (fun s0 wx => s0 = .pointer (some ⟨gp, 0, none⟩) ∧ ∃ D' c', Hid (PkAt B h wx gp bm D' c' { st with kept := ks }) ∧ Hid (BExt B h w h wx))
  case first =>
    by_cases h1k : 1 < st.kept.length
    · obtain ⟨n, hn⟩ : ∃ n, st.kept.length = n + 1 := ⟨st.kept.length - 1, by omega⟩
      have HKD := hid (show ks = st.kept.take n by rw [← HKS.out]; unfold backK; rw [if_pos h1k, List.dropLast_eq_take, hn]; rfl)
      have hcl : (n : Int) ≤ (cD : Int) := by obtain ⟨A, c, hv, hc⟩ := I.own.slice; simp only [Value.slice.injEq, true_and] at hv; omega
      have hwr : IntKind.i64.wrap ((st.kept.length : Int) - 1) = (n : Int) := by rw [IntKind.wrap_i64]; omega
      have hn0 : (0 : Int) ≤ (n : Int) := by omega
      have hkn : ks.length = n := by rw [HKD.out, List.length_take]; omega
      have O2 := hid (show OwnL h w B 3 (.slice D ks.length cD) ks by rw [hkn, HKD.out]; exact I.own.takeO n (by omega) HDN.out)
      have HKN := hid hkn
      have f1 := box_free (j := 1) I.box
      clear hn hkn
      go_upto_region 1 with (fail)
      go_region
      all_goals
        go_wp2_with fail
        go_meet
        exact ⟨rfl, D, cD, hid (by rw [← HKN.out]; exact PkAt.drewP (II.out.keep O2.out)), hid (((BExt.refl hs).set II.out.hB II.out.free _).drew)⟩
    · have HKD := hid (show ks = st.kept by rw [← HKS.out]; unfold backK; rw [if_neg h1k])
      go_wp2_with fail
      go_meet
      exact ⟨rfl, D, cD, hid (by rw [HKD.out]; exact II.out), hid (BExt.refl hs)⟩
  case rest =>
    obtain ⟨rfl, D', c', I5, X5⟩ := hcut
    obtain ⟨n, hn⟩ : ∃ n, ks.length = n + 1 := ⟨ks.length - 1, by omega⟩
    have hwr : IntKind.i64.wrap ((ks.length : Int) - 1) = (n : Int) := by rw [IntKind.wrap_i64]; omega
    obtain ⟨y, hy⟩ : ∃ y, ks[n]? = some y := ⟨ks[n], List.getElem?_eq_getElem (by omega)⟩
    have HLY := hid (show ks.getLast?.getD 0 = y by rw [List.getLast?_eq_getElem?, hn]; simp [hy])
    obtain ⟨g2, cap2, cs2, hv2, _, _, _, rr, hcc, hfr⟩ := I5.out.own.get hy
    have hcs : cs2 = [.int .i64 y] := rr
    subst hcs
    have d0 : wc.cell? ⟨g2, n, none⟩ = some (.int .i64 y) := by have := hcc 0 _ rfl; rwa [show n * Enc.sz Int + 0 = n from by show n * 1 + 0 = n; omega] at this
    obtain ⟨rfl, hq, rfl⟩ : D' = some ⟨g2, 0, none⟩ ∧ ks.length = ks.length ∧ c' = cap2 := by simpa using hv2
    have z1 := box_cell (j := 1) (v := .slice (some ⟨g2, 0, none⟩) ks.length c') I5.out.box rfl
    have z2 := box_cell (j := 2) (v := .int .i64 st.at_) I5.out.box rfl
    have e2 := box_free (j := 2) I5.out.box
    have hn0 : (0 : Int) ≤ (n : Int) := by omega
    have hn1 : (n : Int) < (ks.length : Int) := by omega
    clear hy hn c1 hcc hfr hv2 hq rr
    go_upto_region 2 with (fail)
    go_region
    all_goals
      go_wp2_with fail
      go_end0
      exact ⟨_, _, rfl, by rw [HLY.out]; exact PkAt.drewP (I5.out.at_ y), (X5.out.set I5.out.hB I5.out.free _).drew⟩
end Go.Proofs.YtcnbnehammbncaaDoor
