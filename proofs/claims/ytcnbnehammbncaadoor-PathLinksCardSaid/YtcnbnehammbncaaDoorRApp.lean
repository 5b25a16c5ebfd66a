import Derived.Test.YtcnbnehammbncaaDoorRPut
import Derived.Test.YtcnbnehammbncaaDoorStApp
namespace Go.Proofs.YtcnbnehammbncaaDoor
open Go.RowKit Go.Sort
set_option linter.unusedVariables false
structure InRA (h : FH) (w : World) (gS gR : Nat) (t : State) (h' : FH) (wr : World) (A3 : Option Addr) (c3 : Nat) (A4 : Option Addr) (c4 : Nat) : Prop where
  ext : Ext h w h' wr
  box : wr.heap[gS]? = some (.cells #[.int .i64 t.next, .slice A3 t.inodes.length c3, .slice A4 t.bads.length c4] 28 (0, 0))
  out : wr.heap[gR]? = some (.cells #[.int .i64 0, .slice none 0 0, .slice none 0 0] 28 (0, 0))
  k1 : CapLe A3 t.inodes.length c3
  r1 : RowAt h' A3 t.inodes
  k2 : CapLe A4 t.bads.length c4
  r2 : RowAt h' A4 t.bads
  nS : h' gS = none
  nR : h' gR = none
theorem InRA.more {h : FH} {w : World} {gS gR : Nat} {t : State} {h' h2 : FH} {wr w2 : World} {A3 : Option Addr} {c3 : Nat} {A4 : Option Addr} {c4 : Nat} (I : InRA h w gS gR t h' wr A3 c3 A4 c4) (E : Ext h' wr h2 w2) : InRA h w gS gR t h2 w2 A3 c3 A4 c4 :=
  ⟨I.ext.trans E, E.row I.box, E.row I.out, I.k1, I.r1.mono E.le, I.k2, I.r2.mono E.le, E.none I.nS (Array.getElem?_eq_some_iff.1 I.box).1, E.none I.nR (Array.getElem?_eq_some_iff.1 I.out).1⟩
theorem InRA.next {h : FH} {w : World} {gS gR : Nat} {t : State} {h' : FH} {wr : World} {A3 : Option Addr} {c3 : Nat} {A4 : Option Addr} {c4 : Nat} (I : InRA h w gS gR t h' wr A3 c3 A4 c4) (hw : w.heap.size ≤ gS) (hSR : gS ≠ gR) (n : Int) : InRA h w gS gR { t with next := n } h' (wr.setCell ⟨gS, 0, none⟩ (.int .i64 n)) A3 c3 A4 c4 :=
  ⟨I.ext.setCell hw I.nS _, box_set (i := 0) I.box _, box_other (i := 0) I.out (fun e => hSR e.symm) _, I.k1, I.r1, I.k2, I.r2, I.nS, I.nR⟩
theorem InRA.ino {h : FH} {w : World} {gS gR : Nat} {t : State} {h' : FH} {wr : World} {A3 : Option Addr} {c3 : Nat} {A4 : Option Addr} {c4 : Nat} (I : InRA h w gS gR t h' wr A3 c3 A4 c4) (hw : w.heap.size ≤ gS) (hSR : gS ≠ gR) {A : Option Addr} {c : Nat} {xs : List Inode} (k : CapLe A xs.length c) (r : RowAt h' A xs) : InRA h w gS gR { t with inodes := xs } h' (wr.setCell ⟨gS, 1, none⟩ (.slice A xs.length c)) A c A4 c4 :=
  ⟨I.ext.setCell hw I.nS _, box_set (i := 1) I.box _, box_other (i := 1) I.out (fun e => hSR e.symm) _, k, r, I.k2, I.r2, I.nS, I.nR⟩
theorem InRA.bad {h : FH} {w : World} {gS gR : Nat} {t : State} {h' : FH} {wr : World} {A3 : Option Addr} {c3 : Nat} {A4 : Option Addr} {c4 : Nat} (I : InRA h w gS gR t h' wr A3 c3 A4 c4) (hw : w.heap.size ≤ gS) (hSR : gS ≠ gR) {A : Option Addr} {c : Nat} {xs : List Int} (k : CapLe A xs.length c) (r : RowAt h' A xs) : InRA h w gS gR { t with bads := xs } h' (wr.setCell ⟨gS, 2, none⟩ (.slice A xs.length c)) A3 c3 A c :=
  ⟨I.ext.setCell hw I.nS _, box_set (i := 2) I.box _, box_other (i := 2) I.out (fun e => hSR e.symm) _, I.k1, I.r1, k, r, I.nS, I.nR⟩
theorem filter_snoc {xs : List Inode} {j : Nat} {x : Inode} (p : Inode → Bool) (hx : xs[j]? = some x) : (xs.take (j + 1)).filter p = if p x then (xs.take j).filter p ++ [x] else (xs.take j).filter p := by
  rw [take_snoc hx, List.filter_append]
  cases e : p x <;> simp [e]

set_option maxHeartbeats 8000000 in
set_option maxRecDepth 100000 in
theorem ref_Apply (s : State) (cs : List Value) (ds : List Deed) (AD : Option Addr) (cD : Nat) (hb1 : s.inodes.length + ds.length ≤ 900) (hb2 : s.bads.length + ds.length ≤ 900) (h : FH) (w : World) (hs : Sits h w) (r : repState h cs s) (rd : RowAt h AD ds) :
    Calls Tryd.prog 21 #[.agg cs.toArray, .slice AD ds.length cD] w fun e w' => RetState h w (applyS s ds) e w' := by
  obtain ⟨A1, c1, A2, c2, rfl, l1, r1, l2, r2⟩ := r
  have hld := rd.1
  have E1 := (Ext.refl hs).alloc (.cells #[.int .i64 s.next, .slice A1 s.inodes.length c1, .slice A2 s.bads.length c2] 28)
  have E2 := E1.alloc (.cells #[.int .i64 0, .slice none 0 0, .slice none 0 0] 28)
  have hS := box_alloc (heap_new w (.cells #[.int .i64 s.next, .slice A1 s.inodes.length c1, .slice A2 s.bads.length c2] 28)) (.cells #[.int .i64 0, .slice none 0 0, .slice none 0 0] 28)
  have hR := heap_new (w.alloc (.cells #[.int .i64 s.next, .slice A1 s.inodes.length c1, .slice A2 s.bads.length c2] 28)) (.cells #[.int .i64 0, .slice none 0 0, .slice none 0 0] 28)
  have nS := hs.none (Nat.le_refl w.heap.size)
  have nR := E1.sits.none (Nat.le_refl _)
  have hszR : (w.alloc (.cells #[.int .i64 s.next, .slice A1 s.inodes.length c1, .slice A2 s.bads.length c2] 28)).heap.size = w.heap.size + 1 := by simp
  clear E1
  go_enter Tryd.func21, Tryd.ntmps21
  go_upto_region 1 with (fail)
  rw [hszR] at hR nR
  obtain ⟨gS, hgS⟩ : ∃ gS, gS = w.heap.size := ⟨_, rfl⟩
  obtain ⟨gR, hgR⟩ : ∃ gR, gR = w.heap.size + 1 := ⟨_, rfl⟩
  rw [← hgS] at hS nS
  rw [← hgR] at hR nR
  rw [← hgR, ← hgS]
  with_reducible generalize (w.alloc (.cells #[.int .i64 s.next, .slice A1 s.inodes.length c1, .slice A2 s.bads.length c2] 28)).alloc (.cells #[.int .i64 0, .slice none 0 0, .slice none 0 0] 28) = W2 at E2 hS hR ⊢
  have hwS : w.heap.size ≤ gS := by omega
  have hwR : w.heap.size ≤ gR := by omega
  have hSR : gS ≠ gR := by omega
  have I0 : Hid (InRA h w gS gR (applyS s (ds.take 0)) h W2 A1 c1 A2 c2) := hid ⟨E2, hS, hR, l1, r1, l2, r2, nS, nR⟩
  clear hgS hgR hszR E2 hS hR nS nR r1 r2 l1 l2
  go_wp2_with fail
  go_loopw [5] (fun i wr => ∃ (k : Nat) (h' : FH) (A3 : Option Addr) (c3 : Nat) (A4 : Option Addr) (c4 : Nat), k ≤ ds.length ∧ i = .int .i64 k ∧ Hid (InRA h w gS gR (applyS s (ds.take k)) h' wr A3 c3 A4 c4)) (fun i _ => ds.length - (intOf i).toNat)
  case atStart => exact ⟨0, h, A1, c1, A2, c2, Nat.zero_le _, rfl, I0⟩
  case round =>
    obtain ⟨k, h', A3, c3, A4, c4, hk, rfl, I⟩ := hrel
    by_cases hlt : k < ds.length
    · obtain ⟨d, hd⟩ : ∃ d, ds[k]? = some d := ⟨ds[k], by simp [hlt]⟩
      obtain ⟨b, off, A7, c7, A8, c8, rfl, d0, d1, d2, d3, d4, d5, d6, d7, d8, t0, t1, t2, t3, t4⟩ := (rd.mono I.out.ext.le).deed hd I.out.ext.sits
      have HS := hid (applyS_snoc s hd)
      have hln := applyS_take_len s ds k hk
      have RD := hid (show repInode h' [.int .i64 d.inode.no, .int .i64 d.inode.kind, .int .i64 d.inode.links, .int .i64 d.inode.size, .string d.inode.target, .slice A7 d.inode.entries.length c7, .slice A8 d.inode.runs.length c8] d.inode from ⟨A7, c7, A8, c8, rfl, t0, t1, t2, t3, t4⟩)
      clear hd
      generalize applyS s (ds.take k) = t at I HS hln
      go_upto_region 5 with (fail)
      obtain ⟨h2, E3, hb3, le3, hh3⟩ := (Ext.refl I.out.ext.sits).boxF #[.int .i64 d.kind, .int .i64 d.no, .int .i64 d.inode.no, .int .i64 d.inode.kind, .int .i64 d.inode.links, .int .i64 d.inode.size, .string d.inode.target, .slice A7 d.inode.entries.length c7, .slice A8 d.inode.runs.length c8] 65
      have I1 := hid (I.out.more E3)
      have RD := hid (RD.out.mono le3)
      clear hh3 E3 le3
      generalize hgb : wr.heap.size = gb at *
      with_reducible generalize wr.alloc (.cells #[.int .i64 d.kind, .int .i64 d.no, .int .i64 d.inode.no, .int .i64 d.inode.kind, .int .i64 d.inode.links, .int .i64 d.inode.size, .string d.inode.target, .slice A7 d.inode.entries.length c7, .slice A8 d.inode.runs.length c8] 65) = W1 at I1 ⊢
      have m0 : W1.cell? ⟨gb, 0, none⟩ = some (.int .i64 d.kind) := Sits_at I1.out.ext.sits hb3 rfl
      have m1 : W1.cell? ⟨gb, 1, none⟩ = some (.int .i64 d.no) := Sits_at I1.out.ext.sits hb3 rfl
      have m2 : W1.cell? ⟨gb, 2, none⟩ = some (.int .i64 d.inode.no) := Sits_at I1.out.ext.sits hb3 rfl
      have m3 : W1.cell? ⟨gb, 3, none⟩ = some (.int .i64 d.inode.kind) := Sits_at I1.out.ext.sits hb3 rfl
      have m4 : W1.cell? ⟨gb, 4, none⟩ = some (.int .i64 d.inode.links) := Sits_at I1.out.ext.sits hb3 rfl
      have m5 : W1.cell? ⟨gb, 5, none⟩ = some (.int .i64 d.inode.size) := Sits_at I1.out.ext.sits hb3 rfl
      have m6 : W1.cell? ⟨gb, 6, none⟩ = some (.string d.inode.target) := Sits_at I1.out.ext.sits hb3 rfl
      have m7 : W1.cell? ⟨gb, 7, none⟩ = some (.slice A7 d.inode.entries.length c7) := Sits_at I1.out.ext.sits hb3 rfl
      have m8 : W1.cell? ⟨gb, 8, none⟩ = some (.slice A8 d.inode.runs.length c8) := Sits_at I1.out.ext.sits hb3 rfl
      have x0 : W1.cell? ⟨gS, 0, none⟩ = some (.int .i64 t.next) := box_cell (j := 0) I1.out.box rfl
      have x1 : W1.cell? ⟨gS, 1, none⟩ = some (.slice A3 t.inodes.length c3) := box_cell (j := 1) I1.out.box rfl
      have x2 : W1.cell? ⟨gS, 2, none⟩ = some (.slice A4 t.bads.length c4) := box_cell (j := 2) I1.out.box rfl
      have f0 := box_free (j := 0) I1.out.box
      have f1 := box_free (j := 1) I1.out.box
      have f2 := box_free (j := 2) I1.out.box
      have KP := hid (ref_putInode t.inodes A3 c3 I1.out.k1 (by omega) d.inode _ h2 W1 I1.out.ext.sits I1.out.r1 RD.out)
      have KB := hid (ref_addBad t.bads A4 c4 I1.out.k2 (by omega) d.no h2 W1 I1.out.ext.sits I1.out.r2)
      clear d0 d1 d2 d3 d4 d5 d6 d7 d8 I
      by_cases k1 : d.kind = 1
      · have b1 : (d.kind == 1) = true := by simpa using k1
        have HA := hid (show applyD t d = { t with next := d.no } by unfold applyD; rw [if_pos k1])
        clear k1
        go_wp2_with fail
        go_roundw
        case rel => exact ⟨k + 1, h2, A3, c3, A4, c4, by omega, by go_num, hid (by rw [HS.out, HA.out]; exact I1.out.next hwS hSR _)⟩
        case measure => simp [intOf]; omega
      · have b1 : (d.kind == 1) = false := by simpa using k1
        by_cases k2 : d.kind = 2
        · have b2 : (d.kind == 2) = true := by simpa using k2
          have HA := hid (show applyD t d = { t with inodes := putI t.inodes d.inode } by unfold applyD; rw [if_neg k1, if_pos k2])
          clear k1 k2
          go_wp2_with (go_at_call 42; refine KP.out.mono ?_; rintro e w2 ⟨A9, c9, h3, rfl, q9, r9, F9⟩; have I2 := hid (I1.out.more F9); have y1 : w2.cell? ⟨gS, 1, none⟩ = _ := box_cell (j := 1) I2.out.box rfl; have g1 := box_free (j := 1) I2.out.box; have q9 := hid q9; have r9 := hid r9; clear F9)
          go_roundw
          case rel => exact ⟨k + 1, h3, A9, c9, A4, c4, by omega, by go_num, hid (by rw [HS.out, HA.out]; exact I2.out.ino hwS hSR q9.out r9.out)⟩
          case measure => simp [intOf]; omega
        · have b2 : (d.kind == 2) = false := by simpa using k2
          by_cases k3 : d.kind = 3
          · have b3 : (d.kind == 3) = true := by simpa using k3
            have HA := hid (show applyD t d = { t with inodes := t.inodes.filter (neI d.no) } by unfold applyD; rw [if_neg k1, if_neg k2, if_pos k3])
            have hl1 := I1.out.r1.1
            clear k1 k2 k3 x0 x2 m2 m3 m4 m5 m6 m7 m8 f0 f2
            go_wp2_with fail
            go_loopw [7, 8] (fun s7 i wr => ∃ (j : Nat), j ≤ t.inodes.length ∧ i = .int .i64 j ∧ Hid (Ext h2 W1 h2 wr) ∧ Hid (OwnL h2 wr W1.heap.size 50 s7 ((t.inodes.take j).filter (neI d.no)))) (fun _ i _ => t.inodes.length - (intOf i).toNat)
            case atStart => exact ⟨0, Nat.zero_le _, rfl, hid (Ext.refl I1.out.ext.sits), hid (OwnL.nil _ _ _ _)⟩
            case round =>
              obtain ⟨j, hj, rfl, E, O⟩ := hrel
              have I2 := hid (I1.out.more E.out)
              have y1 : wr.cell? ⟨gS, 1, none⟩ = _ := box_cell (j := 1) I2.out.box rfl
              clear x1 m0 m1 f1
              by_cases hjt : j < t.inodes.length
              · obtain ⟨x, hx⟩ : ∃ x, t.inodes[j]? = some x := ⟨t.inodes[j], by simp [hjt]⟩
                obtain ⟨b, off, A5, c5, A6, c6, ha, hA, ⟨z0, z1, z2, z3, z4, z5, z6⟩, RX⟩ := I2.out.r1.ixInode hx I2.out.ext.sits c3
                have m1 : wr.cell? ⟨gb, 1, none⟩ = some (.int .i64 d.no) := Sits_at E.out.sits hb3 rfl
                have RX := hid RX
                have HX := hid hx
                have HFS := hid (filter_snoc (neI d.no) hx)
                obtain ⟨q, hq⟩ : ∃ q, neI d.no x = q := ⟨_, rfl⟩
                have hq2 : (!(x.no == d.no)) = q := hq
                have hq3 : (x.no != d.no) = q := hq
                rw [hq] at HFS
                have i2 : (j : Int) < (t.inodes.length : Int) := by omega
                have v0 := fun d os => cell_regrown y1 d os
                have v1 := fun d os => cell_regrown z0 d os
                have v2 := fun d os => cell_regrown m1 d os
                have HB := hid (show (((t.inodes.take j).filter (neI d.no)).length + 1) * 96 ≤ 140737488355328 by have := List.length_filter_le (neI d.no) (t.inodes.take j); rw [List.length_take] at this; omega)
                clear hx hA hq
                go_upto_region 15 with (fail)
                clear y1 z0 z1 z2 z3 z4 z5 z6 m1
                refine wp_region_quiet_below (by kernel_rfl) (by kernel_rfl) ?_
                repeat (go_big_quiet_step (fail))
                refine wpQuiet_nil ?_
                intro _ hw'
                obtain ⟨⟨dq, osq⟩, hw''⟩ := hw'
                subst hw''
                have Eq := hid (E.out.trans (Ext.quiet E.out.sits dq osq))
                have Oq := hid (O.out.ext (Ext.quiet E.out.sits dq osq))
                with_reducible generalize grow (redrawn wr dq) osq = wq at Eq Oq ⊢
                clear v0 v1 v2
                cases q
                · go_wp2_with fail
                  go_roundw
                  case rel => exact ⟨j + 1, by omega, by go_num, Eq, hid (by rw [HFS.out]; exact Oq.out)⟩
                  case measure => simp [intOf]; omega
                · have I3 := hid (I1.out.more Eq.out)
                  have y1 : wq.cell? ⟨gS, 1, none⟩ = _ := box_cell (j := 1) I3.out.box rfl
                  clear ha
                  obtain ⟨b, off, A5, c5, A6, c6, ha, hA, ⟨z0, z1, z2, z3, z4, z5, z6⟩, RX⟩ := I3.out.r1.ixInode HX.out I3.out.ext.sits c3
                  have RX := hid RX
                  clear hA
                  go_wp2_with (at_builtin; refine wpList_append1At rfl _ _ 25 rfl W1.heap.size 50 96 ty_Inode _ _ rfl (Oq.out.alloc _) (Eq.out.sits.alloc _) _ rfl _ x RX.out (cells_of_box (heap_new _ _)) HB.out (by decide) (Eq.out.alloc _).size ?_; intro v3 w4 O3 hg3; have O3 := hid O3; have E4 := hid ((Eq.out.alloc _).grown hg3 (fun k hk => ⟨(Oq.out.lt k hk).1, Oq.out.free k hk⟩)); clear hg3)
                  go_roundw
                  case rel => exact ⟨j + 1, by omega, by go_num, E4, hid (by rw [HFS.out]; exact O3.out)⟩
                  case measure => simp [intOf]; omega
              · have hjl : t.inodes.take j = t.inodes := List.take_of_length_le (by omega)
                rw [hjl] at O
                obtain ⟨h3, A9, c9, hv9, r9, l9, E9, u0, u1, u2, f9⟩ := O.out.stayX E.out (Nat.le_refl _) (Nat.le_trans (List.length_filter_le _ _) hl1)
                subst hv9
                have I3 := hid (I1.out.more E9)
                have g1 := box_free (j := 1) I3.out.box
                have q9 : Hid (CapLe A9 (t.inodes.filter (neI d.no)).length c9) := hid ⟨u0, u2, u1⟩
                have r9 := hid r9
                clear hjl u0 u1 u2 f9 l9 E9 O
                go_wp2_with fail
                go_roundw
                case rel => exact ⟨k + 1, h3, A9, c9, A4, c4, by omega, by go_num, hid (by rw [HS.out, HA.out]; exact I3.out.ino hwS hSR q9.out r9.out)⟩
                case measure => simp [intOf]; omega
          · have b3 : (d.kind == 3) = false := by simpa using k3
            by_cases k4 : d.kind = 4
            · have b4 : (d.kind == 4) = true := by simpa using k4
              have HA := hid (show applyD t d = { t with bads := badZ t.bads d.no } by unfold applyD; rw [if_neg k1, if_neg k2, if_neg k3, if_pos k4])
              clear k1 k2 k3 k4
              go_wp2_with (go_at_call 43; refine KB.out.mono ?_; rintro e w2 ⟨A9, c9, h3, rfl, q9, r9, F9⟩; have I2 := hid (I1.out.more F9); have y1 : w2.cell? ⟨gS, 2, none⟩ = _ := box_cell (j := 2) I2.out.box rfl; have g1 := box_free (j := 2) I2.out.box; have q9 := hid q9; have r9 := hid r9; clear F9)
              go_roundw
              case rel => exact ⟨k + 1, h3, A3, c3, A9, c9, by omega, by go_num, hid (by rw [HS.out, HA.out]; exact I2.out.bad hwS hSR q9.out r9.out)⟩
              case measure => simp [intOf]; omega
            · have b4 : (d.kind == 4) = false := by simpa using k4
              have HA := hid (show applyD t d = t by unfold applyD; rw [if_neg k1, if_neg k2, if_neg k3, if_neg k4])
              clear k1 k2 k3 k4
              go_wp2_with fail
              go_roundw
              case rel => exact ⟨k + 1, h2, A3, c3, A4, c4, by omega, by go_num, hid (by rw [HS.out, HA.out]; exact I1.out)⟩
              case measure => simp [intOf]; omega
    · have HT := hid (show ds.take k = ds from List.take_of_length_le (by omega))
      rw [HT.out] at I
      obtain ⟨t, ht⟩ : ∃ t, applyS s ds = t := ⟨_, rfl⟩
      rw [ht] at I
      have HT2 := hid ht
      clear ht
      have x0 : wr.cell? ⟨gS, 0, none⟩ = _ := box_cell (j := 0) I.out.box rfl
      have x1 : wr.cell? ⟨gS, 1, none⟩ = _ := box_cell (j := 1) I.out.box rfl
      have x2 : wr.cell? ⟨gS, 2, none⟩ = _ := box_cell (j := 2) I.out.box rfl
      have z0 : wr.cell? ⟨gR, 0, none⟩ = some (.int .i64 0) := box_cell (j := 0) I.out.out rfl
      have z1 : wr.cell? ⟨gR, 1, none⟩ = some (.slice none 0 0) := box_cell (j := 1) I.out.out rfl
      have z2 : wr.cell? ⟨gR, 2, none⟩ = some (.slice none 0 0) := box_cell (j := 2) I.out.out rfl
      have f0 := box_free (j := 0) I.out.out
      have f1 := box_free (j := 1) I.out.out
      have f2 := box_free (j := 2) I.out.out
      go_wp2_with fail
      have R7 : ((((wr.setCell ⟨gR, 0, none⟩ (.int .i64 t.next)).setCell ⟨gR, 1, none⟩ (.slice A3 t.inodes.length c3)).setCell ⟨gR, 2, none⟩ (.slice A4 t.bads.length c4))).heap[gR]? = some (.cells #[.int .i64 t.next, .slice A3 t.inodes.length c3, .slice A4 t.bads.length c4] 28 (0, 0)) := setCells_row [.int .i64 t.next, .slice A3 t.inodes.length c3, .slice A4 t.bads.length c4] I.out.out rfl
      have E7 : Ext h w h' (((wr.setCell ⟨gR, 0, none⟩ (.int .i64 t.next)).setCell ⟨gR, 1, none⟩ (.slice A3 t.inodes.length c3)).setCell ⟨gR, 2, none⟩ (.slice A4 t.bads.length c4)) := Ext.setCells (g := gR) hwR I.out.nR [.int .i64 t.next, .slice A3 t.inodes.length c3, .slice A4 t.bads.length c4] 0 _ I.out.ext
      refine bodyPost_ret (v := .agg #[.int .i64 t.next, .slice A3 t.inodes.length c3, .slice A4 t.bads.length c4]) ?_ rfl ⟨_, h', rfl, by rw [HT2.out]; exact ⟨A3, c3, A4, c4, rfl, I.out.k1, I.out.r1, I.out.k2, I.out.r2⟩, E7⟩
      exact results_cell_row (p := 4) (ty := 28) (by kernel_rfl) _ _ gR 28 #[.int .i64 t.next, .slice A3 t.inodes.length c3, .slice A4 t.bads.length c4] (0, 0) _ (by simp) R7 Tryd.underlying28 rfl (by kernel_rfl)
end Go.Proofs.YtcnbnehammbncaaDoor
