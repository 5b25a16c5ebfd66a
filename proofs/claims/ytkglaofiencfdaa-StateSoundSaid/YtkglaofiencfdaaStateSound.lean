/- The walk of the law StateSound: it returns true, and writes nothing that was there. -/
import Derived.Deep.RegionLaw
import Derived.Test.YtkglaofiencfdaaGrwG
import Derived.Test.YtkglaofiencfdaaStSpoil
import Derived.Test.YtkglaofiencfdaaStLaw
import Derived.Test.YtkglaofiencfdaaBxA
import Derived.Test.YtkglaofiencfdaaBox
namespace Go.Proofs.Ytkglaofiencfdaa
open Go.RowKit Go.Sort
set_option linter.unusedVariables false
theorem OwnL.stayE {α : Type} [Enc α] {h0 h : FH} {w0 w : World} {base : Nat} {T : TypeId} {v : Value} {xs : List α} (o : OwnL h w base T v xs) (E : Ext h0 w0 h w) (hb : w0.heap.size ≤ base) (hlen : xs.length ≤ 9223372036854775807) :
    ∃ h' A c, v = .slice A xs.length c ∧ RowAt h' A xs ∧ FLe h h' ∧ Ext h0 w0 h' w ∧ CapLe A xs.length c ∧ ∀ g, h g = none → v.ownBlock ≠ some g → h' g = none := by
  obtain ⟨h', A, c, hv, r, l, s, cp, f⟩ := o.stay2 E.sits hlen
  refine ⟨h', A, c, hv, r, l, ⟨E.le.trans l, s, E.below, fun b hb' => ?_⟩, cp, fun g hg hne => ?_⟩
  · rcases f b hb' with h3 | h3
    · exact E.fresh b h3
    · exact .inr (Nat.le_trans hb (o.lt b h3).1)
  · cases e : h' g with
    | none => rfl
    | some x =>
      rcases f g (by rw [e]; simp) with h3 | h3
      · exact absurd hg h3
      · exact absurd h3 hne
theorem OwnL.neB {α : Type} [Enc α] {h h2 : FH} {w w0 : World} {base g : Nat} {T T2 : TypeId} {v : Value} {xs : List α} {cs : Array Value} (o : OwnL h w base T v xs) (b : BoxU w0 h2 w g cs T2) (hT : T ≠ T2) : v.ownBlock ≠ some g := fun e => by
  obtain ⟨cells, hw, _⟩ := o.own
  rcases hw.2 with ⟨rfl, _⟩ | ⟨g', cap, cur, rfl, _, hg, _⟩
  · cases e
  · have e2 : g' = g := by simpa [Value.ownBlock] using e
    subst e2
    rw [b.row] at hg
    simp only [Option.some.injEq, Obj.cells.injEq] at hg
    exact hT hg.2.1.symm
theorem BoxU.grownU {w0 : World} {h : FH} {w w' : World} {g : Nat} {cs : Array Value} {T : TypeId} (b : BoxU w0 h w g cs T) {row : Option Nat} (G : w.grownBy w' row) (hne : row ≠ some g) : BoxU w0 h w' g cs T :=
  ⟨by rw [G.block g b.lt (fun e => hne e.symm)]; exact b.row, b.free, b.base⟩
theorem OwnL.neO {α β : Type} [Enc α] [Enc β] {h h2 : FH} {w : World} {base base2 : Nat} {T T2 : TypeId} {v v2 : Value} {xs : List α} {ys : List β} (o : OwnL h w base T v xs) (o2 : OwnL h2 w base2 T2 v2 ys) (hT : T ≠ T2) (k : Nat) (e1 : v.ownBlock = some k) (e2 : v2.ownBlock = some k) : False := by
  obtain ⟨cells, hw, _⟩ := o.own
  obtain ⟨cells2, hw2, _⟩ := o2.own
  rcases hw.2 with ⟨rfl, _⟩ | ⟨g', cap, cur, rfl, _, hg, _⟩
  · cases e1
  · rcases hw2.2 with ⟨rfl, _⟩ | ⟨g2, cap2, cur2, rfl, _, hg2, _⟩
    · cases e2
    · have q1 : g' = k := by simpa [Value.ownBlock] using e1
      have q2 : g2 = k := by simpa [Value.ownBlock] using e2
      subst q1
      subst q2
      rw [hg] at hg2
      simp only [Option.some.injEq, Obj.cells.injEq] at hg2
      exact hT hg2.2.1
def St7 (W : World) (h8 : FH) (w : World) (gL cL : Nat) (xs : List Inode) (gT : Nat) (TCA : Array Value) : Prop := Ext (fhOf W) W h8 w ∧ OwnL h8 w W.heap.size 37 (.slice (some ⟨gL, 0, none⟩) xs.length cL) xs ∧ BoxU W h8 w gT TCA 31
theorem BoxU.grownV {w0 : World} {h : FH} {w w' : World} {g : Nat} {cs : Array Value} {T : TypeId} (b : BoxU w0 h w g cs T) {row : Option Nat} (G : w.grownBy w' row) (hne : row ≠ some g) : BoxU w0 h w' g cs T :=
  ⟨by rw [G.block g b.lt (fun e => hne e.symm)]; exact b.row, b.free, b.base⟩
theorem St7.grown {W : World} {h8 : FH} {w w' : World} {gL cL : Nat} {xs : List Inode} {gT : Nat} {TCA : Array Value} (s : St7 W h8 w gL cL xs gT TCA) {row : Option Nat} (G : w.grownBy w' row) (hr : ∀ k, row = some k → W.heap.size ≤ k ∧ h8 k = none ∧ k ≠ gL ∧ k ≠ gT) : St7 W h8 w' gL cL xs gT TCA :=
  ⟨s.1.grown G (fun k hk => ⟨(hr k hk).1, (hr k hk).2.1⟩), s.2.1.kept G (.inr (fun e => by
    have e2 : some gL = row := e
    exact (hr gL e2.symm).2.2.1 rfl)) (FLe.refl _) s.2.1.free, s.2.2.grownV G (fun e => (hr gT e).2.2.2 rfl)⟩
theorem St7.alloc {W : World} {h8 : FH} {w : World} {gL cL : Nat} {xs : List Inode} {gT : Nat} {TCA : Array Value} (s : St7 W h8 w gL cL xs gT TCA) (o : Obj) : St7 W h8 (w.alloc o) gL cL xs gT TCA :=
  ⟨s.1.alloc o, s.2.1.alloc o, s.2.2.alloc o⟩
theorem St7.drew {W : World} {h8 : FH} {w : World} {gL cL : Nat} {xs : List Inode} {gT : Nat} {TCA : Array Value} (s : St7 W h8 w gL cL xs gT TCA) : St7 W h8 w.drew gL cL xs gT TCA :=
  ⟨s.1.drew, s.2.1.drew, s.2.2.drew⟩
theorem St7.grownE {W : World} {h8 : FH} {w w' : World} {gL cL : Nat} {xs : List Inode} {gT : Nat} {TCA : Array Value} (s : St7 W h8 w gL cL xs gT TCA) {v : Value} {es : List Entry} (O : OwnL h8 w W.heap.size 44 v es) (G : w.grownBy w' v.ownBlock) : St7 W h8 w' gL cL xs gT TCA :=
  s.grown G (fun k hk => ⟨(O.lt k hk).1, O.free k hk, fun e => O.neO s.2.1 (by decide) k hk (by rw [e]; rfl), fun e => O.neB s.2.2 (by decide) (by rw [hk, e])⟩)
theorem St7.cell5 {W : World} {h8 : FH} {w : World} {gL cL : Nat} {xs : List Inode} {gT : Nat} {TCA : Array Value} (s : St7 W h8 w gL cL xs gT TCA) {x : Inode} (hx : xs[0]? = some x) : (∃ v, w.cell? ⟨gL, 5, none⟩ = some v) ∧ w.frozen? ⟨gL, 5, none⟩ = false := by
  obtain ⟨gq, cq, cs9, eq9, hbq, hlq, hnq, hrq, hcq, hfq⟩ := s.2.1.get hx
  obtain ⟨rfl, rfl⟩ : gL = gq ∧ cL = cq := by simp only [Value.slice.injEq, Option.some.injEq, Addr.mk.injEq, and_true, true_and] at eq9; exact eq9
  obtain ⟨B5, d5, B6, d6, rfl, t0, t1, t2, t3, t4⟩ := hrq
  exact ⟨⟨_, by have q := hcq 5 _ rfl; rwa [Nat.zero_mul, Nat.zero_add] at q⟩, hfq _⟩
theorem St7.cellS {W : World} {h8 : FH} {w : World} {gL cL : Nat} {xs : List Inode} {gT : Nat} {TCA : Array Value} (s : St7 W h8 w gL cL xs gT TCA) {gS : Nat} {v : Value} (C : ∀ w', Sits h8 w' → w'.cell? ⟨gS, 0, none⟩ = some v) : w.cell? ⟨gS, 0, none⟩ = some v := C w s.1.sits
theorem fin_len (s : State) : (finS s).inodes.length = s.inodes.length := rfl
set_option maxHeartbeats 32000000 in
set_option maxRecDepth 100000 in
theorem StateSound_walk (ops : List POp) (A : Option Addr) (c : Nat) (wh at_ : Int) (W : World) (ra : RowAt (fhOf W) A ops) :
    Calls Try.prog 3 #[.slice A ops.length c, .int .i64 wh, .int .i64 at_] W fun e w' => e = .returned (.bool true) ∧ Ext (fhOf W) W (fhOf W) w' := by
  have hs := Sits.all W
  have KS := hid (play_Small ops A c (fhOf W) W hs ra)
  have RA := hid ra
  have hal := ra.1
  clear ra
  go_enter Try.func3, Try.ntmps3
  go_upto_if 14 with (go_at_call 5; refine KS.out.mono ?_; rintro e w1 ⟨b, rfl, F1⟩; have E1 := hid F1; clear F1; cases b)
  · go_wp2_with (go_at_call 6; refine (law14_awake _ _ E1.out.sits).mono ?_; rintro e w2 ⟨rfl, F2⟩; have E2 := hid (E1.out.trans F2))
    go_ret
    exact ⟨rfl, E2.out⟩
  · have KW := hid (play_Wide (fhOf W) w1 E1.out.sits)
    go_upto_region 4 with (first | (go_at_call 7; refine KW.out.mono ?_; rintro e w2 ⟨rfl, F2⟩; have E2 := hid (E1.out.trans F2); clear F2) | (refine wpList_store_row rfl 26 _ _ rfl w2.heap.size #[.int .i64 8, .int .i64 2048, .int .i64 12, .int .i64 8, .int .i64 32] rfl rfl 26 #[.int .i64 0, .int .i64 0, .int .i64 0, .int .i64 0, .int .i64 0] (heap_new w2 _) (by kernel_rfl) rfl rfl ?_))
    (try rw [World.setRow_alloc_new])
    obtain ⟨h3, E3, hbG, le3, -⟩ := E2.out.boxF #[.int .i64 8, .int .i64 2048, .int .i64 12, .int .i64 8, .int .i64 32] 26
    with_reducible generalize w2.alloc (.cells #[.int .i64 8, .int .i64 2048, .int .i64 12, .int .i64 8, .int .i64 32] 26) = w3 at E3 ⊢
    generalize w2.heap.size = gG at *
    have E3 := hid E3
    have hbG := hid hbG
    clear le3 KW KS E1 E2
    have g0 := sits_cellG (j := 0) (v := .int .i64 8) E3.out.sits (hbG.out) rfl
    have g1 := sits_cellG (j := 1) (v := .int .i64 2048) E3.out.sits (hbG.out) rfl
    have g2 := sits_cellG (j := 2) (v := .int .i64 12) E3.out.sits (hbG.out) rfl
    have g3 := sits_cellG (j := 3) (v := .int .i64 8) E3.out.sits (hbG.out) rfl
    have g4 := sits_cellG (j := 4) (v := .int .i64 32) E3.out.sits (hbG.out) rfl
    have hw96 : IntKind.i64.wrap (12 * 8) = 96 := by decide
    have KN := hid (play_GrownG 96 (by decide) (by decide) ops A c [] none 0 h3 w3 E3.out.sits (RA.out.mono E3.out.le) (RowAt.nil _ _))
    go_upto_region 5 with (first | (go_at_call 8; refine KN.out.mono ?_; rintro e w4 ⟨cs0, h4, rfl, rs, F4⟩; have E4 := hid (E3.out.trans F4); have RN := hid rs; have L4 := hid F4.le; clear F4 rs) | (refine wpList_store_row rfl 31 _ _ rfl w4.heap.size cs0.toArray rfl rfl 31 #[.int .i64 0, .slice none 0 0, .slice none 0 0] (heap_new w4 _) (info_State RN.out.len) (szG3 RN.out.len) (one_arr RN.out.one) ?_))
    rw [World.setRow_alloc_new]
    have hgi := growX_ok 96 [] ops 40 (Nat.le_refl _)
    obtain ⟨⟨s, nx⟩, hq⟩ : ∃ q, growX 96 [] ops 40 = q := ⟨_, rfl⟩
    rw [hq] at hgi RN
    have HF := hid (show FinS s.inodes (s.next + 1) from hgi.fin (Nat.le_refl _))
    have HB := hid (show s.bads = [] from hgi.mid.bad)
    have HLN := hid (show s.inodes.length ≤ 121 from hgi.mid.len)
    have HNX := hid (show 0 ≤ s.next ∧ s.next ≤ 42 from ⟨hgi.mid.n0, hgi.mid.n1⟩)
    have RN := hid (show repState h4 cs0 s from RN.out)
    clear hgi hq KN g0 g1 g2 g3 g4 hw96
    obtain ⟨A1, c1, A2, c2, rfl, -⟩ := id RN.out
    have BS5 := hid (BoxU.new E4.out #[.int .i64 s.next, .slice A1 s.inodes.length c1, .slice A2 s.bads.length c2] 31)
    have E5 := hid (E4.out.alloc (.cells #[.int .i64 s.next, .slice A1 s.inodes.length c1, .slice A2 s.bads.length c2] 31))
    with_reducible generalize w4.alloc (.cells #[.int .i64 s.next, .slice A1 s.inodes.length c1, .slice A2 s.bads.length c2] 31) = w5 at BS5 E5 ⊢
    generalize w4.heap.size = gS at *
    have s0 := BS5.out.cell (j := 0) (v := .int .i64 s.next) rfl
    have s1 := BS5.out.cell (j := 1) (v := .slice A1 s.inodes.length c1) rfl
    have s2 := BS5.out.cell (j := 2) (v := .slice A2 s.bads.length c2) rfl
    have hnw : IntKind.i64.wrap (s.next + 1) = s.next + 1 := by have := HNX.out; rw [IntKind.wrap_i64]; omega
    have KA := hid (fun (h9 : FH) (gD : Nat) (w' : World) (hs' : Sits h9 w') (r9 : repState h9 [.int .i64 s.next, .slice A1 s.inodes.length c1, .slice A2 s.bads.length c2] s) (rd : RowAt h9 (some ⟨gD, 0, none⟩) [(⟨1, s.next + 1, zeroI⟩ : Deed), ⟨4, 5, zeroI⟩, ⟨4, 7, zeroI⟩]) => ref_Apply s [.int .i64 s.next, .slice A1 s.inodes.length c1, .slice A2 s.bads.length c2] [⟨1, s.next + 1, zeroI⟩, ⟨4, 5, zeroI⟩, ⟨4, 7, zeroI⟩] (some ⟨gD, 0, none⟩) 3 (by have := HLN.out; simp; omega) (by rw [HB.out]; simp) h9 w' hs' r9 rd)
    rw [fin_eq HB.out] at KA
    clear E4
    go_upto_region 6 with (first | (go_at_call 9; go_loud (obtain ⟨h9, F9, hb9, l9, -⟩ := (Ext.refl E5.out.sits).boxF #[.int .i64 1, .int .i64 (s.next + 1), .int .i64 0, .int .i64 0, .int .i64 0, .int .i64 0, .string ⟨#[]⟩, .slice none 0 0, .slice none 0 0, .int .i64 4, .int .i64 5, .int .i64 0, .int .i64 0, .int .i64 0, .int .i64 0, .string ⟨#[]⟩, .slice none 0 0, .slice none 0 0, .int .i64 4, .int .i64 7, .int .i64 0, .int .i64 0, .int .i64 0, .int .i64 0, .string ⟨#[]⟩, .slice none 0 0, .slice none 0 0] 39; have I9 := hid (E5.out.trans F9); have BS9 := hid (BS5.out.ext F9); refine (KA.out h9 w5.heap.size _ F9.sits (repState.mono l9 RN.out) (RowAt.of_block hb9 (⟨[.int .i64 1, .int .i64 (s.next + 1), .int .i64 0, .int .i64 0, .int .i64 0, .int .i64 0, .string ⟨#[]⟩, .slice none 0 0, .slice none 0 0], [.int .i64 4, .int .i64 5, .int .i64 0, .int .i64 0, .int .i64 0, .int .i64 0, .string ⟨#[]⟩, .slice none 0 0, .slice none 0 0] ++ [.int .i64 4, .int .i64 7, .int .i64 0, .int .i64 0, .int .i64 0, .int .i64 0, .string ⟨#[]⟩, .slice none 0 0, .slice none 0 0], rfl, ⟨none, 0, none, 0, rfl, Nat.zero_le _, ⟨Nat.le_refl _, fun _ => rfl, by decide⟩, RowAt.nil _ _, ⟨Nat.le_refl _, fun _ => rfl, by decide⟩, RowAt.nil _ _⟩, ⟨[.int .i64 4, .int .i64 5, .int .i64 0, .int .i64 0, .int .i64 0, .int .i64 0, .string ⟨#[]⟩, .slice none 0 0, .slice none 0 0], [.int .i64 4, .int .i64 7, .int .i64 0, .int .i64 0, .int .i64 0, .int .i64 0, .string ⟨#[]⟩, .slice none 0 0, .slice none 0 0], rfl, ⟨none, 0, none, 0, rfl, Nat.zero_le _, ⟨Nat.le_refl _, fun _ => rfl, by decide⟩, RowAt.nil _ _, ⟨Nat.le_refl _, fun _ => rfl, by decide⟩, RowAt.nil _ _⟩, ⟨[.int .i64 4, .int .i64 7, .int .i64 0, .int .i64 0, .int .i64 0, .int .i64 0, .string ⟨#[]⟩, .slice none 0 0, .slice none 0 0], [], rfl, ⟨none, 0, none, 0, rfl, Nat.zero_le _, ⟨Nat.le_refl _, fun _ => rfl, by decide⟩, RowAt.nil _ _, ⟨Nat.le_refl _, fun _ => rfl, by decide⟩, RowAt.nil _ _⟩, rfl⟩⟩⟩ : Reps h9 ([.int .i64 1, .int .i64 (s.next + 1), .int .i64 0, .int .i64 0, .int .i64 0, .int .i64 0, .string ⟨#[]⟩, .slice none 0 0, .slice none 0 0] ++ ([.int .i64 4, .int .i64 5, .int .i64 0, .int .i64 0, .int .i64 0, .int .i64 0, .string ⟨#[]⟩, .slice none 0 0, .slice none 0 0] ++ [.int .i64 4, .int .i64 7, .int .i64 0, .int .i64 0, .int .i64 0, .int .i64 0, .string ⟨#[]⟩, .slice none 0 0, .slice none 0 0])) [(⟨1, s.next + 1, zeroI⟩ : Deed), ⟨4, 5, zeroI⟩, ⟨4, 7, zeroI⟩]) (by simp))).mono ?_; rintro e w6 ⟨cs6, h6, rfl, r6, F6⟩; have R6 := hid r6; have I6 := hid (I9.out.trans F6); have BS6 := hid (BS9.out.ext F6); have L6 := hid (l9.trans F6.le); clear F6 r6 F9)) | (refine wpList_store_row rfl 31 _ _ rfl gS cs6.toArray rfl rfl 31 #[.int .i64 s.next, .slice A1 s.inodes.length c1, .slice A2 s.bads.length c2] BS6.out.row (info_State R6.out.len) (by rw [show cs6.toArray.size = cs6.length from List.size_toArray ..]; exact R6.out.len.symm) (one_arr R6.out.one) ?_))
    obtain ⟨A3, c3, A4, c4, rfl, l3, r3, l4, r4⟩ := R6.out
    have BS7 := BS6.out.setRow #[.int .i64 (finS s).next, .slice A3 (finS s).inodes.length c3, .slice A4 (finS s).bads.length c4]
    have I7 := BS6.out.wrRow I6.out #[.int .i64 (finS s).next, .slice A3 (finS s).inodes.length c3, .slice A4 (finS s).bads.length c4]
    with_reducible generalize w6.setRow gS #[.int .i64 (finS s).next, .slice A3 (finS s).inodes.length c3, .slice A4 (finS s).bads.length c4] = w7 at BS7 I7 ⊢
    obtain ⟨h8, I8, hbS, le8, -⟩ := BS7.freeze I7
    have I8 := hid I8
    have hbS := hid hbS
    have hbG := hid (le8 _ _ (L6.out _ _ (L4.out _ _ hbG.out)))
    have RF := hid (repState.mono le8 R6.out)
    have r3 := hid (r3.mono le8)
    have r4 := hid (r4.mono le8)
    have l3 := hid l3
    have l4 := hid l4
    clear KA hnw s0 s1 s2 BS5 E5 BS6 I6 R6 L6 L4 RN E3 BS7 I7 le8
    have CF := hid (fun (w' : World) (hs' : Sits h8 w') => (⟨sits_cellG (j := 0) (v := .int .i64 (finS s).next) hs' hbS.out rfl, sits_cellG (j := 1) (v := .slice A3 (finS s).inodes.length c3) hs' hbS.out rfl, sits_cellG (j := 2) (v := .slice A4 (finS s).bads.length c4) hs' hbS.out rfl⟩ : w'.cell? ⟨gS, 0, none⟩ = some (.int .i64 (finS s).next) ∧ w'.cell? ⟨gS, 1, none⟩ = some (.slice A3 (finS s).inodes.length c3) ∧ w'.cell? ⟨gS, 2, none⟩ = some (.slice A4 (finS s).bads.length c4)))
    have CG := hid (fun (w' : World) (hs' : Sits h8 w') => (⟨sits_cellG (j := 0) (v := .int .i64 8) hs' hbG.out rfl, sits_cellG (j := 1) (v := .int .i64 2048) hs' hbG.out rfl, sits_cellG (j := 2) (v := .int .i64 12) hs' hbG.out rfl, sits_cellG (j := 3) (v := .int .i64 8) hs' hbG.out rfl, sits_cellG (j := 4) (v := .int .i64 32) hs' hbG.out rfl⟩ : w'.cell? ⟨gG, 0, none⟩ = some (.int .i64 8) ∧ w'.cell? ⟨gG, 1, none⟩ = some (.int .i64 2048) ∧ w'.cell? ⟨gG, 2, none⟩ = some (.int .i64 12) ∧ w'.cell? ⟨gG, 3, none⟩ = some (.int .i64 8) ∧ w'.cell? ⟨gG, 4, none⟩ = some (.int .i64 32)))
    have KD := hid (fun (w' : World) (hs' : Sits h8 w') => state_Sound (finS s) wideG [.int .i64 (finS s).next, .slice A3 (finS s).inodes.length c3, .slice A4 (finS s).bads.length c4] [.int .i64 8, .int .i64 2048, .int .i64 12, .int .i64 8, .int .i64 32] true HF.out.sound h8 w' hs' RF.out (rfl : _ = _))
    go_upto_region 8 with (first | (go_at_call 10; go_loud (refine (KD.out _ I9.out.sits).mono ?_; rintro e w10 ⟨rfl, F10⟩; have I10 := hid (I9.out.trans F10); clear F10)) | (go_at_call 6; refine (law14_awake _ _ I8.out.sits).mono ?_; rintro e w9 ⟨rfl, F9⟩; have I9 := hid (I8.out.trans F9); obtain ⟨f0, f1, f2⟩ := CF.out _ I9.out.sits; obtain ⟨g0, g1, g2, g3, g4⟩ := CG.out _ I9.out.sits; clear F9))
    clear KD I8 I9
    obtain ⟨f0, f1, f2⟩ := CF.out _ I10.out.sits
    obtain ⟨xs, hxs⟩ : ∃ xs, (finS s).inodes = xs := ⟨_, rfl⟩
    obtain ⟨nn, hnn⟩ : ∃ n, (finS s).next = n := ⟨_, rfl⟩
    have hbb : (finS s).bads = [5, 7] := rfl
    have HX := hid (show finS s = ⟨nn, xs, [5, 7]⟩ by rw [← hxs, ← hnn]; rfl)
    have HF := hid (show FinS xs nn by have := HF.out; rw [← hxs, ← hnn]; exact this)
    have HLX := hid (show xs.length ≤ 121 by rw [← hxs]; exact HLN.out)
    have HNN := hid (show 3 ≤ nn ∧ nn ≤ 43 from ⟨HF.out.n0, by rw [← hnn]; have := HNX.out; show s.next + 1 ≤ 43; omega⟩)
    rw [hxs] at r3 l3 f1
    rw [hnn] at f0
    rw [hbb] at r4 l4 f2
    have hxl : 0 < xs.length := List.length_pos_iff.2 HF.out.some_
    have HXS := hid hxs
    have HNNE := hid hnn
    clear hxs hnn hbb HLN HNX HB
    go_upto_region 9 with (at_builtin; refine wpList_appendL rfl _ _ 28 rfl W.heap.size 37 96 ty_Inode _ ([] : List Inode) xs rfl (OwnL.nil h8 w10 W.heap.size 37) I10.out.sits A3 _ c3 rfl rfl r3.out l3.out.nn (by have := HLX.out; simp; omega) (by decide) I10.out.size ?_; intro v11 w11 O11 G11 h11; have I11 := hid (I10.out.grown G11 (fun k hk => by cases hk)); rw [List.nil_append] at O11; have O11 := hid O11; clear G11 h11)
    obtain ⟨gL, cL, rfl⟩ : ∃ g c, v11 = .slice (some ⟨g, 0, none⟩) xs.length c := by
      obtain ⟨x0, hx0⟩ : ∃ x, xs[0]? = some x := ⟨_, List.getElem?_eq_getElem hxl⟩
      obtain ⟨g, cap, _, e, _⟩ := O11.out.get hx0
      exact ⟨g, cap, e⟩
    clear I10 f0 f1 f2
    have hl0 : (0 : Int) < (xs.length : Int) := by omega
    have hl1 : ((xs.length : Int) == 0) = false := by rw [beq_eq_false_iff_ne]; omega
    have hlw : IntKind.u64.wrap (xs.length : Int) = (xs.length : Int) := by have := HLX.out; rw [IntKind.wrap_u64]; omega
    obtain ⟨iN, hiN, hil⟩ : ∃ n : Nat, (IntKind.u64.wrap at_).tmod (xs.length : Int) = n ∧ n < xs.length := by
      have h0' : 0 ≤ IntKind.u64.wrap at_ := by rw [IntKind.wrap_u64]; omega
      rw [Int.tmod_eq_emod_of_nonneg h0']
      have h1 := Int.emod_nonneg (IntKind.u64.wrap at_) (show (xs.length : Int) ≠ 0 by omega)
      have h2 := Int.emod_lt_of_pos (IntKind.u64.wrap at_) hl0
      exact ⟨(IntKind.u64.wrap at_ % (xs.length : Int)).toNat, by omega, by omega⟩
    have hlx := HLX.out
    have hiw : wrap64 (iN : Int) = iN := IntWalk.wrap64_in _ (by omega)
    obtain ⟨f0, f1, f2⟩ := CF.out _ I11.out.sits
    rw [HXS.out] at f1
    rw [HNNE.out] at f0
    rw [show (finS s).bads.length = 2 from rfl] at f2
    go_upto_region 11 with (refine wpList_store_row rfl 31 _ _ rfl w11.heap.size #[.int .i64 nn, .slice (some ⟨gL, 0, none⟩) xs.length cL, .slice A4 2 c4] rfl rfl 31 #[.int .i64 0, .slice none 0 0, .slice none 0 0] (heap_new w11 _) (by kernel_rfl) rfl rfl ?_)
    (try rw [World.setRow_alloc_new])
    have hneT := hid (show w11.heap.size ≠ gL from fun e => by
      obtain ⟨x0, hx0⟩ : ∃ x, xs[0]? = some x := ⟨_, List.getElem?_eq_getElem hxl⟩
      obtain ⟨g, cap, _, e1, _, e2, _⟩ := O11.out.get hx0
      have : gL = g := by simp only [Value.slice.injEq, Option.some.injEq, Addr.mk.injEq] at e1; exact e1.1.1
      omega)
    have BT := BoxU.new I11.out #[.int .i64 nn, .slice (some ⟨gL, 0, none⟩) xs.length cL, .slice A4 2 c4] 31
    have O12 := O11.out.alloc (.cells #[.int .i64 nn, .slice (some ⟨gL, 0, none⟩) xs.length cL, .slice A4 2 c4] 31)
    have I12 := I11.out.alloc (.cells #[.int .i64 nn, .slice (some ⟨gL, 0, none⟩) xs.length cL, .slice A4 2 c4] 31)
    with_reducible generalize w11.alloc (.cells #[.int .i64 nn, .slice (some ⟨gL, 0, none⟩) xs.length cL, .slice A4 2 c4] 31) = w12 at BT O12 I12 ⊢
    generalize w11.heap.size = gT at *
    have BT := hid BT
    have O12 := hid O12
    have I12 := hid I12
    clear O11 I11 f0 f1 f2 hiN hiw hlw hl1
    obtain ⟨f0, f1, f2⟩ := CF.out _ I12.out.sits
    rw [HXS.out] at f1
    rw [HNNE.out] at f0
    rw [show (finS s).bads.length = 2 from rfl] at f2
    obtain ⟨g0, g1, g2, g3, g4⟩ := CG.out _ I12.out.sits
    obtain ⟨m, hm⟩ : ∃ m, (IntKind.u64.wrap wh).tmod 10 = m := ⟨_, rfl⟩
    have hmr : 0 ≤ m ∧ m < 10 := by
      rw [← hm, Int.tmod_eq_emod_of_nonneg (by rw [IntKind.wrap_u64]; omega)]
      omega
    have hmw : IntKind.u64.wrap m = m := by rw [IntKind.wrap_u64]; omega
    have hi0 : (0 : Int) ≤ (iN : Int) := by omega
    have hi1 : (iN : Int) < (xs.length : Int) := by omega
    have hnn3 := HNN.out
    have b0 := BT.out.open_ 0
    have b1 := BT.out.open_ 1
    have b2 := BT.out.open_ 2
    have k0 := BT.out.cell (j := 0) (v := .int .i64 nn) rfl
    have k1 := BT.out.cell (j := 1) (v := .slice (some ⟨gL, 0, none⟩) xs.length cL) rfl
    have k2 := BT.out.cell (j := 2) (v := .slice A4 2 c4) rfl
    obtain ⟨x, hx⟩ : ∃ x, xs[iN]? = some x := ⟨_, List.getElem?_eq_getElem hil⟩
    obtain rfl | rfl | rfl | rfl | rfl | rfl | rfl | rfl | rfl | rfl : m = 0 ∨ m = 1 ∨ m = 2 ∨ m = 3 ∨ m = 4 ∨ m = 5 ∨ m = 6 ∨ m = 7 ∨ m = 8 ∨ m = 9 := by omega
    all_goals clear hmr
    · obtain ⟨gq, cq, cs9, eq9, hbq, hlq, hnq, hrq, hcq, hfq⟩ := O12.out.get hx
      obtain ⟨rfl, rfl⟩ : gL = gq ∧ cL = cq := by simp only [Value.slice.injEq, Option.some.injEq, Addr.mk.injEq, and_true, true_and] at eq9; exact eq9
      obtain ⟨B5, d5, B6, d6, rfl, t0, t1, t2, t3, t4⟩ := hrq
      have e2 : w12.cell? ⟨gL, iN * 7 + 2, none⟩ = some (.int .i64 x.links) := hcq 2 _ rfl
      have p2 : w12.frozen? ⟨gL, iN * 7 + 2, none⟩ = false := hfq _
      have hrt := (HF.out.right x (List.mem_of_getElem? hx)).1
      have hlk : 0 ≤ x.links ∧ x.links ≤ 100 := by
        unfold rightI at hrt
        simp only [Bool.and_eq_true, decide_eq_true_eq] at hrt
        exact ⟨hrt.1.1.2, hrt.1.2⟩
      have hwl : IntKind.i64.wrap (x.links + 1) = x.links + 1 := by rw [IntKind.wrap_i64]; omega
      have O9 := hid (O12.out.setCell (y := { x with links := x.links + 1 }) (j := 2) (u := .int .i64 (x.links + 1)) hx (by decide) (fun cs hcs => by obtain ⟨a, b, c, d, rfl, q⟩ := hcs; exact ⟨a, b, c, d, rfl, q⟩))
      have I9 := hid (I12.out.setCell (p := ⟨gL, iN * 7 + 2, none⟩) hbq hnq (.int .i64 (x.links + 1)))
      have BT9 : BoxU W h8 (w12.setCell ⟨gL, iN * 7 + 2, none⟩ (.int .i64 (x.links + 1))) gT #[.int .i64 nn, .slice (some ⟨gL, 0, none⟩) xs.length cL, .slice A4 2 c4] 31 := BT.out.other hneT.out (iN * 7 + 2) [.int .i64 (x.links + 1)]
      have BT9 := hid BT9
      have HXI := hid hx
      clear hrt hlk hx eq9 hcq hfq k0 k1 k2 f0 f1 f2 g0 g1 g2 g3 g4
      go_upto_region 31 with (fail)
      clear e2 p2 hm hmw
      with_reducible generalize w12.setCell ⟨gL, iN * 7 + 2, none⟩ (.int .i64 (x.links + 1)) = w9 at O9 I9 BT9 ⊢
      obtain ⟨ys, hys⟩ : ∃ ys, xs.set iN { x with links := x.links + 1 } = ys := ⟨_, rfl⟩
      have HSP0 := hid (show soundP ⟨nn, ys, [5, 7]⟩ wideG = false by rw [← hys]; exact HF.out.spoil0 HXI.out _)
      have hyl : ys.length = xs.length := by rw [← hys, List.length_set]
      rw [hys] at O9
      clear hys
      obtain ⟨h9, A9, c9, ev, r9, le9, s9, cap9, -⟩ := O9.out.stay2 I9.out.sits (by omega)
      have S9 := hid s9
      rw [hyl] at ev cap9
      obtain ⟨rfl, rfl⟩ : some ⟨gL, 0, none⟩ = A9 ∧ cL = c9 := by simp only [Value.slice.injEq] at ev; exact ⟨ev.1, ev.2.2⟩
      clear ev O9 O12
      have HSP := hid (show soundP ⟨nn, ys, [5, 7]⟩ wideG = false from HSP0.out)
      have RT9 := hid (show repState h9 [.int .i64 nn, .slice (some ⟨gL, 0, none⟩) xs.length cL, .slice A4 2 c4] ⟨nn, ys, [5, 7]⟩ from ⟨some ⟨gL, 0, none⟩, cL, A4, c4, by show [_, Value.slice _ xs.length cL, _] = [_, Value.slice _ ys.length cL, _]; rw [hyl]; rfl, by show CapLe _ ys.length cL; rw [hyl]; exact cap9, r9, l4.out, r4.out.mono le9⟩)
      have KT := hid (fun (w' : World) (hs' : Sits h9 w') => state_Sound ⟨nn, ys, [5, 7]⟩ wideG [.int .i64 nn, .slice (some ⟨gL, 0, none⟩) xs.length cL, .slice A4 2 c4] [.int .i64 8, .int .i64 2048, .int .i64 12, .int .i64 8, .int .i64 32] false HSP.out h9 w' hs' RT9.out (rfl : _ = _))
      have KZ := hid (fun (w' : World) (hs' : Sits h8 w') => state_Sound (finS s) ⟨0, 0, 0, 0, 0⟩ [.int .i64 (finS s).next, .slice A3 (finS s).inodes.length c3, .slice A4 (finS s).bads.length c4] [.int .i64 0, .int .i64 0, .int .i64 0, .int .i64 0, .int .i64 0] false (not_geo _) h8 w' hs' RF.out (rfl : _ = _))
      have k0 := BT9.out.cell (j := 0) (v := .int .i64 nn) rfl
      have k1 := BT9.out.cell (j := 1) (v := .slice (some ⟨gL, 0, none⟩) xs.length cL) rfl
      have k2 := BT9.out.cell (j := 2) (v := .slice A4 2 c4) rfl
      obtain ⟨g0, g1, g2, g3, g4⟩ := CG.out _ I9.out.sits
      go_wp2_with (first | (go_at_call 10; refine (KZ.out _ E10.out.sits).mono ?_; rintro e w21 ⟨rfl, F⟩; have E11 := hid (E10.out.trans F); clear F) | (go_at_call 10; refine (KT.out _ S9.out).mono ?_; rintro e w20 ⟨rfl, F⟩; have E10 := hid (I9.out.trans (Ext.of_below I9.out.sits F.below)); obtain ⟨f0, f1, f2⟩ := CF.out _ E10.out.sits; clear F))
      go_ret
      exact ⟨rfl, E11.out.back⟩
    · obtain ⟨y, hy⟩ : ∃ y, xs[xs.length - 1]? = some y := ⟨_, List.getElem?_eq_getElem (by omega)⟩
      obtain ⟨gq, cq, cs9, eq9, hbq, hlq, hnq, hrq, hcq, hfq⟩ := O12.out.get hy
      obtain ⟨rfl, rfl⟩ : gL = gq ∧ cL = cq := by simp only [Value.slice.injEq, Option.some.injEq, Addr.mk.injEq, and_true, true_and] at eq9; exact eq9
      obtain ⟨B5, d5, B6, d6, rfl, t0, t1, t2, t3, t4⟩ := hrq
      have e0 : w12.cell? ⟨gL, (xs.length - 1) * 7, none⟩ = some (.int .i64 y.no) := hcq 0 _ rfl
      have hsub : IntKind.i64.wrap ((xs.length : Int) - 1) = ((xs.length - 1 : Nat) : Int) := by rw [IntKind.wrap_i64]; omega
      have hs0 : (0 : Int) ≤ ((xs.length - 1 : Nat) : Int) := by omega
      have hs1 : ((xs.length - 1 : Nat) : Int) < (xs.length : Int) := by omega
      have HYI := hid hy
      obtain ⟨h13, A13, c13, ev, r13, le13, I13, cap13, fr13⟩ := O12.out.stayE I12.out (Nat.le_refl _) (by omega)
      obtain ⟨rfl, rfl⟩ : some ⟨gL, 0, none⟩ = A13 ∧ cL = c13 := by simp only [Value.slice.injEq] at ev; exact ⟨ev.1, ev.2.2⟩
      have BT13 := hid (⟨BT.out.row, fr13 gT BT.out.free (fun e => hneT.out (by simp only [Value.ownBlock, Option.some.injEq] at e; exact e.symm)), BT.out.base⟩ : BoxU W h13 w12 gT #[.int .i64 nn, .slice (some ⟨gL, 0, none⟩) xs.length cL, .slice A4 2 c4] 31)
      have I13 := hid I13
      have r13 := hid r13
      have L13 := hid le13
      have cap13 := hid cap13
      clear ev fr13 le13
      clear eq9 hcq hfq f0 f1 f2 g0 g1 g2 g3 g4
      clear hy hx k1 k2 b1 b2
      go_upto_region 31 with (fail)
      clear e0 hsub hs0 hs1 hm hmw b0 k0
      have BT9 : BoxU W _ (w12.setCell ⟨gT, 0, none⟩ (.int .i64 y.no)) gT #[.int .i64 y.no, .slice (some ⟨gL, 0, none⟩) xs.length cL, .slice A4 2 c4] 31 := BT13.out.part 0 [.int .i64 y.no] (Nat.le_of_ble_eq_true rfl)
      have I9 : Ext (fhOf W) W _ (w12.setCell ⟨gT, 0, none⟩ (.int .i64 y.no)) := BT13.out.wr I13.out 0 [.int .i64 y.no]
      with_reducible generalize (w12.setCell ⟨gT, 0, none⟩ (.int .i64 y.no)) = w9 at BT9 I9 ⊢
      have BT9 := hid BT9
      have I9 := hid I9
      have S9 := hid I9.out.sits
      have I9 := hid (I9.out.drop I12.out.le L13.out)
      have HSP := hid (show soundP ⟨y.no, xs, [5, 7]⟩ wideG = false from HF.out.spoil1 HYI.out _)
      have RT9 := hid (show repState h13 [.int .i64 y.no, .slice (some ⟨gL, 0, none⟩) xs.length cL, .slice A4 2 c4] ⟨y.no, xs, [5, 7]⟩ from ⟨_, cL, A4, c4, rfl, cap13.out, r13.out, l4.out, r4.out.mono L13.out⟩)
      have KT := hid (fun (w' : World) (hs' : Sits h13 w') => state_Sound ⟨y.no, xs, [5, 7]⟩ wideG [.int .i64 y.no, .slice (some ⟨gL, 0, none⟩) xs.length cL, .slice A4 2 c4] [.int .i64 8, .int .i64 2048, .int .i64 12, .int .i64 8, .int .i64 32] false HSP.out h13 w' hs' RT9.out (rfl : _ = _))
      have KZ := hid (fun (w' : World) (hs' : Sits h8 w') => state_Sound (finS s) ⟨0, 0, 0, 0, 0⟩ [.int .i64 (finS s).next, .slice A3 (finS s).inodes.length c3, .slice A4 (finS s).bads.length c4] [.int .i64 0, .int .i64 0, .int .i64 0, .int .i64 0, .int .i64 0] false (not_geo _) h8 w' hs' RF.out (rfl : _ = _))
      have k0 := BT9.out.cell (j := 0) (v := .int .i64 y.no) rfl
      have k1 := BT9.out.cell (j := 1) (v := .slice (some ⟨gL, 0, none⟩) xs.length cL) rfl
      have k2 := BT9.out.cell (j := 2) (v := .slice A4 2 c4) rfl
      obtain ⟨g0, g1, g2, g3, g4⟩ := CG.out _ I9.out.sits
      go_wp2_with (first | (go_at_call 10; refine (KZ.out _ E10.out.sits).mono ?_; rintro e w21 ⟨rfl, F⟩; have E11 := hid (E10.out.trans F); clear F) | (go_at_call 10; refine (KT.out _ S9.out).mono ?_; rintro e w20 ⟨rfl, F⟩; have E10 := hid (I9.out.trans (Ext.of_below I9.out.sits F.below)); obtain ⟨f0, f1, f2⟩ := CF.out _ E10.out.sits; clear F))
      go_ret
      exact ⟨rfl, E11.out.back⟩
    · obtain ⟨gq, cq, cs9, eq9, hbq, hlq, hnq, hrq, hcq, hfq⟩ := O12.out.get hx
      obtain ⟨rfl, rfl⟩ : gL = gq ∧ cL = cq := by simp only [Value.slice.injEq, Option.some.injEq, Addr.mk.injEq, and_true, true_and] at eq9; exact eq9
      obtain ⟨B5, d5, B6, d6, rfl, t0, t1, t2, t3, t4⟩ := hrq
      have e1 : w12.cell? ⟨gL, iN * 7 + 1, none⟩ = some (.int .i64 x.kind) := hcq 1 _ rfl
      have p1 : w12.frozen? ⟨gL, iN * 7 + 1, none⟩ = false := hfq _
      have hrt := (HF.out.right x (List.mem_of_getElem? hx)).1
      have hlk : 0 ≤ x.links ∧ x.links ≤ 100 := by
        unfold rightI at hrt
        simp only [Bool.and_eq_true, decide_eq_true_eq] at hrt
        exact ⟨hrt.1.1.2, hrt.1.2⟩
      have hwl : IntKind.i64.wrap (x.links + 1) = x.links + 1 := by rw [IntKind.wrap_i64]; omega
      have O9 := hid (O12.out.setCell (y := { x with kind := 9 }) (j := 1) (u := .int .i64 9) hx (by decide) (fun cs hcs => by obtain ⟨a, b, c, d, rfl, q⟩ := hcs; exact ⟨a, b, c, d, rfl, q⟩))
      have I9 := hid (I12.out.setCell (p := ⟨gL, iN * 7 + 1, none⟩) hbq hnq (.int .i64 9))
      have BT9 : BoxU W h8 (w12.setCell ⟨gL, iN * 7 + 1, none⟩ (.int .i64 9)) gT #[.int .i64 nn, .slice (some ⟨gL, 0, none⟩) xs.length cL, .slice A4 2 c4] 31 := BT.out.other hneT.out (iN * 7 + 1) [.int .i64 9]
      have BT9 := hid BT9
      have HXI := hid hx
      clear hrt hlk hx eq9 hcq hfq k0 k1 k2 f0 f1 f2 g0 g1 g2 g3 g4
      go_upto_region 31 with (fail)
      clear e1 p1 hm hmw
      with_reducible generalize w12.setCell ⟨gL, iN * 7 + 1, none⟩ (.int .i64 9) = w9 at O9 I9 BT9 ⊢
      obtain ⟨ys, hys⟩ : ∃ ys, xs.set iN { x with kind := 9 } = ys := ⟨_, rfl⟩
      have HSP0 := hid (show soundP ⟨nn, ys, [5, 7]⟩ wideG = false by rw [← hys]; exact spoil2 HXI.out _)
      have hyl : ys.length = xs.length := by rw [← hys, List.length_set]
      rw [hys] at O9
      clear hys
      obtain ⟨h9, A9, c9, ev, r9, le9, s9, cap9, -⟩ := O9.out.stay2 I9.out.sits (by omega)
      have S9 := hid s9
      rw [hyl] at ev cap9
      obtain ⟨rfl, rfl⟩ : some ⟨gL, 0, none⟩ = A9 ∧ cL = c9 := by simp only [Value.slice.injEq] at ev; exact ⟨ev.1, ev.2.2⟩
      clear ev O9 O12
      have HSP := hid (show soundP ⟨nn, ys, [5, 7]⟩ wideG = false from HSP0.out)
      have RT9 := hid (show repState h9 [.int .i64 nn, .slice (some ⟨gL, 0, none⟩) xs.length cL, .slice A4 2 c4] ⟨nn, ys, [5, 7]⟩ from ⟨some ⟨gL, 0, none⟩, cL, A4, c4, by show [_, Value.slice _ xs.length cL, _] = [_, Value.slice _ ys.length cL, _]; rw [hyl]; rfl, by show CapLe _ ys.length cL; rw [hyl]; exact cap9, r9, l4.out, r4.out.mono le9⟩)
      have KT := hid (fun (w' : World) (hs' : Sits h9 w') => state_Sound ⟨nn, ys, [5, 7]⟩ wideG [.int .i64 nn, .slice (some ⟨gL, 0, none⟩) xs.length cL, .slice A4 2 c4] [.int .i64 8, .int .i64 2048, .int .i64 12, .int .i64 8, .int .i64 32] false HSP.out h9 w' hs' RT9.out (rfl : _ = _))
      have KZ := hid (fun (w' : World) (hs' : Sits h8 w') => state_Sound (finS s) ⟨0, 0, 0, 0, 0⟩ [.int .i64 (finS s).next, .slice A3 (finS s).inodes.length c3, .slice A4 (finS s).bads.length c4] [.int .i64 0, .int .i64 0, .int .i64 0, .int .i64 0, .int .i64 0] false (not_geo _) h8 w' hs' RF.out (rfl : _ = _))
      have k0 := BT9.out.cell (j := 0) (v := .int .i64 nn) rfl
      have k1 := BT9.out.cell (j := 1) (v := .slice (some ⟨gL, 0, none⟩) xs.length cL) rfl
      have k2 := BT9.out.cell (j := 2) (v := .slice A4 2 c4) rfl
      obtain ⟨g0, g1, g2, g3, g4⟩ := CG.out _ I9.out.sits
      go_wp2_with (first | (go_at_call 10; refine (KZ.out _ E10.out.sits).mono ?_; rintro e w21 ⟨rfl, F⟩; have E11 := hid (E10.out.trans F); clear F) | (go_at_call 10; refine (KT.out _ S9.out).mono ?_; rintro e w20 ⟨rfl, F⟩; have E10 := hid (I9.out.trans (Ext.of_below I9.out.sits F.below)); obtain ⟨f0, f1, f2⟩ := CF.out _ E10.out.sits; clear F))
      go_ret
      exact ⟨rfl, E11.out.back⟩
    · obtain ⟨h13, A13, c13, ev, r13, le13, I13, cap13, fr13⟩ := O12.out.stayE I12.out (Nat.le_refl _) (by omega)
      obtain ⟨rfl, rfl⟩ : some ⟨gL, 0, none⟩ = A13 ∧ cL = c13 := by simp only [Value.slice.injEq] at ev; exact ⟨ev.1, ev.2.2⟩
      have BT13 := hid (⟨BT.out.row, fr13 gT BT.out.free (fun e => hneT.out (by simp only [Value.ownBlock, Option.some.injEq] at e; exact e.symm)), BT.out.base⟩ : BoxU W h13 w12 gT #[.int .i64 nn, .slice (some ⟨gL, 0, none⟩) xs.length cL, .slice A4 2 c4] 31)
      have I13 := hid I13
      have r13 := hid r13
      have L13 := hid le13
      have cap13 := hid cap13
      clear ev fr13 le13
      obtain ⟨h14, F14, hb14, le14, -⟩ := (Ext.refl I13.out.sits).boxF #[.int .i64 7, .int .i64 5] 3
      have I14 := hid (I13.out.trans F14)
      have BT14 := hid (BT13.out.ext F14)
      have rb := hid (RowAt.of_block (xs := [(7 : Int), (5 : Int)]) hb14 (⟨[.int .i64 7], [.int .i64 5], rfl, rfl, ⟨[.int .i64 5], [], rfl, rfl, rfl⟩⟩ : Reps h14 [.int .i64 7, .int .i64 5] [(7 : Int), (5 : Int)]) (by decide))
      have L14 := hid (L13.out.trans le14)
      have r14 := hid (r13.out.mono le14)
      have b2' := BT14.out.open_ 2
      have k2' := BT14.out.cell (j := 2) (v := .slice A4 2 c4) rfl
      clear F14 hb14 le14 hx f0 f1 f2 k0 k1 b0 b1
      go_upto_region 31 with (fail)
      clear hm hmw b2 b2' k2 k2' g0 g1 g2 g3 g4
      generalize w12.heap.size = gB at *
      with_reducible generalize w12.alloc (.cells #[.int .i64 7, .int .i64 5] 3) = w14 at I14 BT14 ⊢
      have BT9 : BoxU W _ (w14.setCell ⟨gT, 2, none⟩ (.slice (some ⟨gB, 0, none⟩) 2 2)) gT #[.int .i64 nn, .slice (some ⟨gL, 0, none⟩) xs.length cL, .slice (some ⟨gB, 0, none⟩) 2 2] 31 := BT14.out.part 2 [.slice (some ⟨gB, 0, none⟩) 2 2] (Nat.le_of_ble_eq_true rfl)
      have I9 : Ext (fhOf W) W _ (w14.setCell ⟨gT, 2, none⟩ (.slice (some ⟨gB, 0, none⟩) 2 2)) := BT14.out.wr I14.out 2 [.slice (some ⟨gB, 0, none⟩) 2 2]
      with_reducible generalize (w14.setCell ⟨gT, 2, none⟩ (.slice (some ⟨gB, 0, none⟩) 2 2)) = w9 at BT9 I9 ⊢
      have BT9 := hid BT9
      have I9 := hid I9
      have S9 := hid I9.out.sits
      have I9 := hid (I9.out.drop I12.out.le L14.out)
      have HSP := hid (show soundP ⟨nn, xs, [7, 5]⟩ wideG = false from spoil3 _ _)
      have RT9 := hid (show repState h14 [.int .i64 nn, .slice (some ⟨gL, 0, none⟩) xs.length cL, .slice (some ⟨gB, 0, none⟩) 2 2] ⟨nn, xs, [7, 5]⟩ from ⟨_, cL, _, 2, rfl, cap13.out, r14.out, ⟨Nat.le_refl _, (fun e => by cases e), by decide⟩, rb.out⟩)
      have KT := hid (fun (w' : World) (hs' : Sits h14 w') => state_Sound ⟨nn, xs, [7, 5]⟩ wideG [.int .i64 nn, .slice (some ⟨gL, 0, none⟩) xs.length cL, .slice (some ⟨gB, 0, none⟩) 2 2] [.int .i64 8, .int .i64 2048, .int .i64 12, .int .i64 8, .int .i64 32] false HSP.out h14 w' hs' RT9.out (rfl : _ = _))
      have KZ := hid (fun (w' : World) (hs' : Sits h8 w') => state_Sound (finS s) ⟨0, 0, 0, 0, 0⟩ [.int .i64 (finS s).next, .slice A3 (finS s).inodes.length c3, .slice A4 (finS s).bads.length c4] [.int .i64 0, .int .i64 0, .int .i64 0, .int .i64 0, .int .i64 0] false (not_geo _) h8 w' hs' RF.out (rfl : _ = _))
      have k0 := BT9.out.cell (j := 0) (v := .int .i64 nn) rfl
      have k1 := BT9.out.cell (j := 1) (v := .slice (some ⟨gL, 0, none⟩) xs.length cL) rfl
      have k2 := BT9.out.cell (j := 2) (v := .slice (some ⟨gB, 0, none⟩) 2 2) rfl
      obtain ⟨g0, g1, g2, g3, g4⟩ := CG.out _ I9.out.sits
      go_wp2_with (first | (go_at_call 10; refine (KZ.out _ E10.out.sits).mono ?_; rintro e w21 ⟨rfl, F⟩; have E11 := hid (E10.out.trans F); clear F) | (go_at_call 10; refine (KT.out _ S9.out).mono ?_; rintro e w20 ⟨rfl, F⟩; have E10 := hid (I9.out.trans (Ext.of_below I9.out.sits F.below)); obtain ⟨f0, f1, f2⟩ := CF.out _ E10.out.sits; clear F))
      go_ret
      exact ⟨rfl, E11.out.back⟩
    · obtain ⟨h13, A13, c13, ev, r13, le13, I13, cap13, fr13⟩ := O12.out.stayE I12.out (Nat.le_refl _) (by omega)
      obtain ⟨rfl, rfl⟩ : some ⟨gL, 0, none⟩ = A13 ∧ cL = c13 := by simp only [Value.slice.injEq] at ev; exact ⟨ev.1, ev.2.2⟩
      have BT13 := hid (⟨BT.out.row, fr13 gT BT.out.free (fun e => hneT.out (by simp only [Value.ownBlock, Option.some.injEq] at e; exact e.symm)), BT.out.base⟩ : BoxU W h13 w12 gT #[.int .i64 nn, .slice (some ⟨gL, 0, none⟩) xs.length cL, .slice A4 2 c4] 31)
      have I13 := hid I13
      have r13 := hid r13
      have L13 := hid le13
      have cap13 := hid cap13
      clear ev fr13 le13
      obtain ⟨h14, F14, hb14, le14, -⟩ := (Ext.refl I13.out.sits).boxF #[.int .i64 12] 3
      have I14 := hid (I13.out.trans F14)
      have BT14 := hid (BT13.out.ext F14)
      have rb := hid (RowAt.of_block (xs := [(12 : Int)]) hb14 (⟨[.int .i64 12], [], rfl, rfl, rfl⟩ : Reps h14 [.int .i64 12] [(12 : Int)]) (by decide))
      have L14 := hid (L13.out.trans le14)
      have r14 := hid (r13.out.mono le14)
      have b2' := BT14.out.open_ 2
      have k2' := BT14.out.cell (j := 2) (v := .slice A4 2 c4) rfl
      clear F14 hb14 le14 hx f0 f1 f2 k0 k1 b0 b1
      go_upto_region 31 with (fail)
      clear hm hmw b2 b2' k2 k2' g0 g1 g2 g3 g4
      generalize w12.heap.size = gB at *
      with_reducible generalize w12.alloc (.cells #[.int .i64 12] 3) = w14 at I14 BT14 ⊢
      have BT9 : BoxU W _ (w14.setCell ⟨gT, 2, none⟩ (.slice (some ⟨gB, 0, none⟩) 1 1)) gT #[.int .i64 nn, .slice (some ⟨gL, 0, none⟩) xs.length cL, .slice (some ⟨gB, 0, none⟩) 1 1] 31 := BT14.out.part 2 [.slice (some ⟨gB, 0, none⟩) 1 1] (Nat.le_of_ble_eq_true rfl)
      have I9 : Ext (fhOf W) W _ (w14.setCell ⟨gT, 2, none⟩ (.slice (some ⟨gB, 0, none⟩) 1 1)) := BT14.out.wr I14.out 2 [.slice (some ⟨gB, 0, none⟩) 1 1]
      with_reducible generalize (w14.setCell ⟨gT, 2, none⟩ (.slice (some ⟨gB, 0, none⟩) 1 1)) = w9 at BT9 I9 ⊢
      have BT9 := hid BT9
      have I9 := hid I9
      have S9 := hid I9.out.sits
      have I9 := hid (I9.out.drop I12.out.le L14.out)
      have HSP := hid (show soundP ⟨nn, xs, [12]⟩ wideG = false from spoil4 _ _)
      have RT9 := hid (show repState h14 [.int .i64 nn, .slice (some ⟨gL, 0, none⟩) xs.length cL, .slice (some ⟨gB, 0, none⟩) 1 1] ⟨nn, xs, [12]⟩ from ⟨_, cL, _, 1, rfl, cap13.out, r14.out, ⟨Nat.le_refl _, (fun e => by cases e), by decide⟩, rb.out⟩)
      have KT := hid (fun (w' : World) (hs' : Sits h14 w') => state_Sound ⟨nn, xs, [12]⟩ wideG [.int .i64 nn, .slice (some ⟨gL, 0, none⟩) xs.length cL, .slice (some ⟨gB, 0, none⟩) 1 1] [.int .i64 8, .int .i64 2048, .int .i64 12, .int .i64 8, .int .i64 32] false HSP.out h14 w' hs' RT9.out (rfl : _ = _))
      have KZ := hid (fun (w' : World) (hs' : Sits h8 w') => state_Sound (finS s) ⟨0, 0, 0, 0, 0⟩ [.int .i64 (finS s).next, .slice A3 (finS s).inodes.length c3, .slice A4 (finS s).bads.length c4] [.int .i64 0, .int .i64 0, .int .i64 0, .int .i64 0, .int .i64 0] false (not_geo _) h8 w' hs' RF.out (rfl : _ = _))
      have k0 := BT9.out.cell (j := 0) (v := .int .i64 nn) rfl
      have k1 := BT9.out.cell (j := 1) (v := .slice (some ⟨gL, 0, none⟩) xs.length cL) rfl
      have k2 := BT9.out.cell (j := 2) (v := .slice (some ⟨gB, 0, none⟩) 1 1) rfl
      obtain ⟨g0, g1, g2, g3, g4⟩ := CG.out _ I9.out.sits
      go_wp2_with (first | (go_at_call 10; refine (KZ.out _ E10.out.sits).mono ?_; rintro e w21 ⟨rfl, F⟩; have E11 := hid (E10.out.trans F); clear F) | (go_at_call 10; refine (KT.out _ S9.out).mono ?_; rintro e w20 ⟨rfl, F⟩; have E10 := hid (I9.out.trans (Ext.of_below I9.out.sits F.below)); obtain ⟨f0, f1, f2⟩ := CF.out _ E10.out.sits; clear F))
      go_ret
      exact ⟨rfl, E11.out.back⟩
    · obtain ⟨gq, cq, cs9, eq9, hbq, hlq, hnq, hrq, hcq, hfq⟩ := O12.out.get hx
      obtain ⟨rfl, rfl⟩ : gL = gq ∧ cL = cq := by simp only [Value.slice.injEq, Option.some.injEq, Addr.mk.injEq, and_true, true_and] at eq9; exact eq9
      obtain ⟨B5, d5, B6, d6, rfl, t0, t1, t2, t3, t4⟩ := hrq
      have e0 : w12.cell? ⟨gL, iN * 7, none⟩ = some (.int .i64 x.no) := hcq 0 _ rfl
      have e1 : w12.cell? ⟨gL, iN * 7 + 1, none⟩ = some (.int .i64 x.kind) := hcq 1 _ rfl
      have e2 : w12.cell? ⟨gL, iN * 7 + 2, none⟩ = some (.int .i64 x.links) := hcq 2 _ rfl
      have e3 : w12.cell? ⟨gL, iN * 7 + 3, none⟩ = some (.int .i64 x.size) := hcq 3 _ rfl
      have e4 : w12.cell? ⟨gL, iN * 7 + 4, none⟩ = some (.string x.target) := hcq 4 _ rfl
      have e5 : w12.cell? ⟨gL, iN * 7 + 5, none⟩ = some (.slice B5 x.entries.length d5) := hcq 5 _ rfl
      have e6 : w12.cell? ⟨gL, iN * 7 + 6, none⟩ = some (.slice B6 x.runs.length d6) := hcq 6 _ rfl
      have HXI := hid (List.mem_of_getElem? hx)
      clear eq9 hcq hfq f0 f1 f2 g0 g1 g2 g3 g4
      clear hx k0 k1 k2 b0 b1 b2
      have HBY := hid (show (xs.length + 1) * 96 ≤ 140737488355328 by omega)
      have RY := hid (show repInode h8 [.int .i64 x.no, .int .i64 x.kind, .int .i64 x.links, .int .i64 x.size, .string x.target, .slice B5 x.entries.length d5, .slice B6 x.runs.length d6] x from ⟨B5, d5, B6, d6, rfl, t0, t1, t2, t3, t4⟩)
      go_upto_region 31 with (at_builtin; go_loud (refine wpList_append1At rfl _ _ 28 rfl W.heap.size 37 96 ty_Inode _ xs rfl (O12.out.alloc _) (I12.out.sits.alloc _) _ rfl _ (x : Inode) RY.out (cells_of_box (heap_new _ _)) HBY.out (by decide) (I12.out.alloc _).size ?_; intro v15 w15 O15 G15; obtain ⟨A9, c9, rfl, -⟩ := O15.slice; have I15 := hid ((I12.out.alloc (.cells #[.int .i64 x.no, .int .i64 x.kind, .int .i64 x.links, .int .i64 x.size, .string x.target, .slice B5 x.entries.length d5, .slice B6 x.runs.length d6] 37)).grown G15 (fun k hk => ⟨(O12.out.lt k hk).1, O12.out.free k hk⟩)); have BT15 := hid ((BT.out.alloc (.cells #[.int .i64 x.no, .int .i64 x.kind, .int .i64 x.links, .int .i64 x.size, .string x.target, .slice B5 x.entries.length d5, .slice B6 x.runs.length d6] 37)).grownU G15 (fun e => hneT.out (Option.some.inj (show (some gL : Option Nat) = some gT from e)).symm)); have O15 := hid O15; have b1' := BT15.out.open_ 1; have k1' := BT15.out.cell (j := 1) (v := .slice (some ⟨gL, 0, none⟩) xs.length cL) rfl; clear G15))
      clear hm hmw b1' k1'
      obtain ⟨h16, A16, c16, ev, r16, le16, I16, cap16, fr16⟩ := O15.out.stayE I15.out (Nat.le_refl _) (by rw [List.length_append]; simp; omega)
      have BT16 := hid (⟨BT15.out.row, fr16 gT BT15.out.free (O15.out.neB BT15.out (by decide)), BT15.out.base⟩ : BoxU W h16 w15 gT #[.int .i64 nn, .slice (some ⟨gL, 0, none⟩) xs.length cL, .slice A4 2 c4] 31)
      obtain ⟨rfl, rfl⟩ : A9 = A16 ∧ c9 = c16 := by simp only [Value.slice.injEq] at ev; exact ⟨ev.1, ev.2.2⟩
      clear ev
      have I16 := hid I16
      have BT9 : BoxU W _ (w15.setCell ⟨gT, 1, none⟩ (.slice A9 (xs.length + 1) c9)) gT #[.int .i64 nn, .slice A9 (xs.length + 1) c9, .slice A4 2 c4] 31 := BT16.out.part 1 [.slice A9 (xs.length + 1) c9] (Nat.le_of_ble_eq_true rfl)
      have I9 : Ext (fhOf W) W _ (w15.setCell ⟨gT, 1, none⟩ (.slice A9 (xs.length + 1) c9)) := BT16.out.wr I16.out 1 [.slice A9 (xs.length + 1) c9]
      with_reducible generalize (w15.setCell ⟨gT, 1, none⟩ (.slice A9 (xs.length + 1) c9)) = w9 at BT9 I9 ⊢
      have BT9 := hid BT9
      have I9 := hid I9
      have S9 := hid I9.out.sits
      have I9 := hid (I9.out.drop I12.out.le ((FLe.refl h8).trans le16))
      have HSP := hid (show soundP ⟨nn, xs ++ [x], [5, 7]⟩ wideG = false from spoil5 HXI.out _)
      have RT9 := hid (show repState h16 [.int .i64 nn, .slice A9 (xs.length + 1) c9, .slice A4 2 c4] ⟨nn, xs ++ [x], [5, 7]⟩ from ⟨A9, c9, A4, c4, by show [_, Value.slice _ (xs.length + 1) _, _] = [_, Value.slice _ (xs ++ [x]).length _, _]; rw [List.length_append]; rfl, cap16, r16, l4.out, r4.out.mono ((FLe.refl h8).trans le16)⟩)
      have KT := hid (fun (w' : World) (hs' : Sits h16 w') => state_Sound ⟨nn, xs ++ [x], [5, 7]⟩ wideG [.int .i64 nn, .slice A9 (xs.length + 1) c9, .slice A4 2 c4] [.int .i64 8, .int .i64 2048, .int .i64 12, .int .i64 8, .int .i64 32] false HSP.out h16 w' hs' RT9.out (rfl : _ = _))
      have KZ := hid (fun (w' : World) (hs' : Sits h8 w') => state_Sound (finS s) ⟨0, 0, 0, 0, 0⟩ [.int .i64 (finS s).next, .slice A3 (finS s).inodes.length c3, .slice A4 (finS s).bads.length c4] [.int .i64 0, .int .i64 0, .int .i64 0, .int .i64 0, .int .i64 0] false (not_geo _) h8 w' hs' RF.out (rfl : _ = _))
      have k0 := BT9.out.cell (j := 0) (v := .int .i64 nn) rfl
      have k1 := BT9.out.cell (j := 1) (v := .slice A9 (xs.length + 1) c9) rfl
      have k2 := BT9.out.cell (j := 2) (v := .slice A4 2 c4) rfl
      obtain ⟨g0, g1, g2, g3, g4⟩ := CG.out _ I9.out.sits
      go_wp2_with (first | (go_at_call 10; refine (KZ.out _ E10.out.sits).mono ?_; rintro e w21 ⟨rfl, F⟩; have E11 := hid (E10.out.trans F); clear F) | (go_at_call 10; refine (KT.out _ S9.out).mono ?_; rintro e w20 ⟨rfl, F⟩; have E10 := hid (I9.out.trans (Ext.of_below I9.out.sits F.below)); obtain ⟨f0, f1, f2⟩ := CF.out _ E10.out.sits; clear F))
      go_ret
      exact ⟨rfl, E11.out.back⟩
    · obtain ⟨h13, A13, c13, ev, r13, le13, I13, cap13, fr13⟩ := O12.out.stayE I12.out (Nat.le_refl _) (by omega)
      obtain ⟨rfl, rfl⟩ : some ⟨gL, 0, none⟩ = A13 ∧ cL = c13 := by simp only [Value.slice.injEq] at ev; exact ⟨ev.1, ev.2.2⟩
      have BT13 := hid (⟨BT.out.row, fr13 gT BT.out.free (fun e => hneT.out (by simp only [Value.ownBlock, Option.some.injEq] at e; exact e.symm)), BT.out.base⟩ : BoxU W h13 w12 gT #[.int .i64 nn, .slice (some ⟨gL, 0, none⟩) xs.length cL, .slice A4 2 c4] 31)
      have I13 := hid I13
      have r13 := hid r13
      have L13 := hid le13
      have cap13 := hid cap13
      clear ev fr13 le13
      clear hx f0 f1 f2 g0 g1 g2 g3 g4 k0 k2 b0 b2
      by_cases hc1 : cL = 1
      · have hsub : IntKind.i64.wrap ((xs.length : Int) - 1) = ((xs.length - 1 : Nat) : Int) := by rw [IntKind.wrap_i64]; omega
        have hcl := cap13.out.le
        have hc2 : (1 : Int) ≤ (xs.length : Int) := by omega
        have hc3 : (xs.length : Int) ≤ (cL : Int) := by omega
        have HC1 := hid hc1
        subst hc1
        go_upto_region 31 with (fail)
        clear hm hmw b1 k1 hsub
        have BT9 : BoxU W _ (w12.setCell ⟨gT, 1, none⟩ (.slice (some ⟨gL, 0, none⟩) 0 0)) gT #[.int .i64 nn, .slice (some ⟨gL, 0, none⟩) 0 0, .slice A4 2 c4] 31 := BT13.out.part 1 [.slice (some ⟨gL, 0, none⟩) 0 0] (Nat.le_of_ble_eq_true rfl)
        have I9 : Ext (fhOf W) W _ (w12.setCell ⟨gT, 1, none⟩ (.slice (some ⟨gL, 0, none⟩) 0 0)) := BT13.out.wr I13.out 1 [.slice (some ⟨gL, 0, none⟩) 0 0]
        with_reducible generalize (w12.setCell ⟨gT, 1, none⟩ (.slice (some ⟨gL, 0, none⟩) 0 0)) = w9 at BT9 I9 ⊢
        have BT9 := hid BT9
        have I9 := hid I9
        have S9 := hid I9.out.sits
        have I9 := hid (I9.out.drop I12.out.le L13.out)
        have hx10 : xs.length - 1 = 0 := by omega
        have HSP := hid (show soundP ⟨nn, xs.drop 1, [5, 7]⟩ wideG = false from HF.out.spoil6 _ _)
        have RT9 := hid (show repState h13 [.int .i64 nn, .slice (some ⟨gL, 0, none⟩) 0 0, .slice A4 2 c4] ⟨nn, xs.drop 1, [5, 7]⟩ from ⟨_, _, A4, c4, by show [_, Value.slice _ 0 _, _] = [_, Value.slice _ (xs.drop 1).length _, _]; rw [List.length_drop, hx10]; rfl, ⟨by simp only [List.length_drop]; have := cap13.out.le; omega, (fun e => by cases e), by have := cap13.out.mx; omega⟩, (by have := r13.out.dropS 1 1 (by omega) cap13.out.le; rw [if_pos rfl] at this; exact this), l4.out, r4.out.mono L13.out⟩)
        have KT := hid (fun (w' : World) (hs' : Sits h13 w') => state_Sound ⟨nn, xs.drop 1, [5, 7]⟩ wideG [.int .i64 nn, .slice (some ⟨gL, 0, none⟩) 0 0, .slice A4 2 c4] [.int .i64 8, .int .i64 2048, .int .i64 12, .int .i64 8, .int .i64 32] false HSP.out h13 w' hs' RT9.out (rfl : _ = _))
        have KZ := hid (fun (w' : World) (hs' : Sits h8 w') => state_Sound (finS s) ⟨0, 0, 0, 0, 0⟩ [.int .i64 (finS s).next, .slice A3 (finS s).inodes.length c3, .slice A4 (finS s).bads.length c4] [.int .i64 0, .int .i64 0, .int .i64 0, .int .i64 0, .int .i64 0] false (not_geo _) h8 w' hs' RF.out (rfl : _ = _))
        have k0 := BT9.out.cell (j := 0) (v := .int .i64 nn) rfl
        have k1 := BT9.out.cell (j := 1) (v := .slice (some ⟨gL, 0, none⟩) 0 0) rfl
        have k2 := BT9.out.cell (j := 2) (v := .slice A4 2 c4) rfl
        obtain ⟨g0, g1, g2, g3, g4⟩ := CG.out _ I9.out.sits
        go_wp2_with (first | (go_at_call 10; refine (KZ.out _ E10.out.sits).mono ?_; rintro e w21 ⟨rfl, F⟩; have E11 := hid (E10.out.trans F); clear F) | (go_at_call 10; refine (KT.out _ S9.out).mono ?_; rintro e w20 ⟨rfl, F⟩; have E10 := hid (I9.out.trans (Ext.of_below I9.out.sits F.below)); obtain ⟨f0, f1, f2⟩ := CF.out _ E10.out.sits; clear F))
        go_ret
        exact ⟨rfl, E11.out.back⟩
      · have hsub : IntKind.i64.wrap ((xs.length : Int) - 1) = ((xs.length - 1 : Nat) : Int) := by rw [IntKind.wrap_i64]; omega
        have hcl := cap13.out.le
        have hc2 : (1 : Int) ≤ (xs.length : Int) := by omega
        have hc3 : (xs.length : Int) ≤ (cL : Int) := by omega
        have HC1 := hid hc1
        go_upto_region 31 with (fail)
        clear hm hmw b1 k1 hsub
        have BT9 : BoxU W _ (w12.setCell ⟨gT, 1, none⟩ (.slice (some ⟨gL, 7, none⟩) (xs.length - 1) (cL - 1))) gT #[.int .i64 nn, .slice (some ⟨gL, 7, none⟩) (xs.length - 1) (cL - 1), .slice A4 2 c4] 31 := BT13.out.part 1 [.slice (some ⟨gL, 7, none⟩) (xs.length - 1) (cL - 1)] (Nat.le_of_ble_eq_true rfl)
        have I9 : Ext (fhOf W) W _ (w12.setCell ⟨gT, 1, none⟩ (.slice (some ⟨gL, 7, none⟩) (xs.length - 1) (cL - 1))) := BT13.out.wr I13.out 1 [.slice (some ⟨gL, 7, none⟩) (xs.length - 1) (cL - 1)]
        with_reducible generalize (w12.setCell ⟨gT, 1, none⟩ (.slice (some ⟨gL, 7, none⟩) (xs.length - 1) (cL - 1))) = w9 at BT9 I9 ⊢
        have BT9 := hid BT9
        have I9 := hid I9
        have S9 := hid I9.out.sits
        have I9 := hid (I9.out.drop I12.out.le L13.out)
        have HSP := hid (show soundP ⟨nn, xs.drop 1, [5, 7]⟩ wideG = false from HF.out.spoil6 _ _)
        have RT9 := hid (show repState h13 [.int .i64 nn, .slice (some ⟨gL, 7, none⟩) (xs.length - 1) (cL - 1), .slice A4 2 c4] ⟨nn, xs.drop 1, [5, 7]⟩ from ⟨_, _, A4, c4, by show [_, Value.slice _ (xs.length - 1) _, _] = [_, Value.slice _ (xs.drop 1).length _, _]; rw [List.length_drop]; rfl, ⟨by simp only [List.length_drop]; have := cap13.out.le; omega, (fun e => by cases e), by have := cap13.out.mx; omega⟩, (by have := r13.out.dropS 1 cL (by omega) cap13.out.le; rw [if_neg hc1] at this; exact this), l4.out, r4.out.mono L13.out⟩)
        have KT := hid (fun (w' : World) (hs' : Sits h13 w') => state_Sound ⟨nn, xs.drop 1, [5, 7]⟩ wideG [.int .i64 nn, .slice (some ⟨gL, 7, none⟩) (xs.length - 1) (cL - 1), .slice A4 2 c4] [.int .i64 8, .int .i64 2048, .int .i64 12, .int .i64 8, .int .i64 32] false HSP.out h13 w' hs' RT9.out (rfl : _ = _))
        have KZ := hid (fun (w' : World) (hs' : Sits h8 w') => state_Sound (finS s) ⟨0, 0, 0, 0, 0⟩ [.int .i64 (finS s).next, .slice A3 (finS s).inodes.length c3, .slice A4 (finS s).bads.length c4] [.int .i64 0, .int .i64 0, .int .i64 0, .int .i64 0, .int .i64 0] false (not_geo _) h8 w' hs' RF.out (rfl : _ = _))
        have k0 := BT9.out.cell (j := 0) (v := .int .i64 nn) rfl
        have k1 := BT9.out.cell (j := 1) (v := .slice (some ⟨gL, 7, none⟩) (xs.length - 1) (cL - 1)) rfl
        have k2 := BT9.out.cell (j := 2) (v := .slice A4 2 c4) rfl
        obtain ⟨g0, g1, g2, g3, g4⟩ := CG.out _ I9.out.sits
        go_wp2_with (first | (go_at_call 10; refine (KZ.out _ E10.out.sits).mono ?_; rintro e w21 ⟨rfl, F⟩; have E11 := hid (E10.out.trans F); clear F) | (go_at_call 10; refine (KT.out _ S9.out).mono ?_; rintro e w20 ⟨rfl, F⟩; have E10 := hid (I9.out.trans (Ext.of_below I9.out.sits F.below)); obtain ⟨f0, f1, f2⟩ := CF.out _ E10.out.sits; clear F))
        go_ret
        exact ⟨rfl, E11.out.back⟩
    · obtain ⟨x, hx0⟩ : ∃ x, xs[0]? = some x := ⟨_, List.getElem?_eq_getElem hxl⟩
      obtain ⟨gq, cq, cs9, eq9, hbq, hlq, hnq, hrq, hcq, hfq⟩ := O12.out.get hx0
      obtain ⟨rfl, rfl⟩ : gL = gq ∧ cL = cq := by simp only [Value.slice.injEq, Option.some.injEq, Addr.mk.injEq, and_true, true_and] at eq9; exact eq9
      obtain ⟨B5, d5, B6, d6, rfl, t0, t1, t2, t3, t4⟩ := hrq
      have e5 : w12.cell? ⟨gL, 5, none⟩ = some (.slice B5 x.entries.length d5) := by have q := hcq 5 _ rfl; rwa [Nat.zero_mul, Nat.zero_add] at q
      have p5 : w12.frozen? ⟨gL, 5, none⟩ = false := hfq _
      have hrt := (rightI_fine (HF.out.right x (List.mem_of_getElem? hx0)).1).2
      have HB1 := hid (show (([] : List Entry).length + x.entries.length) * 24 ≤ 140737488355328 by show (0 + x.entries.length) * 24 ≤ _; omega)
      have HB2 := hid (show (x.entries.length + 1) * 24 ≤ 140737488355328 by omega)
      have HBX := hid (show x.entries.length + 1 ≤ 9223372036854775807 by omega)
      have HXI := hid hx0
      have T0 := hid t0
      have T1 := hid t1
      have T2 := hid t2
      have T3 := hid t3
      have T4 := hid t4
      have SZ := hid (fun (w' : World) (s : St7 W h8 w' gL cL xs gT #[.int .i64 nn, .slice (some ⟨gL, 0, none⟩) xs.length cL, .slice A4 2 c4]) => s)
      have S12 := hid (show St7 W h8 w12 gL cL xs gT #[.int .i64 nn, .slice (some ⟨gL, 0, none⟩) xs.length cL, .slice A4 2 c4] from ⟨I12.out, O12.out, BT.out⟩)
      have S12d := hid S12.out.drew
      clear hrt hx eq9 hcq hfq hx0 f1 f2 g0 g1 g2 g3 g4 hi0 hi1 t0 t1 t2 t3 t4
      have CF7 := hid (fun (w' : World) (hs' : Sits h8 w') => (show w'.cell? ⟨gS, 0, none⟩ = some (.int .i64 nn) from by have q := (CF.out w' hs').1; rw [HNNE.out] at q; exact q))
      go_upto_region 28 with (fail)
      clear hnn3 hlx hmw hm b0 b1 b2 k0 k1 k2
      go_region_law (first
        | (rw [if_pos (by rfl)]; refine step_appendR _ _ 34 rfl W.heap.size 44 24 ty_Entry (.slice none 0 0) [] x.entries rfl (OwnL.nil _ _ _ _) (SZ.out _ (by first | with_reducible exact S12d.out | with_reducible exact S12d.out.alloc _ | with_reducible exact (S12.out.alloc _).drew)).1.sits B5 _ d5 rfl rfl T2.out HB1.out (by decide) (SZ.out _ (by first | with_reducible exact S12d.out | with_reducible exact S12d.out.alloc _ | with_reducible exact (S12.out.alloc _).drew)).1.size ?_; intro v14 w14 O14 hg14; rw [List.nil_append] at O14; have S14 := hid (St7.grown (SZ.out _ (by first | with_reducible exact S12d.out | with_reducible exact S12d.out.alloc _ | with_reducible exact (S12.out.alloc _).drew)) hg14 (fun k hk => by cases hk)); obtain ⟨A14, c14, rfl, -⟩ := O14.slice; have f14 := S14.out.cellS CF7.out)
        | (rw [if_pos (by rfl)]; refine step_append1At _ _ 34 rfl W.heap.size 44 24 ty_Entry (.slice A14 x.entries.length c14) x.entries rfl (by first | with_reducible exact O14 | with_reducible exact O14.alloc _) (SZ.out _ (by first | with_reducible exact S14.out | with_reducible exact S14.out.alloc _)).1.sits _ rfl [.string ⟨#[122, 122, 122]⟩, .int .i64 nn] (⟨⟨#[122, 122, 122]⟩, nn⟩ : Entry) ⟨rfl, (by show (⟨#[122, 122, 122]⟩ : ByteArray).size ≤ 9223372036854775807; decide)⟩ (by first | exact newcells _ [.string ⟨#[122, 122, 122]⟩, .int .i64 nn] _ | exact fun j u hu => hg14.cell (newcells _ [.string ⟨#[122, 122, 122]⟩, .int .i64 nn] _ j u hu) (by simp [Value.ownBlock])) HB2.out (by decide) (SZ.out _ (by first | with_reducible exact S14.out | with_reducible exact S14.out.alloc _)).1.size ?_; intro v15 w15 O15 hg15; obtain ⟨A15, c15, rfl, -⟩ := O15.slice; have S15 := hid (St7.grownE (SZ.out _ (by first | with_reducible exact S14.out | with_reducible exact S14.out.alloc _)) (by first | with_reducible exact O14 | with_reducible exact O14.alloc _) hg15); obtain ⟨⟨u15, e15⟩, p15⟩ := S15.out.cell5 HXI.out))
      all_goals
        obtain ⟨h16, A16, c16, ev, r16, le16, I16, cap16, fr16⟩ := O15.stayE S15.out.1 (Nat.le_refl _) (by rw [List.length_append]; exact HBX.out)
        obtain ⟨rfl, rfl⟩ : A15 = A16 ∧ c15 = c16 := by simp only [Value.slice.injEq] at ev; exact ⟨ev.1, ev.2.2⟩
        have BT16 := hid (⟨S15.out.2.2.row, fr16 gT S15.out.2.2.free (O15.neB S15.out.2.2 (by decide)), S15.out.2.2.base⟩ : BoxU W h16 w15 gT #[.int .i64 nn, .slice (some ⟨gL, 0, none⟩) xs.length cL, .slice A4 2 c4] 31)
        have OL16 := hid (S15.out.2.1.kept (World.grownBy.refl w15 none) (.inr (fun e => by cases e)) le16 (fun g hg => fr16 g (S15.out.2.1.free g hg) (fun e => O15.neO S15.out.2.1 (by decide) g e hg)))
        have O9 := hid (show OwnL h16 (w15.setCell ⟨gL, 5, none⟩ (.slice A15 (x.entries.length + 1) c15)) W.heap.size 37 (.slice (some ⟨gL, 0, none⟩) xs.length cL) (xs.set 0 ({ x with entries := x.entries ++ [(⟨⟨#[122, 122, 122]⟩, nn⟩ : Entry)] } : Inode)) from OL16.out.setCell (i := 0) (y := ({ x with entries := x.entries ++ [(⟨⟨#[122, 122, 122]⟩, nn⟩ : Entry)] } : Inode)) (j := 5) (u := (.slice A15 (x.entries.length + 1) c15)) HXI.out (by decide) (fun cs hcs => by
          obtain ⟨a, b, c, d, rfl, q0, q1, q2, q3, q4⟩ := hcs
          refine ⟨A15, c15, c, d, ?_, q0, cap16, r16, q3, q4⟩
          show [_, _, _, _, _, Value.slice A15 (x.entries.length + 1) c15, _] = [_, _, _, _, _, Value.slice A15 (x.entries ++ [(⟨⟨#[122, 122, 122]⟩, nn⟩ : Entry)]).length c15, _]
          rw [List.length_append]
          rfl))
        have hb16 := (OL16.out.lt gL rfl).1
        have hf16 := OL16.out.free gL rfl
        have I9 := hid (I16.setCell (p := ⟨gL, 5, none⟩) hb16 hf16 (.slice A15 (x.entries.length + 1) c15))
        have BT9 : BoxU W h16 (w15.setCell ⟨gL, 5, none⟩ (.slice A15 (x.entries.length + 1) c15)) gT #[.int .i64 nn, .slice (some ⟨gL, 0, none⟩) xs.length cL, .slice A4 2 c4] 31 := BT16.out.other hneT.out 5 [(.slice A15 (x.entries.length + 1) c15)]
        have BT9 := hid BT9
        clear ev r16 I16 cap16 fr16 hg15 hg14 f14 e15 p15 O15 O14 e5 p5
        go_upto_region 31 with (fail)
        with_reducible generalize w15.setCell ⟨gL, 5, none⟩ (.slice A15 (x.entries.length + 1) c15) = w9 at O9 I9 BT9 ⊢
        obtain ⟨ys, hys⟩ : ∃ ys, xs.set 0 ({ x with entries := x.entries ++ [(⟨⟨#[122, 122, 122]⟩, nn⟩ : Entry)] } : Inode) = ys := ⟨_, rfl⟩
        have HSP0 := hid (show soundP ⟨nn, ys, [5, 7]⟩ wideG = false by rw [← hys]; exact HF.out.spoil7 HXI.out _ _)
        have hyl : ys.length = xs.length := by rw [← hys, List.length_set]
        rw [hys] at O9
        clear hys
        have HLY := HLX.out
        obtain ⟨h9, A9, c9, ev, r9, le9, s9, cap9, -⟩ := O9.out.stay2 I9.out.sits (by rw [hyl]; omega)
        have S9 := hid s9
        rw [hyl] at ev cap9
        obtain ⟨rfl, rfl⟩ : some ⟨gL, 0, none⟩ = A9 ∧ cL = c9 := by simp only [Value.slice.injEq] at ev; exact ⟨ev.1, ev.2.2⟩
        have I9 := hid (I9.out.drop I12.out.le le16)
        have L9 := hid (le16.trans le9)
        clear ev O9 le9 le16
        have HSP := hid (show soundP ⟨nn, ys, [5, 7]⟩ wideG = false from HSP0.out)
        have RT9 := hid (show repState h9 [.int .i64 nn, .slice (some ⟨gL, 0, none⟩) xs.length cL, .slice A4 2 c4] ⟨nn, ys, [5, 7]⟩ from ⟨some ⟨gL, 0, none⟩, cL, A4, c4, by show [_, Value.slice _ xs.length cL, _] = [_, Value.slice _ ys.length cL, _]; rw [hyl]; rfl, by show CapLe _ ys.length cL; rw [hyl]; exact cap9, r9, l4.out, r4.out.mono L9.out⟩)
        have KT := hid (fun (w' : World) (hs' : Sits h9 w') => state_Sound ⟨nn, ys, [5, 7]⟩ wideG [.int .i64 nn, .slice (some ⟨gL, 0, none⟩) xs.length cL, .slice A4 2 c4] [.int .i64 8, .int .i64 2048, .int .i64 12, .int .i64 8, .int .i64 32] false HSP.out h9 w' hs' RT9.out (rfl : _ = _))
        have KZ := hid (fun (w' : World) (hs' : Sits h8 w') => state_Sound (finS s) ⟨0, 0, 0, 0, 0⟩ [.int .i64 (finS s).next, .slice A3 (finS s).inodes.length c3, .slice A4 (finS s).bads.length c4] [.int .i64 0, .int .i64 0, .int .i64 0, .int .i64 0, .int .i64 0] false (not_geo _) h8 w' hs' RF.out (rfl : _ = _))
        have k0 := BT9.out.cell (j := 0) (v := .int .i64 nn) rfl
        have k1 := BT9.out.cell (j := 1) (v := .slice (some ⟨gL, 0, none⟩) xs.length cL) rfl
        have k2 := BT9.out.cell (j := 2) (v := .slice A4 2 c4) rfl
        obtain ⟨g0, g1, g2, g3, g4⟩ := CG.out _ I9.out.sits
        go_wp2_with (first | (go_at_call 10; refine (KZ.out _ E10.out.sits).mono ?_; rintro e w21 ⟨rfl, F⟩; have E11 := hid (E10.out.trans F); clear F) | (go_at_call 10; refine (KT.out _ S9.out).mono ?_; rintro e w20 ⟨rfl, F⟩; have E10 := hid (I9.out.trans (Ext.of_below I9.out.sits F.below)); obtain ⟨f0, f1, f2⟩ := CF.out _ E10.out.sits; clear F))
        go_ret
        exact ⟨rfl, E11.out.back⟩
    · have hns : IntKind.i64.wrap (nn - 1) = nn - 1 := by rw [IntKind.wrap_i64]; omega
      have hw96 : IntKind.i64.wrap (12 * 8) = 96 := by decide
      obtain ⟨h14, F14, hb14, le14, -⟩ := (Ext.refl I12.out.sits).boxF #[.int .i64 0, .int .i64 96, .int .i64 1] 46
      have I14 := hid (I12.out.trans F14)
      have BT14 := hid (BT.out.ext F14)
      have O14 := hid (O12.out.ext F14)
      have ru := hid (RowAt.of_block (xs := [(⟨0, 96, 1⟩ : Run)]) hb14 (Reps.single rfl) (by decide))
      have hsz : (w12.alloc (.cells #[.int .i64 0, .int .i64 96, .int .i64 1] 46)).heap.size = w12.heap.size + 1 := by simp
      have HNB := hid (by have q := heap_new (w12.alloc (.cells #[.int .i64 0, .int .i64 96, .int .i64 1] 46)) (.cells #[.int .i64 (nn - 1), .int .i64 1, .int .i64 0, .int .i64 0, .string ⟨#[]⟩, .slice none 0 0, .slice (some ⟨w12.heap.size, 0, none⟩) 1 1] 37); rw [hsz] at q; exact q)
      clear F14 hb14 hx k0 k1 k2 b0 b1 b2 hsz
      have HBY := hid (show (xs.length + 1) * 96 ≤ 140737488355328 by omega)
      have RY := hid (show repInode h14 [.int .i64 (nn - 1), .int .i64 1, .int .i64 0, .int .i64 0, .string ⟨#[]⟩, .slice none 0 0, .slice (some ⟨w12.heap.size, 0, none⟩) 1 1] (⟨nn - 1, 1, 0, 0, ⟨#[]⟩, [], [⟨0, 96, 1⟩]⟩ : Inode) from ⟨none, 0, some ⟨w12.heap.size, 0, none⟩, 1, rfl, Nat.zero_le _, ⟨Nat.le_refl _, fun _ => rfl, by decide⟩, RowAt.nil _ _, ⟨Nat.le_refl _, (fun e => by cases e), by decide⟩, ru.out⟩)
      go_upto_region 31 with (at_builtin; go_loud (refine wpList_append1At rfl _ _ 28 rfl W.heap.size 37 96 ty_Inode _ xs rfl (O14.out.alloc _) (I14.out.sits.alloc _) _ rfl _ ((⟨nn - 1, 1, 0, 0, ⟨#[]⟩, [], [⟨0, 96, 1⟩]⟩ : Inode) : Inode) RY.out (cells_of_box HNB.out) HBY.out (by decide) (I14.out.alloc _).size ?_; intro v15 w15 O15 G15; obtain ⟨A9, c9, rfl, -⟩ := O15.slice; have I15 := hid ((I14.out.alloc (.cells #[.int .i64 (nn - 1), .int .i64 1, .int .i64 0, .int .i64 0, .string ⟨#[]⟩, .slice none 0 0, .slice (some ⟨w12.heap.size, 0, none⟩) 1 1] 37)).grown G15 (fun k hk => ⟨(O14.out.lt k hk).1, O14.out.free k hk⟩)); have BT15 := hid ((BT14.out.alloc (.cells #[.int .i64 (nn - 1), .int .i64 1, .int .i64 0, .int .i64 0, .string ⟨#[]⟩, .slice none 0 0, .slice (some ⟨w12.heap.size, 0, none⟩) 1 1] 37)).grownU G15 (fun e => hneT.out (Option.some.inj (show (some gL : Option Nat) = some gT from e)).symm)); have O15 := hid O15; have b1' := BT15.out.open_ 1; have k1' := BT15.out.cell (j := 1) (v := .slice (some ⟨gL, 0, none⟩) xs.length cL) rfl; clear G15))
      clear hm hmw b1' k1'
      obtain ⟨h16, A16, c16, ev, r16, le16, I16, cap16, fr16⟩ := O15.out.stayE I15.out (Nat.le_refl _) (by rw [List.length_append]; simp; omega)
      have BT16 := hid (⟨BT15.out.row, fr16 gT BT15.out.free (O15.out.neB BT15.out (by decide)), BT15.out.base⟩ : BoxU W h16 w15 gT #[.int .i64 nn, .slice (some ⟨gL, 0, none⟩) xs.length cL, .slice A4 2 c4] 31)
      obtain ⟨rfl, rfl⟩ : A9 = A16 ∧ c9 = c16 := by simp only [Value.slice.injEq] at ev; exact ⟨ev.1, ev.2.2⟩
      clear ev
      have I16 := hid I16
      have BT9 : BoxU W _ (w15.setCell ⟨gT, 1, none⟩ (.slice A9 (xs.length + 1) c9)) gT #[.int .i64 nn, .slice A9 (xs.length + 1) c9, .slice A4 2 c4] 31 := BT16.out.part 1 [.slice A9 (xs.length + 1) c9] (Nat.le_of_ble_eq_true rfl)
      have I9 : Ext (fhOf W) W _ (w15.setCell ⟨gT, 1, none⟩ (.slice A9 (xs.length + 1) c9)) := BT16.out.wr I16.out 1 [.slice A9 (xs.length + 1) c9]
      with_reducible generalize (w15.setCell ⟨gT, 1, none⟩ (.slice A9 (xs.length + 1) c9)) = w9 at BT9 I9 ⊢
      have BT9 := hid BT9
      have I9 := hid I9
      have S9 := hid I9.out.sits
      have I9 := hid (I9.out.drop I12.out.le (le14.trans le16))
      have HSP := hid (show soundP ⟨nn, xs ++ [(⟨nn - 1, 1, 0, 0, ⟨#[]⟩, [], [⟨0, 96, 1⟩]⟩ : Inode)], [5, 7]⟩ wideG = false from spoil8 _ _ _ _ _ _ _ _ _)
      have RT9 := hid (show repState h16 [.int .i64 nn, .slice A9 (xs.length + 1) c9, .slice A4 2 c4] ⟨nn, xs ++ [(⟨nn - 1, 1, 0, 0, ⟨#[]⟩, [], [⟨0, 96, 1⟩]⟩ : Inode)], [5, 7]⟩ from ⟨A9, c9, A4, c4, by show [_, Value.slice _ (xs.length + 1) _, _] = [_, Value.slice _ (xs ++ [(⟨nn - 1, 1, 0, 0, ⟨#[]⟩, [], [⟨0, 96, 1⟩]⟩ : Inode)]).length _, _]; rw [List.length_append]; rfl, cap16, r16, l4.out, r4.out.mono (le14.trans le16)⟩)
      have KT := hid (fun (w' : World) (hs' : Sits h16 w') => state_Sound ⟨nn, xs ++ [(⟨nn - 1, 1, 0, 0, ⟨#[]⟩, [], [⟨0, 96, 1⟩]⟩ : Inode)], [5, 7]⟩ wideG [.int .i64 nn, .slice A9 (xs.length + 1) c9, .slice A4 2 c4] [.int .i64 8, .int .i64 2048, .int .i64 12, .int .i64 8, .int .i64 32] false HSP.out h16 w' hs' RT9.out (rfl : _ = _))
      have KZ := hid (fun (w' : World) (hs' : Sits h8 w') => state_Sound (finS s) ⟨0, 0, 0, 0, 0⟩ [.int .i64 (finS s).next, .slice A3 (finS s).inodes.length c3, .slice A4 (finS s).bads.length c4] [.int .i64 0, .int .i64 0, .int .i64 0, .int .i64 0, .int .i64 0] false (not_geo _) h8 w' hs' RF.out (rfl : _ = _))
      have k0 := BT9.out.cell (j := 0) (v := .int .i64 nn) rfl
      have k1 := BT9.out.cell (j := 1) (v := .slice A9 (xs.length + 1) c9) rfl
      have k2 := BT9.out.cell (j := 2) (v := .slice A4 2 c4) rfl
      obtain ⟨g0, g1, g2, g3, g4⟩ := CG.out _ I9.out.sits
      go_wp2_with (first | (go_at_call 10; refine (KZ.out _ E10.out.sits).mono ?_; rintro e w21 ⟨rfl, F⟩; have E11 := hid (E10.out.trans F); clear F) | (go_at_call 10; refine (KT.out _ S9.out).mono ?_; rintro e w20 ⟨rfl, F⟩; have E10 := hid (I9.out.trans (Ext.of_below I9.out.sits F.below)); obtain ⟨f0, f1, f2⟩ := CF.out _ E10.out.sits; clear F))
      go_ret
      exact ⟨rfl, E11.out.back⟩
    · have hns : IntKind.i64.wrap (nn - 1) = nn - 1 := by rw [IntKind.wrap_i64]; omega
      clear hx k0 k1 k2 b0 b1 b2
      have HBY := hid (show (xs.length + 1) * 96 ≤ 140737488355328 by omega)
      have RY := hid (show repInode h8 [.int .i64 (nn - 1), .int .i64 2, .int .i64 2, .int .i64 0, .string ⟨#[]⟩, .slice none 0 0, .slice none 0 0] (⟨nn - 1, 2, 2, 0, ⟨#[]⟩, [], []⟩ : Inode) from ⟨none, 0, none, 0, rfl, Nat.zero_le _, ⟨Nat.le_refl _, fun _ => rfl, by decide⟩, RowAt.nil _ _, ⟨Nat.le_refl _, fun _ => rfl, by decide⟩, RowAt.nil _ _⟩)
      go_upto_region 31 with (at_builtin; go_loud (refine wpList_append1At rfl _ _ 28 rfl W.heap.size 37 96 ty_Inode _ xs rfl (O12.out.alloc _) (I12.out.sits.alloc _) _ rfl _ ((⟨nn - 1, 2, 2, 0, ⟨#[]⟩, [], []⟩ : Inode) : Inode) RY.out (cells_of_box (heap_new _ _)) HBY.out (by decide) (I12.out.alloc _).size ?_; intro v15 w15 O15 G15; obtain ⟨A9, c9, rfl, -⟩ := O15.slice; have I15 := hid ((I12.out.alloc (.cells #[.int .i64 (nn - 1), .int .i64 2, .int .i64 2, .int .i64 0, .string ⟨#[]⟩, .slice none 0 0, .slice none 0 0] 37)).grown G15 (fun k hk => ⟨(O12.out.lt k hk).1, O12.out.free k hk⟩)); have BT15 := hid ((BT.out.alloc (.cells #[.int .i64 (nn - 1), .int .i64 2, .int .i64 2, .int .i64 0, .string ⟨#[]⟩, .slice none 0 0, .slice none 0 0] 37)).grownU G15 (fun e => hneT.out (Option.some.inj (show (some gL : Option Nat) = some gT from e)).symm)); have O15 := hid O15; have b1' := BT15.out.open_ 1; have k1' := BT15.out.cell (j := 1) (v := .slice (some ⟨gL, 0, none⟩) xs.length cL) rfl; clear G15))
      clear hm hmw b1' k1'
      obtain ⟨h16, A16, c16, ev, r16, le16, I16, cap16, fr16⟩ := O15.out.stayE I15.out (Nat.le_refl _) (by rw [List.length_append]; simp; omega)
      have BT16 := hid (⟨BT15.out.row, fr16 gT BT15.out.free (O15.out.neB BT15.out (by decide)), BT15.out.base⟩ : BoxU W h16 w15 gT #[.int .i64 nn, .slice (some ⟨gL, 0, none⟩) xs.length cL, .slice A4 2 c4] 31)
      obtain ⟨rfl, rfl⟩ : A9 = A16 ∧ c9 = c16 := by simp only [Value.slice.injEq] at ev; exact ⟨ev.1, ev.2.2⟩
      clear ev
      have I16 := hid I16
      have BT9 : BoxU W _ (w15.setCell ⟨gT, 1, none⟩ (.slice A9 (xs.length + 1) c9)) gT #[.int .i64 nn, .slice A9 (xs.length + 1) c9, .slice A4 2 c4] 31 := BT16.out.part 1 [.slice A9 (xs.length + 1) c9] (Nat.le_of_ble_eq_true rfl)
      have I9 : Ext (fhOf W) W _ (w15.setCell ⟨gT, 1, none⟩ (.slice A9 (xs.length + 1) c9)) := BT16.out.wr I16.out 1 [.slice A9 (xs.length + 1) c9]
      with_reducible generalize (w15.setCell ⟨gT, 1, none⟩ (.slice A9 (xs.length + 1) c9)) = w9 at BT9 I9 ⊢
      have BT9 := hid BT9
      have I9 := hid I9
      have S9 := hid I9.out.sits
      have I9 := hid (I9.out.drop I12.out.le ((FLe.refl h8).trans le16))
      have HSP := hid (show soundP ⟨nn, xs ++ [(⟨nn - 1, 2, 2, 0, ⟨#[]⟩, [], []⟩ : Inode)], [5, 7]⟩ wideG = false from HF.out.spoil9 _)
      have RT9 := hid (show repState h16 [.int .i64 nn, .slice A9 (xs.length + 1) c9, .slice A4 2 c4] ⟨nn, xs ++ [(⟨nn - 1, 2, 2, 0, ⟨#[]⟩, [], []⟩ : Inode)], [5, 7]⟩ from ⟨A9, c9, A4, c4, by show [_, Value.slice _ (xs.length + 1) _, _] = [_, Value.slice _ (xs ++ [(⟨nn - 1, 2, 2, 0, ⟨#[]⟩, [], []⟩ : Inode)]).length _, _]; rw [List.length_append]; rfl, cap16, r16, l4.out, r4.out.mono ((FLe.refl h8).trans le16)⟩)
      have KT := hid (fun (w' : World) (hs' : Sits h16 w') => state_Sound ⟨nn, xs ++ [(⟨nn - 1, 2, 2, 0, ⟨#[]⟩, [], []⟩ : Inode)], [5, 7]⟩ wideG [.int .i64 nn, .slice A9 (xs.length + 1) c9, .slice A4 2 c4] [.int .i64 8, .int .i64 2048, .int .i64 12, .int .i64 8, .int .i64 32] false HSP.out h16 w' hs' RT9.out (rfl : _ = _))
      have KZ := hid (fun (w' : World) (hs' : Sits h8 w') => state_Sound (finS s) ⟨0, 0, 0, 0, 0⟩ [.int .i64 (finS s).next, .slice A3 (finS s).inodes.length c3, .slice A4 (finS s).bads.length c4] [.int .i64 0, .int .i64 0, .int .i64 0, .int .i64 0, .int .i64 0] false (not_geo _) h8 w' hs' RF.out (rfl : _ = _))
      have k0 := BT9.out.cell (j := 0) (v := .int .i64 nn) rfl
      have k1 := BT9.out.cell (j := 1) (v := .slice A9 (xs.length + 1) c9) rfl
      have k2 := BT9.out.cell (j := 2) (v := .slice A4 2 c4) rfl
      obtain ⟨g0, g1, g2, g3, g4⟩ := CG.out _ I9.out.sits
      go_wp2_with (first | (go_at_call 10; refine (KZ.out _ E10.out.sits).mono ?_; rintro e w21 ⟨rfl, F⟩; have E11 := hid (E10.out.trans F); clear F) | (go_at_call 10; refine (KT.out _ S9.out).mono ?_; rintro e w20 ⟨rfl, F⟩; have E10 := hid (I9.out.trans (Ext.of_below I9.out.sits F.below)); obtain ⟨f0, f1, f2⟩ := CF.out _ E10.out.sits; clear F))
      go_ret
      exact ⟨rfl, E11.out.back⟩

end Go.Proofs.Ytkglaofiencfdaa
