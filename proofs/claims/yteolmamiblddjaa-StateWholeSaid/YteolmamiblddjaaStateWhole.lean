/- The walk of the law StateWhole: it returns true, and writes nothing that was there. -/
import Derived.Test.YteolmamiblddjaaStPl
import Derived.Test.YteolmamiblddjaaSame2
namespace Go.Proofs.Yteolmamiblddjaa
open Go.RowKit Go.Sort
set_option linter.unusedVariables false
/-- The second state, in a box that stays as it is. -/
def BoxP (W : World) (h3 : FH) (s : State) (s6 : Value) (wx : World) : Prop := ∃ (gP : Nat) (h7 : FH) (C1 : Option Addr) (e1 : Nat) (C2 : Option Addr) (e2 : Nat), s6 = .pointer (some ⟨gP, 0, none⟩) ∧ Ext (fhOf W) W h7 wx ∧ h7 gP = some (.cells #[.int .i64 s.next, .slice C1 s.inodes.length e1, .slice C2 s.bads.length e2] 31 (0, 0)) ∧ repState h7 [.int .i64 s.next, .slice C1 s.inodes.length e1, .slice C2 s.bads.length e2] s ∧ FLe h3 h7
theorem BoxP.last {W w6 : World} {h3 h6 : FH} {s : State} {C1 C2 : Option Addr} {e1 e2 : Nat} (E : Ext (fhOf W) W h6 w6) (R : repState h6 [.int .i64 s.next, .slice C1 s.inodes.length e1, .slice C2 s.bads.length e2] s) (l : FLe h3 h6) : BoxP W h3 s (.pointer (some ⟨w6.heap.size, 0, none⟩)) (w6.alloc (.cells #[.int .i64 s.next, .slice C1 s.inodes.length e1, .slice C2 s.bads.length e2] 31)) := by
  obtain ⟨h7, E7, hb7, le7, _⟩ := E.boxF #[.int .i64 s.next, .slice C1 s.inodes.length e1, .slice C2 s.bads.length e2] 31
  exact ⟨_, h7, C1, e1, C2, e2, rfl, E7, hb7, R.mono le7, l.trans le7⟩
theorem BoxP.set {W w6 : World} {h3 h6 : FH} {s : State} {C1 C2 : Option Addr} {e1 e2 g : Nat} (E : Ext (fhOf W) W h6 w6) (R : repState h6 [.int .i64 s.next, .slice C1 s.inodes.length e1, .slice C2 s.bads.length e2] s) (l : FLe h3 h6) (hb : w6.heap[g]? = some (.cells #[.int .i64 0, .slice none 0 0, .slice none 0 0] 31 (0, 0))) (hn : h6 g = none) (hg : W.heap.size ≤ g) : BoxP W h3 s (.pointer (some ⟨g, 0, none⟩)) (((w6.setCell ⟨g, 0, none⟩ (.int .i64 s.next)).setCell ⟨g, 1, none⟩ (.slice C1 s.inodes.length e1)).setCell ⟨g, 2, none⟩ (.slice C2 s.bads.length e2)) := by
  have E7 : Ext (fhOf W) W h6 (((w6.setCell ⟨g, 0, none⟩ (.int .i64 s.next)).setCell ⟨g, 1, none⟩ (.slice C1 s.inodes.length e1)).setCell ⟨g, 2, none⟩ (.slice C2 s.bads.length e2)) := Ext.setCells (g := g) hg hn [.int .i64 s.next, .slice C1 s.inodes.length e1, .slice C2 s.bads.length e2] 0 _ E
  have R7 : ((((w6.setCell ⟨g, 0, none⟩ (.int .i64 s.next)).setCell ⟨g, 1, none⟩ (.slice C1 s.inodes.length e1)).setCell ⟨g, 2, none⟩ (.slice C2 s.bads.length e2))).heap[g]? = some (.cells #[.int .i64 s.next, .slice C1 s.inodes.length e1, .slice C2 s.bads.length e2] 31 (0, 0)) := setCells_row [.int .i64 s.next, .slice C1 s.inodes.length e1, .slice C2 s.bads.length e2] hb rfl
  have E8 := E7.add R7 hn hg
  exact ⟨g, _, C1, e1, C2, e2, rfl, E8, FH.add_same _ _ _, R.mono (FLe.add hn _), l.trans (FLe.add hn _)⟩
theorem alloc_lt (w : World) (ob : Obj) : w.heap.size < (w.alloc ob).heap.size := by simp
theorem block_lt {w : World} {g : Nat} {ob : Obj} (h : w.heap[g]? = some ob) : g < w.heap.size := (Array.getElem?_eq_some_iff.1 h).1
theorem repState_rowsW {h : FH} {s : State} {n : Value} {A1 A2 : Option Addr} {m1 c1 m2 c2 : Nat} (r : repState h [n, .slice A1 m1 c1, .slice A2 m2 c2] s) : RowAt h A1 s.inodes ∧ RowAt h A2 s.bads := by
  obtain ⟨B1, d1, B2, d2, hq, p1, p2, p3, p4⟩ := r
  simp only [List.cons.injEq, Value.slice.injEq, and_true] at hq
  obtain ⟨_, ⟨rfl, _, rfl⟩, rfl, _, rfl⟩ := hq
  exact ⟨p2, p4⟩
theorem RowAt.dropC {h : FH} {A : Option Addr} {ds : List Deed} (r : RowAt h A ds) (k : Nat) : ∀ b off, A = some ⟨b, off, none⟩ → RowAt h (some ⟨b, off + k * 9, none⟩) (ds.drop k) := fun b off e => by
  subst e; exact r.dropN k
set_option maxHeartbeats 16000000 in
set_option maxRecDepth 100000 in
theorem StateWhole_walk (ds : List Deed) (A : Option Addr) (c : Nat) (cut : Int) (W : World) (rd : RowAt (fhOf W) A ds) (hcap : (A = none → c = 0) ∧ ds.length ≤ c ∧ c ≤ 9223372036854775807) (hfit : ∀ d ∈ ds, fitI d.inode) :
    Calls Try.prog 6 #[.slice A ds.length c, .int .i64 cut] W fun e w' => e = .returned (.bool true) ∧ Ext (fhOf W) W (fhOf W) w' := by
  have hs := Sits.all W
  have hl := rd.1
  obtain ⟨cap0, cap1, cap2⟩ := hcap
  by_cases hbig : 40 < ds.length
  · go_enter Try.func6, Try.ntmps6
    go_wp2_with (go_at_call 8; refine (law14_awake _ _ hs).mono ?_; rintro e w1 ⟨rfl, E1⟩)
    go_ret
    exact ⟨rfl, E1⟩
  have hle : ds.length ≤ 40 := by omega
  have u64n : 0 ≤ IntKind.u64.wrap cut := by rw [IntKind.wrap_u64]; omega
  have hwn : IntKind.u64.wrap ((ds.length : Int) + 1) = (ds.length : Int) + 1 := by rw [IntKind.wrap_u64]; omega
  obtain ⟨q, hq, hqn⟩ : ∃ q : Nat, (IntKind.u64.wrap cut).tmod ((ds.length : Int) + 1) = q ∧ q ≤ ds.length := by
    rw [Int.tmod_eq_emod_of_nonneg u64n]
    have g1 := Int.emod_nonneg (IntKind.u64.wrap cut) (show (ds.length : Int) + 1 ≠ 0 by omega)
    have g2 := Int.emod_lt_of_pos (IntKind.u64.wrap cut) (show (0 : Int) < (ds.length : Int) + 1 by omega)
    exact ⟨(IntKind.u64.wrap cut % ((ds.length : Int) + 1)).toNat, by omega, by omega⟩
  have hnz : ¬ ((ds.length : Int) + 1 = 0) := by omega
  have IW := InvW.all ds newS InvW.new hfit
  have hlen := applyS_len ds newS
  have hcutlen := applyS_take_len newS ds q hqn
  have KN := hid (fun (h' : FH) w' hs' => state_New h' w' hs')
  have KA := hid (fun (h' : FH) cs w' hs' (r : repState h' cs newS) rd' => state_Apply newS cs ds A c InvW.new.fit hfit (by simp [newS]; omega) (by simp [newS]; omega) h' w' hs' r rd')
  have KT := hid (fun (h' : FH) cs w' hs' (r : repState h' cs newS) rd' => state_Apply newS cs (ds.take q) A c InvW.new.fit (fun d hd => hfit d (List.mem_of_mem_take hd)) (by simp [newS]; omega) (by simp [newS]; omega) h' w' hs' r rd')
  have KD := hid (fun (h' : FH) cs AD cD w' hs' (r : repState h' cs (applyS newS (ds.take q))) rd' => state_Apply (applyS newS (ds.take q)) cs (ds.drop q) AD cD (InvW.all (ds.take q) newS InvW.new (fun d hd => hfit d (List.mem_of_mem_take hd))).fit (fun d hd => hfit d (List.mem_of_mem_drop hd)) (by simp [newS] at *; omega) (by simp [newS] at *; omega) h' w' hs' r rd')
  have happ : applyS (applyS newS (ds.take q)) (ds.drop q) = applyS newS ds := by rw [← applyS_app, List.take_append_drop]
  rw [happ] at KD
  obtain ⟨s, hS⟩ : ∃ s, applyS newS ds = s := ⟨_, rfl⟩
  rw [hS] at KA KD IW hlen
  have HIW := hid IW
  have HLN := hid (show s.inodes.length ≤ 41 ∧ s.bads.length ≤ 41 by simp [newS] at hlen; omega)
  clear hS
  clear IW hlen hcutlen happ u64n hfit
  rw [show (ds.take q).length = q from by rw [List.length_take]; omega] at KT
  have HDL := hid (show (ds.drop q).length = ds.length - q from List.length_drop)
  have KD := hid (fun (h' : FH) cs AD cD w' hs' r rd' => by have := KD.out h' cs AD cD w' hs' r rd'; rw [HDL.out] at this; exact this)
  skip
  go_enter Try.func6, Try.ntmps6
  go_upto_region 5 with (first | (go_at_call 13; refine (KN.out _ _ hs).mono ?_; rintro e w1 ⟨cs, h1, rfl, rs, E1⟩; have RS := hid rs; obtain ⟨A1, c1, A2, c2, rfl, _⟩ := rs; have E1 := hid E1) | (go_at_call 15; refine (KA.out h1 _ w1 E1.out.sits RS.out (rd.mono E1.out.le)).mono ?_; rintro e w2 ⟨cs2, h2, rfl, r2, E2⟩; have R2 := hid r2; obtain ⟨B1, d1, B2, d2, rfl, _⟩ := r2; have E2 := hid E2))
  obtain ⟨h3, E3, hbS, le3, hh3⟩ := (E1.out.trans E2.out).boxF #[.int .i64 s.next, .slice B1 s.inodes.length d1, .slice B2 s.bads.length d2] 31
  have RS3 := hid (R2.out.mono le3)
  have rd3 := rd.mono E3.le
  generalize hgS : w2.heap.size = gS at *
  with_reducible generalize w2.alloc (.cells #[.int .i64 s.next, .slice B1 s.inodes.length d1, .slice B2 s.bads.length d2] 31) = w3 at E3 ⊢
  have Ed := E3.drew
  clear hh3 hgS
  go_cut [6] (fun s6 wx => BoxP W h3 s s6 wx)
  case first =>
    by_cases hpos : 0 < ds.length
    · obtain ⟨b, off, rfl, _⟩ := rd.2 hpos
      have hq0 : (0 : Int) ≤ (q : Int) := by omega
      have hq1 : (q : Int) ≤ (ds.length : Int) := by omega
      have hq2 : (q : Int) ≤ (c : Int) := by omega
      have hq3 : (ds.length : Int) ≤ (c : Int) := by omega
      by_cases hcq : c = q
      · subst hcq
        have HRD := hid (show ∀ h', FLe (fhOf W) h' → RowAt h' (some ⟨b, off, none⟩) (ds.drop c) from fun h' l => by rw [List.drop_of_length_le (by omega)]; exact RowAt.nil _ _)
        have HD0 := hid (show ds.length - c = 0 by omega)
        have KD := hid (fun (h' : FH) cs AD cD w' hs' r rd' => by have := KD.out h' cs AD cD w' hs' r rd'; rw [HD0.out] at this; exact this)
        skip
        have Ea := hid ((E3.alloc (.cells #[.int .i64 0, .slice none 0 0, .slice none 0 0] 31)).drew)
        have Eb := hid Ed
        have hb3 := hid (heap_new w3 (.cells #[.int .i64 0, .slice none 0 0, .slice none 0 0] 31))
        have hn3 := hid (E3.sits.none (Nat.le_refl _))
        have hl3 := hid (alloc_lt w3 (.cells #[.int .i64 0, .slice none 0 0, .slice none 0 0] 31))
        have hg3 := hid E3.size
        clear Ed
        go_region_with (first
          | (go_at_call 13; refine (KN.out h3 _ (Ext.sits (h := fhOf W) (w := W) (h' := h3) (by first | with_reducible exact Eb.out | with_reducible exact Ea.out))).mono ?_; rintro e w4 ⟨cs4, h4, rfl, r4, F4⟩; have R4 := hid r4; obtain ⟨A14, c14, A24, c24, rfl, _⟩ := r4; have E4 := hid (Ext.trans (h := fhOf W) (w := W) (h1 := h3) (by first | with_reducible exact Eb.out | with_reducible exact Ea.out) F4); have l4 := hid F4.le; (first | (have hb4 := hid (F4.row (show (w3.alloc (.cells #[.int .i64 0, .slice none 0 0, .slice none 0 0] 31)).drew.heap[w3.heap.size]? = _ from hb3.out)); have hn4 := hid (F4.none hn3.out hl3.out); have hg4 := hid hg3.out) | skip))
          | (go_at_call 15; (first
              | (refine (KD.out h5 _ _ _ _ (Ext.sits (h := fhOf W) (w := W) (h' := h5) (by first | with_reducible exact E5.out | with_reducible exact E5.out.alloc _)) R5.out (by first | exact HRD.out h5 (E3.le.trans l5.out) | exact HRD.out _ h5 (E3.le.trans l5.out))).mono ?_; rintro e w6 ⟨cs6, h6, rfl, r6, F6⟩; have R6 := hid r6; obtain ⟨A16, c16, A26, c26, rfl, _⟩ := r6; have E6 := hid (Ext.trans (h := fhOf W) (w := W) (h1 := h5) (by first | with_reducible exact E5.out | with_reducible exact E5.out.alloc _) F6); have l6 := hid (l5.out.trans F6.le); (first | (have hb6 := F6.row hb5.out; have hn6 := hid (F6.none hn5.out (block_lt hb5.out)); have hg6 := hid hg5.out) | (have hb6 := F6.row (heap_new w5 (.cells #[.int .i64 0, .slice none 0 0, .slice none 0 0] 31)); have hn6 := hid (F6.none (E5.out.sits.none (Nat.le_refl _)) (alloc_lt _ _)); have hg6 := hid E5.out.size) | skip); (first | (have z0 := box_cell (j := 0) (v := .int .i64 0) hb6 rfl; have z1 := box_cell (j := 1) (v := .slice none 0 0) hb6 rfl; have z2 := box_cell (j := 2) (v := .slice none 0 0) hb6 rfl; have f0 := box_free (j := 0) hb6; have f1 := box_free (j := 1) hb6; have f2 := box_free (j := 2) hb6; have hb6 := hid hb6) | skip))
              | (refine (KT.out h4 _ _ (Ext.sits (h := fhOf W) (w := W) (h' := h4) (by first | with_reducible exact E4.out | with_reducible exact E4.out.alloc _)) R4.out ((rd3.mono l4.out).takeN _)).mono ?_; rintro e w5 ⟨cs5, h5, rfl, r5, F5⟩; have R5 := hid r5; obtain ⟨A15, c15, A25, c25, rfl, _⟩ := r5; have E5 := hid (Ext.trans (h := fhOf W) (w := W) (h1 := h4) (by first | with_reducible exact E4.out | with_reducible exact E4.out.alloc _) F5); have l5 := hid (l4.out.trans F5.le); (first | (have hb5 := hid (F5.row hb4.out); have hn5 := hid (F5.none hn4.out (block_lt hb4.out)); have hg5 := hid hg4.out) | (have hb5 := hid (F5.row (heap_new w4 (.cells #[.int .i64 0, .slice none 0 0, .slice none 0 0] 31))); have hn5 := hid (F5.none (E4.out.sits.none (Nat.le_refl _)) (alloc_lt _ _)); have hg5 := hid E4.out.size) | skip)))))
        all_goals
          go_wp2_with fail
          go_meet
          first
            | exact BoxP.set E6.out R6.out l6.out hb6.out hn6.out hg6.out
            | exact BoxP.last E6.out R6.out l6.out
      · have HRD := hid (show ∀ h', FLe (fhOf W) h' → RowAt h' (some ⟨b, off + q * 9, none⟩) (ds.drop q) from fun h' l => (rd.mono l).dropC q _ _ rfl)
        skip
        have Ea := hid ((E3.alloc (.cells #[.int .i64 0, .slice none 0 0, .slice none 0 0] 31)).drew)
        have Eb := hid Ed
        have hb3 := hid (heap_new w3 (.cells #[.int .i64 0, .slice none 0 0, .slice none 0 0] 31))
        have hn3 := hid (E3.sits.none (Nat.le_refl _))
        have hl3 := hid (alloc_lt w3 (.cells #[.int .i64 0, .slice none 0 0, .slice none 0 0] 31))
        have hg3 := hid E3.size
        clear Ed
        go_region_with (first
          | (go_at_call 13; refine (KN.out h3 _ (Ext.sits (h := fhOf W) (w := W) (h' := h3) (by first | with_reducible exact Eb.out | with_reducible exact Ea.out))).mono ?_; rintro e w4 ⟨cs4, h4, rfl, r4, F4⟩; have R4 := hid r4; obtain ⟨A14, c14, A24, c24, rfl, _⟩ := r4; have E4 := hid (Ext.trans (h := fhOf W) (w := W) (h1 := h3) (by first | with_reducible exact Eb.out | with_reducible exact Ea.out) F4); have l4 := hid F4.le; (first | (have hb4 := hid (F4.row (show (w3.alloc (.cells #[.int .i64 0, .slice none 0 0, .slice none 0 0] 31)).drew.heap[w3.heap.size]? = _ from hb3.out)); have hn4 := hid (F4.none hn3.out hl3.out); have hg4 := hid hg3.out) | skip))
          | (go_at_call 15; (first
              | (refine (KD.out h5 _ _ _ _ (Ext.sits (h := fhOf W) (w := W) (h' := h5) (by first | with_reducible exact E5.out | with_reducible exact E5.out.alloc _)) R5.out (by first | exact HRD.out h5 (E3.le.trans l5.out) | exact HRD.out _ h5 (E3.le.trans l5.out))).mono ?_; rintro e w6 ⟨cs6, h6, rfl, r6, F6⟩; have R6 := hid r6; obtain ⟨A16, c16, A26, c26, rfl, _⟩ := r6; have E6 := hid (Ext.trans (h := fhOf W) (w := W) (h1 := h5) (by first | with_reducible exact E5.out | with_reducible exact E5.out.alloc _) F6); have l6 := hid (l5.out.trans F6.le); (first | (have hb6 := F6.row hb5.out; have hn6 := hid (F6.none hn5.out (block_lt hb5.out)); have hg6 := hid hg5.out) | (have hb6 := F6.row (heap_new w5 (.cells #[.int .i64 0, .slice none 0 0, .slice none 0 0] 31)); have hn6 := hid (F6.none (E5.out.sits.none (Nat.le_refl _)) (alloc_lt _ _)); have hg6 := hid E5.out.size) | skip); (first | (have z0 := box_cell (j := 0) (v := .int .i64 0) hb6 rfl; have z1 := box_cell (j := 1) (v := .slice none 0 0) hb6 rfl; have z2 := box_cell (j := 2) (v := .slice none 0 0) hb6 rfl; have f0 := box_free (j := 0) hb6; have f1 := box_free (j := 1) hb6; have f2 := box_free (j := 2) hb6; have hb6 := hid hb6) | skip))
              | (refine (KT.out h4 _ _ (Ext.sits (h := fhOf W) (w := W) (h' := h4) (by first | with_reducible exact E4.out | with_reducible exact E4.out.alloc _)) R4.out ((rd3.mono l4.out).takeN _)).mono ?_; rintro e w5 ⟨cs5, h5, rfl, r5, F5⟩; have R5 := hid r5; obtain ⟨A15, c15, A25, c25, rfl, _⟩ := r5; have E5 := hid (Ext.trans (h := fhOf W) (w := W) (h1 := h4) (by first | with_reducible exact E4.out | with_reducible exact E4.out.alloc _) F5); have l5 := hid (l4.out.trans F5.le); (first | (have hb5 := hid (F5.row hb4.out); have hn5 := hid (F5.none hn4.out (block_lt hb4.out)); have hg5 := hid hg4.out) | (have hb5 := hid (F5.row (heap_new w4 (.cells #[.int .i64 0, .slice none 0 0, .slice none 0 0] 31))); have hn5 := hid (F5.none (E4.out.sits.none (Nat.le_refl _)) (alloc_lt _ _)); have hg5 := hid E4.out.size) | skip)))))
        all_goals
          go_wp2_with fail
          go_meet
          first
            | exact BoxP.set E6.out R6.out l6.out hb6.out hn6.out hg6.out
            | exact BoxP.last E6.out R6.out l6.out
    · have hds : ds = [] := List.eq_nil_of_length_eq_zero (by omega)
      subst hds
      obtain rfl : q = 0 := by simpa using hqn
      have HRD := hid (show ∀ (AD : Option Addr) (h' : FH), FLe (fhOf W) h' → RowAt h' AD (([] : List Deed).drop 0) from fun AD h' l => RowAt.nil _ _)
      cases A with
      | none =>
        obtain rfl := cap0 rfl
        skip
        have Ea := hid ((E3.alloc (.cells #[.int .i64 0, .slice none 0 0, .slice none 0 0] 31)).drew)
        have Eb := hid Ed
        have hb3 := hid (heap_new w3 (.cells #[.int .i64 0, .slice none 0 0, .slice none 0 0] 31))
        have hn3 := hid (E3.sits.none (Nat.le_refl _))
        have hl3 := hid (alloc_lt w3 (.cells #[.int .i64 0, .slice none 0 0, .slice none 0 0] 31))
        have hg3 := hid E3.size
        clear Ed
        go_region_with (first
          | (go_at_call 13; refine (KN.out h3 _ (Ext.sits (h := fhOf W) (w := W) (h' := h3) (by first | with_reducible exact Eb.out | with_reducible exact Ea.out))).mono ?_; rintro e w4 ⟨cs4, h4, rfl, r4, F4⟩; have R4 := hid r4; obtain ⟨A14, c14, A24, c24, rfl, _⟩ := r4; have E4 := hid (Ext.trans (h := fhOf W) (w := W) (h1 := h3) (by first | with_reducible exact Eb.out | with_reducible exact Ea.out) F4); have l4 := hid F4.le; (first | (have hb4 := hid (F4.row (show (w3.alloc (.cells #[.int .i64 0, .slice none 0 0, .slice none 0 0] 31)).drew.heap[w3.heap.size]? = _ from hb3.out)); have hn4 := hid (F4.none hn3.out hl3.out); have hg4 := hid hg3.out) | skip))
          | (go_at_call 15; (first
              | (refine (KD.out h5 _ _ _ _ (Ext.sits (h := fhOf W) (w := W) (h' := h5) (by first | with_reducible exact E5.out | with_reducible exact E5.out.alloc _)) R5.out (by first | exact HRD.out h5 (E3.le.trans l5.out) | exact HRD.out _ h5 (E3.le.trans l5.out))).mono ?_; rintro e w6 ⟨cs6, h6, rfl, r6, F6⟩; have R6 := hid r6; obtain ⟨A16, c16, A26, c26, rfl, _⟩ := r6; have E6 := hid (Ext.trans (h := fhOf W) (w := W) (h1 := h5) (by first | with_reducible exact E5.out | with_reducible exact E5.out.alloc _) F6); have l6 := hid (l5.out.trans F6.le); (first | (have hb6 := F6.row hb5.out; have hn6 := hid (F6.none hn5.out (block_lt hb5.out)); have hg6 := hid hg5.out) | (have hb6 := F6.row (heap_new w5 (.cells #[.int .i64 0, .slice none 0 0, .slice none 0 0] 31)); have hn6 := hid (F6.none (E5.out.sits.none (Nat.le_refl _)) (alloc_lt _ _)); have hg6 := hid E5.out.size) | skip); (first | (have z0 := box_cell (j := 0) (v := .int .i64 0) hb6 rfl; have z1 := box_cell (j := 1) (v := .slice none 0 0) hb6 rfl; have z2 := box_cell (j := 2) (v := .slice none 0 0) hb6 rfl; have f0 := box_free (j := 0) hb6; have f1 := box_free (j := 1) hb6; have f2 := box_free (j := 2) hb6; have hb6 := hid hb6) | skip))
              | (refine (KT.out h4 _ _ (Ext.sits (h := fhOf W) (w := W) (h' := h4) (by first | with_reducible exact E4.out | with_reducible exact E4.out.alloc _)) R4.out ((rd3.mono l4.out).takeN _)).mono ?_; rintro e w5 ⟨cs5, h5, rfl, r5, F5⟩; have R5 := hid r5; obtain ⟨A15, c15, A25, c25, rfl, _⟩ := r5; have E5 := hid (Ext.trans (h := fhOf W) (w := W) (h1 := h4) (by first | with_reducible exact E4.out | with_reducible exact E4.out.alloc _) F5); have l5 := hid (l4.out.trans F5.le); (first | (have hb5 := hid (F5.row hb4.out); have hn5 := hid (F5.none hn4.out (block_lt hb4.out)); have hg5 := hid hg4.out) | (have hb5 := hid (F5.row (heap_new w4 (.cells #[.int .i64 0, .slice none 0 0, .slice none 0 0] 31))); have hn5 := hid (F5.none (E4.out.sits.none (Nat.le_refl _)) (alloc_lt _ _)); have hg5 := hid E4.out.size) | skip)))))
        all_goals
          go_wp2_with fail
          go_meet
          first
            | exact BoxP.set E6.out R6.out l6.out hb6.out hn6.out hg6.out
            | exact BoxP.last E6.out R6.out l6.out
      | some a =>
        have hq3 : (0 : Int) ≤ (c : Int) := by omega
        by_cases hcq : c = 0
        · subst hcq
          skip
          have Ea := hid ((E3.alloc (.cells #[.int .i64 0, .slice none 0 0, .slice none 0 0] 31)).drew)
          have Eb := hid Ed
          have hb3 := hid (heap_new w3 (.cells #[.int .i64 0, .slice none 0 0, .slice none 0 0] 31))
          have hn3 := hid (E3.sits.none (Nat.le_refl _))
          have hl3 := hid (alloc_lt w3 (.cells #[.int .i64 0, .slice none 0 0, .slice none 0 0] 31))
          have hg3 := hid E3.size
          clear Ed
          go_region_with (first
            | (go_at_call 13; refine (KN.out h3 _ (Ext.sits (h := fhOf W) (w := W) (h' := h3) (by first | with_reducible exact Eb.out | with_reducible exact Ea.out))).mono ?_; rintro e w4 ⟨cs4, h4, rfl, r4, F4⟩; have R4 := hid r4; obtain ⟨A14, c14, A24, c24, rfl, _⟩ := r4; have E4 := hid (Ext.trans (h := fhOf W) (w := W) (h1 := h3) (by first | with_reducible exact Eb.out | with_reducible exact Ea.out) F4); have l4 := hid F4.le; (first | (have hb4 := hid (F4.row (show (w3.alloc (.cells #[.int .i64 0, .slice none 0 0, .slice none 0 0] 31)).drew.heap[w3.heap.size]? = _ from hb3.out)); have hn4 := hid (F4.none hn3.out hl3.out); have hg4 := hid hg3.out) | skip))
            | (go_at_call 15; (first
                | (refine (KD.out h5 _ _ _ _ (Ext.sits (h := fhOf W) (w := W) (h' := h5) (by first | with_reducible exact E5.out | with_reducible exact E5.out.alloc _)) R5.out (by first | exact HRD.out h5 (E3.le.trans l5.out) | exact HRD.out _ h5 (E3.le.trans l5.out))).mono ?_; rintro e w6 ⟨cs6, h6, rfl, r6, F6⟩; have R6 := hid r6; obtain ⟨A16, c16, A26, c26, rfl, _⟩ := r6; have E6 := hid (Ext.trans (h := fhOf W) (w := W) (h1 := h5) (by first | with_reducible exact E5.out | with_reducible exact E5.out.alloc _) F6); have l6 := hid (l5.out.trans F6.le); (first | (have hb6 := F6.row hb5.out; have hn6 := hid (F6.none hn5.out (block_lt hb5.out)); have hg6 := hid hg5.out) | (have hb6 := F6.row (heap_new w5 (.cells #[.int .i64 0, .slice none 0 0, .slice none 0 0] 31)); have hn6 := hid (F6.none (E5.out.sits.none (Nat.le_refl _)) (alloc_lt _ _)); have hg6 := hid E5.out.size) | skip); (first | (have z0 := box_cell (j := 0) (v := .int .i64 0) hb6 rfl; have z1 := box_cell (j := 1) (v := .slice none 0 0) hb6 rfl; have z2 := box_cell (j := 2) (v := .slice none 0 0) hb6 rfl; have f0 := box_free (j := 0) hb6; have f1 := box_free (j := 1) hb6; have f2 := box_free (j := 2) hb6; have hb6 := hid hb6) | skip))
                | (refine (KT.out h4 _ _ (Ext.sits (h := fhOf W) (w := W) (h' := h4) (by first | with_reducible exact E4.out | with_reducible exact E4.out.alloc _)) R4.out ((rd3.mono l4.out).takeN _)).mono ?_; rintro e w5 ⟨cs5, h5, rfl, r5, F5⟩; have R5 := hid r5; obtain ⟨A15, c15, A25, c25, rfl, _⟩ := r5; have E5 := hid (Ext.trans (h := fhOf W) (w := W) (h1 := h4) (by first | with_reducible exact E4.out | with_reducible exact E4.out.alloc _) F5); have l5 := hid (l4.out.trans F5.le); (first | (have hb5 := hid (F5.row hb4.out); have hn5 := hid (F5.none hn4.out (block_lt hb4.out)); have hg5 := hid hg4.out) | (have hb5 := hid (F5.row (heap_new w4 (.cells #[.int .i64 0, .slice none 0 0, .slice none 0 0] 31))); have hn5 := hid (F5.none (E4.out.sits.none (Nat.le_refl _)) (alloc_lt _ _)); have hg5 := hid E4.out.size) | skip)))))
          all_goals
            go_wp2_with fail
            go_meet
            first
              | exact BoxP.set E6.out R6.out l6.out hb6.out hn6.out hg6.out
              | exact BoxP.last E6.out R6.out l6.out
        · skip
          skip
          have Ea := hid ((E3.alloc (.cells #[.int .i64 0, .slice none 0 0, .slice none 0 0] 31)).drew)
          have Eb := hid Ed
          have hb3 := hid (heap_new w3 (.cells #[.int .i64 0, .slice none 0 0, .slice none 0 0] 31))
          have hn3 := hid (E3.sits.none (Nat.le_refl _))
          have hl3 := hid (alloc_lt w3 (.cells #[.int .i64 0, .slice none 0 0, .slice none 0 0] 31))
          have hg3 := hid E3.size
          clear Ed
          go_region_with (first
            | (go_at_call 13; refine (KN.out h3 _ (Ext.sits (h := fhOf W) (w := W) (h' := h3) (by first | with_reducible exact Eb.out | with_reducible exact Ea.out))).mono ?_; rintro e w4 ⟨cs4, h4, rfl, r4, F4⟩; have R4 := hid r4; obtain ⟨A14, c14, A24, c24, rfl, _⟩ := r4; have E4 := hid (Ext.trans (h := fhOf W) (w := W) (h1 := h3) (by first | with_reducible exact Eb.out | with_reducible exact Ea.out) F4); have l4 := hid F4.le; (first | (have hb4 := hid (F4.row (show (w3.alloc (.cells #[.int .i64 0, .slice none 0 0, .slice none 0 0] 31)).drew.heap[w3.heap.size]? = _ from hb3.out)); have hn4 := hid (F4.none hn3.out hl3.out); have hg4 := hid hg3.out) | skip))
            | (go_at_call 15; (first
                | (refine (KD.out h5 _ _ _ _ (Ext.sits (h := fhOf W) (w := W) (h' := h5) (by first | with_reducible exact E5.out | with_reducible exact E5.out.alloc _)) R5.out (by first | exact HRD.out h5 (E3.le.trans l5.out) | exact HRD.out _ h5 (E3.le.trans l5.out))).mono ?_; rintro e w6 ⟨cs6, h6, rfl, r6, F6⟩; have R6 := hid r6; obtain ⟨A16, c16, A26, c26, rfl, _⟩ := r6; have E6 := hid (Ext.trans (h := fhOf W) (w := W) (h1 := h5) (by first | with_reducible exact E5.out | with_reducible exact E5.out.alloc _) F6); have l6 := hid (l5.out.trans F6.le); (first | (have hb6 := F6.row hb5.out; have hn6 := hid (F6.none hn5.out (block_lt hb5.out)); have hg6 := hid hg5.out) | (have hb6 := F6.row (heap_new w5 (.cells #[.int .i64 0, .slice none 0 0, .slice none 0 0] 31)); have hn6 := hid (F6.none (E5.out.sits.none (Nat.le_refl _)) (alloc_lt _ _)); have hg6 := hid E5.out.size) | skip); (first | (have z0 := box_cell (j := 0) (v := .int .i64 0) hb6 rfl; have z1 := box_cell (j := 1) (v := .slice none 0 0) hb6 rfl; have z2 := box_cell (j := 2) (v := .slice none 0 0) hb6 rfl; have f0 := box_free (j := 0) hb6; have f1 := box_free (j := 1) hb6; have f2 := box_free (j := 2) hb6; have hb6 := hid hb6) | skip))
                | (refine (KT.out h4 _ _ (Ext.sits (h := fhOf W) (w := W) (h' := h4) (by first | with_reducible exact E4.out | with_reducible exact E4.out.alloc _)) R4.out ((rd3.mono l4.out).takeN _)).mono ?_; rintro e w5 ⟨cs5, h5, rfl, r5, F5⟩; have R5 := hid r5; obtain ⟨A15, c15, A25, c25, rfl, _⟩ := r5; have E5 := hid (Ext.trans (h := fhOf W) (w := W) (h1 := h4) (by first | with_reducible exact E4.out | with_reducible exact E4.out.alloc _) F5); have l5 := hid (l4.out.trans F5.le); (first | (have hb5 := hid (F5.row hb4.out); have hn5 := hid (F5.none hn4.out (block_lt hb4.out)); have hg5 := hid hg4.out) | (have hb5 := hid (F5.row (heap_new w4 (.cells #[.int .i64 0, .slice none 0 0, .slice none 0 0] 31))); have hn5 := hid (F5.none (E4.out.sits.none (Nat.le_refl _)) (alloc_lt _ _)); have hg5 := hid E4.out.size) | skip)))))
          all_goals
            go_wp2_with fail
            go_meet
            first
              | exact BoxP.set E6.out R6.out l6.out hb6.out hn6.out hg6.out
              | exact BoxP.last E6.out R6.out l6.out
  case rest =>
    obtain ⟨gP, h7, C1, e1, C2, e2, rfl, E7, hbP, RP7, l7⟩ := hcut
    have RP7 := hid RP7
    have RS7 := hid (RS3.out.mono l7)
    have hbS := l7 _ _ hbS
    have sl7 := hid (repState_rowsW RS7.out)
    have sa1 : wc.cell? ⟨gS, 1, none⟩ = some (.slice B1 s.inodes.length d1) := Sits_at E7.sits hbS rfl
    have E7 := hid E7
    have L7 := hid (E3.le.trans l7)
    clear RS3 rd3 E3 l7 KN KA KT KD
    go_upto_region 7 with (fail)
    go_loopw [7] (fun i wr => ∃ p : Nat, p ≤ s.inodes.length ∧ i = .int .i64 ((p : Int) + 1) ∧ Hid (Ext (fhOf W) W h7 wr)) (fun i _ => s.inodes.length + 1 - (intOf i).toNat)
    case atStart => exact ⟨0, Nat.zero_le _, by go_num, E7⟩
    case round =>
      obtain ⟨p, hp, rfl, E⟩ := hrel
      clear sa1
      have sa1 : wr.cell? ⟨gS, 1, none⟩ = some (.slice B1 s.inodes.length d1) := Sits_at E.out.sits hbS rfl
      have sa2 : wr.cell? ⟨gS, 2, none⟩ = some (.slice B2 s.bads.length d2) := Sits_at E.out.sits hbS rfl
      have hil := HLN.out.1
      by_cases hlt : p + 1 < s.inodes.length
      · obtain ⟨x, hx⟩ : ∃ x, s.inodes[p + 1]? = some x := ⟨s.inodes[p + 1], by simp [hlt]⟩
        obtain ⟨y, hy⟩ : ∃ y, s.inodes[p]? = some y := ⟨s.inodes[p]'(by omega), List.getElem?_eq_getElem _⟩
        have hxy : y.no < x.no := pw_get HIW.out.ri (i := p) (j := p + 1) (by rw [List.getElem?_map, hy]; rfl) (by rw [List.getElem?_map, hx]; rfl) (by omega)
        have hdl : decide (x.no ≤ y.no) = false := by simp; omega
        obtain ⟨b1, off1, _, _, _, _, e0, d0, _⟩ := sl7.out.1.inode hx E.out.sits
        obtain ⟨b1', off1', _, _, _, _, e1', f0, _⟩ := sl7.out.1.inode hy E.out.sits
        rw [e0] at e1'
        obtain ⟨rfl, rfl⟩ : b1 = b1' ∧ off1 = off1' := by simpa using e1'
        subst e0
        have u0 := fun d os => cell_regrown d0 d os
        have v0 := fun d os => cell_regrown f0 d os
        have us := fun d os => cell_regrown sa1 d os
        have i1 : (0 : Int) ≤ (p : Int) + 1 := by omega
        have i2 : (p : Int) + 1 < (s.inodes.length : Int) := by omega
        have i3 : (0 : Int) ≤ (p : Int) := by omega
        have i4 : (p : Int) < (s.inodes.length : Int) := by omega
        clear hx hy hxy e1' d0 f0 sa2
        go_upto_region 9 with (fail)
        clear sa1
        refine wp_region_quiet_below (by kernel_rfl) (by kernel_rfl) ?_
        repeat (go_big_quiet_step (fail))
        refine wpQuiet_nil ?_
        intro _ hw'
        obtain ⟨⟨dq, osq⟩, hw''⟩ := hw'
        subst hw''
        go_wp2
        go_roundw
        case rel => exact ⟨p + 1, by omega, by go_num, hid (E.out.trans (Ext.quiet E.out.sits _ _))⟩
        case measure => simp [intOf]; omega
      · clear hp
        go_upto_region 12 with (fail)
        clear sa1
        go_loopw [8] (fun i wr => ∃ p : Nat, p ≤ s.bads.length ∧ i = .int .i64 ((p : Int) + 1) ∧ Hid (Ext (fhOf W) W h7 wr)) (fun i _ => s.bads.length + 1 - (intOf i).toNat)
        case atStart => exact ⟨0, Nat.zero_le _, by go_num, E⟩
        case round =>
          obtain ⟨p, hp, rfl, E⟩ := hrel
          clear sa2 hlt
          have sa2 : wr.cell? ⟨gS, 2, none⟩ = some (.slice B2 s.bads.length d2) := Sits_at E.out.sits hbS rfl
          have hil := HLN.out.2
          by_cases hlt : p + 1 < s.bads.length
          · obtain ⟨x, hx⟩ : ∃ x, s.bads[p + 1]? = some x := ⟨s.bads[p + 1], by simp [hlt]⟩
            obtain ⟨y, hy⟩ : ∃ y, s.bads[p]? = some y := ⟨s.bads[p]'(by omega), List.getElem?_eq_getElem _⟩
            have hxy : y < x := pw_get HIW.out.rb (i := p) (j := p + 1) hy hx (by omega)
            have hdl : decide (x ≤ y) = false := by simp; omega
            obtain ⟨b1, off1, e0, d0⟩ := sl7.out.2.int hx E.out.sits
            obtain ⟨b1', off1', e1', f0⟩ := sl7.out.2.int hy E.out.sits
            rw [e0] at e1'
            obtain ⟨rfl, rfl⟩ : b1 = b1' ∧ off1 = off1' := by simpa using e1'
            subst e0
            have u0 := fun d os => cell_regrown d0 d os
            have v0 := fun d os => cell_regrown f0 d os
            have us := fun d os => cell_regrown sa2 d os
            have i1 : (0 : Int) ≤ (p : Int) + 1 := by omega
            have i2 : (p : Int) + 1 < (s.bads.length : Int) := by omega
            have i3 : (0 : Int) ≤ (p : Int) := by omega
            have i4 : (p : Int) < (s.bads.length : Int) := by omega
            clear hx hy hxy e1' d0 f0
            go_upto_region 14 with (fail)
            clear sa2
            refine wp_region_quiet_below (by kernel_rfl) (by kernel_rfl) ?_
            repeat (go_big_quiet_step (fail))
            refine wpQuiet_nil ?_
            intro _ hw'
            obtain ⟨⟨dq, osq⟩, hw''⟩ := hw'
            subst hw''
            go_wp2
            go_roundw
            case rel => exact ⟨p + 1, by omega, by go_num, hid (E.out.trans (Ext.quiet E.out.sits _ _))⟩
            case measure => simp [intOf]; omega
          · clear hp
            go_upto_region 16 with (fail)
            clear sa2 hlt hil
            have Ed := hid E.out.drew
            have KW := hid (fun w' hs' => law14_awake h7 w' hs')
            have KS := hid (fun (h' : FH) c1' c2' w' hs' r1 r2 => alike_State s c1' c2' h' w' hs' r1 r2)
            have KH := hid (fun w' hs' => state_Whole s _ HIW.out.fit (by have := HLN.out.1; omega) (by have := HLN.out.2; omega) h7 w' hs' RS7.out)
            have hwl := wholeL_len s
            have KB := hid (fun (h' : FH) cs AD cD w' hs' r rd => state_Apply ⟨0, [], []⟩ cs (wholeL s) AD cD (fun x hx => by cases hx) (wholeL_fit HIW.out.fit) (by have := HLN.out; simp; omega) (by have := HLN.out; simp; omega) h' w' hs' r rd)
            rw [whole_back HIW.out] at KB
            have HWL := hid (show (wholeL s).length ≤ 9223372036854775807 by have := HLN.out; omega)
            clear hwl
            have swr0 : wr.cell? ⟨gS, 0, none⟩ = some (.int .i64 s.next) := Sits_at E.out.sits (id hbS) rfl; have pwr0 : wr.cell? ⟨gP, 0, none⟩ = some (.int .i64 s.next) := Sits_at E.out.sits (id hbP) rfl; have swr1 : wr.cell? ⟨gS, 1, none⟩ = some (.slice B1 s.inodes.length d1) := Sits_at E.out.sits (id hbS) rfl; have pwr1 : wr.cell? ⟨gP, 1, none⟩ = some (.slice C1 s.inodes.length e1) := Sits_at E.out.sits (id hbP) rfl; have swr2 : wr.cell? ⟨gS, 2, none⟩ = some (.slice B2 s.bads.length d2) := Sits_at E.out.sits (id hbS) rfl; have pwr2 : wr.cell? ⟨gP, 2, none⟩ = some (.slice C2 s.bads.length e2) := Sits_at E.out.sits (id hbP) rfl
            go_region_with (first
              | (go_at_call 8; refine (KW.out _ Ed.out.sits).mono ?_; rintro e wa ⟨rfl, Fa⟩; have Ea := hid (Ed.out.trans Fa); have swa0 : wa.cell? ⟨gS, 0, none⟩ = some (.int .i64 s.next) := Sits_at Ea.out.sits (id hbS) rfl; have pwa0 : wa.cell? ⟨gP, 0, none⟩ = some (.int .i64 s.next) := Sits_at Ea.out.sits (id hbP) rfl; have swa1 : wa.cell? ⟨gS, 1, none⟩ = some (.slice B1 s.inodes.length d1) := Sits_at Ea.out.sits (id hbS) rfl; have pwa1 : wa.cell? ⟨gP, 1, none⟩ = some (.slice C1 s.inodes.length e1) := Sits_at Ea.out.sits (id hbP) rfl; have swa2 : wa.cell? ⟨gS, 2, none⟩ = some (.slice B2 s.bads.length d2) := Sits_at Ea.out.sits (id hbS) rfl; have pwa2 : wa.cell? ⟨gP, 2, none⟩ = some (.slice C2 s.bads.length e2) := Sits_at Ea.out.sits (id hbP) rfl)
              | (go_at_call 19; (first
                  | (refine (KS.out h10 _ _ wn En.out.sits Rn.out (RS7.out.mono l10.out)).mono ?_; rintro e wz ⟨rfl, Fz⟩; have Ez := hid (En.out.trans Fz))
                  | (refine (KS.out h7 _ _ wa Ea.out.sits RP7.out RS7.out).mono ?_; rintro e wb ⟨rfl, Fb⟩; have Eb := hid (Ea.out.trans Fb); have swb0 : wb.cell? ⟨gS, 0, none⟩ = some (.int .i64 s.next) := Sits_at Eb.out.sits (id hbS) rfl; have pwb0 : wb.cell? ⟨gP, 0, none⟩ = some (.int .i64 s.next) := Sits_at Eb.out.sits (id hbP) rfl; have swb1 : wb.cell? ⟨gS, 1, none⟩ = some (.slice B1 s.inodes.length d1) := Sits_at Eb.out.sits (id hbS) rfl; have pwb1 : wb.cell? ⟨gP, 1, none⟩ = some (.slice C1 s.inodes.length e1) := Sits_at Eb.out.sits (id hbP) rfl; have swb2 : wb.cell? ⟨gS, 2, none⟩ = some (.slice B2 s.bads.length d2) := Sits_at Eb.out.sits (id hbS) rfl; have pwb2 : wb.cell? ⟨gP, 2, none⟩ = some (.slice C2 s.bads.length e2) := Sits_at Eb.out.sits (id hbP) rfl)))
              | (go_at_call 21; refine (KH.out wb Eb.out.sits).mono ?_; rintro e wh ⟨vw, h8, rfl, Ow, Fh⟩; obtain ⟨h9, Aw, cw, rfl, rw9, l9, s9, _, fr9⟩ := Ow.stay2 Fh.sits HWL.out; have F9 := hid (show Ext h7 wb h9 wh from ⟨Fh.le.trans l9, s9, Fh.below, fun b hb => by
                  rcases fr9 b hb with q1 | q1
                  · exact Fh.fresh b q1
                  · exact .inr (Ow.lt b q1).1⟩); have Rw := hid rw9; have Eh := hid (Eb.out.trans F9.out); have lh := hid F9.out.le; have swh0 : wh.cell? ⟨gS, 0, none⟩ = some (.int .i64 s.next) := Sits_at Eh.out.sits (lh.out _ _ hbS) rfl; have pwh0 : wh.cell? ⟨gP, 0, none⟩ = some (.int .i64 s.next) := Sits_at Eh.out.sits (lh.out _ _ hbP) rfl; have swh1 : wh.cell? ⟨gS, 1, none⟩ = some (.slice B1 s.inodes.length d1) := Sits_at Eh.out.sits (lh.out _ _ hbS) rfl; have pwh1 : wh.cell? ⟨gP, 1, none⟩ = some (.slice C1 s.inodes.length e1) := Sits_at Eh.out.sits (lh.out _ _ hbP) rfl; have swh2 : wh.cell? ⟨gS, 2, none⟩ = some (.slice B2 s.bads.length d2) := Sits_at Eh.out.sits (lh.out _ _ hbS) rfl; have pwh2 : wh.cell? ⟨gP, 2, none⟩ = some (.slice C2 s.bads.length e2) := Sits_at Eh.out.sits (lh.out _ _ hbP) rfl)
              | (go_at_call 15; refine (KB.out h9 _ _ _ wh Eh.out.sits ⟨none, 0, none, 0, rfl, ⟨Nat.le_refl _, fun _ => rfl, by decide⟩, RowAt.nil _ _, ⟨Nat.le_refl _, fun _ => rfl, by decide⟩, RowAt.nil _ _⟩ Rw.out).mono ?_; rintro e wn ⟨csn, h10, rfl, rn, Fn⟩; have Rn := hid rn; obtain ⟨An1, cn1, An2, cn2, rfl, _⟩ := rn; have En := hid (Eh.out.trans Fn); have l10 := hid (lh.out.trans Fn.le); have swn0 : wn.cell? ⟨gS, 0, none⟩ = some (.int .i64 s.next) := Sits_at En.out.sits (l10.out _ _ hbS) rfl; have pwn0 : wn.cell? ⟨gP, 0, none⟩ = some (.int .i64 s.next) := Sits_at En.out.sits (l10.out _ _ hbP) rfl; have swn1 : wn.cell? ⟨gS, 1, none⟩ = some (.slice B1 s.inodes.length d1) := Sits_at En.out.sits (l10.out _ _ hbS) rfl; have pwn1 : wn.cell? ⟨gP, 1, none⟩ = some (.slice C1 s.inodes.length e1) := Sits_at En.out.sits (l10.out _ _ hbP) rfl; have swn2 : wn.cell? ⟨gS, 2, none⟩ = some (.slice B2 s.bads.length d2) := Sits_at En.out.sits (l10.out _ _ hbS) rfl; have pwn2 : wn.cell? ⟨gP, 2, none⟩ = some (.slice C2 s.bads.length e2) := Sits_at En.out.sits (l10.out _ _ hbP) rfl))
            all_goals
              go_wp2_with fail
              go_ret
              exact ⟨rfl, Ez.out.back⟩
end Go.Proofs.Yteolmamiblddjaa
