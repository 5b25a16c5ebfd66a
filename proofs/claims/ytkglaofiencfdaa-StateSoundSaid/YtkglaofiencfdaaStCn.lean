import Derived.Test.YtkglaofiencfdaaStDf
namespace Go.Proofs.Ytkglaofiencfdaa
open Go.RowKit Go.Sort
set_option linter.unusedVariables false
/-! ### what is counted -/
theorem vm_getD (f : Int → Option Int) (a : Int) : (vm f a).getD (.int .i64 0) = .int .i64 ((f a).getD 0) := by unfold vm; cases f a <;> rfl
theorem lastK_snoc {xs : List Inode} {k : Nat} {x : Inode} (h : xs[k]? = some x) (a : Int) : lastK (xs.take (k + 1)) a = if a = x.no then some x.kind else lastK (xs.take k) a := by
  unfold lastK
  rw [take_snoc h, List.reverse_append, List.reverse_singleton, List.singleton_append, List.find?_cons]
  by_cases e : a = x.no
  · rw [if_pos e, show isI a x = true by unfold isI; simp [e]]; rfl
  · rw [if_neg e, show isI a x = false by unfold isI; simp; exact fun h => e h.symm]
theorem pairsL_snoc {xs : List Inode} {k : Nat} {x : Inode} (h : xs[k]? = some x) : pairsL (xs.take (k + 1)) = pairsL (xs.take k) ++ pairsE x.no x.entries := by
  unfold pairsL; rw [take_snoc h, List.flatMap_append]; simp
theorem pairsE_snoc {d : Int} {es : List Entry} {j : Nat} {y : Entry} (h : es[j]? = some y) : pairsE d (es.take (j + 1)) = pairsE d (es.take j) ++ [(d, y.no)] := by
  unfold pairsE; rw [take_snoc h, List.map_append]; rfl
theorem cntM_snoc (p : Int × Int → Bool) (ps : List (Int × Int)) (q : Int × Int) : cntM p (ps ++ [q]) = if p q = true then some ((cntM p ps).getD 0 + 1) else cntM p ps := by
  unfold cntM
  rw [List.filter_append]
  by_cases h : p q = true
  · rw [if_pos h]
    simp only [List.filter_cons, h, if_true, List.filter_nil, List.length_append, List.length_cons, List.length_nil]
    rw [if_neg (by omega)]
    split
    · rename_i e; simp [e]
    · simp
  · rw [if_neg h]
    have : List.filter p [q] = [] := by simp [h]
    rw [this, List.append_nil]
theorem cntM_le (p : Int × Int → Bool) (ps : List (Int × Int)) : 0 ≤ (cntM p ps).getD 0 ∧ (cntM p ps).getD 0 ≤ ps.length := by
  unfold cntM
  have := List.length_filter_le p ps
  split
  · simp
  · simp; omega
theorem toM_snoc (ps : List (Int × Int)) (d e a : Int) : toM (ps ++ [(d, e)]) a = if a = e then some ((toM ps e).getD 0 + 1) else toM ps a := by
  unfold toM
  rw [cntM_snoc]
  by_cases h : a = e
  · subst h; simp
  · rw [if_neg h, if_neg (by simp; exact fun q => h q.symm)]
theorem upM_snoc (ps : List (Int × Int)) (d e a : Int) : upM (ps ++ [(d, e)]) a = if a = e then some d else upM ps a := by
  unfold upM
  rw [List.reverse_append, List.reverse_singleton, List.singleton_append, List.find?_cons]
  by_cases h : a = e
  · subst h; simp
  · rw [if_neg h]
    have : (e == a) = false := by simpa using fun q => h q.symm
    simp [this]
theorem dirM_yes {kf : Int → Option Int} (ps : List (Int × Int)) {d e : Int} (h : (kf e).getD 0 = 2) (a : Int) : dirM kf (ps ++ [(d, e)]) a = if a = d then some ((dirM kf ps d).getD 0 + 1) else dirM kf ps a := by
  unfold dirM
  rw [cntM_snoc]
  by_cases q : a = d
  · subst q; simp [h]
  · rw [if_neg q, if_neg (by simp; exact fun w => absurd w.symm q)]
theorem dirM_no {kf : Int → Option Int} (ps : List (Int × Int)) {d e : Int} (h : ¬ (kf e).getD 0 = 2) (a : Int) : dirM kf (ps ++ [(d, e)]) a = dirM kf ps a := by
  unfold dirM
  rw [cntM_snoc, if_neg (by simp [h])]
theorem vm_set {f g : Int → Option Int} {e v : Int} (h : ∀ a, g a = if a = e then some v else f a) (a : Int) : (if a = e then some (Value.int .i64 v) else vm f a) = vm g a := by
  unfold vm
  rw [h a]
  by_cases q : a = e
  · rw [if_pos q, if_pos q]; rfl
  · rw [if_neg q, if_neg q]
theorem okLeads_pre {kf : Int → Option Int} {ps qs : List (Int × Int)} (h : okLeads kf ps = false) : okLeads kf (ps ++ qs) = false := by
  unfold okLeads at h ⊢
  rw [List.all_append, h, Bool.false_and]
theorem okLeads_bad {kf : Int → Option Int} {ps : List (Int × Int)} {d e kv : Int} (h : (kf e).getD 0 = kv) (hb : kv = 0 ∨ e = 1) : okLeads kf (ps ++ [(d, e)]) = false := by
  unfold okLeads
  rw [List.all_append]
  have : okLead kf (d, e) = false := by
    unfold okLead
    simp only [h]
    rcases hb with rfl | rfl <;> simp
  simp [this]
theorem okLeads_ok {kf : Int → Option Int} {ps : List (Int × Int)} {d e kv : Int} (h0 : okLeads kf ps = true) (h : (kf e).getD 0 = kv) (hb : ¬ (kv = 0 ∨ e = 1)) : okLeads kf (ps ++ [(d, e)]) = true := by
  unfold okLeads at h0 ⊢
  rw [List.all_append, h0]
  have : okLead kf (d, e) = true := by
    unfold okLead
    simp only [h]
    simp; omega
  simp [this]
theorem pairs_head {xs : List Inode} {k : Nat} {x : Inode} (hx : xs[k]? = some x) (j : Nat) : ∃ qs, pairsL xs = pairsL (xs.take k) ++ pairsE x.no (x.entries.take j) ++ qs := by
  have e1 : xs = xs.take k ++ [x] ++ xs.drop (k + 1) := by rw [← take_snoc hx, List.take_append_drop]
  have h1 : pairsL xs = pairsL (xs.take k) ++ pairsE x.no x.entries ++ pairsL (xs.drop (k + 1)) := by
    conv => lhs; rw [e1]
    unfold pairsL; simp
  refine ⟨pairsE x.no (x.entries.drop j) ++ pairsL (xs.drop (k + 1)), ?_⟩
  rw [h1]
  have : pairsE x.no x.entries = pairsE x.no (x.entries.take j) ++ pairsE x.no (x.entries.drop j) := by
    unfold pairsE; rw [← List.map_append, List.take_append_drop]
  rw [this]; simp
/-- The four maps, while one counts. -/
structure InCount (h : FH) (w : World) (b0 b1 b2 b3 gR : Nat) (hh : FH) (wr : World) (f0 f1 f2 f3 : Int → Option Int) : Prop where
  ext : Ext h w hh wr
  m0 : MapIs encI wr b0 (vm f0)
  m1 : MapIs encI wr b1 (vm f1)
  m2 : MapIs encI wr b2 (vm f2)
  m3 : MapIs encI wr b3 (vm f3)
  n0 : hh b0 = none
  n1 : hh b1 = none
  n2 : hh b2 = none
  n3 : hh b3 = none
  out : wr.heap[gR]? = some (.cells #[.map none, .map none, .map none, .map none] 71 (0, 0))
  nR : hh gR = none
section
variable {h : FH} {w : World} {b0 b1 b2 b3 gR : Nat} {hh : FH} {wr : World} {f0 f1 f2 f3 : Int → Option Int}
theorem InCount.more (I : InCount h w b0 b1 b2 b3 gR hh wr f0 f1 f2 f3) {h2 : FH} {w2 : World} (E : Ext hh wr h2 w2) : InCount h w b0 b1 b2 b3 gR h2 w2 f0 f1 f2 f3 :=
  ⟨I.ext.trans E, I.m0.ext E, I.m1.ext E, I.m2.ext E, I.m3.ext E, E.none I.n0 I.m0.lt, E.none I.n1 I.m1.lt, E.none I.n2 I.m2.lt, E.none I.n3 I.m3.lt, E.row I.out, E.none I.nR (Array.getElem?_eq_some_iff.1 I.out).1⟩
theorem InCount.drew (I : InCount h w b0 b1 b2 b3 gR hh wr f0 f1 f2 f3) : InCount h w b0 b1 b2 b3 gR hh wr.drew f0 f1 f2 f3 := I.more (Ext.refl I.ext.sits).drew
theorem InCount.back (I : InCount h w b0 b1 b2 b3 gR hh wr f0 f1 f2 f3) {h1 : FH} (l : FLe h h1) (l2 : FLe h1 hh) (k0 : h1 b0 = none) (k1 : h1 b1 = none) (k2 : h1 b2 = none) (k3 : h1 b3 = none) (kR : h1 gR = none) : InCount h w b0 b1 b2 b3 gR h1 wr f0 f1 f2 f3 :=
  ⟨I.ext.drop l l2, I.m0, I.m1, I.m2, I.m3, k0, k1, k2, k3, I.out, kR⟩
theorem blk {w w2 : World} {b c : Nat} {f : Int → Option Value} (M : MapIs encI w c f) (G : w.grownBy w2 (some b)) (hne : c ≠ b) : MapIs encI w2 c f := M.of_block (G.block c M.lt (by simpa using hne))
theorem rowk {w w2 : World} {b g : Nat} {o : Obj} (hr : w.heap[g]? = some o) (G : w.grownBy w2 (some b)) (hne : g ≠ b) : w2.heap[g]? = some o := by
  rw [G.block g (Array.getElem?_eq_some_iff.1 hr).1 (by simpa using hne)]; exact hr
theorem InCount.set0 (I : InCount h w b0 b1 b2 b3 gR hh wr f0 f1 f2 f3) {w2 : World} {f : Int → Option Int} (hw : w.heap.size ≤ b0) (G : wr.grownBy w2 (some b0)) (M : MapIs encI w2 b0 (vm f)) (d1 : b1 ≠ b0) (d2 : b2 ≠ b0) (d3 : b3 ≠ b0) (dR : gR ≠ b0) : InCount h w b0 b1 b2 b3 gR hh w2 f f1 f2 f3 :=
  ⟨I.ext.grown G (fun k hk => by cases hk; exact ⟨hw, I.n0⟩), M, blk I.m1 G d1, blk I.m2 G d2, blk I.m3 G d3, I.n0, I.n1, I.n2, I.n3, rowk I.out G dR, I.nR⟩
theorem InCount.set1 (I : InCount h w b0 b1 b2 b3 gR hh wr f0 f1 f2 f3) {w2 : World} {f : Int → Option Int} (hw : w.heap.size ≤ b1) (G : wr.grownBy w2 (some b1)) (M : MapIs encI w2 b1 (vm f)) (d0 : b0 ≠ b1) (d2 : b2 ≠ b1) (d3 : b3 ≠ b1) (dR : gR ≠ b1) : InCount h w b0 b1 b2 b3 gR hh w2 f0 f f2 f3 :=
  ⟨I.ext.grown G (fun k hk => by cases hk; exact ⟨hw, I.n1⟩), blk I.m0 G d0, M, blk I.m2 G d2, blk I.m3 G d3, I.n0, I.n1, I.n2, I.n3, rowk I.out G dR, I.nR⟩
theorem InCount.set2 (I : InCount h w b0 b1 b2 b3 gR hh wr f0 f1 f2 f3) {w2 : World} {f : Int → Option Int} (hw : w.heap.size ≤ b2) (G : wr.grownBy w2 (some b2)) (M : MapIs encI w2 b2 (vm f)) (d0 : b0 ≠ b2) (d1 : b1 ≠ b2) (d3 : b3 ≠ b2) (dR : gR ≠ b2) : InCount h w b0 b1 b2 b3 gR hh w2 f0 f1 f f3 :=
  ⟨I.ext.grown G (fun k hk => by cases hk; exact ⟨hw, I.n2⟩), blk I.m0 G d0, blk I.m1 G d1, M, blk I.m3 G d3, I.n0, I.n1, I.n2, I.n3, rowk I.out G dR, I.nR⟩
theorem InCount.set3 (I : InCount h w b0 b1 b2 b3 gR hh wr f0 f1 f2 f3) {w2 : World} {f : Int → Option Int} (hw : w.heap.size ≤ b3) (G : wr.grownBy w2 (some b3)) (M : MapIs encI w2 b3 (vm f)) (d0 : b0 ≠ b3) (d1 : b1 ≠ b3) (d2 : b2 ≠ b3) (dR : gR ≠ b3) : InCount h w b0 b1 b2 b3 gR hh w2 f0 f1 f2 f :=
  ⟨I.ext.grown G (fun k hk => by cases hk; exact ⟨hw, I.n3⟩), blk I.m0 G d0, blk I.m1 G d1, blk I.m2 G d2, M, I.n0, I.n1, I.n2, I.n3, rowk I.out G dR, I.nR⟩
end
/-- What count hands back. -/
def RetCount (h : FH) (w : World) (xs : List Inode) (t : Bool) (e : Ending) (w' : World) : Prop := ∃ (b0 b1 b2 b3 : Nat) (h1 : FH), e = .returned (.tuple #[.agg #[.map (some b0), .map (some b1), .map (some b2), .map (some b3)], .bool t]) ∧ Ext h w h1 w' ∧
  (t = true → FMap encI h1 b0 (vm (lastK xs)) ∧ FMap encI h1 b1 (vm (toM (pairsL xs))) ∧ FMap encI h1 b2 (vm (upM (pairsL xs))) ∧ FMap encI h1 b3 (vm (dirM (lastK xs) (pairsL xs))))
set_option maxHeartbeats 8000000 in
set_option maxRecDepth 100000 in
theorem state_count (s : State) (cs : List Value) (t : Bool) (ht : okLeads (lastK s.inodes) (pairsL s.inodes) = t) (hlen : (pairsL s.inodes).length ≤ 1000000) (h : FH) (w : World) (hs : Sits h w) (r : repState h cs s) :
    Calls Try.prog 33 #[.agg cs.toArray] w fun e w' => RetCount h w s.inodes t e w' := by
  obtain ⟨A1, c1, A2, c2, rfl, l1, r1, l2, r2⟩ := r
  have hlI := r1.1
  have HT := hid ht
  have hmm := @run_makeMap Try.prog
  clear ht
  obtain ⟨h1, E1, hb1, le1, hh1⟩ := (Ext.refl hs).boxF #[.int .i64 s.next, .slice A1 s.inodes.length c1, .slice A2 s.bads.length c2] 31
  have E2 := E1.alloc (.cells #[.map none, .map none, .map none, .map none] 71)
  have hR := heap_new (w.alloc (.cells #[.int .i64 s.next, .slice A1 s.inodes.length c1, .slice A2 s.bads.length c2] 31)) (.cells #[.map none, .map none, .map none, .map none] 71)
  have nR := E1.sits.none (Nat.le_refl _)
  rw [show (w.alloc (.cells #[.int .i64 s.next, .slice A1 s.inodes.length c1, .slice A2 s.bads.length c2] 31)).heap.size = w.heap.size + 1 by simp] at hR nR
  have hz1 : ((w.alloc (.cells #[.int .i64 s.next, .slice A1 s.inodes.length c1, .slice A2 s.bads.length c2] 31)).alloc (.cells #[.map none, .map none, .map none, .map none] 71)).heap.size = w.heap.size + 2 := by simp
  clear hh1 E1
  go_enter Try.func33, Try.ntmps33
  go_upto_region 1 with (fail)
  with_reducible generalize (w.alloc (.cells #[.int .i64 s.next, .slice A1 s.inodes.length c1, .slice A2 s.bads.length c2] 31)).alloc (.cells #[.map none, .map none, .map none, .map none] 71) = w1 at E2 hR hz1 ⊢
  obtain ⟨gS, hgS⟩ : ∃ gS, gS = w.heap.size := ⟨_, rfl⟩
  obtain ⟨gR, hgR⟩ : ∃ gR, gR = w.heap.size + 1 := ⟨_, rfl⟩
  obtain ⟨b0, hb0⟩ : ∃ b, b = w.heap.size + 2 := ⟨_, rfl⟩
  obtain ⟨b1, hb1'⟩ : ∃ b, b = w.heap.size + 3 := ⟨_, rfl⟩
  obtain ⟨b2, hb2'⟩ : ∃ b, b = w.heap.size + 4 := ⟨_, rfl⟩
  obtain ⟨b3, hb3'⟩ : ∃ b, b = w.heap.size + 5 := ⟨_, rfl⟩
  obtain ⟨gC, hgC⟩ : ∃ b, b = w.heap.size + 6 := ⟨_, rfl⟩
  have ea : w1.heap.size = b0 := by omega
  have eb : (w1.alloc (.map #[] 0)).heap.size = b1 := by simp; omega
  have ec : ((w1.alloc (.map #[] 0)).alloc (.map #[] 0)).heap.size = b2 := by simp; omega
  have ed : (((w1.alloc (.map #[] 0)).alloc (.map #[] 0)).alloc (.map #[] 0)).heap.size = b3 := by simp; omega
  have ee : ((((w1.alloc (.map #[] 0)).alloc (.map #[] 0)).alloc (.map #[] 0)).alloc (.map #[] 0)).heap.size = gC := by simp; omega
  have M0 := MapIs.made encI w1
  have M1 := MapIs.made encI (w1.alloc (.map #[] 0))
  have M2 := MapIs.made encI ((w1.alloc (.map #[] 0)).alloc (.map #[] 0))
  have M3 := MapIs.made encI (((w1.alloc (.map #[] 0)).alloc (.map #[] 0)).alloc (.map #[] 0))
  have E6 := (((E2.alloc (.map #[] 0)).alloc (.map #[] 0)).alloc (.map #[] 0)).alloc (.map #[] 0)
  have I1 : InCount h w b0 b1 b2 b3 gR h1 ((((w1.alloc (.map #[] 0)).alloc (.map #[] 0)).alloc (.map #[] 0)).alloc (.map #[] 0)) (lastK []) (toM []) (upM []) (dirM (lastK s.inodes) []) := by
    rw [ea] at M0
    rw [eb] at M1
    rw [ec] at M2
    rw [ed] at M3
    refine ⟨E6, (((M0.alloc _).alloc _).alloc _).congr fun a => rfl, ((M1.alloc _).alloc _).congr fun a => rfl, (M2.alloc _).congr fun a => rfl, M3.congr fun a => rfl, E2.sits.none (by omega), E2.sits.none (by omega), E2.sits.none (by omega), E2.sits.none (by omega), box_alloc (box_alloc (box_alloc (box_alloc (by rw [hgR]; exact hR) _) _) _) _, by rw [hgR]; exact nR⟩
  obtain ⟨h2, E7, hC, le2, hh2⟩ := (Ext.refl I1.ext.sits).boxF #[.map (some b0), .map (some b1), .map (some b2), .map (some b3)] 71
  have I2 := hid (I1.more E7)
  rw [ee] at hC
  have hb1 := le2 _ _ hb1
  have le1 := le1.trans le2
  have hwR : w.heap.size ≤ gR := by omega
  have hw0 : w.heap.size ≤ b0 := by omega
  have hw1 : w.heap.size ≤ b1 := by omega
  have hw2 : w.heap.size ≤ b2 := by omega
  have hw3 : w.heap.size ≤ b3 := by omega
  have d01 : b0 ≠ b1 := by omega
  have d02 : b0 ≠ b2 := by omega
  have d03 : b0 ≠ b3 := by omega
  have d12 : b1 ≠ b2 := by omega
  have d13 : b1 ≠ b3 := by omega
  have d23 : b2 ≠ b3 := by omega
  have dR0 : gR ≠ b0 := by omega
  have dR1 : gR ≠ b1 := by omega
  have dR2 : gR ≠ b2 := by omega
  have dR3 : gR ≠ b3 := by omega
  rw [← hgR]
  rw [← hgS] at hb1 ⊢
  clear hgS hgR hb0 hb1' hb2' hb3' hgC hz1 M0 M1 M2 M3 E6 I1 E7 hh2 E2 hR nR
  go_upto_region 2 with (fail)
  with_reducible generalize ((((w1.alloc (.map #[] 0)).alloc (.map #[] 0)).alloc (.map #[] 0)).alloc (.map #[] 0)).alloc (.cells #[.map (some b0), .map (some b1), .map (some b2), .map (some b3)] 71) = w2 at I2 ⊢
  clear ea eb ec ed ee
  have y1 : w2.cell? ⟨gS, 1, none⟩ = some (.slice A1 s.inodes.length c1) := Sits_at I2.out.ext.sits hb1 rfl
  have r1 := r1.mono le1
  go_wp2_with fail
  go_loopw [21] (fun i wr => ∃ (k : Nat), k ≤ s.inodes.length ∧ i = .int .i64 k ∧ Hid (InCount h w b0 b1 b2 b3 gR h2 wr (lastK (s.inodes.take k)) (toM []) (upM []) (dirM (lastK s.inodes) []))) (fun i _ => s.inodes.length - (intOf i).toNat)
  case atStart => exact ⟨0, Nat.zero_le _, rfl, I2⟩
  case round =>
    obtain ⟨k, hk, rfl, I⟩ := hrel
    clear y1
    by_cases hlt : k < s.inodes.length
    · obtain ⟨x, hx⟩ : ∃ x, s.inodes[k]? = some x := ⟨s.inodes[k], by simp [hlt]⟩
      obtain ⟨b, off, A5, c5, A6, c6, rfl, d0, d1, d2, d3, d4, d5, d6, s0, s1, s2, s3, s4⟩ := r1.inode hx I.out.ext.sits
      have HS := hid (lastK_snoc hx)
      clear hx
      go_upto_region 5 with (fail)
      have I3 := hid (I.out.more ((Ext.refl I.out.ext.sits).alloc (.cells #[.int .i64 x.no, .int .i64 x.kind, .int .i64 x.links, .int .i64 x.size, .string x.target, .slice A5 x.entries.length c5, .slice A6 x.runs.length c6] 37)))
      have HBX := hid (heap_new wr (.cells #[.int .i64 x.no, .int .i64 x.kind, .int .i64 x.links, .int .i64 x.size, .string x.target, .slice A5 x.entries.length c5, .slice A6 x.runs.length c6] 37))
      generalize hgb : wr.heap.size = gb at *
      with_reducible generalize wr.alloc (.cells #[.int .i64 x.no, .int .i64 x.kind, .int .i64 x.links, .int .i64 x.size, .string x.target, .slice A5 x.entries.length c5, .slice A6 x.runs.length c6] 37) = W2 at I3 HBX ⊢
      have e0 : W2.cell? ⟨gb, 0, none⟩ = some (.int .i64 x.no) := box_cell (j := 0) HBX.out rfl
      have e1 : W2.cell? ⟨gb, 1, none⟩ = some (.int .i64 x.kind) := box_cell (j := 1) HBX.out rfl
      have q0 : W2.cell? ⟨gC, 0, none⟩ = some (.map (some b0)) := Sits_at I3.out.ext.sits hC rfl
      clear d0 d1 d2 d3 d4 d5 d6
      go_wp2_with (at_mapUpdate; refine wpList_mapSet _ rfl _ _ _ 69 3 rfl kt_state_key Try.underlying69 b0 _ rfl I3.out.m0 x.no rfl (.int .i64 x.kind) rfl ?_; intro w4 M4 G4; have I4 := hid (I3.out.set0 hw0 G4 (M4.congr (fun a => vm_set HS.out a)) (fun e => d01 e.symm) (fun e => d02 e.symm) (fun e => d03 e.symm) dR0))
      go_roundw
      case rel => exact ⟨k + 1, by omega, by go_num, I4⟩
      case measure => simp [intOf]; omega
    · have hkk : s.inodes.take k = s.inodes := List.take_of_length_le (by omega)
      have I := hid (show InCount h w b0 b1 b2 b3 gR h2 wr (lastK s.inodes) (toM (pairsL (s.inodes.take 0))) (upM (pairsL (s.inodes.take 0))) (dirM (lastK s.inodes) (pairsL (s.inodes.take 0))) by have := I.out; rw [hkk] at this; exact this)
      have y1 : wr.cell? ⟨gS, 1, none⟩ = some (.slice A1 s.inodes.length c1) := Sits_at I.out.ext.sits hb1 rfl
      clear hkk
      go_wp2_with fail
      clear hlt hk
      go_loopw [36] (fun i wr => ∃ (k : Nat), k ≤ s.inodes.length ∧ i = .int .i64 k ∧ Hid (okLeads (lastK s.inodes) (pairsL (s.inodes.take k)) = true) ∧ Hid (InCount h w b0 b1 b2 b3 gR h2 wr (lastK s.inodes) (toM (pairsL (s.inodes.take k))) (upM (pairsL (s.inodes.take k))) (dirM (lastK s.inodes) (pairsL (s.inodes.take k))))) (fun i _ => s.inodes.length - (intOf i).toNat)
      case atStart => exact ⟨0, Nat.zero_le _, rfl, hid rfl, I⟩
      case round =>
        obtain ⟨k, hk, rfl, HO, I⟩ := hrel
        clear y1
        by_cases hlt : k < s.inodes.length
        · obtain ⟨x, hx⟩ : ∃ x, s.inodes[k]? = some x := ⟨s.inodes[k], by simp [hlt]⟩
          obtain ⟨b, off, A5, c5, A6, c6, rfl, d0, d1, d2, d3, d4, d5, d6, s0, s1, s2, s3, s4⟩ := r1.inode hx I.out.ext.sits
          have HS := hid (pairsL_snoc hx)
          have HPH := hid (pairs_head hx)
          have hlE := s2.1
          clear hx
          go_upto_region 10 with (fail)
          obtain ⟨h3, E3, hX3, le3, hh3⟩ := (Ext.refl I.out.ext.sits).boxF #[.int .i64 x.no, .int .i64 x.kind, .int .i64 x.links, .int .i64 x.size, .string x.target, .slice A5 x.entries.length c5, .slice A6 x.runs.length c6] 37
          have I3 := hid (I.out.more E3)
          have s2 := s2.mono le3
          generalize hgb : wr.heap.size = gb at *
          with_reducible generalize wr.alloc (.cells #[.int .i64 x.no, .int .i64 x.kind, .int .i64 x.links, .int .i64 x.size, .string x.target, .slice A5 x.entries.length c5, .slice A6 x.runs.length c6] 37) = W2 at I3 E3 ⊢
          have e5 : W2.cell? ⟨gb, 5, none⟩ = some (.slice A5 x.entries.length c5) := Sits_at I3.out.ext.sits hX3 rfl
          have HX3 := hid hX3
          have LE3 := hid le3
          clear d0 d1 d2 d3 d4 d5 d6 hh3 E3 hX3 le3
          go_wp2_with fail
          go_loopw [43] (fun i wm => ∃ (j : Nat) (ps : List (Int × Int)), j ≤ x.entries.length ∧ i = .int .i64 j ∧ Hid (ps = pairsL (s.inodes.take k) ++ pairsE x.no (x.entries.take j)) ∧ Hid (okLeads (lastK s.inodes) ps = true) ∧ Hid (InCount h w b0 b1 b2 b3 gR h3 wm (lastK s.inodes) (toM ps) (upM ps) (dirM (lastK s.inodes) ps))) (fun i _ => x.entries.length - (intOf i).toNat)
          case atStart => exact ⟨0, _, Nat.zero_le _, rfl, hid rfl, hid (by simpa [pairsE] using HO.out), hid (by simpa [pairsE] using I3.out)⟩
          case round =>
            obtain ⟨j, ps, hj, rfl, HPS, HO4, I4⟩ := hrel
            clear e5
            by_cases hjt : j < x.entries.length
            · obtain ⟨y, hy⟩ : ∃ y, x.entries[j]? = some y := ⟨x.entries[j], by simp [hjt]⟩
              obtain ⟨b', off', rfl, f0, f1, _⟩ := s2.entry hy I4.out.ext.sits
              have HP2 := hid (show ps ++ [(x.no, y.no)] = pairsL (s.inodes.take k) ++ pairsE x.no (x.entries.take (j + 1)) by rw [pairsE_snoc hy, HPS.out]; simp)
              obtain ⟨qs, hqs⟩ := HPH.out (j + 1)
              have HQS := hid (show pairsL s.inodes = ps ++ [(x.no, y.no)] ++ qs by rw [HP2.out]; exact hqs)
              have hpl : ps.length + 1 ≤ 1000000 := by
                have : (pairsL s.inodes).length = (ps ++ [(x.no, y.no)] ++ qs).length := by rw [HQS.out]
                simp at this
                omega
              clear hy hqs
              go_upto_region 14 with (fail)
              obtain ⟨h4, E4, hEN, le4, hh4⟩ := (Ext.refl I4.out.ext.sits).boxF #[.string y.name, .int .i64 y.no] 44
              obtain ⟨h5, E5, hKY, le5, hh5⟩ := E4.boxF #[.int .i64 y.no] 75
              rw [show (wr.alloc (.cells #[.string y.name, .int .i64 y.no] 44)).heap.size = wr.heap.size + 1 by simp] at hKY
              have I5 := hid (I4.out.more E5)
              have hEN := le5 _ _ hEN
              have hX5 := (le4.trans le5) _ _ HX3.out
              have hC5 := (LE3.out.trans (le4.trans le5)) _ _ hC
              have LE5 := hid (le4.trans le5)
              generalize hgE : wr.heap.size = gE at *
              generalize hgK : gE + 1 = gK at *
              with_reducible generalize (wr.alloc (.cells #[.string y.name, .int .i64 y.no] 44)).alloc (.cells #[.int .i64 y.no] 75) = W5 at I5 E5 ⊢
              clear hh4 hh5 E4 E5 f0 f1 hgE hgK hgb le4 le5
              obtain ⟨kv, hkv⟩ : ∃ v, (lastK s.inodes y.no).getD 0 = v := ⟨_, rfl⟩
              have q0 : W5.cell? ⟨gC, 0, none⟩ = some (.map (some b0)) := Sits_at I5.out.ext.sits hC5 rfl
              have k0 : W5.cell? ⟨gK, 0, none⟩ = some (.int .i64 y.no) := Sits_at I5.out.ext.sits hKY rfl
              have n1 : W5.cell? ⟨gE, 1, none⟩ = some (.int .i64 y.no) := Sits_at I5.out.ext.sits hEN rfl
              have L0 := I5.out.m0.look kt_state_key Try.underlying69 zero_int y.no
              rw [vm_getD, hkv] at L0
              simp only [encI] at L0
              have HKV := hid hkv
              clear hkv
              by_cases hbad : kv = 0 ∨ y.no = 1
              · have HF := hid (show t = false by
                  rw [← HT.out, HQS.out]
                  refine okLeads_pre (okLeads_bad HKV.out hbad))
                have I9 := I5
                have hC9 := hC5
                rcases hbad with hb | hb
                · have hb' : (kv == 0) = true := by simpa using hb
                  clear hb
                  have E9 := hid I9.out.ext
                  have o0 : W5.cell? ⟨gR, 0, none⟩ = some (.map none) := box_cell (j := 0) I9.out.out rfl
                  have p0 := box_free (j := 0) I9.out.out
                  have q0 : W5.cell? ⟨gC, 0, none⟩ = some (.map (some b0)) := Sits_at E9.out.sits hC9 rfl
                  have o1 : W5.cell? ⟨gR, 1, none⟩ = some (.map none) := box_cell (j := 1) I9.out.out rfl
                  have p1 := box_free (j := 1) I9.out.out
                  have q1 : W5.cell? ⟨gC, 1, none⟩ = some (.map (some b1)) := Sits_at E9.out.sits hC9 rfl
                  have o2 : W5.cell? ⟨gR, 2, none⟩ = some (.map none) := box_cell (j := 2) I9.out.out rfl
                  have p2 := box_free (j := 2) I9.out.out
                  have q2 : W5.cell? ⟨gC, 2, none⟩ = some (.map (some b2)) := Sits_at E9.out.sits hC9 rfl
                  have o3 : W5.cell? ⟨gR, 3, none⟩ = some (.map none) := box_cell (j := 3) I9.out.out rfl
                  have p3 := box_free (j := 3) I9.out.out
                  have q3 : W5.cell? ⟨gC, 3, none⟩ = some (.map (some b3)) := Sits_at E9.out.sits hC9 rfl
                  go_wp2_with fail
                  have E7 : Ext h w _ ((((W5.setCell ⟨gR, 0, none⟩ (.map (some b0))).setCell ⟨gR, 1, none⟩ (.map (some b1))).setCell ⟨gR, 2, none⟩ (.map (some b2))).setCell ⟨gR, 3, none⟩ (.map (some b3))) := Ext.setCells (g := gR) hwR I9.out.nR [.map (some b0), .map (some b1), .map (some b2), .map (some b3)] 0 _ E9.out
                  have R7 : (((((W5.setCell ⟨gR, 0, none⟩ (.map (some b0))).setCell ⟨gR, 1, none⟩ (.map (some b1))).setCell ⟨gR, 2, none⟩ (.map (some b2))).setCell ⟨gR, 3, none⟩ (.map (some b3)))).heap[gR]? = some (.cells #[.map (some b0), .map (some b1), .map (some b2), .map (some b3)] 71 (0, 0)) := setCells_row [.map (some b0), .map (some b1), .map (some b2), .map (some b3)] I9.out.out rfl
                  with_reducible generalize ((((W5.setCell ⟨gR, 0, none⟩ (.map (some b0))).setCell ⟨gR, 1, none⟩ (.map (some b1))).setCell ⟨gR, 2, none⟩ (.map (some b2))).setCell ⟨gR, 3, none⟩ (.map (some b3))) = W9 at E7 R7 ⊢
                  have y0 : W9.cell? ⟨gR, 0, none⟩ = some (.map (some b0)) := box_cell (j := 0) R7 rfl
                  have y1 : W9.cell? ⟨gR, 1, none⟩ = some (.map (some b1)) := box_cell (j := 1) R7 rfl
                  have y2 : W9.cell? ⟨gR, 2, none⟩ = some (.map (some b2)) := box_cell (j := 2) R7 rfl
                  have y3 : W9.cell? ⟨gR, 3, none⟩ = some (.map (some b3)) := box_cell (j := 3) R7 rfl
                  refine bodyPost_ret (v := .tuple #[.agg #[.map (some b0), .map (some b1), .map (some b2), .map (some b3)], .bool false]) (by simp [results, Try.results33, go_sem, y0, y1, y2, y3]) rfl ⟨b0, b1, b2, b3, _, by rw [HF.out], E7, fun q => by rw [HF.out] at q; cases q⟩
                · by_cases hb0 : kv = 0
                  · have hb' : (kv == 0) = true := by simpa using hb0
                    clear hb hb0
                    have E9 := hid I9.out.ext
                    have o0 : W5.cell? ⟨gR, 0, none⟩ = some (.map none) := box_cell (j := 0) I9.out.out rfl
                    have p0 := box_free (j := 0) I9.out.out
                    have q0 : W5.cell? ⟨gC, 0, none⟩ = some (.map (some b0)) := Sits_at E9.out.sits hC9 rfl
                    have o1 : W5.cell? ⟨gR, 1, none⟩ = some (.map none) := box_cell (j := 1) I9.out.out rfl
                    have p1 := box_free (j := 1) I9.out.out
                    have q1 : W5.cell? ⟨gC, 1, none⟩ = some (.map (some b1)) := Sits_at E9.out.sits hC9 rfl
                    have o2 : W5.cell? ⟨gR, 2, none⟩ = some (.map none) := box_cell (j := 2) I9.out.out rfl
                    have p2 := box_free (j := 2) I9.out.out
                    have q2 : W5.cell? ⟨gC, 2, none⟩ = some (.map (some b2)) := Sits_at E9.out.sits hC9 rfl
                    have o3 : W5.cell? ⟨gR, 3, none⟩ = some (.map none) := box_cell (j := 3) I9.out.out rfl
                    have p3 := box_free (j := 3) I9.out.out
                    have q3 : W5.cell? ⟨gC, 3, none⟩ = some (.map (some b3)) := Sits_at E9.out.sits hC9 rfl
                    go_wp2_with fail
                    have E7 : Ext h w _ ((((W5.setCell ⟨gR, 0, none⟩ (.map (some b0))).setCell ⟨gR, 1, none⟩ (.map (some b1))).setCell ⟨gR, 2, none⟩ (.map (some b2))).setCell ⟨gR, 3, none⟩ (.map (some b3))) := Ext.setCells (g := gR) hwR I9.out.nR [.map (some b0), .map (some b1), .map (some b2), .map (some b3)] 0 _ E9.out
                    have R7 : (((((W5.setCell ⟨gR, 0, none⟩ (.map (some b0))).setCell ⟨gR, 1, none⟩ (.map (some b1))).setCell ⟨gR, 2, none⟩ (.map (some b2))).setCell ⟨gR, 3, none⟩ (.map (some b3)))).heap[gR]? = some (.cells #[.map (some b0), .map (some b1), .map (some b2), .map (some b3)] 71 (0, 0)) := setCells_row [.map (some b0), .map (some b1), .map (some b2), .map (some b3)] I9.out.out rfl
                    with_reducible generalize ((((W5.setCell ⟨gR, 0, none⟩ (.map (some b0))).setCell ⟨gR, 1, none⟩ (.map (some b1))).setCell ⟨gR, 2, none⟩ (.map (some b2))).setCell ⟨gR, 3, none⟩ (.map (some b3))) = W9 at E7 R7 ⊢
                    have y0 : W9.cell? ⟨gR, 0, none⟩ = some (.map (some b0)) := box_cell (j := 0) R7 rfl
                    have y1 : W9.cell? ⟨gR, 1, none⟩ = some (.map (some b1)) := box_cell (j := 1) R7 rfl
                    have y2 : W9.cell? ⟨gR, 2, none⟩ = some (.map (some b2)) := box_cell (j := 2) R7 rfl
                    have y3 : W9.cell? ⟨gR, 3, none⟩ = some (.map (some b3)) := box_cell (j := 3) R7 rfl
                    refine bodyPost_ret (v := .tuple #[.agg #[.map (some b0), .map (some b1), .map (some b2), .map (some b3)], .bool false]) (by simp [results, Try.results33, go_sem, y0, y1, y2, y3]) rfl ⟨b0, b1, b2, b3, _, by rw [HF.out], E7, fun q => by rw [HF.out] at q; cases q⟩
                  · have hb' : (kv == 0) = false := by simpa using hb0
                    have hb2 : (y.no == 1) = true := by simpa using hb
                    clear hb hb0
                    have E9 := hid I9.out.ext
                    have o0 : W5.cell? ⟨gR, 0, none⟩ = some (.map none) := box_cell (j := 0) I9.out.out rfl
                    have p0 := box_free (j := 0) I9.out.out
                    have q0 : W5.cell? ⟨gC, 0, none⟩ = some (.map (some b0)) := Sits_at E9.out.sits hC9 rfl
                    have o1 : W5.cell? ⟨gR, 1, none⟩ = some (.map none) := box_cell (j := 1) I9.out.out rfl
                    have p1 := box_free (j := 1) I9.out.out
                    have q1 : W5.cell? ⟨gC, 1, none⟩ = some (.map (some b1)) := Sits_at E9.out.sits hC9 rfl
                    have o2 : W5.cell? ⟨gR, 2, none⟩ = some (.map none) := box_cell (j := 2) I9.out.out rfl
                    have p2 := box_free (j := 2) I9.out.out
                    have q2 : W5.cell? ⟨gC, 2, none⟩ = some (.map (some b2)) := Sits_at E9.out.sits hC9 rfl
                    have o3 : W5.cell? ⟨gR, 3, none⟩ = some (.map none) := box_cell (j := 3) I9.out.out rfl
                    have p3 := box_free (j := 3) I9.out.out
                    have q3 : W5.cell? ⟨gC, 3, none⟩ = some (.map (some b3)) := Sits_at E9.out.sits hC9 rfl
                    go_wp2_with fail
                    have E7 : Ext h w _ ((((W5.setCell ⟨gR, 0, none⟩ (.map (some b0))).setCell ⟨gR, 1, none⟩ (.map (some b1))).setCell ⟨gR, 2, none⟩ (.map (some b2))).setCell ⟨gR, 3, none⟩ (.map (some b3))) := Ext.setCells (g := gR) hwR I9.out.nR [.map (some b0), .map (some b1), .map (some b2), .map (some b3)] 0 _ E9.out
                    have R7 : (((((W5.setCell ⟨gR, 0, none⟩ (.map (some b0))).setCell ⟨gR, 1, none⟩ (.map (some b1))).setCell ⟨gR, 2, none⟩ (.map (some b2))).setCell ⟨gR, 3, none⟩ (.map (some b3)))).heap[gR]? = some (.cells #[.map (some b0), .map (some b1), .map (some b2), .map (some b3)] 71 (0, 0)) := setCells_row [.map (some b0), .map (some b1), .map (some b2), .map (some b3)] I9.out.out rfl
                    with_reducible generalize ((((W5.setCell ⟨gR, 0, none⟩ (.map (some b0))).setCell ⟨gR, 1, none⟩ (.map (some b1))).setCell ⟨gR, 2, none⟩ (.map (some b2))).setCell ⟨gR, 3, none⟩ (.map (some b3))) = W9 at E7 R7 ⊢
                    have y0 : W9.cell? ⟨gR, 0, none⟩ = some (.map (some b0)) := box_cell (j := 0) R7 rfl
                    have y1 : W9.cell? ⟨gR, 1, none⟩ = some (.map (some b1)) := box_cell (j := 1) R7 rfl
                    have y2 : W9.cell? ⟨gR, 2, none⟩ = some (.map (some b2)) := box_cell (j := 2) R7 rfl
                    have y3 : W9.cell? ⟨gR, 3, none⟩ = some (.map (some b3)) := box_cell (j := 3) R7 rfl
                    refine bodyPost_ret (v := .tuple #[.agg #[.map (some b0), .map (some b1), .map (some b2), .map (some b3)], .bool false]) (by simp [results, Try.results33, go_sem, y0, y1, y2, y3]) rfl ⟨b0, b1, b2, b3, _, by rw [HF.out], E7, fun q => by rw [HF.out] at q; cases q⟩
              · have hb1' : (kv == 0) = false := by simp; omega
                have hb2' : (y.no == 1) = false := by simp; omega
                have HO6 := hid (okLeads_ok (d := x.no) HO4.out HKV.out hbad)
                clear hbad
                go_upto_region 17 with (fail)
                have hv := cntM_le (fun p => p.2 == y.no) ps
                obtain ⟨tv, htv⟩ : ∃ v, (toM ps y.no).getD 0 = v := ⟨_, rfl⟩
                have hv0 : 0 ≤ tv := by rw [← htv]; exact hv.1
                have hv1 : tv ≤ 1000000 := by rw [← htv]; have := hv.2; unfold toM; omega
                have hvw : IntKind.i64.wrap (tv + 1) = tv + 1 := by rw [IntKind.wrap_i64]; omega
                obtain ⟨st, wa, hME, Ma, Ga, hES⟩ := I5.out.drew.m1.entry kt_state_key Try.underlying69 zero_int y.no
                have L1 := I5.out.drew.m1.look kt_state_key Try.underlying69 zero_int y.no
                have La := Ma.look kt_state_key Try.underlying69 zero_int y.no
                simp only [if_true] at La
                rw [vm_getD, htv] at hME L1 La
                simp only [Option.getD_some, encI] at hME L1 La
                obtain ⟨wb, hES2, Mb, Gb⟩ := hES (.int .i64 (tv + 1))
                have HTS := hid (toM_snoc ps x.no y.no)
                rw [htv] at HTS
                have Ib := hid (I5.out.drew.set1 hw1 Gb (Mb.congr (fun a => vm_set HTS.out a)) d01 (fun e => d12 e.symm) (fun e => d13 e.symm) dR1)
                have Ea := (I5.out.drew.ext).grown Ga (fun k hk => by cases hk; exact ⟨hw1, I5.out.n1⟩)
                have q1 : W5.cell? ⟨gC, 1, none⟩ = some (.map (some b1)) := Sits_at I5.out.ext.sits hC5 rfl
                have qa : wa.cell? ⟨gC, 1, none⟩ = some (.map (some b1)) := Sits_at Ea.sits hC5 rfl
                have ka : wa.cell? ⟨gK, 0, none⟩ = some (.int .i64 y.no) := Sits_at Ea.sits hKY rfl
                have kb : wb.cell? ⟨gK, 0, none⟩ = some (.int .i64 y.no) := Sits_at Ib.out.ext.sits hKY rfl
                have qb : wb.cell? ⟨gC, 2, none⟩ = some (.map (some b2)) := Sits_at Ib.out.ext.sits hC5 rfl
                have xb : wb.cell? ⟨gb, 0, none⟩ = some (.int .i64 x.no) := Sits_at Ib.out.ext.sits hX5 rfl
                have HUS := hid (upM_snoc ps x.no y.no)
                clear hv hv0 hv1 htv hES Mb Gb Ma Ga Ea
                go_upto_region 18 with (fail)
                go_cut [62] (fun s62 wx => wx = wb)
                case first =>
                  go_region
                  all_goals
                    go_wp2
                  all_goals
                    go_meet
                    exact rfl
                case rest =>
                  subst hcut
                  have Ic0 : Hid (∀ w6, MapIs encI w6 b2 (fun a => if a = y.no then some (.int .i64 x.no) else vm (upM ps) a) → wc.grownBy w6 (some b2) → InCount h w b0 b1 b2 b3 gR h5 w6 (lastK s.inodes) (toM (ps ++ [(x.no, y.no)])) (upM (ps ++ [(x.no, y.no)])) (dirM (lastK s.inodes) ps)) := hid (fun w6 M6 G6 => Ib.out.set2 hw2 G6 (M6.congr (fun a => vm_set HUS.out a)) d02 d12 (fun e => d23 e.symm) dR2)
                  clear hME L1 La hES2 qa ka q0 k0 n1 L0 q1
                  by_cases hdir : kv = 2
                  · have hd1 : (kv == 2) = true := by simpa using hdir
                    have HDS := hid (dirM_yes (kf := lastK s.inodes) ps (d := x.no) (e := y.no) (by rw [HKV.out, hdir]))
                    clear hdir
                    go_upto_region 20 with (at_mapUpdate; refine wpList_mapSet _ rfl _ _ _ 69 3 rfl kt_state_key Try.underlying69 b2 _ rfl Ib.out.m2 y.no rfl (.int .i64 x.no) rfl ?_; intro w6 M6 G6; have I6 := hid (Ic0.out w6 M6 G6))
                    clear M6 G6 qb kb xb
                    have hv := cntM_le (fun p => p.1 == x.no && ((lastK s.inodes) p.2).getD 0 == 2) ps
                    obtain ⟨dv, hdv⟩ : ∃ v, (dirM (lastK s.inodes) ps x.no).getD 0 = v := ⟨_, rfl⟩
                    have hv0 : 0 ≤ dv := by rw [← hdv]; exact hv.1
                    have hv1 : dv ≤ 1000000 := by rw [← hdv]; have := hv.2; unfold dirM; omega
                    have hdw : IntKind.i64.wrap (dv + 1) = dv + 1 := by rw [IntKind.wrap_i64]; omega
                    obtain ⟨st2, wd, hME, Ma, Ga, hES⟩ := I6.out.drew.m3.entry kt_state_key Try.underlying69 zero_int x.no
                    have L1 := I6.out.drew.m3.look kt_state_key Try.underlying69 zero_int x.no
                    have La := Ma.look kt_state_key Try.underlying69 zero_int x.no
                    simp only [if_true] at La
                    rw [vm_getD, hdv] at hME L1 La
                    simp only [Option.getD_some, encI] at hME L1 La
                    obtain ⟨we, hES2, Mb, Gb⟩ := hES (.int .i64 (dv + 1))
                    rw [hdv] at HDS
                    have Ie := hid (I6.out.drew.set3 hw3 Gb (Mb.congr (fun a => vm_set HDS.out a)) d03 d13 d23 dR3)
                    have Ea := (I6.out.drew.ext).grown Ga (fun k hk => by cases hk; exact ⟨hw3, I6.out.n3⟩)
                    have q3 : w6.cell? ⟨gC, 3, none⟩ = some (.map (some b3)) := Sits_at I6.out.ext.sits hC5 rfl
                    have x3 : w6.cell? ⟨gb, 0, none⟩ = some (.int .i64 x.no) := Sits_at I6.out.ext.sits hX5 rfl
                    have qd : wd.cell? ⟨gC, 3, none⟩ = some (.map (some b3)) := Sits_at Ea.sits hC5 rfl
                    have xd : wd.cell? ⟨gb, 0, none⟩ = some (.int .i64 x.no) := Sits_at Ea.sits hX5 rfl
                    clear hv hv0 hv1 hdv hES Mb Gb Ma Ga Ea
                    have IF := hid (Ie.out.back (h1 := h3) I4.out.ext.le LE5.out I4.out.n0 I4.out.n1 I4.out.n2 I4.out.n3 I4.out.nR)
                    go_region
                    all_goals
                      go_wp2
                    all_goals
                      go_roundw
                      case rel => exact ⟨j + 1, ps ++ [(x.no, y.no)], by omega, by go_num, HP2, HO6, IF⟩
                      case measure => simp [intOf]; omega
                  · have hd1 : (kv == 2) = false := by simpa using hdir
                    have HDS := hid (dirM_no (kf := lastK s.inodes) ps (d := x.no) (e := y.no) (by rw [HKV.out]; exact hdir))
                    clear hdir
                    go_wp2_with (at_mapUpdate; refine wpList_mapSet _ rfl _ _ _ 69 3 rfl kt_state_key Try.underlying69 b2 _ rfl Ib.out.m2 y.no rfl (.int .i64 x.no) rfl ?_; intro w6 M6 G6; have I6 := hid (Ic0.out w6 M6 G6))
                    have IF := hid (I6.out.back (h1 := h3) I4.out.ext.le LE5.out I4.out.n0 I4.out.n1 I4.out.n2 I4.out.n3 I4.out.nR)
                    have IF := hid (show InCount h w b0 b1 b2 b3 gR h3 w6 (lastK s.inodes) (toM (ps ++ [(x.no, y.no)])) (upM (ps ++ [(x.no, y.no)])) (dirM (lastK s.inodes) (ps ++ [(x.no, y.no)])) by rw [show dirM (lastK s.inodes) (ps ++ [(x.no, y.no)]) = dirM (lastK s.inodes) ps from funext HDS.out]; exact IF.out)
                    clear M6 G6 qb kb xb
                    go_roundw
                    case rel => exact ⟨j + 1, ps ++ [(x.no, y.no)], by omega, by go_num, HP2, HO6, IF⟩
                    case measure => simp [intOf]; omega
            · have hjj : x.entries.take j = x.entries := List.take_of_length_le (by omega)
              have hpp : ps = pairsL (s.inodes.take (k + 1)) := by rw [HPS.out, hjj, HS.out]
              have HO5 := hid (show okLeads (lastK s.inodes) (pairsL (s.inodes.take (k + 1))) = true by rw [← hpp]; exact HO4.out)
              have IF := hid (I4.out.back (h1 := h2) I.out.ext.le LE3.out I.out.n0 I.out.n1 I.out.n2 I.out.n3 I.out.nR)
              rw [hpp] at IF
              clear hjj hpp
              go_wp2_with fail
              go_roundw
              case rel => exact ⟨k + 1, by omega, by go_num, HO5, IF⟩
              case measure => simp [intOf]; omega
        · have hkk : s.inodes.take k = s.inodes := List.take_of_length_le (by omega)
          rw [hkk] at I HO
          have HTT := hid (show t = true by rw [← HT.out, HO.out])
          obtain ⟨g0, EF0, lf0, F0, x0⟩ := I.out.m0.freeze I.out.ext I.out.n0 hw0
          obtain ⟨g1, EF1, lf1, F1, x1⟩ := I.out.m1.freeze EF0 (by rw [x0 _ (fun e => d01 e.symm)]; exact I.out.n1) hw1
          obtain ⟨g2, EF2, lf2, F2, x2⟩ := I.out.m2.freeze EF1 (by rw [x1 _ (fun e => d12 e.symm), x0 _ (fun e => d02 e.symm)]; exact I.out.n2) hw2
          obtain ⟨g3, EF3, lf3, F3, x3⟩ := I.out.m3.freeze EF2 (by rw [x2 _ (fun e => d23 e.symm), x1 _ (fun e => d13 e.symm), x0 _ (fun e => d03 e.symm)]; exact I.out.n3) hw3
          have n3 : g3 gR = none := by rw [x3 _ dR3, x2 _ dR2, x1 _ dR1, x0 _ dR0]; exact I.out.nR
          have FS := hid (show FMap encI g3 b0 (vm (lastK s.inodes)) ∧ FMap encI g3 b1 (vm (toM (pairsL s.inodes))) ∧ FMap encI g3 b2 (vm (upM (pairsL s.inodes))) ∧ FMap encI g3 b3 (vm (dirM (lastK s.inodes) (pairsL s.inodes))) from ⟨F0.mono (lf1.trans (lf2.trans lf3)), F1.mono (lf2.trans lf3), F2.mono lf3, F3⟩)
          have E9 := hid EF3
          have N3 := hid n3
          have hC9 := hC
          have I9 := I
          clear hkk x0 x1 x2 x3 n3 EF0 EF1 EF2 EF3 F0 F1 F2 F3 lf0 lf1 lf2 lf3
          have o0 : wr.cell? ⟨gR, 0, none⟩ = some (.map none) := box_cell (j := 0) I9.out.out rfl
          have p0 := box_free (j := 0) I9.out.out
          have q0 : wr.cell? ⟨gC, 0, none⟩ = some (.map (some b0)) := Sits_at I9.out.ext.sits hC9 rfl
          have o1 : wr.cell? ⟨gR, 1, none⟩ = some (.map none) := box_cell (j := 1) I9.out.out rfl
          have p1 := box_free (j := 1) I9.out.out
          have q1 : wr.cell? ⟨gC, 1, none⟩ = some (.map (some b1)) := Sits_at I9.out.ext.sits hC9 rfl
          have o2 : wr.cell? ⟨gR, 2, none⟩ = some (.map none) := box_cell (j := 2) I9.out.out rfl
          have p2 := box_free (j := 2) I9.out.out
          have q2 : wr.cell? ⟨gC, 2, none⟩ = some (.map (some b2)) := Sits_at I9.out.ext.sits hC9 rfl
          have o3 : wr.cell? ⟨gR, 3, none⟩ = some (.map none) := box_cell (j := 3) I9.out.out rfl
          have p3 := box_free (j := 3) I9.out.out
          have q3 : wr.cell? ⟨gC, 3, none⟩ = some (.map (some b3)) := Sits_at I9.out.ext.sits hC9 rfl
          go_wp2_with fail
          have E7 : Ext h w g3 ((((wr.setCell ⟨gR, 0, none⟩ (.map (some b0))).setCell ⟨gR, 1, none⟩ (.map (some b1))).setCell ⟨gR, 2, none⟩ (.map (some b2))).setCell ⟨gR, 3, none⟩ (.map (some b3))) := Ext.setCells (g := gR) hwR N3.out [.map (some b0), .map (some b1), .map (some b2), .map (some b3)] 0 _ E9.out
          have R7 : (((((wr.setCell ⟨gR, 0, none⟩ (.map (some b0))).setCell ⟨gR, 1, none⟩ (.map (some b1))).setCell ⟨gR, 2, none⟩ (.map (some b2))).setCell ⟨gR, 3, none⟩ (.map (some b3)))).heap[gR]? = some (.cells #[.map (some b0), .map (some b1), .map (some b2), .map (some b3)] 71 (0, 0)) := setCells_row [.map (some b0), .map (some b1), .map (some b2), .map (some b3)] I9.out.out rfl
          with_reducible generalize ((((wr.setCell ⟨gR, 0, none⟩ (.map (some b0))).setCell ⟨gR, 1, none⟩ (.map (some b1))).setCell ⟨gR, 2, none⟩ (.map (some b2))).setCell ⟨gR, 3, none⟩ (.map (some b3))) = W9 at E7 R7 ⊢
          have y0 : W9.cell? ⟨gR, 0, none⟩ = some (.map (some b0)) := box_cell (j := 0) R7 rfl
          have y1 : W9.cell? ⟨gR, 1, none⟩ = some (.map (some b1)) := box_cell (j := 1) R7 rfl
          have y2 : W9.cell? ⟨gR, 2, none⟩ = some (.map (some b2)) := box_cell (j := 2) R7 rfl
          have y3 : W9.cell? ⟨gR, 3, none⟩ = some (.map (some b3)) := box_cell (j := 3) R7 rfl
          refine bodyPost_ret (v := .tuple #[.agg #[.map (some b0), .map (some b1), .map (some b2), .map (some b3)], .bool true]) (by simp [results, Try.results33, go_sem, y0, y1, y2, y3]) rfl ⟨b0, b1, b2, b3, g3, by rw [HTT.out], E7, fun _ => FS.out⟩
end Go.Proofs.Ytkglaofiencfdaa
