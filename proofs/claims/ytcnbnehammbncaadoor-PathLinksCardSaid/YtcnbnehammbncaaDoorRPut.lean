import Derived.Test.YtcnbnehammbncaaDoorRBad
import Derived.ArgAppend
namespace Go.Proofs.YtcnbnehammbncaaDoor
open Go.RowKit Go.Sort
set_option linter.unusedVariables false
section
variable {α : Type} [Enc α] {P : Program}
/-- append to a slice without room. -/
theorem run_appendFull {h : FH} {w : World} {t ty e : TypeId} {bytes : Nat} (T : TyOk P t e (Enc.sz α) bytes) {A : Option Addr} {xs : List α} (r : RowAt h A xs) (hs : Sits h w) {g : Nat} {cs : List Value} {y : α} (hy : Enc.rep h cs y) (hc : ∀ j u, cs[j]? = some u → w.cell? ⟨g, j, none⟩ = some u)
    (hbytes : (xs.length + 1) * bytes ≤ 140737488355328) (hpos : 0 < bytes) :
    ∃ v' w', (Builtin.append_ #[t, t] ty #[.slice A xs.length xs.length, .slice (some ⟨g, 0, none⟩) 1 1]).run P w = .ok v' w' ∧ OwnL h w' w.heap.size e v' (xs ++ [y]) ∧ w.grownBy w' none := by
  obtain ⟨i, z, hi, hz0, hz1, hz2, hz3⟩ := T.info
  have hlen : xs.length + 1 ≤ 140737488355328 := Nat.le_trans (Nat.le_mul_of_pos_right _ hpos) hbytes
  cases A with
  | none =>
    have hx : xs = [] := by
      cases xs with
      | nil => rfl
      | cons a l => obtain ⟨b, off, e, _⟩ := r.2 (by simp); cases e
    subst hx
    obtain ⟨v', w', h1, h2, h3⟩ := run_append1At (ty := ty) T (OwnL.nil h w w.heap.size e) hs hy hc (by simpa using hbytes) hpos (Nat.le_refl _)
    exact ⟨v', w', h1, h2, h3⟩
  | some ad =>
    obtain ⟨olds, RO, ho⟩ : ∃ olds, Reps h olds xs ∧ ∀ j u, olds[j]? = some u → w.cell? (ad.add j) = some u := by
      by_cases hx : 0 < xs.length
      · obtain ⟨b, off, e, f⟩ := r.2 hx
        cases e
        obtain ⟨olds, RN, hn⟩ := RowAt.reps (h := h) (b := b) (off := off) (xs := xs) 0 (fun i x hx => by simpa using f i x hx)
        exact ⟨olds, RN, fun j u hu => by rw [show (⟨b, off, none⟩ : Addr).add j = ⟨b, off + j, none⟩ from by unfold Addr.add; split <;> simp_all]; exact hs.cell (by simpa using hn j u hu)⟩
      · have : xs = [] := List.eq_nil_of_length_eq_zero (by omega)
        subst this
        exact ⟨[], rfl, fun j u hu => by simp at hu⟩
    have RN := Reps.single hy
    obtain ⟨v', w', h1, h2, h3⟩ := run_append_arg_grows (P := P) w t ty e i z (Enc.sz α) bytes T.und hi hz0 hz1 hz2 hz3 Enc.pos ad xs.length xs.length olds RO.length ho ⟨g, 0, none⟩ 1 1 cs (by rw [Enc.len hy]; omega) (fun j u hu => by
        rw [show (⟨g, 0, none⟩ : Addr).add j = ⟨g, j, none⟩ from by unfold Addr.add; split <;> simp_all]
        exact hc j u hu) (by omega) (by unfold maxLen; omega) hbytes
    refine ⟨v', w', h1, ⟨⟨_, by rw [List.length_append]; exact h2, RO.append RN⟩, fun g hg => ?_⟩, h3⟩
    have hb := h2.lt g hg
    exact hs.none hb.1
theorem step_appendFull {h : FH} {w : World} {o : Oper} {a : Act} {K : Act → World → Prop} {Q : Exit → Act → World → Prop} (s x : Operand) (t : TypeId)
    (ho : o.op = .call { callee := .builtin .append, args := #[s, x], argTypes := #[t, t] }) (e : TypeId) (bytes : Nat) (T : TyOk P t e (Enc.sz α) bytes) (A : Option Addr) (xs : List α) (r : RowAt h A xs) (n c : Nat) (hv : a.eval s = .slice A n c) (hn : n = xs.length) (hcx : c = xs.length) (hs : Sits h w)
    (g : Nat) (hx : a.eval x = .slice (some ⟨g, 0, none⟩) 1 1) (cs : List Value) (y : α) (hy : Enc.rep h cs y) (hc : ∀ j u, cs[j]? = some u → w.cell? ⟨g, j, none⟩ = some u) (hbytes : (xs.length + 1) * bytes ≤ 140737488355328) (hpos : 0 < bytes)
    (k : ∀ v' w', OwnL h w' w.heap.size e v' (xs ++ [y]) → w.grownBy w' none → K (a.put o.dst v') w') : o.wp P a w K Q := by
  subst hn
  subst hcx
  obtain ⟨v', w', hr, h2, h3⟩ := run_appendFull (ty := o.type) T r hs hy hc hbytes hpos
  unfold Oper.wp execOp
  simp only [ho, resolve, invoke, builtin, Sem.run_bind, Sem.run_pure, Result.andThen_ok, List.map_toArray, List.map_cons, List.map_nil, hv, hx, hr]
  exact k v' w' h2 h3
end
set_option maxRecDepth 100000 in
theorem RowAt.ixInode {h : FH} {A : Option Addr} {xs : List Inode} (r : RowAt h A xs) {k : Nat} {x : Inode} (hx : xs[k]? = some x) {w : World} (hs : Sits h w) (c : Nat) :
    ∃ b off A5 c5 A6 c6, (∀ w', (Instr.indexAt 25 (.slice A xs.length c) (.int .i64 (k : Int))).run Tryd.prog w' = .ok (.pointer (some ⟨b, off + k * 7, none⟩)) w') ∧ A = some ⟨b, off, none⟩ ∧ (w.cell? ⟨b, off + k * 7, none⟩ = some (.int .i64 x.no) ∧ w.cell? ⟨b, off + k * 7 + 1, none⟩ = some (.int .i64 x.kind) ∧ w.cell? ⟨b, off + k * 7 + 2, none⟩ = some (.int .i64 x.links) ∧ w.cell? ⟨b, off + k * 7 + 3, none⟩ = some (.int .i64 x.size) ∧ w.cell? ⟨b, off + k * 7 + 4, none⟩ = some (.string x.target) ∧ w.cell? ⟨b, off + k * 7 + 5, none⟩ = some (.slice A5 x.entries.length c5) ∧ w.cell? ⟨b, off + k * 7 + 6, none⟩ = some (.slice A6 x.runs.length c6)) ∧ repInode h [.int .i64 x.no, .int .i64 x.kind, .int .i64 x.links, .int .i64 x.size, .string x.target, .slice A5 x.entries.length c5, .slice A6 x.runs.length c6] x := by
  obtain ⟨b, off, A5, c5, A6, c6, rfl, d0, d1, d2, d3, d4, d5, d6, s0, s1, s2, s3, s4⟩ := r.inode hx hs
  have hlt := (List.getElem?_eq_some_iff.1 hx).1
  refine ⟨b, off, A5, c5, A6, c6, fun w' => ?_, rfl, ⟨d0, d1, d2, d3, d4, d5, d6⟩, ⟨A5, c5, A6, c6, rfl, s0, s1, s2, s3, s4⟩⟩
  rw [run_indexAt_slice (h := Tryd.underlying25), if_pos (by omega)]
  rw [show (sizeOf (Tryd.prog.elem 25)).run Tryd.prog w' = .ok 7 w' from by kernel_rfl]
  simp [Result.andThen, Addr.add]
theorem posI_at {no : Int} {xs : List Inode} {k : Nat} (hk : k ≤ xs.length) (hn : ∀ i y, i < k → xs[i]? = some y → gtI no y = false) (hy : ∀ y, xs[k]? = some y → gtI no y = true) : posI xs no = k := by
  unfold posI
  by_cases hlt : k < xs.length
  · rw [findIdx_hit hn (List.getElem?_eq_getElem hlt) (hy _ (List.getElem?_eq_getElem hlt))]; rfl
  · rw [findIdx_none_all (fun i y hi => hn i y (by omega))]; simp; omega

set_option maxHeartbeats 8000000 in
set_option maxRecDepth 100000 in
theorem ref_putInode (xs : List Inode) (A : Option Addr) (c : Nat) (hc : CapLe A xs.length c) (hbig : xs.length ≤ 1000) (x : Inode) (cs : List Value) (h : FH) (w : World) (hs : Sits h w) (r : RowAt h A xs) (rx : repInode h cs x) :
    Calls Tryd.prog 42 #[.slice A xs.length c, .agg cs.toArray] w fun e w' => RetRow h w (putI xs x) e w' := by
  have hl := r.1
  obtain ⟨A5, c5, A6, c6, rfl, s0, s1, s2, s3, s4⟩ := rx
  have RX := hid (show repInode h [.int .i64 x.no, .int .i64 x.kind, .int .i64 x.links, .int .i64 x.size, .string x.target, .slice A5 x.entries.length c5, .slice A6 x.runs.length c6] x from ⟨A5, c5, A6, c6, rfl, s0, s1, s2, s3, s4⟩)
  obtain ⟨h1, E1, hbX, le1, hh1⟩ := (Ext.refl hs).boxF #[.int .i64 x.no, .int .i64 x.kind, .int .i64 x.links, .int .i64 x.size, .string x.target, .slice A5 x.entries.length c5, .slice A6 x.runs.length c6] 50
  have RX1 := hid (RX.out.mono le1)
  have r1 := r.mono le1
  have HC := hid hc
  have hcap : (c : Int) ≤ 9223372036854775807 := by have := hc.mx; omega
  have hlc : (xs.length : Int) ≤ (c : Int) := by have := hc.le; omega
  have HB0 := hid (show (([] : List Inode).length + xs.length) * 96 ≤ 140737488355328 by simp; omega)
  clear hh1 hc
  go_enter Tryd.func42, Tryd.ntmps42
  go_upto_region 1 with (fail)
  generalize hgX : w.heap.size = gX at *
  have HgX := hid (Nat.le_of_eq hgX)
  with_reducible generalize w.alloc (.cells #[.int .i64 x.no, .int .i64 x.kind, .int .i64 x.links, .int .i64 x.size, .string x.target, .slice A5 x.entries.length c5, .slice A6 x.runs.length c6] 50) = w1 at E1 ⊢
  have hsz1 := hid E1.size
  clear hgX
  go_wp2_with (at_builtin; refine wpList_appendR rfl _ _ 25 rfl w.heap.size 50 96 ty_Inode (.slice none 0 0) [] xs rfl (OwnL.nil _ _ _ _) E1.sits _ _ _ rfl rfl r1 HB0.out (by decide) hsz1.out ?_; intro v1 w2 O1 hg1 _; have E2 := hid (E1.grown hg1 (fun k hk => by cases hk)); have O1 := hid (show OwnL h1 w2 w.heap.size 50 v1 xs by simpa using O1); obtain ⟨A1, d1, hv1, hcl⟩ := O1.out.slice; subst hv1; clear hg1)
  go_loopw [6] (fun i wr => ∃ k : Nat, k ≤ xs.length ∧ i = .int .i64 k ∧ Hid (∀ i y, i < k → xs[i]? = some y → isI x.no y = false) ∧ Hid (Ext h w h1 wr) ∧ Hid (OwnL h1 wr w.heap.size 50 (.slice A1 xs.length d1) xs)) (fun i _ => xs.length - (intOf i).toNat)
  case atStart => exact ⟨0, Nat.zero_le _, rfl, hid (fun i y hi => by omega), E2, O1⟩
  case round =>
    obtain ⟨k, hk, rfl, HN, E, O⟩ := hrel
    have hszr := hid E.out.size
    have i1 : (0 : Int) ≤ (k : Int) := by omega
    by_cases hlt : k < xs.length
    · obtain ⟨z, hz⟩ : ∃ z, xs[k]? = some z := ⟨xs[k], List.getElem?_eq_getElem hlt⟩
      have HZ := hid hz
      obtain ⟨g0, rfl⟩ : ∃ g0, A1 = some ⟨g0, 0, none⟩ := by
        obtain ⟨g2, cap2, cs2, hv2, _⟩ := O.out.get hz
        exact ⟨g2, by simp only [Value.slice.injEq] at hv2; exact hv2.1⟩
      obtain ⟨B5, e5, B6, e6, ⟨z0, z1, z2, z3, z4, z5, z6⟩, _, hfr2⟩ := own_get O.out hz
      have m0 : wr.cell? ⟨gX, 0, none⟩ = some (.int .i64 x.no) := Sits_at E.out.sits hbX rfl
      have y0 := fun d os => cell_regrown z0 d os
      have y1 := fun d os => cell_regrown m0 d os
      obtain ⟨q, hq⟩ : ∃ q, isI x.no z = q := ⟨_, rfl⟩
      have HQ := hid hq
      have hq2 : (z.no == x.no) = q := hq
      have i2 : (k : Int) < (xs.length : Int) := by omega
      clear hz hq z0 z1 z2 z3 z4 z5 z6 m0
      go_upto_region 5 with (fail)
      refine wp_region_quiet_below (by kernel_rfl) (by kernel_rfl) ?_
      repeat (go_big_quiet_step (fail))
      refine wpQuiet_nil ?_
      intro _ hw'
      obtain ⟨⟨dq, osq⟩, hw''⟩ := hw'
      subst hw''

      have Eq := hid (E.out.trans (Ext.quiet E.out.sits dq osq))
      have Oq := hid (O.out.ext (Ext.quiet E.out.sits dq osq))
      with_reducible generalize grow (redrawn wr dq) osq = wq at Eq Oq ⊢
      clear y0 y1
      cases q
      · have HN2 := hid (no_step HN.out HZ.out HQ.out)
        go_wp2_with fail
        go_roundw
        case rel => exact ⟨k + 1, by omega, by go_num, HN2, Eq, Oq⟩
        case measure => simp [intOf]; omega
      · have HP := hid (show putI xs x = xs.set k x by unfold putI; rw [findIdx_hit HN.out HZ.out HQ.out])
        obtain ⟨B5, e5, B6, e6, ⟨z0, z1, z2, z3, z4, z5, z6⟩, _, hfr2⟩ := own_get Oq.out HZ.out
        have r0 := hfr2 (k * 7)
        have r1 := hfr2 (k * 7 + 1)
        have r2 := hfr2 (k * 7 + 2)
        have r3 := hfr2 (k * 7 + 3)
        have r4 := hfr2 (k * 7 + 4)
        have r5 := hfr2 (k * 7 + 5)
        have r6 := hfr2 (k * 7 + 6)
        have m0 : wq.cell? ⟨gX, 0, none⟩ = some (.int .i64 x.no) := Sits_at Eq.out.sits hbX rfl
        have m1 : wq.cell? ⟨gX, 1, none⟩ = some (.int .i64 x.kind) := Sits_at Eq.out.sits hbX rfl
        have m2 : wq.cell? ⟨gX, 2, none⟩ = some (.int .i64 x.links) := Sits_at Eq.out.sits hbX rfl
        have m3 : wq.cell? ⟨gX, 3, none⟩ = some (.int .i64 x.size) := Sits_at Eq.out.sits hbX rfl
        have m4 : wq.cell? ⟨gX, 4, none⟩ = some (.string x.target) := Sits_at Eq.out.sits hbX rfl
        have m5 : wq.cell? ⟨gX, 5, none⟩ = some (.slice A5 x.entries.length c5) := Sits_at Eq.out.sits hbX rfl
        have m6 : wq.cell? ⟨gX, 6, none⟩ = some (.slice A6 x.runs.length c6) := Sits_at Eq.out.sits hbX rfl
        clear hfr2
        go_wp2_with fail
        have OF := Oq.out.setElem (i := k) (y := x) hlt RX1.out
        have GF := grown_setCells g0 [.int .i64 x.no, .int .i64 x.kind, .int .i64 x.links, .int .i64 x.size, .string x.target, .slice A5 x.entries.length c5, .slice A6 x.runs.length c6] (k * 7) wq (grownBy_of_ext (Ext.refl (Sits.all wq)) (some g0))
        have EF := Eq.out.grown GF (fun j hj => by cases hj; exact ⟨(Oq.out.lt g0 rfl).1, Oq.out.free g0 rfl⟩)
        go_ret
        rw [HP.out]
        exact RetRow.own OF EF (Nat.le_refl _) (by rw [List.length_set]; exact hl)
    · have HFN := hid (show xs.findIdx? (isI x.no) = none from findIdx_none_all (fun i y hi => HN.out i y (by omega)))
      go_wp2_with fail
      go_loopw [7] (fun i wr => ∃ k : Nat, k ≤ xs.length ∧ i = .int .i64 k ∧ Hid (∀ i y, i < k → xs[i]? = some y → gtI x.no y = false) ∧ Hid (Ext h w h1 wr) ∧ Hid (OwnL h1 wr w.heap.size 50 (.slice A1 xs.length d1) xs)) (fun i _ => xs.length - (intOf i).toNat)
      case atStart => exact ⟨0, Nat.zero_le _, rfl, hid (fun i y hi => by omega), E, O⟩
      case round =>
        obtain ⟨k, hk, rfl, HN, E, O⟩ := hrel
        have i1 : (0 : Int) ≤ (k : Int) := by omega
        obtain ⟨t, ht⟩ : ∃ t, (k < xs.length && (xs[k]?.map fun y => !gtI x.no y).getD false) = t := ⟨_, rfl⟩
        have HT := hid ht
        clear ht
        go_upto_region 9 with (fail)
        go_cut [42] (fun s wx => s = .bool t ∧ Hid (Ext h w h1 wx) ∧ Hid (OwnL h1 wx w.heap.size 50 (.slice A1 xs.length d1) xs))
        case first =>
          by_cases hlt2 : k < xs.length
          · obtain ⟨z, hz⟩ : ∃ z, xs[k]? = some z := ⟨xs[k], List.getElem?_eq_getElem hlt2⟩
            obtain ⟨b, off, B5, e5, B6, e6, hx, hA, ⟨z0, z1, z2, z3, z4, z5, z6⟩, _⟩ := r1.ixInode hz E.out.sits c
            have HT2 := hid (show decide (z.no ≤ x.no) = t by rw [← HT.out, hz]; by_cases hh : x.no < z.no <;> simp [hlt2, gtI, hh] <;> omega)
            have m0 : wr.cell? ⟨gX, 0, none⟩ = some (.int .i64 x.no) := Sits_at E.out.sits hbX rfl
            have y0 := fun d os => cell_regrown z0 d os
            have y1 := fun d os => cell_regrown m0 d os
            have i2 : (k : Int) < (xs.length : Int) := by omega
            have i3 : decide ((k : Int) < (xs.length : Int)) = true := decide_eq_true i2
            clear hz z0 z1 z2 z3 z4 z5 z6 m0 hA
            refine wp_region_quiet_below (by kernel_rfl) (by kernel_rfl) ?_
            repeat (go_big_quiet_step (fail))
            refine wpQuiet_nil ?_
            intro _ hw'
            obtain ⟨⟨dq, osq⟩, hw''⟩ := hw'
            subst hw''

            go_wp2
            go_meet
            exact ⟨by rw [← HT2.out], hid (E.out.trans (Ext.quiet E.out.sits dq osq)), hid (O.out.ext (Ext.quiet E.out.sits dq osq))⟩
          · have HT2 := hid (show false = t by rw [← HT.out]; simp [hlt2])
            have i3 : decide ((k : Int) < (xs.length : Int)) = false := decide_eq_false (by omega)
            refine wp_region_quiet_below (by kernel_rfl) (by kernel_rfl) ?_
            repeat (go_big_quiet_step (fail))
            refine wpQuiet_nil ?_
            intro _ hw'
            obtain ⟨⟨dq, osq⟩, hw''⟩ := hw'
            subst hw''

            go_wp2
            go_meet
            exact ⟨by rw [← HT2.out], hid (E.out.trans (Ext.quiet E.out.sits dq osq)), hid (O.out.ext (Ext.quiet E.out.sits dq osq))⟩
        case rest =>
          obtain ⟨rfl, E4, O4⟩ := hcut
          clear E O
          cases t
          · have HP := hid (show posI xs x.no = k from posI_at hk HN.out (fun y hy => by
              have q := HT.out
              have hlt2 := (List.getElem?_eq_some_iff.1 hy).1
              rw [hy] at q
              simpa [hlt2] using q))
            have HI := hid (show putI xs x = xs.take k ++ [x] ++ xs.drop k by unfold putI; rw [HFN.out, HP.out])
            obtain ⟨h2, A4, d4, hv4, rA, le2, E5, hc4, k1, k2, f4⟩ := O4.out.stayX E4.out (Nat.le_refl _) hl
            obtain ⟨rfl, rfl⟩ : A1 = A4 ∧ d1 = d4 := by simpa using hv4
            have HLT := hid (show k = (xs.take k).length by simp; omega)
            have HLD := hid (show xs.length - k = (xs.drop k).length by simp)
            have HB2 := hid (show ((xs.take k).length + 1) * 96 ≤ 140737488355328 by simp; omega)
            have HB3 := hid (show ((xs.take k ++ [x]).length + (xs.drop k).length) * 96 ≤ 140737488355328 by simp; omega)
            have HRT := hid (rA.takeN k)
            have HRD := hid (show RowAt h2 (if c = k then A else A.map (fun x => x.add (k * 7))) (xs.drop k) from (r1.mono le2).dropS k c hk HC.out.le)
            have HSZ := hid (fun (w' : World) (E : Ext h w h2 w') => show w.heap.size ≤ w'.heap.size from E.size)
            have RX2 := hid (RX1.out.mono le2)
            have hb2 := le2 _ _ hbX
            have cx0 : ∀ w' : World, Ext h w h2 w' → w'.cell? ⟨gX, 0, none⟩ = some (.int .i64 x.no) := fun w' E => Sits_at E.sits hb2 rfl
            have cx1 : ∀ w' : World, Ext h w h2 w' → w'.cell? ⟨gX, 1, none⟩ = some (.int .i64 x.kind) := fun w' E => Sits_at E.sits hb2 rfl
            have cx2 : ∀ w' : World, Ext h w h2 w' → w'.cell? ⟨gX, 2, none⟩ = some (.int .i64 x.links) := fun w' E => Sits_at E.sits hb2 rfl
            have cx3 : ∀ w' : World, Ext h w h2 w' → w'.cell? ⟨gX, 3, none⟩ = some (.int .i64 x.size) := fun w' E => Sits_at E.sits hb2 rfl
            have cx4 : ∀ w' : World, Ext h w h2 w' → w'.cell? ⟨gX, 4, none⟩ = some (.string x.target) := fun w' E => Sits_at E.sits hb2 rfl
            have cx5 : ∀ w' : World, Ext h w h2 w' → w'.cell? ⟨gX, 5, none⟩ = some (.slice A5 x.entries.length c5) := fun w' E => Sits_at E.sits hb2 rfl
            have cx6 : ∀ w' : World, Ext h w h2 w' → w'.cell? ⟨gX, 6, none⟩ = some (.slice A6 x.runs.length c6) := fun w' E => Sits_at E.sits hb2 rfl
            have i2 : (k : Int) ≤ (c : Int) := by omega
            have i4 : (k : Int) ≤ (xs.length : Int) := by omega
            have i5 : (k : Int) ≤ (d1 : Int) := by omega
            have FIN := hid (fun (u : Value) (w6 : World) (ys : List Inode) (O : OwnL h2 w6 w.heap.size 50 u ys) (E : Ext h w h2 w6) (hy : ys = putI xs x) => (by rw [← hy]; exact RetRow.own O E (Nat.le_refl _) (by rw [hy]; have := putI_len xs x; omega) : RetRow h w (putI xs x) (.returned u) w6))
            have E6 := E5.drew
            clear HT HN hv4 hc4 k1 k2 f4
            go_wp2_with fail
            go_region_held3 (fun w' => Ext h w h2 w') (first | with_reducible assumption | with_reducible exact E8 | with_reducible exact E7 | with_reducible exact Ext.alloc E6 _ | with_reducible exact (Ext.alloc E5 _).drew) (first | (rw [if_pos (by rfl)]; refine step_appendFull _ _ 25 rfl 50 96 ty_Inode A1 (xs.take k) HRT.out _ _ rfl HLT.out HLT.out (Ext.sits (h := h) (h' := h2) (w := w) (by first | with_reducible assumption | assumption)) _ rfl [.int .i64 x.no, .int .i64 x.kind, .int .i64 x.links, .int .i64 x.size, .string x.target, .slice A5 x.entries.length c5, .slice A6 x.runs.length c6] x RX2.out (by first | exact newcellsX _ [.int .i64 x.no, .int .i64 x.kind, .int .i64 x.links, .int .i64 x.size, .string x.target, .slice A5 x.entries.length c5, .slice A6 x.runs.length c6] _ | exact fun j u hu => newcellsX _ [.int .i64 x.no, .int .i64 x.kind, .int .i64 x.links, .int .i64 x.size, .string x.target, .slice A5 x.entries.length c5, .slice A6 x.runs.length c6] _ j u hu) HB2.out (by decide) ?_; intro v2 w5 O2 hg2; have O2 := OwnL.rebase (base' := w.heap.size) O2 (HSZ.out _ (by first | with_reducible assumption | assumption)); have E7 := Ext.grown (h := h) (h1 := h2) (w := w) (by first | with_reducible assumption | assumption) hg2 (fun k hk => by cases hk)) | (rw [if_pos (by rfl)]; refine step_appendR _ _ 25 rfl w.heap.size 50 96 ty_Inode v2 (xs.take k ++ [x]) (xs.drop k) rfl O2 (Ext.sits (h := h) (h' := h2) (w := w) (by first | with_reducible assumption | assumption)) _ _ _ rfl HLD.out HRD.out HB3.out (by decide) (HSZ.out _ (by first | with_reducible assumption | assumption)) ?_; intro v3 w6 O3 hg3; have E8 := Ext.grown (h := h) (h1 := h2) (w := w) (by first | with_reducible assumption | assumption) hg3 (fun k hk => ⟨(O2.lt k hk).1, O2.free k hk⟩)))
            all_goals
              go_wp2_with fail
              all_goals
                go_ret
                exact FIN.out _ _ _ O3 E8 HI.out.symm
          · have hlt2 : k < xs.length := by
              have q := HT.out; simp only [Bool.and_eq_true, decide_eq_true_eq] at q; exact q.1
            have HN2 := hid (show ∀ i y, i < k + 1 → xs[i]? = some y → gtI x.no y = false from by
              have q := HT.out
              rw [List.getElem?_eq_getElem hlt2] at q
              exact no_step HN.out (List.getElem?_eq_getElem hlt2) (by simpa [hlt2] using q))
            go_wp2_with fail
            go_roundw
            case rel => exact ⟨k + 1, by omega, by go_num, HN2, E4, O4⟩
            case measure => simp [intOf]; omega
end Go.Proofs.YtcnbnehammbncaaDoor
