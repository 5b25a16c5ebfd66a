import Derived.Test.YtkglaofiencfdaaStCn
namespace Go.Proofs.Ytkglaofiencfdaa
open Go.RowKit Go.Sort
set_option linter.unusedVariables false
/-! ### what is led to -/
theorem FMap.lookF {h : FH} {b : Nat} {f : Int → Option Int} (F : FMap encI h b (vm f)) {w : World} (hs : Sits h w) (a : Int) :
    (Instr.lookup 69 (.map (some b)) (.agg #[.int .i64 a]) false).run Try.prog w = .ok (.int .i64 ((f a).getD 0)) w := by
  have := (F w hs).look kt_state_key Try.underlying69 zero_int a
  rw [vm_getD] at this
  exact this
set_option maxHeartbeats 4000000 in
set_option maxRecDepth 100000 in
theorem sums_leads (b0 b1 b2 b3 : Nat) (up : Int → Option Int) (no : Int) (steps : Nat) (hst : steps ≤ 1000000) (t : Bool) (ht : leadsF up no steps = t) (h : FH) (w : World) (hs : Sits h w) (F : FMap encI h b2 (vm up)) :
    Calls Try.prog 65 #[.agg #[.map (some b0), .map (some b1), .map (some b2), .map (some b3)], .int .i64 no, .int .i64 steps] w fun e w' => e = .returned (.bool t) ∧ Ext h w h w' := by
  obtain ⟨h1, E1, hb1, le1, hh1⟩ := (Ext.refl hs).boxF #[.map (some b0), .map (some b1), .map (some b2), .map (some b3)] 71
  have F1 := F.mono le1
  have HT := hid ht
  clear hh1 ht F
  go_enter Try.func65, Try.ntmps65
  go_upto_region 1 with (fail)
  generalize hgC : w.heap.size = gC at *
  with_reducible generalize w.alloc (.cells #[.map (some b0), .map (some b1), .map (some b2), .map (some b3)] 71) = w1 at E1 ⊢
  have q2 : w1.cell? ⟨gC, 2, none⟩ = some (.map (some b2)) := Sits_at E1.sits hb1 rfl
  have HL := hid (fun a => F1.lookF E1.sits a)
  have E1 := hid E1
  go_loop [1, 2] (fun a n => ∃ (v : Int) (m : Nat), a = .int .i64 v ∧ n = .int .i64 m ∧ m ≤ 1000000 ∧ Hid (leadsF up v m = t)) (fun _ n => (intOf n).toNat)
  case atStart => exact ⟨no, steps, rfl, rfl, hst, HT⟩
  case round =>
    obtain ⟨v, m, rfl, rfl, hm, HV⟩ := hrel
    have hl := HL.out v
    generalize hv' : (up v).getD 0 = v' at hl
    have HV' := hid hv'
    clear hv'
    by_cases h1 : v = 1
    · have hb : (v == 1) = true := by simpa using h1
      have hb' : (v != 1) = false := by simpa using h1
      have HR := hid (show true = t by rw [← HV.out]; cases m <;> simp [leadsF, h1])
      clear h1
      go_wp2
      go_ret
      exact ⟨ret_bool HR.out, E1.out.back⟩
    · have hb : (v == 1) = false := by simpa using h1
      have hb' : (v != 1) = true := by simpa using h1
      cases m with
      | zero =>
        have HR := hid (show false = t by rw [← HV.out]; simp [leadsF, h1])
        clear h1
        go_wp2
        go_ret
        exact ⟨ret_bool HR.out, E1.out.back⟩
      | succ m =>
        have HR := hid (show leadsF up v' m = t by rw [← HV.out, ← HV'.out]; simp [leadsF, h1])
        have e1 : ((m + 1 : Nat) : Int) = (m : Int) + 1 := by omega
        have hp : (0 : Int) < (m : Int) + 1 := by omega
        rw [e1]
        clear h1 e1
        go_wp2
        go_round
        case rel => exact ⟨v', m, rfl, by go_num, by omega, HR⟩
        case measure => simp [intOf]
set_option maxHeartbeats 8000000 in
set_option maxRecDepth 100000 in
theorem sums_linked (b0 b1 b2 b3 : Nat) (tos up dirs : Int → Option Int) (x : Inode) (cs : List Value) (steps : Nat) (hst : steps ≤ 1000000) (t : Bool) (ht : linkedF tos up dirs x steps = t) (hdir : 0 ≤ (dirs x.no).getD 0 ∧ (dirs x.no).getD 0 ≤ 1000000) (h : FH) (w : World) (hs : Sits h w) (r : repInode h cs x) (F1 : FMap encI h b1 (vm tos)) (F2 : FMap encI h b2 (vm up)) (F3 : FMap encI h b3 (vm dirs)) :
    Calls Try.prog 34 #[.agg #[.map (some b0), .map (some b1), .map (some b2), .map (some b3)], .agg cs.toArray, .int .i64 steps] w fun e w' => e = .returned (.bool t) ∧ Ext h w h w' := by
  obtain ⟨A5, c5, A6, c6, rfl, s0, s1, s2, s3, s4⟩ := r
  have HT := hid ht
  clear ht
  obtain ⟨h1, E1, hbC, le1, hh1⟩ := (Ext.refl hs).boxF #[.map (some b0), .map (some b1), .map (some b2), .map (some b3)] 71
  obtain ⟨h2, E2, hbX, le2, hh2⟩ := E1.boxF #[.int .i64 x.no, .int .i64 x.kind, .int .i64 x.links, .int .i64 x.size, .string x.target, .slice A5 x.entries.length c5, .slice A6 x.runs.length c6] 37
  obtain ⟨h4, E4, hbK, le4, hh4⟩ := E2.boxF #[.int .i64 x.no] 75
  rw [show (w.alloc (.cells #[.map (some b0), .map (some b1), .map (some b2), .map (some b3)] 71)).heap.size = w.heap.size + 1 by simp] at hbX
  rw [show ((w.alloc (.cells #[.map (some b0), .map (some b1), .map (some b2), .map (some b3)] 71)).alloc (.cells #[.int .i64 x.no, .int .i64 x.kind, .int .i64 x.links, .int .i64 x.size, .string x.target, .slice A5 x.entries.length c5, .slice A6 x.runs.length c6] 37)).heap.size = w.heap.size + 2 by simp] at hbK
  have hbC := le4 _ _ (le2 _ _ hbC)
  have hbX := le4 _ _ hbX
  have le := le1.trans (le2.trans le4)
  have F1 := F1.mono le
  have F2 := F2.mono le
  have F3 := F3.mono le
  clear hh1 hh2 hh4 E1 E2
  go_enter Try.func34, Try.ntmps34
  go_upto_region 2 with (fail)
  with_reducible generalize ((w.alloc (.cells #[.map (some b0), .map (some b1), .map (some b2), .map (some b3)] 71)).alloc (.cells #[.int .i64 x.no, .int .i64 x.kind, .int .i64 x.links, .int .i64 x.size, .string x.target, .slice A5 x.entries.length c5, .slice A6 x.runs.length c6] 37)).alloc (.cells #[.int .i64 x.no] 75) = W4 at E4 ⊢
  obtain ⟨gC, hgC⟩ : ∃ g, g = w.heap.size := ⟨_, rfl⟩
  obtain ⟨gX, hgX⟩ : ∃ g, g = w.heap.size + 1 := ⟨_, rfl⟩
  obtain ⟨gK, hgK⟩ : ∃ g, g = w.heap.size + 2 := ⟨_, rfl⟩
  rw [← hgK] at hbK ⊢
  rw [← hgX] at hbX ⊢
  rw [← hgC] at hbC ⊢
  clear hgC hgX hgK
  have E4 := hid E4
  have c0 : W4.cell? ⟨gC, 0, none⟩ = some (.map (some b0)) := Sits_at E4.out.sits hbC rfl
  have uc0 := fun d os => cell_regrown c0 d os
  have c1 : W4.cell? ⟨gC, 1, none⟩ = some (.map (some b1)) := Sits_at E4.out.sits hbC rfl
  have uc1 := fun d os => cell_regrown c1 d os
  have c2 : W4.cell? ⟨gC, 2, none⟩ = some (.map (some b2)) := Sits_at E4.out.sits hbC rfl
  have uc2 := fun d os => cell_regrown c2 d os
  have c3 : W4.cell? ⟨gC, 3, none⟩ = some (.map (some b3)) := Sits_at E4.out.sits hbC rfl
  have uc3 := fun d os => cell_regrown c3 d os
  have x0 : W4.cell? ⟨gX, 0, none⟩ = some (.int .i64 x.no) := Sits_at E4.out.sits hbX rfl
  have ux0 := fun d os => cell_regrown x0 d os
  have x1 : W4.cell? ⟨gX, 1, none⟩ = some (.int .i64 x.kind) := Sits_at E4.out.sits hbX rfl
  have ux1 := fun d os => cell_regrown x1 d os
  have x2 : W4.cell? ⟨gX, 2, none⟩ = some (.int .i64 x.links) := Sits_at E4.out.sits hbX rfl
  have ux2 := fun d os => cell_regrown x2 d os
  have k0 : W4.cell? ⟨gK, 0, none⟩ = some (.int .i64 x.no) := Sits_at E4.out.sits hbK rfl
  have uk := fun d os => cell_regrown k0 d os
  have l1 := fun d os => F1.lookF (w := grow (redrawn W4 d) os) (Ext.quiet E4.out.sits d os).sits x.no
  have l3 := fun d os => F3.lookF (w := grow (redrawn W4 d) os) (Ext.quiet E4.out.sits d os).sits x.no
  have l1' := F1.lookF E4.out.sits x.no
  obtain ⟨tv, htv⟩ : ∃ v, (tos x.no).getD 0 = v := ⟨_, rfl⟩
  obtain ⟨dv, hdv⟩ : ∃ v, (dirs x.no).getD 0 = v := ⟨_, rfl⟩
  rw [htv] at l1 l1'
  rw [hdv] at l3 hdir
  obtain ⟨hd0, hd1⟩ := hdir
  have hdw : IntKind.i64.wrap (2 + dv) = 2 + dv := by rw [IntKind.wrap_i64]; omega
  by_cases hk : x.kind = 2
  · have hkb : (x.kind != 2) = false := by simpa using hk
    have hkb' : (x.kind == 2) = true := by simpa using hk
    have HL0 := hid (show linkedF tos up dirs x steps = ((x.links == 2 + dv) && ((x.no == 1) || ((tv == 1) && leadsF up x.no steps))) by unfold linkedF; rw [if_pos hk, htv, hdv])
    obtain ⟨lv, hlv⟩ : ∃ v, leadsF up x.no steps = v := ⟨_, rfl⟩
    have HL := hid hlv
    clear htv hdv hk hlv
    go_upto_region 4 with (fail)
    clear x0 x1 x2 c0 c1 c2 c3 k0 l1'
    by_cases a1 : x.links = 2 + dv
    · have b1' : (x.links == 2 + dv) = true := by simpa using a1
      by_cases a2 : x.no = 1
      · have b2' : (x.no == 1) = true := by simpa using a2
        have HR := hid (show linkedF tos up dirs x steps = true by rw [HL0.out, b1', b2']; rfl)
        clear a1 a2
        refine wp_region_quiet_below (by kernel_rfl) (by kernel_rfl) ?_
        repeat (go_big_quiet_step (exact quietCall (sums_leads b0 b1 b2 b3 up x.no steps hst _ HL.out h4 _ (Ext.quiet E4.out.sits _ _).sits F2)))
        refine wpQuiet_nil ?_
        intro _ hw'
        obtain ⟨⟨dq, osq⟩, hw''⟩ := hw'
        subst hw''
        go_wp2
        go_ret
        exact ⟨ret_bool (by rw [← HT.out, HR.out]), (E4.out.trans (Ext.quiet E4.out.sits _ _)).back⟩
      · have b2' : (x.no == 1) = false := by simpa using a2
        by_cases a3 : tv = 1
        · have b3' : (tv == 1) = true := by simpa using a3
          have HR := hid (show linkedF tos up dirs x steps = lv by rw [HL0.out, b1', b2', b3', HL.out]; simp)
          clear a1 a2 a3
          refine wp_region_quiet_below (by kernel_rfl) (by kernel_rfl) ?_
          repeat (go_big_quiet_step (exact quietCall (sums_leads b0 b1 b2 b3 up x.no steps hst _ HL.out h4 _ (Ext.quiet E4.out.sits _ _).sits F2)))
          refine wpQuiet_nil ?_
          intro _ hw'
          obtain ⟨⟨dq, osq⟩, hw''⟩ := hw'
          subst hw''
          go_wp2
          go_ret
          exact ⟨ret_bool (by rw [← HT.out, HR.out]), (E4.out.trans (Ext.quiet E4.out.sits _ _)).back⟩
        · have b3' : (tv == 1) = false := by simpa using a3
          have HR := hid (show linkedF tos up dirs x steps = false by rw [HL0.out, b1', b2', b3']; simp)
          clear a1 a2 a3
          refine wp_region_quiet_below (by kernel_rfl) (by kernel_rfl) ?_
          repeat (go_big_quiet_step (exact quietCall (sums_leads b0 b1 b2 b3 up x.no steps hst _ HL.out h4 _ (Ext.quiet E4.out.sits _ _).sits F2)))
          refine wpQuiet_nil ?_
          intro _ hw'
          obtain ⟨⟨dq, osq⟩, hw''⟩ := hw'
          subst hw''
          go_wp2
          go_ret
          exact ⟨ret_bool (by rw [← HT.out, HR.out]), (E4.out.trans (Ext.quiet E4.out.sits _ _)).back⟩
    · have b1' : (x.links == 2 + dv) = false := by simpa using a1
      have HR := hid (show linkedF tos up dirs x steps = false by rw [HL0.out, b1']; rfl)
      clear a1
      refine wp_region_quiet_below (by kernel_rfl) (by kernel_rfl) ?_
      repeat (go_big_quiet_step (exact quietCall (sums_leads b0 b1 b2 b3 up x.no steps hst _ HL.out h4 _ (Ext.quiet E4.out.sits _ _).sits F2)))
      refine wpQuiet_nil ?_
      intro _ hw'
      obtain ⟨⟨dq, osq⟩, hw''⟩ := hw'
      subst hw''
      go_wp2
      go_ret
      exact ⟨ret_bool (by rw [← HT.out, HR.out]), (E4.out.trans (Ext.quiet E4.out.sits _ _)).back⟩
  · have hkb : (x.kind != 2) = true := by simpa using hk
    have hkb' : (x.kind == 2) = false := by simpa using hk
    have HR := hid (show linkedF tos up dirs x steps = (x.links == tv) by unfold linkedF; rw [if_neg hk, htv])
    have HL : Hid (leadsF up x.no steps = leadsF up x.no steps) := hid rfl
    clear htv hdv hk
    go_upto_region 3 with (fail)
    clear x0 x1 x2 c0 c1 c2 c3 k0 l1'
    refine wp_region_quiet_below (by kernel_rfl) (by kernel_rfl) ?_
    repeat (go_big_quiet_step (exact quietCall (sums_leads b0 b1 b2 b3 up x.no steps hst _ HL.out h4 _ (Ext.quiet E4.out.sits _ _).sits F2)))
    refine wpQuiet_nil ?_
    intro _ hw'
    obtain ⟨⟨dq, osq⟩, hw''⟩ := hw'
    subst hw''
    go_wp2
    go_ret
    exact ⟨ret_bool (by rw [← HT.out, HR.out]), (E4.out.trans (Ext.quiet E4.out.sits _ _)).back⟩

/-! ### state.Sound -/
theorem geoB_blocks {g : Geo} (h : geoB g = true) : 0 ≤ g.blocks ∧ g.blocks ≤ 64 ∧ 0 ≤ g.pages ∧ g.pages ≤ 32 := by
  unfold geoB inB at h
  simp only [Bool.and_eq_true, decide_eq_true_eq] at h
  omega
theorem ok1_at {x : Run} (h : ok1 x = true) : 0 ≤ x.at_ ∧ 0 ≤ x.count ∧ x.count ≤ 100 ∧ x.at_ + x.count ≤ 2147483648 := by
  unfold ok1 at h
  simp only [Bool.and_eq_true, decide_eq_true_eq] at h
  omega
theorem rightI_fine {x : Inode} (h : rightI x = true) : fineRuns x.runs ∧ x.entries.length ≤ 100 := by
  unfold rightI at h
  simp only [Bool.and_eq_true] at h
  obtain ⟨_, h⟩ := h
  split at h
  · unfold fileB at h
    simp only [Bool.and_eq_true, decide_eq_true_eq, beq_iff_eq] at h
    refine ⟨fun u hu => ?_, by omega⟩
    obtain ⟨i, hi, rfl⟩ := List.mem_iff_getElem.1 hu
    exact ok1_at (rightB_ok1 h.1.1.2 (List.getElem?_eq_getElem hi))
  · split at h
    · unfold dirB at h
      simp only [Bool.and_eq_true, beq_iff_eq] at h
      have h0 : x.runs = [] := List.eq_nil_of_length_eq_zero (by omega)
      exact ⟨(by rw [h0]; intro u hu; cases hu), rightE_len h.1.1.2⟩
    · split at h
      · unfold linkB at h
        simp only [Bool.and_eq_true, beq_iff_eq] at h
        have h0 : x.runs = [] := List.eq_nil_of_length_eq_zero (by omega)
        exact ⟨(by rw [h0]; intro u hu; cases hu), by omega⟩
      · cases h
theorem riseB_right {s : State} {g : Geo} (h : riseB s g = true) : (∀ x ∈ s.inodes, rightI x = true) ∧ s.inodes.length ≤ 200 := by
  unfold riseB at h
  simp only [Bool.and_eq_true, decide_eq_true_eq] at h
  refine ⟨fun x hx => ?_, by omega⟩
  obtain ⟨i, hi, rfl⟩ := List.mem_iff_getElem.1 hx
  have h1 := h.1.1.1
  unfold allR at h1
  rw [List.all_eq_true] at h1
  have h2 := h1 i (by simpa using hi)
  unfold okR at h2
  rw [getD_of (List.getElem?_eq_getElem hi)] at h2
  simp only [Bool.and_eq_true] at h2
  exact h2.1.1
theorem pairsL_len : ∀ (xs : List Inode), (∀ x ∈ xs, x.entries.length ≤ 100) → (pairsL xs).length ≤ xs.length * 100
  | [], _ => by simp [pairsL]
  | x :: xs, h => by
    have := pairsL_len xs (fun y hy => h y (by simp [hy]))
    have h1 := h x (by simp)
    unfold pairsL at this ⊢
    simp only [List.flatMap_cons, List.length_append, List.length_cons]
    have h2 : (pairsE x.no x.entries).length = x.entries.length := by simp [pairsE]
    omega
set_option maxHeartbeats 8000000 in
set_option maxRecDepth 100000 in
theorem state_Sound (s : State) (g : Geo) (cs cg : List Value) (t : Bool) (ht : soundP s g = t) (h : FH) (w : World) (hs : Sits h w) (r : repState h cs s) (rg : repGeo h cg g) :
    Calls Try.prog 10 #[.agg cs.toArray, .agg cg.toArray] w fun e w' => e = .returned (.bool t) ∧ Ext h w h w' := by
  have hcs : cg = [.int .i64 g.sectors, .int .i64 g.sector, .int .i64 g.blocks, .int .i64 g.pages, .int .i64 g.page] := rg
  subst hcs
  have rr := r
  obtain ⟨A1, c1, A2, c2, rfl, l1, r1, l2, r2⟩ := r
  have hlI := r1.1
  have HT := hid ht
  clear ht
  obtain ⟨h1, E1, hb1, le1, hh1⟩ := (Ext.refl hs).boxF #[.int .i64 s.next, .slice A1 s.inodes.length c1, .slice A2 s.bads.length c2] 31
  obtain ⟨h2, E2, hb2, le2, hh2⟩ := E1.boxF #[.int .i64 g.sectors, .int .i64 g.sector, .int .i64 g.blocks, .int .i64 g.pages, .int .i64 g.page] 26
  rw [show (w.alloc (.cells #[.int .i64 s.next, .slice A1 s.inodes.length c1, .slice A2 s.bads.length c2] 31)).heap.size = w.heap.size + 1 by simp] at hb2
  have hb1 := le2 _ _ hb1
  have le1 := le1.trans le2
  have rr := rr.mono le1
  obtain ⟨q0, hq0⟩ : ∃ q, geoB g = q := ⟨_, rfl⟩
  obtain ⟨q1, hq1⟩ : ∃ q, riseB s g = q := ⟨_, rfl⟩
  obtain ⟨q2, hq2⟩ : ∃ q, okPl (g.blocks * g.pages) (placesL s.inodes) = q := ⟨_, rfl⟩
  have HS := hid (show soundP s g = (q0 && q1 && q2 && sumsB s.inodes) by unfold soundP; rw [hq0, hq1, hq2])
  have KR := hid (fun w' hs' => nor_Right g _ q0 hq0 h2 w' hs' rfl)
  have HG : Hid (q0 = true → 0 ≤ g.blocks ∧ g.blocks ≤ 64 ∧ 0 ≤ g.pages ∧ g.pages ≤ 32) := hid (fun e => geoB_blocks (hq0.trans e))
  have HRI : Hid (q1 = true → (∀ x ∈ s.inodes, rightI x = true) ∧ s.inodes.length ≤ 200) := hid (fun e => riseB_right (hq1.trans e))
  have KI := hid (fun (e0 : q0 = true) w' hs' => state_rising s g _ _ q1 hq1 (HG.out e0).1 h2 w' hs' rr rfl)
  have KP := hid (fun (e0 : q0 = true) (e1 : q1 = true) w' hs' => state_pages s g _ _ q2 hq2 (fun x hx => (rightI_fine ((HRI.out e1).1 x hx)).1) (HG.out e0).1 (HG.out e0).2.1 (HG.out e0).2.2.1 (HG.out e0).2.2.2 h2 w' hs' rr rfl)
  clear hh1 hh2 E1 hq0 hq1 hq2
  go_enter Try.func10, Try.ntmps10
  go_upto_region 1 with (fail)
  with_reducible generalize (w.alloc (.cells #[.int .i64 s.next, .slice A1 s.inodes.length c1, .slice A2 s.bads.length c2] 31)).alloc (.cells #[.int .i64 g.sectors, .int .i64 g.sector, .int .i64 g.blocks, .int .i64 g.pages, .int .i64 g.page] 26) = w1 at E2 ⊢
  obtain ⟨gS, hgS⟩ : ∃ gS, gS = w.heap.size := ⟨_, rfl⟩
  obtain ⟨gG, hgG⟩ : ∃ gG, gG = w.heap.size + 1 := ⟨_, rfl⟩
  rw [← hgG] at hb2 ⊢
  rw [← hgS] at hb1 ⊢
  clear hgS hgG
  have gc0 : w1.cell? ⟨gG, 0, none⟩ = some (.int .i64 g.sectors) := Sits_at E2.sits hb2 rfl; have gc1 : w1.cell? ⟨gG, 1, none⟩ = some (.int .i64 g.sector) := Sits_at E2.sits hb2 rfl; have gc2 : w1.cell? ⟨gG, 2, none⟩ = some (.int .i64 g.blocks) := Sits_at E2.sits hb2 rfl; have gc3 : w1.cell? ⟨gG, 3, none⟩ = some (.int .i64 g.pages) := Sits_at E2.sits hb2 rfl; have gc4 : w1.cell? ⟨gG, 4, none⟩ = some (.int .i64 g.page) := Sits_at E2.sits hb2 rfl; have sc0 : w1.cell? ⟨gS, 0, none⟩ = some (.int .i64 s.next) := Sits_at E2.sits hb1 rfl; have sc1 : w1.cell? ⟨gS, 1, none⟩ = some (.slice A1 s.inodes.length c1) := Sits_at E2.sits hb1 rfl; have sc2 : w1.cell? ⟨gS, 2, none⟩ = some (.slice A2 s.bads.length c2) := Sits_at E2.sits hb1 rfl
  have E2 := hid E2
  cases q0
  · have HF := hid (show t = false by rw [← HT.out, HS.out]; rfl)
    go_wp2_with (go_at_call 30; refine (KR.out w1 E2.out.sits).mono ?_; rintro e w2 ⟨rfl, F2⟩; have E3 := E2.out.trans F2)
    go_ret
    exact ⟨ret_bool (by rw [HF.out]), E3.back⟩
  · have KI2 := hid (KI.out rfl)
    have KP2 := hid (KP.out rfl)
    clear KI KP HG
    cases q1
    · have HF := hid (show t = false by rw [← HT.out, HS.out]; rfl)
      go_wp2_with (first | (go_at_call 30; refine (KR.out w1 E2.out.sits).mono ?_; rintro e w2 ⟨rfl, F2⟩; have E3 := E2.out.trans F2; have gc0 : w2.cell? ⟨gG, 0, none⟩ = some (.int .i64 g.sectors) := Sits_at E3.sits hb2 rfl; have gc1 : w2.cell? ⟨gG, 1, none⟩ = some (.int .i64 g.sector) := Sits_at E3.sits hb2 rfl; have gc2 : w2.cell? ⟨gG, 2, none⟩ = some (.int .i64 g.blocks) := Sits_at E3.sits hb2 rfl; have gc3 : w2.cell? ⟨gG, 3, none⟩ = some (.int .i64 g.pages) := Sits_at E3.sits hb2 rfl; have gc4 : w2.cell? ⟨gG, 4, none⟩ = some (.int .i64 g.page) := Sits_at E3.sits hb2 rfl; have sc0 : w2.cell? ⟨gS, 0, none⟩ = some (.int .i64 s.next) := Sits_at E3.sits hb1 rfl; have sc1 : w2.cell? ⟨gS, 1, none⟩ = some (.slice A1 s.inodes.length c1) := Sits_at E3.sits hb1 rfl; have sc2 : w2.cell? ⟨gS, 2, none⟩ = some (.slice A2 s.bads.length c2) := Sits_at E3.sits hb1 rfl; have E3 := hid E3) | (go_at_call 31; refine (KI2.out w2 E3.out.sits).mono ?_; rintro e w3 ⟨rfl, F3⟩; have E4 := E3.out.trans F3; have E4 := hid E4))
      go_ret
      exact ⟨ret_bool (by rw [HF.out]), E4.out.back⟩
    · have KP3 := hid (KP2.out rfl)
      obtain ⟨hri, hli⟩ := HRI.out rfl
      have HRI2 := hid hri
      clear hri HRI KP2
      cases q2
      · have HF := hid (show t = false by rw [← HT.out, HS.out]; rfl)
        go_wp2_with (first | (go_at_call 30; refine (KR.out w1 E2.out.sits).mono ?_; rintro e w2 ⟨rfl, F2⟩; have E3 := E2.out.trans F2; have gc0 : w2.cell? ⟨gG, 0, none⟩ = some (.int .i64 g.sectors) := Sits_at E3.sits hb2 rfl; have gc1 : w2.cell? ⟨gG, 1, none⟩ = some (.int .i64 g.sector) := Sits_at E3.sits hb2 rfl; have gc2 : w2.cell? ⟨gG, 2, none⟩ = some (.int .i64 g.blocks) := Sits_at E3.sits hb2 rfl; have gc3 : w2.cell? ⟨gG, 3, none⟩ = some (.int .i64 g.pages) := Sits_at E3.sits hb2 rfl; have gc4 : w2.cell? ⟨gG, 4, none⟩ = some (.int .i64 g.page) := Sits_at E3.sits hb2 rfl; have sc0 : w2.cell? ⟨gS, 0, none⟩ = some (.int .i64 s.next) := Sits_at E3.sits hb1 rfl; have sc1 : w2.cell? ⟨gS, 1, none⟩ = some (.slice A1 s.inodes.length c1) := Sits_at E3.sits hb1 rfl; have sc2 : w2.cell? ⟨gS, 2, none⟩ = some (.slice A2 s.bads.length c2) := Sits_at E3.sits hb1 rfl; have E3 := hid E3) | (go_at_call 31; refine (KI2.out w2 E3.out.sits).mono ?_; rintro e w3 ⟨rfl, F3⟩; have E4 := E3.out.trans F3; have gc0 : w3.cell? ⟨gG, 0, none⟩ = some (.int .i64 g.sectors) := Sits_at E4.sits hb2 rfl; have gc1 : w3.cell? ⟨gG, 1, none⟩ = some (.int .i64 g.sector) := Sits_at E4.sits hb2 rfl; have gc2 : w3.cell? ⟨gG, 2, none⟩ = some (.int .i64 g.blocks) := Sits_at E4.sits hb2 rfl; have gc3 : w3.cell? ⟨gG, 3, none⟩ = some (.int .i64 g.pages) := Sits_at E4.sits hb2 rfl; have gc4 : w3.cell? ⟨gG, 4, none⟩ = some (.int .i64 g.page) := Sits_at E4.sits hb2 rfl; have sc0 : w3.cell? ⟨gS, 0, none⟩ = some (.int .i64 s.next) := Sits_at E4.sits hb1 rfl; have sc1 : w3.cell? ⟨gS, 1, none⟩ = some (.slice A1 s.inodes.length c1) := Sits_at E4.sits hb1 rfl; have sc2 : w3.cell? ⟨gS, 2, none⟩ = some (.slice A2 s.bads.length c2) := Sits_at E4.sits hb1 rfl; have E4 := hid E4) | (go_at_call 32; refine (KP3.out w3 E4.out.sits).mono ?_; rintro e w4 ⟨rfl, F4⟩; have E5 := E4.out.trans F4; have E5 := hid E5))
        go_ret
        exact ⟨ret_bool (by rw [HF.out]), E5.out.back⟩
      · have hlen := pairsL_len s.inodes (fun x hx => (rightI_fine (HRI2.out x hx)).2)
        obtain ⟨ok, hok⟩ : ∃ ok, okLeads (lastK s.inodes) (pairsL s.inodes) = ok := ⟨_, rfl⟩
        have KC := hid (fun w' hs' => state_count s _ ok hok (by omega) h2 w' hs' rr)
        have HL := hid hlen
        have HOK := hid hok
        have HS := hid (show t = sumsB s.inodes by rw [← HT.out, HS.out]; rfl)
        clear hlen hok
        go_upto_region 3 with (first | (go_at_call 30; refine (KR.out w1 E2.out.sits).mono ?_; rintro e w2 ⟨rfl, F2⟩; have E3 := E2.out.trans F2; have gc0 : w2.cell? ⟨gG, 0, none⟩ = some (.int .i64 g.sectors) := Sits_at E3.sits hb2 rfl; have gc1 : w2.cell? ⟨gG, 1, none⟩ = some (.int .i64 g.sector) := Sits_at E3.sits hb2 rfl; have gc2 : w2.cell? ⟨gG, 2, none⟩ = some (.int .i64 g.blocks) := Sits_at E3.sits hb2 rfl; have gc3 : w2.cell? ⟨gG, 3, none⟩ = some (.int .i64 g.pages) := Sits_at E3.sits hb2 rfl; have gc4 : w2.cell? ⟨gG, 4, none⟩ = some (.int .i64 g.page) := Sits_at E3.sits hb2 rfl; have sc0 : w2.cell? ⟨gS, 0, none⟩ = some (.int .i64 s.next) := Sits_at E3.sits hb1 rfl; have sc1 : w2.cell? ⟨gS, 1, none⟩ = some (.slice A1 s.inodes.length c1) := Sits_at E3.sits hb1 rfl; have sc2 : w2.cell? ⟨gS, 2, none⟩ = some (.slice A2 s.bads.length c2) := Sits_at E3.sits hb1 rfl; have E3 := hid E3) | (go_at_call 31; refine (KI2.out w2 E3.out.sits).mono ?_; rintro e w3 ⟨rfl, F3⟩; have E4 := E3.out.trans F3; have gc0 : w3.cell? ⟨gG, 0, none⟩ = some (.int .i64 g.sectors) := Sits_at E4.sits hb2 rfl; have gc1 : w3.cell? ⟨gG, 1, none⟩ = some (.int .i64 g.sector) := Sits_at E4.sits hb2 rfl; have gc2 : w3.cell? ⟨gG, 2, none⟩ = some (.int .i64 g.blocks) := Sits_at E4.sits hb2 rfl; have gc3 : w3.cell? ⟨gG, 3, none⟩ = some (.int .i64 g.pages) := Sits_at E4.sits hb2 rfl; have gc4 : w3.cell? ⟨gG, 4, none⟩ = some (.int .i64 g.page) := Sits_at E4.sits hb2 rfl; have sc0 : w3.cell? ⟨gS, 0, none⟩ = some (.int .i64 s.next) := Sits_at E4.sits hb1 rfl; have sc1 : w3.cell? ⟨gS, 1, none⟩ = some (.slice A1 s.inodes.length c1) := Sits_at E4.sits hb1 rfl; have sc2 : w3.cell? ⟨gS, 2, none⟩ = some (.slice A2 s.bads.length c2) := Sits_at E4.sits hb1 rfl; have E4 := hid E4) | (go_at_call 32; refine (KP3.out w3 E4.out.sits).mono ?_; rintro e w4 ⟨rfl, F4⟩; have E5 := E4.out.trans F4; have gc0 : w4.cell? ⟨gG, 0, none⟩ = some (.int .i64 g.sectors) := Sits_at E5.sits hb2 rfl; have gc1 : w4.cell? ⟨gG, 1, none⟩ = some (.int .i64 g.sector) := Sits_at E5.sits hb2 rfl; have gc2 : w4.cell? ⟨gG, 2, none⟩ = some (.int .i64 g.blocks) := Sits_at E5.sits hb2 rfl; have gc3 : w4.cell? ⟨gG, 3, none⟩ = some (.int .i64 g.pages) := Sits_at E5.sits hb2 rfl; have gc4 : w4.cell? ⟨gG, 4, none⟩ = some (.int .i64 g.page) := Sits_at E5.sits hb2 rfl; have sc0 : w4.cell? ⟨gS, 0, none⟩ = some (.int .i64 s.next) := Sits_at E5.sits hb1 rfl; have sc1 : w4.cell? ⟨gS, 1, none⟩ = some (.slice A1 s.inodes.length c1) := Sits_at E5.sits hb1 rfl; have sc2 : w4.cell? ⟨gS, 2, none⟩ = some (.slice A2 s.bads.length c2) := Sits_at E5.sits hb1 rfl; have E5 := hid E5))
        go_upto_region 4 with (go_at_call 33; refine (KC.out w4 E5.out.sits).mono ?_; rintro e w5 ⟨b0, b1, b2, b3, h3, rfl, F5, FM⟩; have FM := hid FM; have F5 := hid F5)
        have E6 := E5.out.trans F5.out
        obtain ⟨h4, E7, hbC, le4, hh4⟩ := E6.boxF #[.map (some b0), .map (some b1), .map (some b2), .map (some b3)] 71
        have FM := hid (fun e => (FM.out e).imp (fun a => a.mono le4) (And.imp (fun a => a.mono le4) (And.imp (fun a => a.mono le4) (fun a => a.mono le4))))
        have hb1 := le4 _ _ (F5.out.le _ _ hb1)
        have r1 := r1.mono (le1.trans (F5.out.le.trans le4))
        clear hh4 E6 le4
        generalize hgC : w5.heap.size = gC at *
        with_reducible generalize w5.alloc (.cells #[.map (some b0), .map (some b1), .map (some b2), .map (some b3)] 71) = w6 at E7 ⊢
        have c0 : w6.cell? ⟨gC, 0, none⟩ = some (.map (some b0)) := Sits_at E7.sits hbC rfl
        have s1 : w6.cell? ⟨gS, 1, none⟩ = some (.slice A1 s.inodes.length c1) := Sits_at E7.sits hb1 rfl
        have E7 := hid E7
        cases ok
        · have HF := hid (show t = false by rw [HS.out]; unfold sumsB; rw [HOK.out]; rfl)
          go_wp2_with fail
          go_ret
          exact ⟨ret_bool (by rw [HF.out]), E7.out.back⟩
        · obtain ⟨f0, f1, f2, f3⟩ := FM.out rfl
          have L0 := f0.lookF E7.out.sits 1
          obtain ⟨kv, hkv⟩ : ∃ v, (lastK s.inodes 1).getD 0 = v := ⟨_, rfl⟩
          rw [hkv] at L0
          have HKV := hid hkv
          clear hkv
          by_cases hk2 : kv = 2
          · have hb : (kv != 2) = false := by simpa using hk2
            have HS := hid (show t = s.inodes.all fun x => linkedF (toM (pairsL s.inodes)) (upM (pairsL s.inodes)) (dirM (lastK s.inodes) (pairsL s.inodes)) x s.inodes.length by rw [HS.out]; unfold sumsB; rw [HOK.out, HKV.out, hk2]; rfl)
            have HDB := hid (fun a => cntM_le (fun p => p.1 == a && ((lastK s.inodes) p.2).getD 0 == 2) (pairsL s.inodes))
            clear hk2 f0
            go_wp2_with fail
            go_loopw [41] (fun i wr => ∃ k : Nat, k ≤ s.inodes.length ∧ i = .int .i64 k ∧ Hid (∀ i y, i < k → s.inodes[i]? = some y → linkedF (toM (pairsL s.inodes)) (upM (pairsL s.inodes)) (dirM (lastK s.inodes) (pairsL s.inodes)) y s.inodes.length = true) ∧ Hid (Ext h w h4 wr)) (fun i _ => s.inodes.length - (intOf i).toNat)
            case atStart => exact ⟨0, Nat.zero_le _, rfl, hid (fun i y hi => by omega), E7⟩
            case round =>
              obtain ⟨k, hk, rfl, HN, E⟩ := hrel
              clear c0 s1 L0
              by_cases hlt : k < s.inodes.length
              · obtain ⟨x, hx⟩ : ∃ x, s.inodes[k]? = some x := ⟨s.inodes[k], by simp [hlt]⟩
                obtain ⟨b, off, A5, c5, A6, c6, rfl, d0, d1, d2, d3, d4, d5, d6, s0, s1, s2, s3, s4⟩ := r1.inode hx E.out.sits
                have HX := hid hx
                have RX := hid (show repInode h4 [.int .i64 x.no, .int .i64 x.kind, .int .i64 x.links, .int .i64 x.size, .string x.target, .slice A5 x.entries.length c5, .slice A6 x.runs.length c6] x from ⟨A5, c5, A6, c6, rfl, s0, s1, s2, s3, s4⟩)
                clear hx
                go_upto_region 9 with (fail)
                have E8 := hid (E.out.alloc (.cells #[.int .i64 x.no, .int .i64 x.kind, .int .i64 x.links, .int .i64 x.size, .string x.target, .slice A5 x.entries.length c5, .slice A6 x.runs.length c6] 37))
                have HBX := hid (heap_new wr (.cells #[.int .i64 x.no, .int .i64 x.kind, .int .i64 x.links, .int .i64 x.size, .string x.target, .slice A5 x.entries.length c5, .slice A6 x.runs.length c6] 37))
                generalize hgb : wr.heap.size = gb at *
                with_reducible generalize wr.alloc (.cells #[.int .i64 x.no, .int .i64 x.kind, .int .i64 x.links, .int .i64 x.size, .string x.target, .slice A5 x.entries.length c5, .slice A6 x.runs.length c6] 37) = W2 at E8 HBX ⊢
                have e0 : W2.cell? ⟨gb, 0, none⟩ = some (.int .i64 x.no) := box_cell (j := 0) HBX.out rfl
                have e1 : W2.cell? ⟨gb, 1, none⟩ = some (.int .i64 x.kind) := box_cell (j := 1) HBX.out rfl
                have e2 : W2.cell? ⟨gb, 2, none⟩ = some (.int .i64 x.links) := box_cell (j := 2) HBX.out rfl
                have e3 : W2.cell? ⟨gb, 3, none⟩ = some (.int .i64 x.size) := box_cell (j := 3) HBX.out rfl
                have e4 : W2.cell? ⟨gb, 4, none⟩ = some (.string x.target) := box_cell (j := 4) HBX.out rfl
                have e5 : W2.cell? ⟨gb, 5, none⟩ = some (.slice A5 x.entries.length c5) := box_cell (j := 5) HBX.out rfl
                have e6 : W2.cell? ⟨gb, 6, none⟩ = some (.slice A6 x.runs.length c6) := box_cell (j := 6) HBX.out rfl
                have c0 : W2.cell? ⟨gC, 0, none⟩ = some (.map (some b0)) := Sits_at E8.out.sits hbC rfl
                have c1' : W2.cell? ⟨gC, 1, none⟩ = some (.map (some b1)) := Sits_at E8.out.sits hbC rfl
                have c2' : W2.cell? ⟨gC, 2, none⟩ = some (.map (some b2)) := Sits_at E8.out.sits hbC rfl
                have c3' : W2.cell? ⟨gC, 3, none⟩ = some (.map (some b3)) := Sits_at E8.out.sits hbC rfl
                have sc1 : W2.cell? ⟨gS, 1, none⟩ = some (.slice (some ⟨b, off, none⟩) s.inodes.length c1) := Sits_at E8.out.sits hb1 rfl
                obtain ⟨q, hq⟩ : ∃ q, linkedF (toM (pairsL s.inodes)) (upM (pairsL s.inodes)) (dirM (lastK s.inodes) (pairsL s.inodes)) x s.inodes.length = q := ⟨_, rfl⟩
                have KL := hid (sums_linked b0 b1 b2 b3 _ _ _ x _ s.inodes.length (by omega) q hq (by have := HDB.out x.no; have := HL.out; unfold dirM; omega) h4 W2 E8.out.sits RX.out f1 f2 f3)
                have HQ := hid hq
                clear hq d0 d1 d2 d3 d4 d5 d6
                cases q
                · have HF := hid (show t = false by
                    rw [HS.out, List.all_eq_false]
                    exact ⟨x, List.mem_of_getElem? HX.out, by rw [HQ.out]; simp⟩)
                  go_wp2_with (go_at_call 34; refine KL.out.mono ?_; rintro e w9 ⟨rfl, F9⟩; have E9 := hid (E8.out.trans F9))
                  go_ret
                  exact ⟨ret_bool (by rw [HF.out]), E9.out.back⟩
                · have HN2 := hid (show ∀ i y, i < k + 1 → s.inodes[i]? = some y → linkedF (toM (pairsL s.inodes)) (upM (pairsL s.inodes)) (dirM (lastK s.inodes) (pairsL s.inodes)) y s.inodes.length = true from fun i y hi hy => by
                    by_cases hik : i = k
                    · subst hik; rw [HX.out] at hy; cases hy; exact HQ.out
                    · exact HN.out i y (by omega) hy)
                  go_wp2_with (go_at_call 34; refine KL.out.mono ?_; rintro e w9 ⟨rfl, F9⟩; have E9 := hid (E8.out.trans F9))
                  go_roundw
                  case rel => exact ⟨k + 1, by omega, by go_num, HN2, E9⟩
                  case measure => simp [intOf]; omega
              · have HF := hid (show t = true by
                  rw [HS.out, List.all_eq_true]
                  intro y hy
                  obtain ⟨i, hi, rfl⟩ := List.mem_iff_getElem.1 hy
                  exact HN.out i _ (by omega) (List.getElem?_eq_getElem hi))
                go_wp2_with fail
                go_ret
                exact ⟨ret_bool (by rw [HF.out]), E.out.back⟩
          · have hb : (kv != 2) = true := by simpa using hk2
            have HF := hid (show t = false by rw [HS.out]; unfold sumsB; rw [HOK.out, HKV.out]; simp [hk2])
            clear hk2
            go_wp2_with fail
            go_ret
            exact ⟨ret_bool (by rw [HF.out]), E7.out.back⟩
end Go.Proofs.Ytkglaofiencfdaa
