import Derived.Test.YtkglaofiencfdaaStSo
import Derived.Test.YtkglaofiencfdaaCore
namespace Go.Proofs.Ytkglaofiencfdaa
open Go.RowKit Go.Sort
set_option linter.unusedVariables false
/-! ### places -/
def runP (u : Run) (n : Nat) : List Int := (List.range n).map fun i => u.at_ + ((i : Nat) : Int)
def runsP (us : List Run) : List Int := us.flatMap fun u => runP u u.count.toNat
def placesL (xs : List Inode) : List Int := xs.flatMap fun x => runsP x.runs
def okPl (lim : Int) (ps : List Int) : Bool := decide ps.Nodup && ps.all fun p => decide (p < lim)
def memM (ps : List Int) : Int → Option Value := fun a => if a ∈ ps then some (.int .i64 1) else none
theorem okPl_pre {lim : Int} {ps qs : List Int} (h : okPl lim ps = false) : okPl lim (ps ++ qs) = false := by
  cases e : okPl lim (ps ++ qs) with
  | false => rfl
  | true =>
    unfold okPl at e h
    simp only [Bool.and_eq_true, decide_eq_true_eq, List.all_append] at e
    rw [decide_eq_true (List.nodup_append.1 e.1).1, e.2.1] at h
    cases h
theorem okPl_snoc {lim : Int} {ps : List Int} {p : Int} (h : okPl lim ps = true) : okPl lim (ps ++ [p]) = (decide (p < lim) && decide (p ∉ ps)) := by
  unfold okPl at h ⊢
  simp only [Bool.and_eq_true, decide_eq_true_eq] at h
  rw [List.all_append, h.2, Bool.true_and, Bool.and_comm, Bool.eq_iff_iff]
  simp only [List.all_cons, List.all_nil, Bool.and_true, Bool.and_eq_true, decide_eq_true_eq]
  constructor
  · rintro ⟨a, b⟩
    exact ⟨a, fun hm => (List.nodup_append.1 b).2.2 p hm p (by simp) rfl⟩
  · rintro ⟨a, b⟩
    exact ⟨a, List.nodup_append.2 ⟨h.1, by simp, fun x hx y hy => by simp at hy; subst hy; exact fun e => b (e ▸ hx)⟩⟩
theorem memM_snoc (ps : List Int) (p a : Int) : memM (ps ++ [p]) a = if a = p then some (.int .i64 1) else memM ps a := by
  unfold memM
  by_cases h : a = p
  · simp [h]
  · simp [h]
theorem runP_snoc (u : Run) (n : Nat) : runP u (n + 1) = runP u n ++ [u.at_ + ((n : Nat) : Int)] := by
  unfold runP; rw [List.range_succ, List.map_append]; rfl
theorem runsP_snoc {us : List Run} {k : Nat} {u : Run} (h : us[k]? = some u) : runsP (us.take (k + 1)) = runsP (us.take k) ++ runP u u.count.toNat := by
  unfold runsP; rw [take_snoc h, List.flatMap_append]; simp
theorem placesL_snoc {xs : List Inode} {k : Nat} {x : Inode} (h : xs[k]? = some x) : placesL (xs.take (k + 1)) = placesL (xs.take k) ++ runsP x.runs := by
  unfold placesL; rw [take_snoc h, List.flatMap_append]; simp
theorem runP_cut (u : Run) {n m : Nat} (h : n ≤ m) : ∃ qs, runP u m = runP u n ++ qs := by
  unfold runP
  refine ⟨(List.range' n (m - n)).map fun i => u.at_ + ((i : Nat) : Int), ?_⟩
  rw [← List.map_append, List.range_eq_range', List.range_eq_range']
  congr 1
  have := List.range'_append (s := 0) (m := n) (n := m - n) (step := 1)
  simp only [Nat.one_mul, Nat.zero_add] at this
  rw [this]
  congr 1
  omega
/-- What is done so far is the head of all. -/
theorem places_head {xs : List Inode} {k : Nat} {x : Inode} (hx : xs[k]? = some x) {j : Nat} {u : Run} (hu : x.runs[j]? = some u) {n : Nat} (hn : n ≤ u.count.toNat) : ∃ qs, placesL xs = placesL (xs.take k) ++ runsP (x.runs.take j) ++ runP u n ++ qs := by
  have e1 : xs = xs.take k ++ [x] ++ xs.drop (k + 1) := by rw [← take_snoc hx, List.take_append_drop]
  have e2 : x.runs = x.runs.take j ++ [u] ++ x.runs.drop (j + 1) := by rw [← take_snoc hu, List.take_append_drop]
  obtain ⟨q, e3⟩ := runP_cut u hn
  have h1 : placesL xs = placesL (xs.take k) ++ runsP x.runs ++ placesL (xs.drop (k + 1)) := by
    conv => lhs; rw [e1]
    unfold placesL; simp
  have h2 : runsP x.runs = runsP (x.runs.take j) ++ runP u u.count.toNat ++ runsP (x.runs.drop (j + 1)) := by
    conv => lhs; rw [e2]
    unfold runsP; simp
  refine ⟨q ++ runsP (x.runs.drop (j + 1)) ++ placesL (xs.drop (k + 1)), ?_⟩
  rw [h1, h2, e3]; simp
def fineRuns (us : List Run) : Prop := ∀ u ∈ us, 0 ≤ u.at_ ∧ 0 ≤ u.count ∧ u.count ≤ 100 ∧ u.at_ + u.count ≤ 2147483648
set_option maxHeartbeats 8000000 in
set_option maxRecDepth 100000 in
theorem state_pages (s : State) (g : Geo) (cs cg : List Value) (t : Bool) (ht : okPl (g.blocks * g.pages) (placesL s.inodes) = t) (hfine : ∀ x ∈ s.inodes, fineRuns x.runs) (hg1 : 0 ≤ g.blocks) (hg2 : g.blocks ≤ 64) (hg3 : 0 ≤ g.pages) (hg4 : g.pages ≤ 32) (h : FH) (w : World) (hs : Sits h w) (r : repState h cs s) (rg : repGeo h cg g) :
    Calls Try.prog 32 #[.agg cs.toArray, .agg cg.toArray] w fun e w' => e = .returned (.bool t) ∧ Ext h w h w' := by
  have hcs : cg = [.int .i64 g.sectors, .int .i64 g.sector, .int .i64 g.blocks, .int .i64 g.pages, .int .i64 g.page] := rg
  subst hcs
  obtain ⟨A1, c1, A2, c2, rfl, l1, r1, l2, r2⟩ := r
  have hlI := r1.1
  have HT := hid ht
  have HFN := hid hfine
  have hmm := @run_makeMap Try.prog
  obtain ⟨lim, hlim⟩ : ∃ lim, g.blocks * g.pages = lim := ⟨_, rfl⟩
  have hlm0 : 0 ≤ lim := by rw [← hlim]; exact Int.mul_nonneg hg1 hg3
  have hlm1 : lim ≤ 2048 := by
    rw [← hlim]
    exact Int.le_trans (Int.mul_le_mul_of_nonneg_right hg2 hg3) (Int.mul_le_mul_of_nonneg_left hg4 (by decide))
  have hwl : IntKind.i64.wrap (g.blocks * g.pages) = lim := by rw [hlim, IntKind.wrap_i64]; omega
  rw [hlim] at HT
  clear ht rg hfine hlim
  obtain ⟨h1, E1, hb1, le1, hh1⟩ := (Ext.refl hs).boxF #[.int .i64 s.next, .slice A1 s.inodes.length c1, .slice A2 s.bads.length c2] 31
  obtain ⟨h2, E2, hb2, le2, hh2⟩ := E1.boxF #[.int .i64 g.sectors, .int .i64 g.sector, .int .i64 g.blocks, .int .i64 g.pages, .int .i64 g.page] 26
  rw [show (w.alloc (.cells #[.int .i64 s.next, .slice A1 s.inodes.length c1, .slice A2 s.bads.length c2] 31)).heap.size = w.heap.size + 1 by simp] at hb2
  have hb1 := le2 _ _ hb1
  have le1 := le1.trans le2
  have hz1 : ((w.alloc (.cells #[.int .i64 s.next, .slice A1 s.inodes.length c1, .slice A2 s.bads.length c2] 31)).alloc (.cells #[.int .i64 g.sectors, .int .i64 g.sector, .int .i64 g.blocks, .int .i64 g.pages, .int .i64 g.page] 26)).heap.size = w.heap.size + 2 := by simp
  clear hh1 hh2 E1
  go_enter Try.func32, Try.ntmps32
  go_upto_region 1 with (fail)
  with_reducible generalize (w.alloc (.cells #[.int .i64 s.next, .slice A1 s.inodes.length c1, .slice A2 s.bads.length c2] 31)).alloc (.cells #[.int .i64 g.sectors, .int .i64 g.sector, .int .i64 g.blocks, .int .i64 g.pages, .int .i64 g.page] 26) = w1 at E2 hz1 ⊢
  obtain ⟨gS, hgS⟩ : ∃ gS, gS = w.heap.size := ⟨_, rfl⟩
  obtain ⟨gG, hgG⟩ : ∃ gG, gG = w.heap.size + 1 := ⟨_, rfl⟩
  rw [← hgG] at hb2 ⊢
  rw [← hgS] at hb1 ⊢
  have M0 := MapIs.made encI w1
  have E3 := E2.alloc (.map #[] 0)
  have nB := hid (E2.sits.none (Nat.le_refl w1.heap.size))
  have wB := hid (show w.heap.size ≤ w1.heap.size by omega)
  clear hgS hgG hz1
  go_upto_region 2 with (fail)
  generalize hB : w1.heap.size = B at *
  with_reducible generalize w1.alloc (.map #[] 0) = w2 at M0 E3 ⊢
  have y1 : w2.cell? ⟨gS, 1, none⟩ = some (.slice A1 s.inodes.length c1) := Sits_at E3.sits hb1 rfl
  have r1 := r1.mono le1
  have M0 := hid (M0.congr (g := memM (placesL (s.inodes.take 0))) (fun a => by simp [memM, placesL]))
  have E3 := hid E3
  clear hB E2
  go_wp2_with fail
  go_loopw [15] (fun i wr => ∃ k : Nat, k ≤ s.inodes.length ∧ i = .int .i64 k ∧ Hid (okPl lim (placesL (s.inodes.take k)) = true) ∧ Hid (MapIs encI wr B (memM (placesL (s.inodes.take k)))) ∧ Hid (Ext h w h2 wr)) (fun i _ => s.inodes.length - (intOf i).toNat)
  case atStart => exact ⟨0, Nat.zero_le _, rfl, hid (by simp [placesL, okPl]), M0, E3⟩
  case round =>
    obtain ⟨k, hk, rfl, HO, M, E⟩ := hrel
    clear y1
    by_cases hlt : k < s.inodes.length
    · obtain ⟨x, hx⟩ : ∃ x, s.inodes[k]? = some x := ⟨s.inodes[k], by simp [hlt]⟩
      obtain ⟨b, off, A5, c5, A6, c6, rfl, d0, d1, d2, d3, d4, d5, d6, s0, s1, s2, s3, s4⟩ := r1.inode hx E.out.sits
      have HX := hid hx
      have HFX := hid (HFN.out x (List.mem_of_getElem? hx))
      have hlR := s4.1
      clear hx
      go_upto_region 5 with (fail)
      have E2 := hid (E.out.alloc (.cells #[.int .i64 x.no, .int .i64 x.kind, .int .i64 x.links, .int .i64 x.size, .string x.target, .slice A5 x.entries.length c5, .slice A6 x.runs.length c6] 37))
      have M2 := hid (M.out.alloc (.cells #[.int .i64 x.no, .int .i64 x.kind, .int .i64 x.links, .int .i64 x.size, .string x.target, .slice A5 x.entries.length c5, .slice A6 x.runs.length c6] 37))
      have HBX := hid (heap_new wr (.cells #[.int .i64 x.no, .int .i64 x.kind, .int .i64 x.links, .int .i64 x.size, .string x.target, .slice A5 x.entries.length c5, .slice A6 x.runs.length c6] 37))
      generalize hgb : wr.heap.size = gb at *
      with_reducible generalize wr.alloc (.cells #[.int .i64 x.no, .int .i64 x.kind, .int .i64 x.links, .int .i64 x.size, .string x.target, .slice A5 x.entries.length c5, .slice A6 x.runs.length c6] 37) = W2 at E2 M2 HBX ⊢
      have e6 : W2.cell? ⟨gb, 6, none⟩ = some (.slice A6 x.runs.length c6) := box_cell (j := 6) HBX.out rfl
      clear d0 d1 d2 d3 d4 d5 d6
      go_wp2_with fail
      go_loopw [22] (fun i wm => ∃ j : Nat, j ≤ x.runs.length ∧ i = .int .i64 j ∧ Hid (okPl lim (placesL (s.inodes.take k) ++ runsP (x.runs.take j)) = true) ∧ Hid (MapIs encI wm B (memM (placesL (s.inodes.take k) ++ runsP (x.runs.take j)))) ∧ Hid (Ext h w h2 wm)) (fun i _ => x.runs.length - (intOf i).toNat)
      case atStart => exact ⟨0, Nat.zero_le _, rfl, hid (by simpa [runsP] using HO.out), hid (by simpa [runsP] using M2.out), E2⟩
      case round =>
        obtain ⟨j, hj, rfl, HO2, M3, E4⟩ := hrel
        clear e6
        by_cases hjt : j < x.runs.length
        · obtain ⟨u, hu⟩ : ∃ u, x.runs[j]? = some u := ⟨x.runs[j], by simp [hjt]⟩
          obtain ⟨b2, off2, rfl, f0, f1, f2⟩ := s4.run hu E4.out.sits
          have HU := hid hu
          obtain ⟨ua0, uc0, uc1, ua1⟩ := HFX.out u (List.mem_of_getElem? hu)
          clear hu
          go_upto_region 8 with (fail)
          obtain ⟨h3, E5, hb3, le3, hh3⟩ := E4.out.boxF #[.int .i64 u.from_, .int .i64 u.at_, .int .i64 u.count] 46
          have E5 := hid E5
          have M5 := hid (M3.out.alloc (.cells #[.int .i64 u.from_, .int .i64 u.at_, .int .i64 u.count] 46))
          have nB4 : Hid (h3 B = none) := hid (by rw [hh3, FH.add_other _ _ (by have := M3.out.lt; omega)]; exact nB.out)
          clear hh3
          generalize hgr : wr.heap.size = gr at *
          with_reducible generalize wr.alloc (.cells #[.int .i64 u.from_, .int .i64 u.at_, .int .i64 u.count] 46) = W5 at E5 M5 ⊢
          have z2 : W5.cell? ⟨gr, 2, none⟩ = some (.int .i64 u.count) := Sits_at E5.out.sits hb3 rfl
          have HPS := hid (fun n (hn : n ≤ u.count.toNat) => places_head HX.out HU.out hn)
          have HR3 := hid (runsP_snoc HU.out)
          obtain ⟨ps, hps⟩ : ∃ ps, placesL (s.inodes.take k) ++ runsP (x.runs.take j) = ps := ⟨_, rfl⟩
          have HPS := hid (show ∀ n, n ≤ u.count.toNat → ∃ qs, placesL s.inodes = ps ++ runP u n ++ qs from fun n hn => by rw [← hps]; exact HPS.out n hn)
          have HO3 := hid (show okPl lim ps = true by rw [← hps]; exact HO2.out)
          have M5 := hid (show MapIs encI W5 B (memM ps) by rw [← hps]; exact M5.out)
          have HEND := hid (show placesL (s.inodes.take k) ++ runsP (x.runs.take (j + 1)) = ps ++ runP u u.count.toNat by rw [HR3.out, ← hps, List.append_assoc])
          clear hps f0 f1 f2
          go_wp2_with fail
          go_loopw [10, 28] (fun s10 i wi => ∃ n : Nat, n ≤ u.count.toNat ∧ i = .int .i64 n ∧ Hid (okPl lim (ps ++ runP u n) = true) ∧ Hid (MapIs encI wi B (memM (ps ++ runP u n))) ∧ Hid (Ext h w h3 wi)) (fun _ i _ => u.count.toNat - (intOf i).toNat)
          case atStart => exact ⟨0, Nat.zero_le _, rfl, hid (by simpa [runP] using HO3.out), hid (by simpa [runP] using M5.out), E5⟩
          case round =>
            obtain ⟨n, hn, rfl, HO6, M6, E6⟩ := hrel
            clear z2
            have z1 : wr.cell? ⟨gr, 1, none⟩ = some (.int .i64 u.at_) := Sits_at E6.out.sits hb3 rfl
            have z2 : wr.cell? ⟨gr, 2, none⟩ = some (.int .i64 u.count) := Sits_at E6.out.sits hb3 rfl
            by_cases hlc : (n : Int) < u.count
            · obtain ⟨p, hp⟩ : ∃ p, u.at_ + (n : Int) = p := ⟨_, rfl⟩
              have hp0 : 0 ≤ p := by omega
              have hp1 : p ≤ 2147483648 := by omega
              have hpw : IntKind.i64.wrap (u.at_ + (n : Int)) = p := by rw [hp, IntKind.wrap_i64]; omega
              have HS := hid (show runP u (n + 1) = runP u n ++ [p] by rw [runP_snoc, hp])
              obtain ⟨qs, hqs⟩ := HPS.out (n + 1) (by omega)
              have HQ := hid (show placesL s.inodes = ps ++ runP u n ++ [p] ++ qs by rw [hqs, HS.out]; simp)
              have HOP := hid (okPl_snoc (p := p) HO6.out)
              have HMM := hid (memM_snoc (ps ++ runP u n) p)
              have hn1 : n + 1 ≤ u.count.toNat := by omega
              have hn2 : (0 : Int) ≤ (n : Int) := by omega
              clear hp hqs
              generalize hqq : ps ++ runP u n = qq at *
              have HQQ := hid hqq
              clear hqq
              go_upto_region 11 with (fail)
              obtain ⟨st, wa, hME, Ma, Ga, hES⟩ := M6.out.drew.entry kt_state_key Try.underlying69 zero_int p
              have L0 := M6.out.drew.look kt_state_key Try.underlying69 zero_int p
              have La := Ma.look kt_state_key Try.underlying69 zero_int p
              simp only [if_true] at La
              have Ea := (E6.out.drew).grown Ga (fun k hk => by cases hk; exact ⟨wB.out, nB4.out⟩)
              have za1 : wa.cell? ⟨gr, 1, none⟩ = some (.int .i64 u.at_) := Sits_at Ea.sits hb3 rfl
              by_cases hm : p ∈ qq
              · have hf : memM qq p = some (.int .i64 1) := by unfold memM; rw [if_pos hm]
                have HB := hid (show okPl lim (qq ++ [p] ++ qs) = false from okPl_pre (by rw [HOP.out, decide_eq_false (p := ¬ p ∈ qq) (fun h => h hm), Bool.and_false]))
                rw [hf] at hME L0 La
                simp only [Option.getD_some, encI] at hME L0 La
                obtain ⟨wb, hES2, Mb, Gb⟩ := hES (.int .i64 2)
                have Lb := Mb.look kt_state_key Try.underlying69 zero_int p
                simp only [if_true, Option.getD_some, encI] at Lb
                have Eb := (E6.out.drew).grown Gb (fun k hk => by cases hk; exact ⟨wB.out, nB4.out⟩)
                have zb1 : wb.cell? ⟨gr, 1, none⟩ = some (.int .i64 u.at_) := Sits_at Eb.sits hb3 rfl
                have zg2 : wb.cell? ⟨gG, 2, none⟩ = some (.int .i64 g.blocks) := Sits_at Eb.sits (le3 _ _ hb2) rfl
                have zg3 : wb.cell? ⟨gG, 3, none⟩ = some (.int .i64 g.pages) := Sits_at Eb.sits (le3 _ _ hb2) rfl
                have Eb := hid Eb
                clear hf hm Ma Ga hES Mb Gb Ea
                go_region
                all_goals
                  go_wp2
                all_goals
                  go_ret
                  exact ⟨ret_bool (by rw [← HT.out, HQ.out, HB.out]), Eb.out.back⟩
              · have hf : memM qq p = none := by unfold memM; rw [if_neg hm]
                have HNM := hid (show decide (p ∉ qq) = true from decide_eq_true hm)
                rw [hf] at hME L0 La
                simp only [Option.getD_none, Option.getD_some, encI] at hME L0 La
                obtain ⟨wb, hES2, Mb, Gb⟩ := hES (.int .i64 1)
                have Lb := Mb.look kt_state_key Try.underlying69 zero_int p
                simp only [if_true, Option.getD_some, encI] at Lb
                have Eb := (E6.out.drew).grown Gb (fun k hk => by cases hk; exact ⟨wB.out, nB4.out⟩)
                have zb1 : wb.cell? ⟨gr, 1, none⟩ = some (.int .i64 u.at_) := Sits_at Eb.sits hb3 rfl
                have zg2 : wb.cell? ⟨gG, 2, none⟩ = some (.int .i64 g.blocks) := Sits_at Eb.sits (le3 _ _ hb2) rfl
                have zg3 : wb.cell? ⟨gG, 3, none⟩ = some (.int .i64 g.pages) := Sits_at Eb.sits (le3 _ _ hb2) rfl
                have Eb := hid Eb
                have Mb := hid (Mb.congr (fun a => (HMM.out a).symm))
                clear hf hm Ma Ga hES Gb Ea
                by_cases hpl : lim ≤ p
                · have HB := hid (show okPl lim (qq ++ [p] ++ qs) = false from okPl_pre (by rw [HOP.out, decide_eq_false (by omega)]; rfl))
                  go_region
                  all_goals
                    go_wp2
                  all_goals
                    go_ret
                    exact ⟨ret_bool (by rw [← HT.out, HQ.out, HB.out]), Eb.out.back⟩
                · have HB := hid (show okPl lim (qq ++ [p]) = true by rw [HOP.out, HNM.out, decide_eq_true (by omega)]; rfl)
                  go_region
                  all_goals
                    go_wp2
                  all_goals
                    go_roundw
                    case rel => exact ⟨n + 1, hn1, by go_num, hid (by rw [HS.out, ← List.append_assoc, HQQ.out]; exact HB.out), hid (by rw [HS.out, ← List.append_assoc, HQQ.out]; exact Mb.out), Eb⟩
                    case measure => simp [intOf]; omega
            · have hnn : n = u.count.toNat := by omega
              have HND := hid (show okPl lim (placesL (s.inodes.take k) ++ runsP (x.runs.take (j + 1))) = true by rw [HEND.out, ← hnn]; exact HO6.out)
              have MND := hid (show MapIs encI wr B (memM (placesL (s.inodes.take k) ++ runsP (x.runs.take (j + 1)))) by rw [HEND.out, ← hnn]; exact M6.out)
              have EN := hid (E6.out.drop E4.out.le le3)
              clear hnn
              go_wp2_with fail
              go_roundw
              case rel => exact ⟨j + 1, by omega, by go_num, HND, MND, EN⟩
              case measure => simp [intOf]; omega
        · have hjj : x.runs.take j = x.runs := List.take_of_length_le (by omega)
          have HND := hid (show okPl lim (placesL (s.inodes.take (k + 1))) = true by rw [placesL_snoc HX.out, ← hjj]; exact HO2.out)
          have MND := hid (show MapIs encI wr B (memM (placesL (s.inodes.take (k + 1)))) by rw [placesL_snoc HX.out, ← hjj]; exact M3.out)
          clear hjj
          go_wp2_with fail
          go_roundw
          case rel => exact ⟨k + 1, by omega, by go_num, HND, MND, E4⟩
          case measure => simp [intOf]; omega
    · have hkk : s.inodes.take k = s.inodes := List.take_of_length_le (by omega)
      have HND := hid (show okPl lim (placesL s.inodes) = true by rw [← hkk]; exact HO.out)
      clear hkk
      go_wp2_with fail
      go_ret
      exact ⟨ret_bool (by rw [← HT.out, HND.out]), E.out.back⟩
end Go.Proofs.Ytkglaofiencfdaa
