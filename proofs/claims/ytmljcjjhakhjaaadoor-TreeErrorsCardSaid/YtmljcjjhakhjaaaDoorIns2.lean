import Derived.Test.YtmljcjjhakhjaaaDoorIns1
namespace Go.Proofs.YtmljcjjhakhjaaaDoor
open Go.RowKit Go.Sort
set_option linter.unusedVariables false
/-! ### slices.Insert at Entry: no room -/
theorem grown_new {w0 : World} {r : Option Nat} (g : Nat) (hg : w0.heap.size ≤ g) : ∀ (vs : List Value) (o : Nat) (w : World), w0.grownBy w r → w0.grownBy (w.setCells g o vs) r
  | [], _, _, a => a
  | v :: vs, o, w, a => grown_new g hg vs (o + 1) _ ⟨a.os, a.tape, a.output, by simpa [World.setCell] using a.size, fun k hk hne => by
      rw [← a.block k hk hne]
      simp only [World.setCell]
      rw [Array.getElem?_modify, if_neg (by omega)]⟩
theorem setCells_ne {g k : Nat} (hne : k ≠ g) : ∀ {vs : List Value} {o : Nat} {w : World}, (w.setCells g o vs).heap[k]? = w.heap[k]?
  | [], _, _ => rfl
  | v :: vs, o, w => by
    rw [World.setCells, setCells_ne hne (vs := vs)]
    simp only [World.setCell]
    rw [Array.getElem?_modify, if_neg (fun e => hne e.symm)]
set_option maxHeartbeats 2000000 in
set_option maxRecDepth 100000 in
theorem insert_grow (xs : List Entry) (i : Nat) (hi : i < xs.length) (e : Entry) (hsz : e.name.size ≤ 9223372036854775807) (hbig : xs.length ≤ 1000) (h : FH) (w : World) (hs : Sits h w) (base : Nat) (hbase : base ≤ w.heap.size) (g0 cap : Nat) (hroom : cap < xs.length + 1) (O : OwnL h w base 67 (.slice (some ⟨g0, 0, none⟩) xs.length cap) xs) (gv : Nat) (hb : h gv = some (.cells #[.string e.name, .int .i64 e.no] 67 (0, 0))) :
    Calls Tryd.prog 52 #[.slice (some ⟨g0, 0, none⟩) xs.length cap, .int .i64 i, .slice (some ⟨gv, 0, none⟩) 1 1] w fun e' w' => ∃ v', e' = .returned v' ∧ OwnL h w' base 67 v' (xs.take i ++ [e] ++ xs.drop i) ∧ w.grownBy w' (some g0) := by
  obtain ⟨cells, hw, R⟩ := O.own
  obtain ⟨ti, z, hti, hz, hts, htb, hzc⟩ := ty_Entry.info
  rcases hw.2 with ⟨he, hn⟩ | ⟨g0', cap', cur, he, hb0, hg0, hlc, hcm, hcs, htk⟩
  · cases he
  · cases he
    have hcl : cells.length = xs.length * 2 := hw.1
    have hcs : cur.size = cap * 2 := hcs
    have htk : cur.toList.take (xs.length * 2) = cells := htk
    have hts : ti.size = 2 := hts
    have hgv := hs gv _ hb
    have hap0 := fun ty => run_append_zeros (P := Tryd.prog) w 36 3 ty 67 ti z .i64 .i64 ty_Entry.und (by rfl) hti hz ⟨g0, 0, none⟩ i cap (xs.length + 1 - i) (cells.take (i * 2)) (by rw [List.length_take, hcl, hts]; omega)
      (fun j v hj => by
        rw [Addr.add_lit, cell_of_row _ _ _ _ _ _ hg0, Nat.zero_add, ← Array.getElem?_toList]
        rw [← htk, List.take_take, List.getElem?_take] at hj
        split at hj
        · exact hj
        · cases hj) (by omega) (by omega) (by omega) (by omega) (by omega)
    have e1 : i + (xs.length + 1 - i) = xs.length + 1 := by omega
    have e2 : ((xs.length + 1 - i : Nat) : Int) = (xs.length : Int) + 1 - i := by omega
    rw [e1, e2] at hap0
    obtain ⟨g1, hg1⟩ : ∃ g1, g1 = w.heap.size := ⟨_, rfl⟩
    obtain ⟨C, hC⟩ : ∃ C, C = grownCap w (xs.length + 1) cap 67 := ⟨_, rfl⟩
    have hC1 : xs.length + 1 ≤ C := by rw [hC]; exact grownCap_ge _ _ _ _
    have hC2 : C ≤ maxLen := by rw [hC]; exact grownCap_le_maxLen _ _ _ _ (by unfold maxLen; omega)
    have hC3 : C ≤ 9223372036854775807 := by unfold maxLen at hC2; omega
    obtain ⟨cur0, hc0⟩ : ∃ cur0, cur0 = (cells.take (i * 2)).toArray ++ Builtin.zeroCells z.cells (xs.length + 1 - i) ++ Builtin.zeroCells z.cells (C - (xs.length + 1)) := ⟨_, rfl⟩
    rw [← hC, ← hg1, ← hc0] at hap0
    have hzs : z.cells.size = 2 := hzc
    have hcs0 : cur0.size = C * 2 := by
      rw [hc0]; simp only [Array.size_append, List.size_toArray, size_zeroCells, hzs, List.length_take, hcl]; omega
    have hpre : ∀ j, j < i * 2 → cur0[j]? = cells[j]? := fun j hj => by
      rw [hc0, Array.append_assoc, Array.getElem?_append_left (by simp; omega)]
      simp [hj]
    obtain ⟨WA, hWA⟩ : ∃ WA, WA = w.drew.alloc (.cells cur0 67) := ⟨_, rfl⟩
    have ka : WA.heap[g1]? = some (.cells cur0 67 (0, 0)) := by rw [hWA, hg1]; exact heap_alloc_new w.drew _
    rw [← hWA] at hap0
    have GA : w.grownBy WA (some g0) := by rw [hWA]; exact ⟨rfl, rfl, rfl, by simp, fun k hk _ => heap_alloc_old w.drew _ hk⟩
    have hlv : gv < w.heap.size := hs.lt (by rw [hb]; simp)
    have hlg : g0 < w.heap.size := O.lt g0 rfl |>.2
    have gva : WA.heap[gv]? = some (.cells #[.string e.name, .int .i64 e.no] 67 (0, 0)) := by rw [hWA]; rw [heap_alloc_old w.drew _ hlv]; exact hgv
    have g0a : WA.heap[g0]? = some (.cells cur 67 (0, 0)) := by rw [hWA]; rw [heap_alloc_old w.drew _ hlg]; exact hg0
    have hp1 : ∀ ty n1 dc, Nat.min 1 n1 = 1 → (Builtin.copy_ #[36, 36] ty #[.slice (some ⟨g1, i * 2, none⟩) n1 dc, .slice (some ⟨gv, 0, none⟩) 1 1]).run Tryd.prog WA = .ok (goInt (Nat.min 1 n1)) (WA.setCells g1 (i * 2) [.string e.name, .int .i64 e.no]) := fun ty n1 dc hm =>
      run_copy_any WA _ _ ty 67 2 g1 (i * 2) n1 dc ⟨gv, 0, none⟩ 1 1 [.string e.name, .int .i64 e.no] ty_Entry.und (by rfl) (by rw [hm]; rfl)
        (fun j v hj => by
          rw [Addr.add_lit, cell_of_row _ _ _ _ _ _ gva]
          simpa using hj)
        (fun j hj => by
          have hj : j < 2 := hj
          rw [cell_of_row _ _ _ _ _ _ ka, Array.getElem?_eq_getElem (by omega)]; rfl)
        (fun j hj => by simp [World.frozen?, ka])
        (fun v hv => by simp at hv; rcases hv with rfl | rfl <;> rfl)
    obtain ⟨WB, hWB⟩ : ∃ WB, WB = WA.setCells g1 (i * 2) [.string e.name, .int .i64 e.no] := ⟨_, rfl⟩
    obtain ⟨cur1, k1, k2, k3⟩ := heap_setCells g1 67 (0, 0) [.string e.name, .int .i64 e.no] (i * 2) WA cur0 ka
    rw [show ([.string e.name, .int .i64 e.no] : List Value).length = 2 from rfl] at k3
    have GB : w.grownBy WB (some g0) := by rw [hWB]; exact grown_new g1 (by omega) _ _ _ GA
    have g0b : WB.heap[g0]? = some (.cells cur 67 (0, 0)) := by
      rw [hWB, setCells_ne (by omega)]; exact g0a
    rw [← hWB] at k1 hp1
    have hp2 : ∀ ty n1 dc n2 sc, Nat.min n2 n1 = xs.length - i → (Builtin.copy_ #[36, 36] ty #[.slice (some ⟨g1, (i + 1) * 2, none⟩) n1 dc, .slice (some ⟨g0, i * 2, none⟩) n2 sc]).run Tryd.prog WB.drew = .ok (goInt (Nat.min n2 n1)) (WB.drew.setCells g1 ((i + 1) * 2) (cells.drop (i * 2))) := fun ty n1 dc n2 sc hm =>
      run_copy_any WB.drew _ _ ty 67 2 g1 ((i + 1) * 2) n1 dc ⟨g0, i * 2, none⟩ n2 sc (cells.drop (i * 2)) ty_Entry.und (by rfl) (by rw [hm, List.length_drop, hcl]; omega)
        (fun j v hj => by
          rw [Addr.add_lit, cell_of_row WB.drew _ _ _ _ _ g0b, ← Array.getElem?_toList]
          rw [List.getElem?_drop, ← htk, List.getElem?_take] at hj
          split at hj
          · exact hj
          · cases hj)
        (fun j hj => by
          rw [List.length_drop, hcl] at hj
          rw [cell_of_row WB.drew _ _ _ _ _ k1, Array.getElem?_eq_getElem (by omega)]; rfl)
        (fun j hj => by
          have k1' : WB.drew.heap[g1]? = some (.cells cur1 67 (0, 0)) := k1
          simp [World.frozen?, k1'])
        (fun v hv => R.one v (List.mem_of_mem_drop hv))
    obtain ⟨cur2, m1, m2, m3⟩ := heap_setCells g1 67 (0, 0) (cells.drop (i * 2)) ((i + 1) * 2) WB.drew cur1 k1
    have G2 := hid (grown_new g1 (by omega) (cells.drop (i * 2)) ((i + 1) * 2) WB.drew ⟨GB.os, GB.tape, GB.output, GB.size, GB.block⟩)
    have ES : Reps h [.string e.name, .int .i64 e.no] [e] := ⟨_, _, rfl, ⟨rfl, hsz⟩, rfl⟩
    have SP := splice2 (cells := cells) (E := [.string e.name, .int .i64 e.no]) (i := i) (n := xs.length) rfl hcl (by omega) (cur := cur0) (cur2 := cur2) (by omega) (by omega) hpre
      (fun j hj => by
        rw [m3 j (by omega), List.length_drop, hcl, show (xs.length - i) * 2 = xs.length * 2 - i * 2 by omega]
        by_cases h1 : i * 2 ≤ j ∧ j < i * 2 + 2
        · rw [if_neg (by omega), if_pos h1, k3 j (by omega), if_pos h1]
        · rw [if_neg h1]
          by_cases h2 : (i + 1) * 2 ≤ j ∧ j < (i + 1) * 2 + (xs.length * 2 - i * 2)
          · rw [if_pos h2, if_pos h2, List.getElem?_drop]; congr 1; omega
          · rw [if_neg h2, if_neg h2, k3 j (by omega), if_neg h1])
    have OF := hid (show OwnL h (WB.drew.setCells g1 ((i + 1) * 2) (cells.drop (i * 2))) base 67 (.slice (some ⟨g1, 0, none⟩) (xs.length + 1) C) (xs.take i ++ [e] ++ xs.drop i) from by
      refine ⟨⟨cells.take (i * 2) ++ [.string e.name, .int .i64 e.no] ++ cells.drop (i * 2), ⟨?_, .inr ⟨g1, C, cur2, ?_, by omega, m1, ?_, hC2, by rw [m2, k2]; exact hcs0, ?_⟩⟩, ?_⟩, fun g hg => ?_⟩
      · simp [Enc.sz]; omega
      · simp; omega
      · simp; omega
      · rw [← SP]; congr 1; simp [Enc.sz]; omega
      · exact ((R.take2 i).append ES).append (R.drop2 i)
      · cases hg; show h g1 = none; exact hs.none (by omega))
    have hm1 : Nat.min 1 (xs.length + 1 - i) = 1 := by simp only [Nat.min_def]; split <;> omega
    have hm2 : Nat.min (xs.length - i) (xs.length - i) = xs.length - i := by simp only [Nat.min_def]; split <;> omega
    have hm3 : Nat.min (xs.length - i) (xs.length + 1 - (i + 1)) = xs.length - i := by simp only [Nat.min_def]; split <;> omega
    have hq1 := fun ty dc => hp1 ty _ dc hm1
    have hq2 := fun ty dc sc => hp2 ty _ dc _ sc hm2
    have hq3 := fun ty dc sc => hp2 ty _ dc _ sc hm3
    clear hg1 hp1 hp2 SP ES R O hw hcl hcs htk hgv hc0 hzs hcs0 hpre hWA ka GA gva g0a hWB k1 k2 k3 GB g0b m1 m2 m3 hg0 hC2 hC hcm hti hz hts htb hzc hlv hlg hb
    have hz2 : ¬ ((i : Int) = (xs.length : Int)) := by omega
    have hb1 : (0 : Int) ≤ (i : Int) + 1 := by omega
    have hr1 : (cap : Int) < (xs.length : Int) + 1 := by omega
    have htn : ((i : Int) + 1).toNat = i + 1 := by omega
    have hb2 : ¬ (C = i + 1) := by omega
    have hb4 : ¬ (cap = i) := by omega
    have hb6 : ¬ (C = i) := by omega
    have hb3 : (i : Int) ≤ (xs.length : Int) + 1 := by omega
    have hb5 : (i : Int) + 1 ≤ (xs.length : Int) + 1 := by omega
    have hb7 : (i : Int) ≤ (cap : Int) := by omega
    have hw1 : IntKind.i64.wrap ((i : Int) + 1) = (i : Int) + 1 := by rw [IntKind.wrap_i64]; omega
    have hw2 : IntKind.i64.wrap ((xs.length : Int) + 1) = (xs.length : Int) + 1 := by rw [IntKind.wrap_i64]; omega
    have hw3 : IntKind.i64.wrap ((xs.length : Int) + 1 - (i : Int)) = (xs.length : Int) + 1 - (i : Int) := by rw [IntKind.wrap_i64]; omega
    go_enter Tryd.func52, Tryd.ntmps52
    go_wp2_with (at_builtin; refine Lib.wpList_append_run _ rfl _ _ _ _ rfl _ _ rfl rfl _ _ (hap0 _) ?_)
    go_wp2
    go_region
    go_wp2
    go_ret
    exact ⟨_, rfl, OF.out, G2.out⟩
theorem insert_Entry (xs : List Entry) (i : Nat) (hi : i ≤ xs.length) (e : Entry) (hsz : e.name.size ≤ 9223372036854775807) (hbig : xs.length ≤ 1000) (h : FH) (w : World) (hs : Sits h w) (base : Nat) (hbase : base ≤ w.heap.size) (v : Value) (O : OwnL h w base 67 v xs) (gv : Nat) (hb : h gv = some (.cells #[.string e.name, .int .i64 e.no] 67 (0, 0))) :
    Calls Tryd.prog 52 #[v, .int .i64 i, .slice (some ⟨gv, 0, none⟩) 1 1] w fun e' w' => ∃ v', e' = .returned v' ∧ OwnL h w' base 67 v' (xs.take i ++ [e] ++ xs.drop i) ∧ w.grownBy w' v.ownBlock := by
  by_cases he : i = xs.length
  · subst he
    have K := insert_end xs e hsz hbig h w hs base hbase v O gv hb
    simpa using K
  · have hlt : i < xs.length := by omega
    obtain ⟨cells, hw, _⟩ := O.own
    rcases hw.2 with ⟨rfl, hn⟩ | ⟨g0, cap, cur, rfl, _⟩
    · omega
    · by_cases hr : xs.length + 1 ≤ cap
      · exact insert_shift xs i hlt e hsz hbig h w hs base hbase g0 cap hr O gv hb
      · exact insert_grow xs i hlt e hsz hbig h w hs base hbase g0 cap (by omega) O gv hb
end Go.Proofs.YtmljcjjhakhjaaaDoor
