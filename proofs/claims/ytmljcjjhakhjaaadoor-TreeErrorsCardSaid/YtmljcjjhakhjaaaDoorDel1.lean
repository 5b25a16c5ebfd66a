import Derived.Test.YtmljcjjhakhjaaaDoorEntAdd2
namespace Go.Proofs.YtmljcjjhakhjaaaDoor
open Go.RowKit Go.Sort
set_option linter.unusedVariables false
/-! ### slices.Delete at Entry, one element -/
section
variable {P : Program}
theorem step_append_run (w : World) {o : Oper} {a : Act} {K : Act → World → Prop} {Q : Exit → Act → World → Prop} (d s : Operand) (dT sT : TypeId)
    (ho : o.op = .call { callee := .builtin .append, args := #[d, s], argTypes := #[dT, sT] }) (vd vs : Value) (hd : a.eval d = vd) (hs : a.eval s = vs)
    (v' : Value) (w' : World) (hr : (Builtin.append_ #[dT, sT] o.type #[vd, vs]).run P w = .ok v' w') (h : K (a.put o.dst v') w') : o.wp P a w K Q := by
  unfold Oper.wp
  simp [execOp, ho, resolve, invoke, builtin, hd, hs, hr, Result.andThen]
  exact h
end
set_option maxHeartbeats 2000000 in
set_option maxRecDepth 100000 in
theorem delete_mid (xs : List Entry) (i : Nat) (hi : i < xs.length) (hbig : xs.length ≤ 1000) (h : FH) (w : World) (base : Nat) (g0 cap : Nat) (hce : ¬ cap = i + 1) (O : OwnL h w base 67 (.slice (some ⟨g0, 0, none⟩) xs.length cap) xs) :
    Calls Tryd.prog 82 #[.slice (some ⟨g0, 0, none⟩) xs.length cap, .int .i64 i, .int .i64 ((i : Int) + 1)] w fun e' w' => ∃ v', e' = .returned v' ∧ OwnL h w' base 67 v' (xs.take i ++ xs.drop (i + 1)) ∧ w.grownBy w' (some g0) := by
  obtain ⟨cells, hw, R⟩ := O.own
  obtain ⟨z, hz9⟩ : ∃ z, z = Value.agg #[.string ⟨#[]⟩, .int .i64 0] := ⟨_, rfl⟩
  obtain ⟨ti, hti, hz, hts, htb⟩ := info_parts (show (Tryd.prog.info? 67).map (fun i => (i.zero, i.size, i.bytes)) = some (some z, 2, 24) from by rw [hz9]; kernel_rfl)
  have hzc : z.cells.size = 2 := by rw [hz9]; rfl
  have hz1 : ∀ v ∈ z.cells.toList, v.oneCell' = true := fun v hv => by rw [hz9] at hv; simp [Value.cells] at hv; rcases hv with rfl | rfl <;> rfl
  rcases hw.2 with ⟨he, hn⟩ | ⟨g0', cap', cur, he, hb0, hg0, hlc, hcm, hcs, htk⟩
  · cases he
  · cases he
    have hcl : cells.length = xs.length * 2 := hw.1
    have hcs : cur.size = cap * 2 := hcs
    have htk : cur.toList.take (xs.length * 2) = cells := htk
    have hcm' : cap ≤ 9223372036854775807 := by unfold maxLen at hcm; omega
    have hnl : (cells.drop ((i + 1) * 2)).length = (xs.length - (i + 1)) * 2 := by rw [List.length_drop, hcl]; omega
    obtain ⟨curA, hcA⟩ : ∃ curA, curA = (cur.toList.take (i * 2) ++ cells.drop ((i + 1) * 2) ++ cur.toList.drop (i * 2 + (cells.drop ((i + 1) * 2)).length)).toArray := ⟨_, rfl⟩
    obtain ⟨WA, hWA⟩ : ∃ WA, WA = w.drew.setRow g0 curA := ⟨_, rfl⟩
    have hap : ∀ ty c a, (∀ j u, (cells.drop ((i + 1) * 2))[j]? = some u → w.cell? (a.add j) = some u) → (Builtin.append_ #[36, 36] ty #[.slice (some ⟨g0, 0, none⟩) i cap, .slice (some a) (xs.length - (i + 1)) c]).run Tryd.prog w.drew = .ok (.slice (some ⟨g0, 0, none⟩) (xs.length - 1) cap) WA := fun ty c a ha => by
      have := run_append_room (P := Tryd.prog) w.drew 36 ty 67 ti ty_Entry.und hti g0 i cap cur hg0 a (xs.length - (i + 1)) c (cells.drop ((i + 1) * 2)) (by rw [hnl, hts]) (fun j u hu => ha j u hu) (fun v hv => R.one v (List.mem_of_mem_drop hv)) (by omega) (by rw [hnl, hts, hcs]; omega)
      rw [hts, ← hcA, ← hWA, show i + (xs.length - (i + 1)) = xs.length - 1 by omega] at this
      exact this
    have kA : WA.heap[g0]? = some (.cells curA 67 (0, 0)) := by rw [hWA]; exact setRow_heap w.drew g0 cur curA _ _ hg0
    have sA : curA.size = cap * 2 := by rw [hcA]; simp [hcl, hcs]; omega
    have GA : w.grownBy WA (some g0) := by rw [hWA]; exact ⟨rfl, rfl, rfl, by simp, fun k hk hne => setRow_other w.drew g0 k curA (by simpa using hne)⟩
    have hzs : z.cells.size = 2 := hzc
    have hcr : ∀ ty c, (Builtin.clear_ #[36] ty #[.slice (some ⟨g0, (xs.length - 1) * 2, none⟩) 1 c]).run Tryd.prog WA = .ok (.tuple #[]) (WA.setCells g0 ((xs.length - 1) * 2) (Builtin.zeroCells z.cells 1).toList) := fun ty c =>
      run_clear_any WA 36 67 ty z ty_Entry.und (fun w => by simp [zeroValue, typeInfo, hti, hz]) hz1 (by omega) g0 ((xs.length - 1) * 2) 1 c (by omega)
        (fun j hj => by
          rw [hzs] at hj
          rw [cell_of_row _ _ _ _ _ _ kA, Array.getElem?_eq_getElem (by omega)]; rfl)
        (fun j hj => by simp [World.frozen?, kA])
    obtain ⟨curB, m1, m2, m3⟩ := heap_setCells g0 67 (0, 0) (Builtin.zeroCells z.cells 1).toList ((xs.length - 1) * 2) WA curA kA
    have G2 := hid (grown_setCells g0 (Builtin.zeroCells z.cells 1).toList ((xs.length - 1) * 2) WA GA)
    have SP : curB.toList.take ((xs.length - 1) * 2) = cells.take (i * 2) ++ cells.drop ((i + 1) * 2) := by
      apply List.ext_getElem?
      intro j
      rw [List.getElem?_take]
      by_cases hj : j < (xs.length - 1) * 2
      · rw [if_pos hj, Array.getElem?_toList, m3 j (by omega), if_neg (by omega), hcA]
        simp only [List.getElem?_toArray]
        rw [List.getElem?_append_left (by simp [hcl, hcs]; omega)]
        congr 2
        rw [← htk, List.take_take, Nat.min_eq_left (by omega)]
      · rw [if_neg hj, List.getElem?_eq_none (by simp [hcl]; omega)]
    have OF := hid (show OwnL h (WA.setCells g0 ((xs.length - 1) * 2) (Builtin.zeroCells z.cells 1).toList) base 67 (.slice (some ⟨g0, 0, none⟩) (xs.length - 1) cap) (xs.take i ++ xs.drop (i + 1)) from by
      refine ⟨⟨cells.take (i * 2) ++ cells.drop ((i + 1) * 2), ⟨?_, .inr ⟨g0, cap, curB, ?_, hb0, m1, ?_, hcm, by rw [m2]; exact sA, ?_⟩⟩, ?_⟩, O.free⟩
      · simp [Enc.sz]; omega
      · simp; omega
      · simp; omega
      · rw [← SP]; congr 1; simp [Enc.sz]; omega
      · exact (R.take2 i).append (R.drop2 (i + 1)))
    have hsrc : ∀ j u, (cells.drop ((i + 1) * 2))[j]? = some u → w.cell? ((⟨g0, (i + 1) * 2, none⟩ : Addr).add j) = some u := fun j u hu => by
      rw [Addr.add_lit, cell_of_row _ _ _ _ _ _ hg0, ← Array.getElem?_toList]
      rw [List.getElem?_drop, ← htk, List.getElem?_take] at hu
      split at hu
      · exact hu
      · cases hu
    have hz2 : ¬ ((i : Int) = (i : Int) + 1) := by omega
    have hb1 : (0 : Int) ≤ (i : Int) + 1 := by omega
    have hb2 : (i : Int) + 1 ≤ (xs.length : Int) := by omega
    have hb3 : (i : Int) ≤ (cap : Int) := by omega
    have hb4 : (i : Int) ≤ (i : Int) + 1 := by omega
    have hb5 : (xs.length : Int) ≤ (cap : Int) := by omega
    have hb6 : ((xs.length - 1 : Nat) : Int) ≤ (xs.length : Int) := by omega
    have hb7 : ¬ (cap = xs.length - 1) := by omega
    have htn : ((i : Int) + 1).toNat = i + 1 := by omega
    have hln : xs.length - (xs.length - 1) = 1 := by omega
    · have hq := fun ty c => hap ty c ⟨g0, (i + 1) * 2, none⟩ hsrc
      clear hap hsrc SP R O hw hcl hcs htk kA sA GA hg0 hcA hWA m1 m2 m3 hnl hzs hzc hti hz hz1 hts htb hcm
      subst hz9
      go_enter Tryd.func82, Tryd.ntmps82
      go_wp2
      go_region_law (rw [if_pos (by rfl)]; refine step_append_run w.drew _ _ 36 36 rfl _ _ rfl rfl _ _ (hq _ _) ?_)
      go_wp2
      all_goals
        go_ret
        exact ⟨_, rfl, OF.out, G2.out⟩
end Go.Proofs.YtmljcjjhakhjaaaDoor
