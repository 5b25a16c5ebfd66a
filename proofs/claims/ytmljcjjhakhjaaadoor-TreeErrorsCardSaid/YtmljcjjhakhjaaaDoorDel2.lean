import Derived.Test.YtmljcjjhakhjaaaDoorDel1
import Derived.Laws.CopyRow
namespace Go.Proofs.YtmljcjjhakhjaaaDoor
open Go.RowKit Go.Sort
set_option linter.unusedVariables false
set_option maxHeartbeats 2000000 in
set_option maxRecDepth 100000 in
theorem delete_last (xs : List Entry) (i : Nat) (hi : xs.length = i + 1) (hbig : i ≤ 1000) (h : FH) (w : World) (base : Nat) (g0 : Nat) (O : OwnL h w base 67 (.slice (some ⟨g0, 0, none⟩) (i + 1) (i + 1)) xs) :
    Calls Tryd.prog 82 #[.slice (some ⟨g0, 0, none⟩) (i + 1 : Nat) (i + 1 : Nat), .int .i64 i, .int .i64 ((i : Int) + 1)] w fun e' w' => ∃ v', e' = .returned v' ∧ OwnL h w' base 67 v' (xs.take i ++ xs.drop (i + 1)) ∧ w.grownBy w' (some g0) := by
  obtain ⟨cells, hw, R⟩ := O.own
  obtain ⟨z, hz9⟩ : ∃ z, z = Value.agg #[.string ⟨#[]⟩, .int .i64 0] := ⟨_, rfl⟩
  obtain ⟨ti, hti, hz, hts, htb⟩ := info_parts (show (Tryd.prog.info? 67).map (fun i => (i.zero, i.size, i.bytes)) = some (some z, 2, 24) from by rw [hz9]; kernel_rfl)
  have hzc : z.cells.size = 2 := by rw [hz9]; rfl
  have hz1 : ∀ v ∈ z.cells.toList, v.oneCell' = true := fun v hv => by rw [hz9] at hv; simp [Value.cells] at hv; rcases hv with rfl | rfl <;> rfl
  rcases hw.2 with ⟨he, hn⟩ | ⟨g0', cap', cur, he, hb0, hg0, hlc, hcm, hcs, htk⟩
  · cases he
  · simp only [Value.slice.injEq, Option.some.injEq, Addr.mk.injEq, and_true] at he
    obtain ⟨rfl, -, rfl⟩ := he
    have hcl : cells.length = xs.length * 2 := hw.1
    rw [hi] at hcl hlc
    have hcs : cur.size = (i + 1) * 2 := hcs
    have htk : cur.toList.take (xs.length * 2) = cells := htk
    rw [hi] at htk
    have hap : ∀ ty a, (Builtin.append_ #[36, 36] ty #[.slice (some ⟨g0, 0, none⟩) i (i + 1), .slice (some a) 0 0]).run Tryd.prog w.drew = .ok (.slice (some ⟨g0, 0, none⟩) i (i + 1)) w.drew := fun ty a => by
      have := run_append_room (P := Tryd.prog) w.drew 36 ty 67 ti ty_Entry.und hti g0 i (i + 1) cur hg0 a 0 0 [] (by simp) (fun j u hu => by simp at hu) (fun v hv => by simp at hv) (by omega) (by rw [hts, hcs]; simp; omega)
      rw [this]
      congr 1
      have e : (cur.toList.take (i * ti.size) ++ [] ++ cur.toList.drop (i * ti.size + ([] : List Value).length)).toArray = cur := by simp
      rw [e]
      exact setRow_self w.drew g0 cur _ _ hg0
    have hcr : ∀ ty c, (Builtin.clear_ #[36] ty #[.slice (some ⟨g0, i * 2, none⟩) 1 c]).run Tryd.prog w.drew = .ok (.tuple #[]) (w.drew.setCells g0 (i * 2) (Builtin.zeroCells z.cells 1).toList) := fun ty c =>
      run_clear_any w.drew 36 67 ty z ty_Entry.und (fun w => by simp [zeroValue, typeInfo, hti, hz]) hz1 (by omega) g0 (i * 2) 1 c (by omega)
        (fun j hj => by
          rw [hzc] at hj
          rw [cell_of_row w.drew _ _ _ _ _ hg0, Array.getElem?_eq_getElem (by omega)]; rfl)
        (fun j hj => by show w.frozen? _ = false; simp [World.frozen?, hg0])
    obtain ⟨curB, m1, m2, m3⟩ := heap_setCells g0 67 (0, 0) (Builtin.zeroCells z.cells 1).toList (i * 2) w.drew cur hg0
    have GA : w.grownBy w.drew (some g0) := ⟨rfl, rfl, rfl, Nat.le_refl _, fun _ _ _ => rfl⟩
    have G2 := hid (grown_setCells g0 (Builtin.zeroCells z.cells 1).toList (i * 2) w.drew GA)
    have SP : curB.toList.take (i * 2) = cells.take (i * 2) ++ cells.drop ((i + 1) * 2) := by
      rw [List.drop_of_length_le (by omega), List.append_nil]
      apply List.ext_getElem?
      intro j
      rw [List.getElem?_take, List.getElem?_take]
      by_cases hj : j < i * 2
      · rw [if_pos hj, if_pos hj, Array.getElem?_toList, m3 j (by omega), if_neg (by omega), ← htk, List.getElem?_take, if_pos (by omega), Array.getElem?_toList]
      · rw [if_neg hj, if_neg hj]
    have OF := hid (show OwnL h (w.drew.setCells g0 (i * 2) (Builtin.zeroCells z.cells 1).toList) base 67 (.slice (some ⟨g0, 0, none⟩) i (i + 1)) (xs.take i ++ xs.drop (i + 1)) from by
      refine ⟨⟨cells.take (i * 2) ++ cells.drop ((i + 1) * 2), ⟨?_, .inr ⟨g0, i + 1, curB, ?_, hb0, m1, ?_, hcm, by rw [m2]; exact hcs, ?_⟩⟩, ?_⟩, O.free⟩
      · simp [Enc.sz]; omega
      · simp; omega
      · simp; omega
      · rw [← SP]; congr 1; simp [Enc.sz]; omega
      · exact (R.take2 i).append (R.drop2 (i + 1)))
    have hz2 : ¬ ((i : Int) = (i : Int) + 1) := by omega
    have hb1 : (0 : Int) ≤ (i : Int) + 1 := by omega
    have hb4 : (i : Int) ≤ (i : Int) + 1 := by omega
    have htn : ((i : Int) + 1).toNat = i + 1 := by omega
    have hq := fun ty => hap ty ⟨g0, 0, none⟩
    have hbi : (i : Int) ≤ 1000 := by omega
    clear hap SP R O hw hcl hcs htk GA hg0 m1 m2 m3 hzc hti hz hz1 hts htb hcm hlc
    subst hz9
    go_enter Tryd.func82, Tryd.ntmps82
    go_wp2
    go_region_law (rw [if_pos (by rfl)]; refine step_append_run w.drew _ _ 36 36 rfl _ _ rfl rfl _ _ (hq _) ?_)
    go_wp2
    all_goals
      go_ret
      exact ⟨_, rfl, OF.out, G2.out⟩
theorem delete_Entry (xs : List Entry) (i : Nat) (hi : i < xs.length) (hbig : xs.length ≤ 1000) (h : FH) (w : World) (base : Nat) (v : Value) (O : OwnL h w base 67 v xs) :
    Calls Tryd.prog 82 #[v, .int .i64 i, .int .i64 ((i : Int) + 1)] w fun e' w' => ∃ v', e' = .returned v' ∧ OwnL h w' base 67 v' (xs.take i ++ xs.drop (i + 1)) ∧ w.grownBy w' v.ownBlock := by
  obtain ⟨g0, cap, cs, rfl, _⟩ := O.get (List.getElem?_eq_getElem hi)
  by_cases hce : cap = i + 1
  · obtain ⟨A, c, hv, hc⟩ := O.slice
    simp only [Value.slice.injEq] at hv
    obtain ⟨-, -, rfl⟩ := hv
    have hx : xs.length = i + 1 := by omega
    rw [hce] at O ⊢
    rw [show (Value.slice (some ⟨g0, 0, none⟩) xs.length (i + 1)) = .slice (some ⟨g0, 0, none⟩) (i + 1) (i + 1) from by rw [hx]] at O ⊢
    exact delete_last xs i hx (by omega) h w base g0 O
  · exact delete_mid xs i hi hbig h w base g0 cap hce O
end Go.Proofs.YtmljcjjhakhjaaaDoor
