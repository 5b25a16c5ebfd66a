import Derived.Test.YtmljcjjhakhjaaaDoorStAll
import Derived.Test.YtmljcjjhakhjaaaDoorEntAdd
namespace Go.Proofs.YtmljcjjhakhjaaaDoor
open Go.RowKit Go.Sort
set_option linter.unusedVariables false
/-! ### slices.Insert at Entry, one element -/
theorem ent_row {h : FH} {gv : Nat} {e : Entry} (hsz : e.name.size ≤ 9223372036854775807) (hb : h gv = some (.cells #[.string e.name, .int .i64 e.no] 67 (0, 0))) : RowAt h (some ⟨gv, 0, none⟩) [e] :=
  RowAt.of_block hb ⟨_, _, rfl, ⟨rfl, hsz⟩, rfl⟩ (by simp)
set_option maxHeartbeats 2000000 in
set_option maxRecDepth 100000 in
theorem insert_end (xs : List Entry) (e : Entry) (hsz : e.name.size ≤ 9223372036854775807) (hbig : xs.length ≤ 1000) (h : FH) (w : World) (hs : Sits h w) (base : Nat) (hbase : base ≤ w.heap.size) (v : Value) (O : OwnL h w base 67 v xs) (gv : Nat) (hb : h gv = some (.cells #[.string e.name, .int .i64 e.no] 67 (0, 0))) :
    Calls Tryd.prog 52 #[v, .int .i64 xs.length, .slice (some ⟨gv, 0, none⟩) 1 1] w fun e' w' => ∃ v', e' = .returned v' ∧ OwnL h w' base 67 v' (xs ++ [e]) ∧ w.grownBy w' v.ownBlock := by
  have RV := hid (ent_row hsz hb)
  have OO := hid O
  have HB := hid (show (xs.length + [e].length) * 24 ≤ 140737488355328 by simp; omega)
  obtain ⟨cells, hw, _⟩ := O.own
  rcases hw.2 with ⟨rfl, hn⟩ | ⟨g0, cap, cur, rfl, hb0, hg0, hlc, hcm, hcs, htk⟩
  · rw [hn] at hw
    have HN := hid hn
    clear hw O hb
    rw [hn]
    go_enter Tryd.func52, Tryd.ntmps52
    go_wp2_with (at_builtin; refine wpList_appendR rfl _ _ 36 rfl base 67 24 ty_Entry _ xs [e] rfl OO.out hs (some ⟨gv, 0, none⟩) 1 1 rfl rfl RV.out HB.out (by decide) hbase ?_)
    intro v3 w6 O3 hg3 _
    have O3 := hid O3
    have hg3 := hid hg3
    go_wp2
    go_ret
    exact ⟨_, rfl, O3.out, hg3.out⟩
  · clear hw O hb hg0 hcs htk
    unfold maxLen at hcm
    go_enter Tryd.func52, Tryd.ntmps52
    go_wp2_with (at_builtin; refine wpList_appendR rfl _ _ 36 rfl base 67 24 ty_Entry _ xs [e] rfl OO.out hs (some ⟨gv, 0, none⟩) 1 1 rfl rfl RV.out HB.out (by decide) hbase ?_)
    all_goals
      intro v3 w6 O3 hg3 _
      have O3 := hid O3
      have hg3 := hid hg3
      go_wp2
      go_ret
      exact ⟨_, rfl, O3.out, hg3.out⟩
theorem Reps.take2 {h : FH} : ∀ {cells : List Value} {xs : List Entry} (_ : Reps h cells xs) (i : Nat), Reps h (cells.take (i * 2)) (xs.take i)
  | _, _, r, 0 => by simp; rfl
  | cells, [], r, i + 1 => by
    have : cells = [] := r
    subst this; simp; rfl
  | _, x :: xs, ⟨cs, rest, e, r, t⟩, i + 1 => by
    have hl : cs.length = 2 := Enc.len r
    subst e
    exact ⟨cs, rest.take (i * 2), by rw [List.take_append, hl, List.take_of_length_le (by omega)]; congr 2; omega, r, t.take2 i⟩
theorem Reps.drop2 {h : FH} : ∀ {cells : List Value} {xs : List Entry} (_ : Reps h cells xs) (i : Nat), Reps h (cells.drop (i * 2)) (xs.drop i)
  | _, _, r, 0 => by simpa using r
  | cells, [], r, i + 1 => by
    have : cells = [] := r
    subst this; simp; rfl
  | _, x :: xs, ⟨cs, rest, e, r, t⟩, i + 1 => by
    have hl : cs.length = 2 := Enc.len r
    subst e
    rw [List.drop_append, hl, List.drop_of_length_le (by omega), List.nil_append, show (i + 1) * 2 - 2 = i * 2 by omega]
    exact t.drop2 i
set_option maxHeartbeats 2000000 in
set_option maxRecDepth 100000 in
theorem insert_shift (xs : List Entry) (i : Nat) (hi : i < xs.length) (e : Entry) (hsz : e.name.size ≤ 9223372036854775807) (hbig : xs.length ≤ 1000) (h : FH) (w : World) (hs : Sits h w) (base : Nat) (hbase : base ≤ w.heap.size) (g0 cap : Nat) (hroom : xs.length + 1 ≤ cap) (O : OwnL h w base 67 (.slice (some ⟨g0, 0, none⟩) xs.length cap) xs) (gv : Nat) (hb : h gv = some (.cells #[.string e.name, .int .i64 e.no] 67 (0, 0))) :
    Calls Tryd.prog 52 #[.slice (some ⟨g0, 0, none⟩) xs.length cap, .int .i64 i, .slice (some ⟨gv, 0, none⟩) 1 1] w fun e' w' => ∃ v', e' = .returned v' ∧ OwnL h w' base 67 v' (xs.take i ++ [e] ++ xs.drop i) ∧ w.grownBy w' (some g0) := by
  have OO := hid O
  have hne : gv ≠ g0 := fun he => by have := O.free g0 rfl; rw [← he, hb] at this; cases this
  obtain ⟨cells, hw, R⟩ := O.own
  rcases hw.2 with ⟨he, hn⟩ | ⟨g0', cap', cur, he, hb0, hg0, hlc, hcm, hcs, htk⟩
  · cases he
  · cases he
    have hcl : cells.length = xs.length * 2 := hw.1
    have hcs : cur.size = cap * 2 := hcs
    have htk : cur.toList.take (xs.length * 2) = cells := htk
    have hcm' : cap ≤ 9223372036854775807 := by unfold maxLen at hcm; omega
    have hgv := hs gv _ hb
    have hov : ∀ k lb cb, (callFunc 76 #[.slice (some ⟨gv, 0, none⟩) 1 1, .slice (some ⟨g0, k, none⟩) lb cb]).run Tryd.prog w = .ok (.value (.bool false)) w := fun k lb cb => by
      rw [run_callFunc_extern Tryd.func76 (by kernel_rfl) (by kernel_rfl) (by kernel_rfl) (e := Extern.SlicesOverlaps.overlaps #[36, 36] #[4]) (by kernel_rfl),
        Lib.run_overlaps_apart w 36 4 67 ty_Entry.und 2 (fun _ => rfl) ⟨gv, 0, none⟩ ⟨g0, k, none⟩ 1 1 lb cb hne 67 67 2 (cap * 2) (by unfold World.shape?; rw [hgv]; rfl) (by unfold World.shape?; rw [hg0]; simp [hcs]) (by omega) (by simp [World.frozen?, hgv]) (by simp [World.frozen?, hgv])]
      rfl
    have hz2 : ¬ ((i : Int) = (xs.length : Int)) := by omega
    have hb1 : (0 : Int) ≤ (i : Int) + 1 := by omega
    have hr1 : ¬ ((cap : Int) < (xs.length : Int) + 1) := by omega
    have hr2 : (xs.length : Int) + 1 ≤ (cap : Int) := by omega
    have htn : ((i : Int) + 1).toNat = i + 1 := by omega
    have htn2 : ((xs.length : Int) + 1).toNat = xs.length + 1 := by omega
    have hb2 : ¬ (cap = i + 1) := by omega
    have hb3 : (i : Int) ≤ (xs.length : Int) + 1 := by omega
    have hb4 : ¬ (cap = i) := by omega
    have hb5 : (i : Int) + 1 ≤ (xs.length : Int) + 1 := by omega
    have hw1 : IntKind.i64.wrap ((i : Int) + 1) = (i : Int) + 1 := by rw [IntKind.wrap_i64]; omega
    clear hw hgv
    go_enter Tryd.func52, Tryd.ntmps52
    go_wp2_with (simp only [hov])
    have hcp1 : ∀ (W : World), (∀ x, W.cell? x = w.cell? x) → (∀ x, W.frozen? x = w.frozen? x) → ∀ ty n1 dc n2 sc, Nat.min n2 n1 = xs.length - i → (Builtin.copy_ #[36, 36] ty #[.slice (some ⟨g0, (i + 1) * 2, none⟩) n1 dc, .slice (some ⟨g0, i * 2, none⟩) n2 sc]).run Tryd.prog W = .ok (goInt (Nat.min n2 n1)) (W.setCells g0 ((i + 1) * 2) (cells.drop (i * 2))) := fun W hWc hWf ty n1 dc n2 sc hm =>
      run_copy_any W _ _ ty 67 2 g0 ((i + 1) * 2) n1 dc ⟨g0, i * 2, none⟩ n2 sc (cells.drop (i * 2)) ty_Entry.und (by rfl) (by rw [hm, List.length_drop, hcl]; omega)
        (fun j v hj => by
          rw [Addr.add_lit, hWc, cell_of_row _ _ _ _ _ _ hg0, ← Array.getElem?_toList]
          rw [List.getElem?_drop, ← htk, List.getElem?_take] at hj
          split at hj
          · exact hj
          · cases hj)
        (fun j hj => by
          rw [List.length_drop, hcl] at hj
          rw [hWc, cell_of_row _ _ _ _ _ _ hg0, Array.getElem?_eq_getElem (by omega)]; rfl)
        (fun j hj => by rw [hWf]; simp [World.frozen?, hg0])
        (fun v hv => R.one v (List.mem_of_mem_drop hv))
    have hm1 : Nat.min (xs.length + 1 - i) (xs.length - i) = xs.length - i := by simp only [Nat.min_def]; split <;> omega
    have hm2 : Nat.min (xs.length + 1 - i) (xs.length + 1 - (i + 1)) = xs.length - i := by simp only [Nat.min_def]; split <;> omega
    obtain ⟨W1, hW1⟩ : ∃ W1, W1 = w.drew.setCells g0 ((i + 1) * 2) (cells.drop (i * 2)) := ⟨_, rfl⟩
    obtain ⟨cur1, k1, k2, k3⟩ := heap_setCells g0 67 (0, 0) (cells.drop (i * 2)) ((i + 1) * 2) w.drew cur hg0
    rw [← hW1] at k1
    have G1 : w.grownBy W1 (some g0) := by rw [hW1]; exact grown_setCells g0 _ _ _ ⟨rfl, rfl, rfl, Nat.le_refl _, fun _ _ _ => rfl⟩
    have gb : W1.heap[gv]? = some (.cells #[.string e.name, .int .i64 e.no] 67 (0, 0)) := by
      rw [G1.block gv (hs.lt (by rw [hb]; simp)) (by simpa using hne)]; exact hs gv _ hb
    have hq1 := fun ty dc sc => hcp1 w.drew (fun _ => rfl) (fun _ => rfl) ty _ dc _ sc hm1
    have hq2 := fun ty dc sc => hcp1 w.drew (fun _ => rfl) (fun _ => rfl) ty _ dc _ sc hm2
    rw [← hW1] at hq1 hq2
    have hq3 : ∀ ty dc, (Builtin.copy_ #[36, 36] ty #[.slice (some ⟨g0, i * 2, none⟩) (xs.length + 1 - i) dc, .slice (some ⟨gv, 0, none⟩) 1 1]).run Tryd.prog W1 = .ok (goInt (Nat.min 1 (xs.length + 1 - i))) (W1.setCells g0 (i * 2) [.string e.name, .int .i64 e.no]) := fun ty dc =>
      run_copy_any W1 _ _ ty 67 2 g0 (i * 2) _ dc ⟨gv, 0, none⟩ 1 1 [.string e.name, .int .i64 e.no] ty_Entry.und (by rfl) (by simp only [Nat.min_def]; split <;> first | rfl | omega)
        (fun j v hj => by
          rw [Addr.add_lit, cell_of_row _ _ _ _ _ _ gb]
          simpa using hj)
        (fun j hj => by
          have hj : j < 2 := hj
          rw [cell_of_row _ _ _ _ _ _ k1, Array.getElem?_eq_getElem (by rw [k2]; omega)]; rfl)
        (fun j hj => by simp [World.frozen?, k1])
        (fun v hv => by simp at hv; rcases hv with rfl | rfl <;> rfl)
    obtain ⟨cur2, m1, m2, m3⟩ := heap_setCells g0 67 (0, 0) [.string e.name, .int .i64 e.no] (i * 2) W1 cur1 k1
    rw [show ([.string e.name, .int .i64 e.no] : List Value).length = 2 from rfl] at m3
    have G2 := hid (grown_setCells g0 [.string e.name, .int .i64 e.no] (i * 2) _ G1)
    have ES : Reps h [.string e.name, .int .i64 e.no] [e] := ⟨_, _, rfl, ⟨rfl, hsz⟩, rfl⟩
    have SP := splice2 (cells := cells) (E := [.string e.name, .int .i64 e.no]) (i := i) (n := xs.length) rfl hcl (by omega) (cur := cur) (cur2 := cur2) (by omega) (by omega)
      (fun j hj => by
        rw [← htk, List.getElem?_take, if_pos (show j < xs.length * 2 by omega), Array.getElem?_toList])
      (fun j hj => by
        rw [m3 j (by omega)]
        by_cases h1 : i * 2 ≤ j ∧ j < i * 2 + 2
        · rw [if_pos h1, if_pos h1]
        · rw [if_neg h1, if_neg h1, k3 j hj]
          rw [List.length_drop, hcl, show (xs.length - i) * 2 = xs.length * 2 - i * 2 by omega]
          by_cases h2 : (i + 1) * 2 ≤ j ∧ j < (i + 1) * 2 + (xs.length * 2 - i * 2)
          · rw [if_pos h2, if_pos h2, List.getElem?_drop]; congr 1; omega
          · rw [if_neg h2, if_neg h2])
    have OF := hid (show OwnL h (W1.setCells g0 (i * 2) [.string e.name, .int .i64 e.no]) base 67 (.slice (some ⟨g0, 0, none⟩) (xs.length + 1) cap) (xs.take i ++ [e] ++ xs.drop i) from by
      refine ⟨⟨cells.take (i * 2) ++ [.string e.name, .int .i64 e.no] ++ cells.drop (i * 2), ⟨?_, .inr ⟨g0, cap, cur2, ?_, hb0, m1, ?_, hcm, by rw [m2, k2]; exact hcs, ?_⟩⟩, ?_⟩, O.free⟩
      · simp [Enc.sz]; omega
      · simp; omega
      · simp; omega
      · rw [← SP]; congr 1; simp [Enc.sz]; omega
      · exact ((R.take2 i).append ES).append (R.drop2 i))
    clear hcp1 hW1 k1 k2 k3 G1 gb m1 m2 m3 ES SP R OO hg0 htk hcm O
    go_region
    go_wp2
    go_ret
    exact ⟨_, rfl, OF.out, G2.out⟩
end Go.Proofs.YtmljcjjhakhjaaaDoor
