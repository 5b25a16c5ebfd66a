import Derived.Test.YteolmamiblddjaaIns0
import Derived.Test.YteolmamiblddjaaStFn
namespace Go.Proofs.Yteolmamiblddjaa
open Go.RowKit Go.Sort
set_option linter.unusedVariables false
section
variable {α : Type} [Enc α] {P : Program}
/-- append(v, y), y's block known in the world. -/
theorem wpList_append1At {h : FH} {w : World} {ops : Array Oper} {rest : List Oper} {o : Oper} {a : Act} {Q : Exit → Act → World → Prop} (hgd : o.guard = none) (s x : Operand) (t : TypeId)
    (ho : o.op = .call { callee := .builtin .append, args := #[s, x], argTypes := #[t, t] }) (base : Nat) (e : TypeId) (bytes : Nat) (T : TyOk P t e (Enc.sz α) bytes) (v : Value) (xs : List α) (hv : a.eval s = v) (O : OwnL h w base e v xs) (hs : Sits h w)
    (g : Nat) (hx : a.eval x = .slice (some ⟨g, 0, none⟩) 1 1) (cs : List Value) (y : α) (hy : Enc.rep h cs y) (hc : ∀ j u, cs[j]? = some u → w.cell? ⟨g, j, none⟩ = some u) (hbytes : (xs.length + 1) * bytes ≤ 140737488355328) (hpos : 0 < bytes) (hbase : base ≤ w.heap.size)
    (k : ∀ v' w', OwnL h w' base e v' (xs ++ [y]) → w.grownBy w' v.ownBlock → wpList P ops Q rest (a.put o.dst v') w') : wpList P ops Q (o :: rest) a w := by
  refine wpList_plain hgd fun K hK => ?_
  obtain ⟨v', w', hr, h2, h3⟩ := run_append1At (ty := o.type) T O hs hy hc hbytes hpos hbase
  unfold Oper.wp execOp
  simp only [ho, resolve, invoke, builtin, Sem.run_bind, Sem.run_pure, Result.andThen_ok, List.map_toArray, List.map_cons, List.map_nil, hv, hx, hr]
  exact hK _ _ (k v' w' h2 h3)
end
theorem cells_of_box {w : World} {g : Nat} {cs : List Value} {t : TypeId} (h : w.heap[g]? = some (.cells cs.toArray t (0, 0))) : ∀ j u, cs[j]? = some u → w.cell? ⟨g, j, none⟩ = some u := fun j u hu => by
  rw [cell_of_row _ _ _ _ _ _ h]; simpa using hu
theorem grown_setCells' {w0 : World} (g : Nat) : ∀ (vs : List Value) (o : Nat) (w : World), w0.grownBy w (some g) → w0.grownBy (w.setCells g o vs) (some g)
  | [], _, _, a => a
  | v :: r, o, w, a => grown_setCells' g r (o + 1) _ ⟨a.os, a.tape, a.output, by simpa [World.setCell] using a.size, fun k hk hne => by
      rw [← a.block k hk hne]
      simp only [World.setCell]
      rw [Array.getElem?_modify, if_neg (by rintro rfl; exact hne rfl)]⟩
theorem grown_new' {w0 : World} {r : Option Nat} (g : Nat) (hg : w0.heap.size ≤ g) : ∀ (vs : List Value) (o : Nat) (w : World), w0.grownBy w r → w0.grownBy (w.setCells g o vs) r
  | [], _, _, a => a
  | v :: vs, o, w, a => grown_new' g hg vs (o + 1) _ ⟨a.os, a.tape, a.output, by simpa [World.setCell] using a.size, fun k hk hne => by
      rw [← a.block k hk hne]
      simp only [World.setCell]
      rw [Array.getElem?_modify, if_neg (by omega)]⟩
theorem setCells_ne' {g k : Nat} (hne : k ≠ g) : ∀ {vs : List Value} {o : Nat} {w : World}, (w.setCells g o vs).heap[k]? = w.heap[k]?
  | [], _, _ => rfl
  | v :: vs, o, w => by
    rw [World.setCells, setCells_ne' hne (vs := vs)]
    simp only [World.setCell]
    rw [Array.getElem?_modify, if_neg (fun e => hne e.symm)]

/-! ### slices.Insert at Inode -/
theorem splice_In {cells E : List Value} {i n : Nat} (hE : E.length = 7) (hc : cells.length = n * 7) (hi : i ≤ n) {cur cur2 : Array Value} (hsz : (n + 1) * 7 ≤ cur.size) (hs2 : cur2.size = cur.size)
    (hpre : ∀ j, j < i * 7 → cur[j]? = cells[j]?) (hget : ∀ j, j < cur.size → cur2[j]? = if i * 7 ≤ j ∧ j < i * 7 + 7 then E[j - i * 7]? else if (i + 1) * 7 ≤ j ∧ j < (i + 1) * 7 + (n - i) * 7 then cells[j - 7]? else cur[j]?) :
    cur2.toList.take ((n + 1) * 7) = cells.take (i * 7) ++ E ++ cells.drop (i * 7) := by
  apply List.ext_getElem?
  intro j
  rw [List.getElem?_take]
  by_cases hj : j < (n + 1) * 7
  · rw [if_pos hj, Array.getElem?_toList, hget j (by omega)]
    by_cases h1 : j < i * 7
    · rw [if_neg (by omega), if_neg (by omega), hpre j h1, List.append_assoc, List.getElem?_append_left (by simp; omega), List.getElem?_take, if_pos h1]
    · by_cases h2 : j < i * 7 + 7
      · rw [if_pos (by omega), List.append_assoc, List.getElem?_append_right (by simp; omega), List.getElem?_append_left (by simp; omega)]
        congr 1
        simp; omega
      · rw [if_neg (by omega), if_pos (by omega), List.getElem?_append_right (by simp; omega), List.getElem?_drop]
        congr 1
        simp; omega
  · rw [if_neg hj, List.getElem?_eq_none (by simp; omega)]
theorem reps_ins_In {h : FH} {cells E : List Value} {xs : List Inode} {e : Inode} (R : Reps h cells xs) (hE : Enc.rep h E e) (i : Nat) : Reps h (cells.take (i * 7) ++ E ++ cells.drop (i * 7)) (xs.take i ++ [e] ++ xs.drop i) := by
  have h1 := R.take i
  have h2 := R.drop i
  rw [show i * Enc.sz Inode = i * 7 from by show i * 7 = _; omega] at h1 h2
  exact (h1.append (Reps.single hE)).append h2
set_option maxHeartbeats 2000000 in
set_option maxRecDepth 100000 in
theorem insend_In (xs : List Inode) (e : Inode) (E : List Value) (hbig : xs.length ≤ 1000) (h : FH) (hE : Enc.rep h E e) (w : World) (hs : Sits h w) (base : Nat) (hbase : base ≤ w.heap.size) (v : Value) (O : OwnL h w base 37 v xs) (gv : Nat) (hb : w.heap[gv]? = some (.cells E.toArray 37 (0, 0))) :
    Calls Try.prog 75 #[v, .int .i64 xs.length, .slice (some ⟨gv, 0, none⟩) 1 1] w fun e' w' => ∃ v', e' = .returned v' ∧ OwnL h w' base 37 v' (xs ++ [e]) ∧ w.grownBy w' v.ownBlock := by
  have OO := hid O
  have HE := hid hE
  have HB := hid (show (xs.length + 1) * 96 ≤ 140737488355328 by omega)
  have HC := hid (cells_of_box hb)
  obtain ⟨cells, hw, _⟩ := O.own
  rcases hw.2 with ⟨rfl, hn⟩ | ⟨g0, cap, cur, rfl, hb0, hg0, hlc, hcm, hcs, htk⟩
  · rw [hn] at hw
    have HN := hid hn
    clear hw O hb hE
    rw [hn]
    go_enter Try.func75, Try.ntmps75
    go_wp2_with (at_builtin; refine wpList_append1At rfl _ _ 28 rfl base 37 96 ty_Inode _ xs rfl OO.out hs gv rfl E e HE.out HC.out HB.out (by decide) hbase ?_)
    intro v3 w6 O3 hg3
    have O3 := hid O3
    have hg3 := hid hg3
    go_wp2
    go_ret
    exact ⟨_, rfl, O3.out, hg3.out⟩
  · clear hw O hb hg0 hcs htk hE
    unfold maxLen at hcm
    go_enter Try.func75, Try.ntmps75
    go_wp2_with (at_builtin; refine wpList_append1At rfl _ _ 28 rfl base 37 96 ty_Inode _ xs rfl OO.out hs gv rfl E e HE.out HC.out HB.out (by decide) hbase ?_)
    all_goals
      intro v3 w6 O3 hg3
      have O3 := hid O3
      have hg3 := hid hg3
      go_wp2
      go_ret
      exact ⟨_, rfl, O3.out, hg3.out⟩
set_option maxHeartbeats 2000000 in
set_option maxRecDepth 100000 in
theorem insshift_In (xs : List Inode) (i : Nat) (hi : i < xs.length) (e : Inode) (E : List Value) (hbig : xs.length ≤ 1000) (h : FH) (hE : Enc.rep h E e) (w : World) (hs : Sits h w) (base : Nat) (hbase : base ≤ w.heap.size) (g0 cap : Nat) (hroom : xs.length + 1 ≤ cap) (O : OwnL h w base 37 (.slice (some ⟨g0, 0, none⟩) xs.length cap) xs) (gv : Nat) (hb : w.heap[gv]? = some (.cells E.toArray 37 (0, 0))) (hne : gv ≠ g0) :
    Calls Try.prog 75 #[.slice (some ⟨g0, 0, none⟩) xs.length cap, .int .i64 i, .slice (some ⟨gv, 0, none⟩) 1 1] w fun e' w' => ∃ v', e' = .returned v' ∧ OwnL h w' base 37 v' (xs.take i ++ [e] ++ xs.drop i) ∧ w.grownBy w' (some g0) := by
  have OO := hid O
  have hEl : E.length = 7 := Enc.len hE
  have HE := hid hE
  have hE1 := Enc.one hE
  obtain ⟨cells, hw, R⟩ := O.own
  rcases hw.2 with ⟨he, hn⟩ | ⟨g0', cap', cur, he, hb0, hg0, hlc, hcm, hcs, htk⟩
  · cases he
  · cases he
    have hcl : cells.length = xs.length * 7 := by have := hw.1; rw [show Enc.sz Inode = 7 from rfl] at this; omega
    have hcs : cur.size = cap * 7 := by have := hcs; rw [show Enc.sz Inode = 7 from rfl] at this; omega
    have htk : cur.toList.take (xs.length * 7) = cells := by have := htk; rw [show xs.length * Enc.sz Inode = xs.length * 7 from by show xs.length * 7 = _; omega] at this; exact this
    have hcm' : cap ≤ 9223372036854775807 := by unfold maxLen at hcm; omega
    have hgv := hb
    have hov : ∀ k lb cb, (callFunc 104 #[.slice (some ⟨gv, 0, none⟩) 1 1, .slice (some ⟨g0, k, none⟩) lb cb]).run Try.prog w = .ok (.value (.bool false)) w := fun k lb cb => by
      rw [run_callFunc_extern Try.func104 (by kernel_rfl) (by kernel_rfl) (by kernel_rfl) (e := Extern.SlicesOverlaps.overlaps #[28, 28] #[4]) (by kernel_rfl),
        Lib.run_overlaps_apart w 28 4 37 ty_Inode.und 7 (fun _ => rfl) ⟨gv, 0, none⟩ ⟨g0, k, none⟩ 1 1 lb cb hne 37 37 7 (cap * 7) (by unfold World.shape?; rw [hgv]; simp [hEl]) (by unfold World.shape?; rw [hg0]; simp [hcs]) (by omega) (by simp [World.frozen?, hgv]) (by simp [World.frozen?, hgv])]
      rfl
    have hz2 : ¬ ((i : Int) = (xs.length : Int)) := by omega
    have hb1 : (0 : Int) ≤ (i : Int) + 1 := by omega
    have hr1 : ¬ ((cap : Int) < (xs.length : Int) + 1) := by omega
    have hr2 : (xs.length : Int) + 1 ≤ (cap : Int) := by omega
    have htn : ((i : Int) + 1).toNat = i + 1 := by omega
    have htn2 : ((xs.length : Int) + 1).toNat = xs.length + 1 := by omega
    have hb2 : ¬ (cap = i + 1) := by omega
    have hb3 : (i : Int) ≤ (xs.length : Int) + 1 := by omega
    have hb4 : ¬ (cap = i) := by omega
    have hb5 : (i : Int) + 1 ≤ (xs.length : Int) + 1 := by omega
    have hw1 : IntKind.i64.wrap ((i : Int) + 1) = (i : Int) + 1 := by rw [IntKind.wrap_i64]; omega
    clear hw hE
    have hcp1 : ∀ (W : World), (∀ x, W.cell? x = w.cell? x) → (∀ x, W.frozen? x = w.frozen? x) → ∀ ty n1 dc n2 sc, Nat.min n2 n1 = xs.length - i → (Builtin.copy_ #[28, 28] ty #[.slice (some ⟨g0, (i + 1) * 7, none⟩) n1 dc, .slice (some ⟨g0, i * 7, none⟩) n2 sc]).run Try.prog W = .ok (goInt (Nat.min n2 n1)) (W.setCells g0 ((i + 1) * 7) (cells.drop (i * 7))) := fun W hWc hWf ty n1 dc n2 sc hm =>
      run_copy_any W _ _ ty 37 7 g0 ((i + 1) * 7) n1 dc ⟨g0, i * 7, none⟩ n2 sc (cells.drop (i * 7)) ty_Inode.und (by rfl) (by rw [hm, List.length_drop, hcl]; omega)
        (fun j v hj => by
          rw [Addr.add_lit, hWc, cell_of_row _ _ _ _ _ _ hg0, ← Array.getElem?_toList]
          rw [List.getElem?_drop, ← htk, List.getElem?_take] at hj
          split at hj
          · exact hj
          · cases hj)
        (fun j hj => by
          rw [List.length_drop, hcl] at hj
          rw [hWc, cell_of_row _ _ _ _ _ _ hg0, Array.getElem?_eq_getElem (by omega)]; rfl)
        (fun j hj => by rw [hWf]; simp [World.frozen?, hg0])
        (fun v hv => R.one v (List.mem_of_mem_drop hv))
    have hm1 : Nat.min (xs.length + 1 - i) (xs.length - i) = xs.length - i := by simp only [Nat.min_def]; split <;> omega
    have hm2 : Nat.min (xs.length + 1 - i) (xs.length + 1 - (i + 1)) = xs.length - i := by simp only [Nat.min_def]; split <;> omega
    obtain ⟨W1, hW1⟩ : ∃ W1, W1 = w.drew.setCells g0 ((i + 1) * 7) (cells.drop (i * 7)) := ⟨_, rfl⟩
    obtain ⟨cur1, k1, k2, k3⟩ := heap_setCells g0 37 (0, 0) (cells.drop (i * 7)) ((i + 1) * 7) w.drew cur hg0
    rw [← hW1] at k1
    have G1 : w.grownBy W1 (some g0) := by rw [hW1]; exact grown_setCells' g0 _ _ _ ⟨rfl, rfl, rfl, Nat.le_refl _, fun _ _ _ => rfl⟩
    have gb : W1.heap[gv]? = some (.cells E.toArray 37 (0, 0)) := by
      rw [G1.block gv (Array.getElem?_eq_some_iff.1 hb).1 (by simpa using hne)]; exact hb
    have hq1 := fun ty dc sc => hcp1 w.drew (fun _ => rfl) (fun _ => rfl) ty _ dc _ sc hm1
    have hq2 := fun ty dc sc => hcp1 w.drew (fun _ => rfl) (fun _ => rfl) ty _ dc _ sc hm2
    rw [← hW1] at hq1 hq2
    have hq3 : ∀ ty dc, (Builtin.copy_ #[28, 28] ty #[.slice (some ⟨g0, i * 7, none⟩) (xs.length + 1 - i) dc, .slice (some ⟨gv, 0, none⟩) 1 1]).run Try.prog W1 = .ok (goInt (Nat.min 1 (xs.length + 1 - i))) (W1.setCells g0 (i * 7) E) := fun ty dc =>
      run_copy_any W1 _ _ ty 37 7 g0 (i * 7) _ dc ⟨gv, 0, none⟩ 1 1 E ty_Inode.und (by rfl) (by rw [hEl]; simp only [Nat.min_def]; split <;> first | rfl | omega)
        (fun j v hj => by
          rw [Addr.add_lit, cell_of_row _ _ _ _ _ _ gb]
          simpa using hj)
        (fun j hj => by
          rw [hEl] at hj
          rw [cell_of_row _ _ _ _ _ _ k1, Array.getElem?_eq_getElem (by rw [k2]; omega)]; rfl)
        (fun j hj => by simp [World.frozen?, k1])
        hE1
    obtain ⟨cur2, m1, m2, m3⟩ := heap_setCells g0 37 (0, 0) E (i * 7) W1 cur1 k1
    rw [hEl] at m3
    have G2 := hid (grown_setCells' g0 E (i * 7) _ G1)
    have SP := splice_In (cells := cells) (E := E) (i := i) (n := xs.length) hEl hcl (by omega) (cur := cur) (cur2 := cur2) (by omega) (by omega)
      (fun j hj => by
        rw [← htk, List.getElem?_take, if_pos (show j < xs.length * 7 by omega), Array.getElem?_toList])
      (fun j hj => by
        rw [m3 j (by omega)]
        by_cases h1 : i * 7 ≤ j ∧ j < i * 7 + 7
        · rw [if_pos h1, if_pos h1]
        · rw [if_neg h1, if_neg h1, k3 j hj]
          rw [List.length_drop, hcl, show (xs.length - i) * 7 = xs.length * 7 - i * 7 by omega]
          by_cases h2 : (i + 1) * 7 ≤ j ∧ j < (i + 1) * 7 + (xs.length * 7 - i * 7)
          · rw [if_pos h2, if_pos h2, List.getElem?_drop]; congr 1; omega
          · rw [if_neg h2, if_neg h2])
    have OF := hid (show OwnL h (W1.setCells g0 (i * 7) E) base 37 (.slice (some ⟨g0, 0, none⟩) (xs.length + 1) cap) (xs.take i ++ [e] ++ xs.drop i) from by
      refine ⟨⟨cells.take (i * 7) ++ E ++ cells.drop (i * 7), ⟨?_, .inr ⟨g0, cap, cur2, ?_, hb0, m1, ?_, hcm, by rw [m2, k2, hcs]; show _ = cap * 7; omega, ?_⟩⟩, reps_ins_In R HE.out i⟩, O.free⟩
      · simp [Enc.sz, hEl]; omega
      · simp; omega
      · simp; omega
      · rw [← SP]; congr 1; simp [Enc.sz]; omega)
    clear hcp1 hW1 k1 k2 k3 G1 gb m1 m2 m3 SP R OO hg0 htk hcm O hgv hE1 hb
    go_enter Try.func75, Try.ntmps75
    go_wp2_with (simp only [hov])
    go_region
    go_wp2
    go_ret
    exact ⟨_, rfl, OF.out, G2.out⟩
set_option maxHeartbeats 2000000 in
set_option maxRecDepth 100000 in
theorem insgrow_In (xs : List Inode) (i : Nat) (hi : i < xs.length) (e : Inode) (E : List Value) (hbig : xs.length ≤ 1000) (h : FH) (hE : Enc.rep h E e) (w : World) (hs : Sits h w) (base : Nat) (hbase : base ≤ w.heap.size) (g0 cap : Nat) (hroom : cap < xs.length + 1) (O : OwnL h w base 37 (.slice (some ⟨g0, 0, none⟩) xs.length cap) xs) (gv : Nat) (hb : w.heap[gv]? = some (.cells E.toArray 37 (0, 0))) :
    Calls Try.prog 75 #[.slice (some ⟨g0, 0, none⟩) xs.length cap, .int .i64 i, .slice (some ⟨gv, 0, none⟩) 1 1] w fun e' w' => ∃ v', e' = .returned v' ∧ OwnL h w' base 37 v' (xs.take i ++ [e] ++ xs.drop i) ∧ w.grownBy w' (some g0) := by
  have hEl : E.length = 7 := Enc.len hE
  have HE := hid hE
  have hE1 := Enc.one hE
  obtain ⟨cells, hw, R⟩ := O.own
  obtain ⟨ti, z, hti, hz, hts, htb, hzc⟩ := ty_Inode.info
  rcases hw.2 with ⟨he, hn⟩ | ⟨g0', cap', cur, he, hb0, hg0, hlc, hcm, hcs, htk⟩
  · cases he
  · cases he
    have hcl : cells.length = xs.length * 7 := by have := hw.1; rw [show Enc.sz Inode = 7 from rfl] at this; omega
    have hcs : cur.size = cap * 7 := by have := hcs; rw [show Enc.sz Inode = 7 from rfl] at this; omega
    have htk : cur.toList.take (xs.length * 7) = cells := by have := htk; rw [show xs.length * Enc.sz Inode = xs.length * 7 from by show xs.length * 7 = _; omega] at this; exact this
    have hts : ti.size = 7 := hts
    have hgv := hb
    have hap0 := fun ty => run_append_zeros (P := Try.prog) w 28 3 ty 37 ti z .i64 .i64 ty_Inode.und (by rfl) hti hz ⟨g0, 0, none⟩ i cap (xs.length + 1 - i) (cells.take (i * 7)) (by rw [List.length_take, hcl, hts]; omega)
      (fun j v hj => by
        rw [Addr.add_lit, cell_of_row _ _ _ _ _ _ hg0, Nat.zero_add, ← Array.getElem?_toList]
        rw [← htk, List.take_take, List.getElem?_take] at hj
        split at hj
        · exact hj
        · cases hj) (by omega) (by omega) (by omega) (by omega) (by omega)
    have e1 : i + (xs.length + 1 - i) = xs.length + 1 := by omega
    have e2 : ((xs.length + 1 - i : Nat) : Int) = (xs.length : Int) + 1 - i := by omega
    rw [e1, e2] at hap0
    obtain ⟨g1, hg1⟩ : ∃ g1, g1 = w.heap.size := ⟨_, rfl⟩
    obtain ⟨C, hC⟩ : ∃ C, C = grownCap w (xs.length + 1) cap 37 := ⟨_, rfl⟩
    have hC1 : xs.length + 1 ≤ C := by rw [hC]; exact grownCap_ge _ _ _ _
    have hC2 : C ≤ maxLen := by rw [hC]; exact grownCap_le_maxLen _ _ _ _ (by unfold maxLen; omega)
    have hC3 : C ≤ 9223372036854775807 := by unfold maxLen at hC2; omega
    obtain ⟨cur0, hc0⟩ : ∃ cur0, cur0 = (cells.take (i * 7)).toArray ++ Builtin.zeroCells z.cells (xs.length + 1 - i) ++ Builtin.zeroCells z.cells (C - (xs.length + 1)) := ⟨_, rfl⟩
    rw [← hC, ← hg1, ← hc0] at hap0
    have hzs : z.cells.size = 7 := hzc
    have hcs0 : cur0.size = C * 7 := by
      rw [hc0]; simp only [Array.size_append, List.size_toArray, size_zeroCells, hzs, List.length_take, hcl]; omega
    have hpre : ∀ j, j < i * 7 → cur0[j]? = cells[j]? := fun j hj => by
      rw [hc0, Array.append_assoc, Array.getElem?_append_left (by simp; omega)]
      simp [hj]
    obtain ⟨WA, hWA⟩ : ∃ WA, WA = w.drew.alloc (.cells cur0 37) := ⟨_, rfl⟩
    have ka : WA.heap[g1]? = some (.cells cur0 37 (0, 0)) := by rw [hWA, hg1]; exact heap_alloc_new w.drew _
    rw [← hWA] at hap0
    have GA : w.grownBy WA (some g0) := by rw [hWA]; exact ⟨rfl, rfl, rfl, by simp, fun k hk _ => heap_alloc_old w.drew _ hk⟩
    have hlv : gv < w.heap.size := (Array.getElem?_eq_some_iff.1 hb).1
    have hlg : g0 < w.heap.size := O.lt g0 rfl |>.2
    have gva : WA.heap[gv]? = some (.cells E.toArray 37 (0, 0)) := by rw [hWA]; rw [heap_alloc_old w.drew _ hlv]; exact hgv
    have g0a : WA.heap[g0]? = some (.cells cur 37 (0, 0)) := by rw [hWA]; rw [heap_alloc_old w.drew _ hlg]; exact hg0
    have hp1 : ∀ ty n1 dc, Nat.min 1 n1 = 1 → (Builtin.copy_ #[28, 28] ty #[.slice (some ⟨g1, i * 7, none⟩) n1 dc, .slice (some ⟨gv, 0, none⟩) 1 1]).run Try.prog WA = .ok (goInt (Nat.min 1 n1)) (WA.setCells g1 (i * 7) E) := fun ty n1 dc hm =>
      run_copy_any WA _ _ ty 37 7 g1 (i * 7) n1 dc ⟨gv, 0, none⟩ 1 1 E ty_Inode.und (by rfl) (by rw [hm, hEl])
        (fun j v hj => by
          rw [Addr.add_lit, cell_of_row _ _ _ _ _ _ gva]
          simpa using hj)
        (fun j hj => by
          rw [hEl] at hj
          rw [cell_of_row _ _ _ _ _ _ ka, Array.getElem?_eq_getElem (by omega)]; rfl)
        (fun j hj => by simp [World.frozen?, ka])
        hE1
    obtain ⟨WB, hWB⟩ : ∃ WB, WB = WA.setCells g1 (i * 7) E := ⟨_, rfl⟩
    obtain ⟨cur1, k1, k2, k3⟩ := heap_setCells g1 37 (0, 0) E (i * 7) WA cur0 ka
    rw [hEl] at k3
    have GB : w.grownBy WB (some g0) := by rw [hWB]; exact grown_new' g1 (by omega) _ _ _ GA
    have g0b : WB.heap[g0]? = some (.cells cur 37 (0, 0)) := by
      rw [hWB, setCells_ne' (by omega)]; exact g0a
    rw [← hWB] at k1 hp1
    have hp2 : ∀ ty n1 dc n2 sc, Nat.min n2 n1 = xs.length - i → (Builtin.copy_ #[28, 28] ty #[.slice (some ⟨g1, (i + 1) * 7, none⟩) n1 dc, .slice (some ⟨g0, i * 7, none⟩) n2 sc]).run Try.prog WB.drew = .ok (goInt (Nat.min n2 n1)) (WB.drew.setCells g1 ((i + 1) * 7) (cells.drop (i * 7))) := fun ty n1 dc n2 sc hm =>
      run_copy_any WB.drew _ _ ty 37 7 g1 ((i + 1) * 7) n1 dc ⟨g0, i * 7, none⟩ n2 sc (cells.drop (i * 7)) ty_Inode.und (by rfl) (by rw [hm, List.length_drop, hcl]; omega)
        (fun j v hj => by
          rw [Addr.add_lit, cell_of_row WB.drew _ _ _ _ _ g0b, ← Array.getElem?_toList]
          rw [List.getElem?_drop, ← htk, List.getElem?_take] at hj
          split at hj
          · exact hj
          · cases hj)
        (fun j hj => by
          rw [List.length_drop, hcl] at hj
          rw [cell_of_row WB.drew _ _ _ _ _ k1, Array.getElem?_eq_getElem (by omega)]; rfl)
        (fun j hj => by
          have k1' : WB.drew.heap[g1]? = some (.cells cur1 37 (0, 0)) := k1
          simp [World.frozen?, k1'])
        (fun v hv => R.one v (List.mem_of_mem_drop hv))
    obtain ⟨cur2, m1, m2, m3⟩ := heap_setCells g1 37 (0, 0) (cells.drop (i * 7)) ((i + 1) * 7) WB.drew cur1 k1
    have G2 := hid (grown_new' g1 (by omega) (cells.drop (i * 7)) ((i + 1) * 7) WB.drew ⟨GB.os, GB.tape, GB.output, GB.size, GB.block⟩)
    have SP := splice_In (cells := cells) (E := E) (i := i) (n := xs.length) hEl hcl (by omega) (cur := cur0) (cur2 := cur2) (by omega) (by omega) hpre
      (fun j hj => by
        rw [m3 j (by omega), List.length_drop, hcl, show (xs.length - i) * 7 = xs.length * 7 - i * 7 by omega]
        by_cases h1 : i * 7 ≤ j ∧ j < i * 7 + 7
        · rw [if_neg (by omega), if_pos h1, k3 j (by omega), if_pos h1]
        · rw [if_neg h1]
          by_cases h2 : (i + 1) * 7 ≤ j ∧ j < (i + 1) * 7 + (xs.length * 7 - i * 7)
          · rw [if_pos h2, if_pos h2, List.getElem?_drop]; congr 1; omega
          · rw [if_neg h2, if_neg h2, k3 j (by omega), if_neg h1])
    have OF := hid (show OwnL h (WB.drew.setCells g1 ((i + 1) * 7) (cells.drop (i * 7))) base 37 (.slice (some ⟨g1, 0, none⟩) (xs.length + 1) C) (xs.take i ++ [e] ++ xs.drop i) from by
      refine ⟨⟨cells.take (i * 7) ++ E ++ cells.drop (i * 7), ⟨?_, .inr ⟨g1, C, cur2, ?_, by omega, m1, ?_, hC2, by rw [m2, k2, hcs0]; show _ = C * 7; omega, ?_⟩⟩, reps_ins_In R HE.out i⟩, fun g hg => ?_⟩
      · simp [Enc.sz, hEl]; omega
      · simp; omega
      · simp; omega
      · rw [← SP]; congr 1; simp [Enc.sz]; omega
      · cases hg; show h g1 = none; exact hs.none (by omega))
    have hm1 : Nat.min 1 (xs.length + 1 - i) = 1 := by simp only [Nat.min_def]; split <;> omega
    have hm2 : Nat.min (xs.length - i) (xs.length - i) = xs.length - i := by simp only [Nat.min_def]; split <;> omega
    have hm3 : Nat.min (xs.length - i) (xs.length + 1 - (i + 1)) = xs.length - i := by simp only [Nat.min_def]; split <;> omega
    have hq1 := fun ty dc => hp1 ty _ dc hm1
    have hq2 := fun ty dc sc => hp2 ty _ dc _ sc hm2
    have hq3 := fun ty dc sc => hp2 ty _ dc _ sc hm3
    clear hg1 hp1 hp2 SP R O hw hcl hcs htk hgv hc0 hzs hcs0 hpre hWA ka GA gva g0a hWB k1 k2 k3 GB g0b m1 m2 m3 hg0 hC2 hC hcm hti hz hts htb hzc hlv hlg hb hE hE1
    have hz2 : ¬ ((i : Int) = (xs.length : Int)) := by omega
    have hb1 : (0 : Int) ≤ (i : Int) + 1 := by omega
    have hr1 : (cap : Int) < (xs.length : Int) + 1 := by omega
    have htn : ((i : Int) + 1).toNat = i + 1 := by omega
    have hb2 : ¬ (C = i + 1) := by omega
    have hb4 : ¬ (cap = i) := by omega
    have hb6 : ¬ (C = i) := by omega
    have hb3 : (i : Int) ≤ (xs.length : Int) + 1 := by omega
    have hb5 : (i : Int) + 1 ≤ (xs.length : Int) + 1 := by omega
    have hb7 : (i : Int) ≤ (cap : Int) := by omega
    have hw1 : IntKind.i64.wrap ((i : Int) + 1) = (i : Int) + 1 := by rw [IntKind.wrap_i64]; omega
    have hw2 : IntKind.i64.wrap ((xs.length : Int) + 1) = (xs.length : Int) + 1 := by rw [IntKind.wrap_i64]; omega
    have hw3 : IntKind.i64.wrap ((xs.length : Int) + 1 - (i : Int)) = (xs.length : Int) + 1 - (i : Int) := by rw [IntKind.wrap_i64]; omega
    go_enter Try.func75, Try.ntmps75
    go_wp2_with (at_builtin; refine Lib.wpList_append_run _ rfl _ _ _ _ rfl _ _ rfl rfl _ _ (hap0 _) ?_)
    go_wp2
    go_region
    go_wp2
    go_ret
    exact ⟨_, rfl, OF.out, G2.out⟩
theorem insert_In (xs : List Inode) (i : Nat) (hi : i ≤ xs.length) (e : Inode) (E : List Value) (hbig : xs.length ≤ 1000) (h : FH) (hE : Enc.rep h E e) (w : World) (hs : Sits h w) (base : Nat) (hbase : base ≤ w.heap.size) (v : Value) (O : OwnL h w base 37 v xs) (gv : Nat) (hb : w.heap[gv]? = some (.cells E.toArray 37 (0, 0))) (hne : v.ownBlock ≠ some gv) :
    Calls Try.prog 75 #[v, .int .i64 i, .slice (some ⟨gv, 0, none⟩) 1 1] w fun e' w' => ∃ v', e' = .returned v' ∧ OwnL h w' base 37 v' (xs.take i ++ [e] ++ xs.drop i) ∧ w.grownBy w' v.ownBlock := by
  by_cases he : i = xs.length
  · subst he
    have K := insend_In xs e E hbig h hE w hs base hbase v O gv hb
    simpa using K
  · have hlt : i < xs.length := by omega
    obtain ⟨cells, hw, _⟩ := O.own
    rcases hw.2 with ⟨rfl, hn⟩ | ⟨g0, cap, cur, rfl, _⟩
    · omega
    · by_cases hr : xs.length + 1 ≤ cap
      · exact insshift_In xs i hlt e E hbig h hE w hs base hbase g0 cap hr O gv hb (fun e => hne (by rw [e]; rfl))
      · exact insgrow_In xs i hlt e E hbig h hE w hs base hbase g0 cap (by omega) O gv hb

/-! ### slices.Insert at Int -/
theorem splice_Z {cells E : List Value} {i n : Nat} (hE : E.length = 1) (hc : cells.length = n) (hi : i ≤ n) {cur cur2 : Array Value} (hsz : n + 1 ≤ cur.size) (hs2 : cur2.size = cur.size)
    (hpre : ∀ j, j < i → cur[j]? = cells[j]?) (hget : ∀ j, j < cur.size → cur2[j]? = if i ≤ j ∧ j < i + 1 then E[j - i]? else if i + 1 ≤ j ∧ j < i + 1 + (n - i) then cells[j - 1]? else cur[j]?) :
    cur2.toList.take (n + 1) = cells.take (i) ++ E ++ cells.drop (i) := by
  apply List.ext_getElem?
  intro j
  rw [List.getElem?_take]
  by_cases hj : j < n + 1
  · rw [if_pos hj, Array.getElem?_toList, hget j (by omega)]
    by_cases h1 : j < i
    · rw [if_neg (by omega), if_neg (by omega), hpre j h1, List.append_assoc, List.getElem?_append_left (by simp; omega), List.getElem?_take, if_pos h1]
    · by_cases h2 : j < i + 1
      · rw [if_pos (by omega), List.append_assoc, List.getElem?_append_right (by simp; omega), List.getElem?_append_left (by simp; omega)]
        congr 1
        simp; omega
      · rw [if_neg (by omega), if_pos (by omega), List.getElem?_append_right (by simp; omega), List.getElem?_drop]
        congr 1
        simp; omega
  · rw [if_neg hj, List.getElem?_eq_none (by simp; omega)]
theorem reps_ins_Z {h : FH} {cells E : List Value} {xs : List Int} {e : Int} (R : Reps h cells xs) (hE : Enc.rep h E e) (i : Nat) : Reps h (cells.take (i) ++ E ++ cells.drop (i)) (xs.take i ++ [e] ++ xs.drop i) := by
  have h1 := R.take i
  have h2 := R.drop i
  rw [show i * Enc.sz Int = i from by show i * 1 = _; omega] at h1 h2
  exact (h1.append (Reps.single hE)).append h2
set_option maxHeartbeats 2000000 in
set_option maxRecDepth 100000 in
theorem insend_Z (xs : List Int) (e : Int) (E : List Value) (hbig : xs.length ≤ 1000) (h : FH) (hE : Enc.rep h E e) (w : World) (hs : Sits h w) (base : Nat) (hbase : base ≤ w.heap.size) (v : Value) (O : OwnL h w base 3 v xs) (gv : Nat) (hb : w.heap[gv]? = some (.cells E.toArray 3 (0, 0))) :
    Calls Try.prog 79 #[v, .int .i64 xs.length, .slice (some ⟨gv, 0, none⟩) 1 1] w fun e' w' => ∃ v', e' = .returned v' ∧ OwnL h w' base 3 v' (xs ++ [e]) ∧ w.grownBy w' v.ownBlock := by
  have OO := hid O
  have HE := hid hE
  have HB := hid (show (xs.length + 1) * 8 ≤ 140737488355328 by omega)
  have HC := hid (cells_of_box hb)
  obtain ⟨cells, hw, _⟩ := O.own
  rcases hw.2 with ⟨rfl, hn⟩ | ⟨g0, cap, cur, rfl, hb0, hg0, hlc, hcm, hcs, htk⟩
  · rw [hn] at hw
    have HN := hid hn
    clear hw O hb hE
    rw [hn]
    go_enter Try.func79, Try.ntmps79
    go_wp2_with (at_builtin; refine wpList_append1At rfl _ _ 29 rfl base 3 8 ty_Int _ xs rfl OO.out hs gv rfl E e HE.out HC.out HB.out (by decide) hbase ?_)
    intro v3 w6 O3 hg3
    have O3 := hid O3
    have hg3 := hid hg3
    go_wp2
    go_ret
    exact ⟨_, rfl, O3.out, hg3.out⟩
  · clear hw O hb hg0 hcs htk hE
    unfold maxLen at hcm
    go_enter Try.func79, Try.ntmps79
    go_wp2_with (at_builtin; refine wpList_append1At rfl _ _ 29 rfl base 3 8 ty_Int _ xs rfl OO.out hs gv rfl E e HE.out HC.out HB.out (by decide) hbase ?_)
    all_goals
      intro v3 w6 O3 hg3
      have O3 := hid O3
      have hg3 := hid hg3
      go_wp2
      go_ret
      exact ⟨_, rfl, O3.out, hg3.out⟩
set_option maxHeartbeats 2000000 in
set_option maxRecDepth 100000 in
theorem insshift_Z (xs : List Int) (i : Nat) (hi : i < xs.length) (e : Int) (E : List Value) (hbig : xs.length ≤ 1000) (h : FH) (hE : Enc.rep h E e) (w : World) (hs : Sits h w) (base : Nat) (hbase : base ≤ w.heap.size) (g0 cap : Nat) (hroom : xs.length + 1 ≤ cap) (O : OwnL h w base 3 (.slice (some ⟨g0, 0, none⟩) xs.length cap) xs) (gv : Nat) (hb : w.heap[gv]? = some (.cells E.toArray 3 (0, 0))) (hne : gv ≠ g0) :
    Calls Try.prog 79 #[.slice (some ⟨g0, 0, none⟩) xs.length cap, .int .i64 i, .slice (some ⟨gv, 0, none⟩) 1 1] w fun e' w' => ∃ v', e' = .returned v' ∧ OwnL h w' base 3 v' (xs.take i ++ [e] ++ xs.drop i) ∧ w.grownBy w' (some g0) := by
  have OO := hid O
  have hEl : E.length = 1 := Enc.len hE
  have HE := hid hE
  have hE1 := Enc.one hE
  obtain ⟨cells, hw, R⟩ := O.own
  rcases hw.2 with ⟨he, hn⟩ | ⟨g0', cap', cur, he, hb0, hg0, hlc, hcm, hcs, htk⟩
  · cases he
  · cases he
    have hcl : cells.length = xs.length := by have := hw.1; rw [show Enc.sz Int = 1 from rfl] at this; omega
    have hcs : cur.size = cap := by have := hcs; rw [show Enc.sz Int = 1 from rfl] at this; omega
    have htk : cur.toList.take (xs.length) = cells := by have := htk; rw [show xs.length * Enc.sz Int = xs.length from by show xs.length * 1 = _; omega] at this; exact this
    have hcm' : cap ≤ 9223372036854775807 := by unfold maxLen at hcm; omega
    have hgv := hb
    have hov : ∀ k lb cb, (callFunc 107 #[.slice (some ⟨gv, 0, none⟩) 1 1, .slice (some ⟨g0, k, none⟩) lb cb]).run Try.prog w = .ok (.value (.bool false)) w := fun k lb cb => by
      rw [run_callFunc_extern Try.func107 (by kernel_rfl) (by kernel_rfl) (by kernel_rfl) (e := Extern.SlicesOverlaps.overlaps #[29, 29] #[4]) (by kernel_rfl),
        Lib.run_overlaps_apart w 29 4 3 ty_Int.und 1 (fun _ => rfl) ⟨gv, 0, none⟩ ⟨g0, k, none⟩ 1 1 lb cb hne 3 3 1 (cap) (by unfold World.shape?; rw [hgv]; simp [hEl]) (by unfold World.shape?; rw [hg0]; simp [hcs]) (by omega) (by simp [World.frozen?, hgv]) (by simp [World.frozen?, hgv])]
      rfl
    have hz2 : ¬ ((i : Int) = (xs.length : Int)) := by omega
    have hb1 : (0 : Int) ≤ (i : Int) + 1 := by omega
    have hr1 : ¬ ((cap : Int) < (xs.length : Int) + 1) := by omega
    have hr2 : (xs.length : Int) + 1 ≤ (cap : Int) := by omega
    have htn : ((i : Int) + 1).toNat = i + 1 := by omega
    have htn2 : ((xs.length : Int) + 1).toNat = xs.length + 1 := by omega
    have hb2 : ¬ (cap = i + 1) := by omega
    have hb3 : (i : Int) ≤ (xs.length : Int) + 1 := by omega
    have hb4 : ¬ (cap = i) := by omega
    have hb5 : (i : Int) + 1 ≤ (xs.length : Int) + 1 := by omega
    have hw1 : IntKind.i64.wrap ((i : Int) + 1) = (i : Int) + 1 := by rw [IntKind.wrap_i64]; omega
    clear hw hE
    have hcp1 : ∀ (W : World), (∀ x, W.cell? x = w.cell? x) → (∀ x, W.frozen? x = w.frozen? x) → ∀ ty n1 dc n2 sc, Nat.min n2 n1 = xs.length - i → (Builtin.copy_ #[29, 29] ty #[.slice (some ⟨g0, i + 1, none⟩) n1 dc, .slice (some ⟨g0, i, none⟩) n2 sc]).run Try.prog W = .ok (goInt (Nat.min n2 n1)) (W.setCells g0 (i + 1) (cells.drop (i))) := fun W hWc hWf ty n1 dc n2 sc hm =>
      run_copy_any W _ _ ty 3 1 g0 (i + 1) n1 dc ⟨g0, i, none⟩ n2 sc (cells.drop (i)) ty_Int.und (by rfl) (by rw [hm, List.length_drop, hcl]; omega)
        (fun j v hj => by
          rw [Addr.add_lit, hWc, cell_of_row _ _ _ _ _ _ hg0, ← Array.getElem?_toList]
          rw [List.getElem?_drop, ← htk, List.getElem?_take] at hj
          split at hj
          · exact hj
          · cases hj)
        (fun j hj => by
          rw [List.length_drop, hcl] at hj
          rw [hWc, cell_of_row _ _ _ _ _ _ hg0, Array.getElem?_eq_getElem (by omega)]; rfl)
        (fun j hj => by rw [hWf]; simp [World.frozen?, hg0])
        (fun v hv => R.one v (List.mem_of_mem_drop hv))
    have hm1 : Nat.min (xs.length + 1 - i) (xs.length - i) = xs.length - i := by simp only [Nat.min_def]; split <;> omega
    have hm2 : Nat.min (xs.length + 1 - i) (xs.length + 1 - (i + 1)) = xs.length - i := by simp only [Nat.min_def]; split <;> omega
    obtain ⟨W1, hW1⟩ : ∃ W1, W1 = w.drew.setCells g0 (i + 1) (cells.drop (i)) := ⟨_, rfl⟩
    obtain ⟨cur1, k1, k2, k3⟩ := heap_setCells g0 3 (0, 0) (cells.drop (i)) (i + 1) w.drew cur hg0
    rw [← hW1] at k1
    have G1 : w.grownBy W1 (some g0) := by rw [hW1]; exact grown_setCells' g0 _ _ _ ⟨rfl, rfl, rfl, Nat.le_refl _, fun _ _ _ => rfl⟩
    have gb : W1.heap[gv]? = some (.cells E.toArray 3 (0, 0)) := by
      rw [G1.block gv (Array.getElem?_eq_some_iff.1 hb).1 (by simpa using hne)]; exact hb
    have hq1 := fun ty dc sc => hcp1 w.drew (fun _ => rfl) (fun _ => rfl) ty _ dc _ sc hm1
    have hq2 := fun ty dc sc => hcp1 w.drew (fun _ => rfl) (fun _ => rfl) ty _ dc _ sc hm2
    rw [← hW1] at hq1 hq2
    have hq3 : ∀ ty dc, (Builtin.copy_ #[29, 29] ty #[.slice (some ⟨g0, i, none⟩) (xs.length + 1 - i) dc, .slice (some ⟨gv, 0, none⟩) 1 1]).run Try.prog W1 = .ok (goInt (Nat.min 1 (xs.length + 1 - i))) (W1.setCells g0 (i) E) := fun ty dc =>
      run_copy_any W1 _ _ ty 3 1 g0 (i) _ dc ⟨gv, 0, none⟩ 1 1 E ty_Int.und (by rfl) (by rw [hEl]; simp only [Nat.min_def]; split <;> first | rfl | omega)
        (fun j v hj => by
          rw [Addr.add_lit, cell_of_row _ _ _ _ _ _ gb]
          simpa using hj)
        (fun j hj => by
          rw [hEl] at hj
          rw [cell_of_row _ _ _ _ _ _ k1, Array.getElem?_eq_getElem (by rw [k2]; omega)]; rfl)
        (fun j hj => by simp [World.frozen?, k1])
        hE1
    obtain ⟨cur2, m1, m2, m3⟩ := heap_setCells g0 3 (0, 0) E (i) W1 cur1 k1
    rw [hEl] at m3
    have G2 := hid (grown_setCells' g0 E (i) _ G1)
    have SP := splice_Z (cells := cells) (E := E) (i := i) (n := xs.length) hEl hcl (by omega) (cur := cur) (cur2 := cur2) (by omega) (by omega)
      (fun j hj => by
        rw [← htk, List.getElem?_take, if_pos (show j < xs.length by omega), Array.getElem?_toList])
      (fun j hj => by
        rw [m3 j (by omega)]
        by_cases h1 : i ≤ j ∧ j < i + 1
        · rw [if_pos h1, if_pos h1]
        · rw [if_neg h1, if_neg h1, k3 j hj]
          rw [List.length_drop, hcl, show (xs.length - i) = xs.length - i by omega]
          by_cases h2 : i + 1 ≤ j ∧ j < i + 1 + (xs.length - i)
          · rw [if_pos h2, if_pos h2, List.getElem?_drop]; congr 1; omega
          · rw [if_neg h2, if_neg h2])
    have OF := hid (show OwnL h (W1.setCells g0 (i) E) base 3 (.slice (some ⟨g0, 0, none⟩) (xs.length + 1) cap) (xs.take i ++ [e] ++ xs.drop i) from by
      refine ⟨⟨cells.take (i) ++ E ++ cells.drop (i), ⟨?_, .inr ⟨g0, cap, cur2, ?_, hb0, m1, ?_, hcm, by rw [m2, k2, hcs]; show _ = cap * 1; omega, ?_⟩⟩, reps_ins_Z R HE.out i⟩, O.free⟩
      · simp [Enc.sz, hEl]; omega
      · simp; omega
      · simp; omega
      · rw [← SP]; congr 1; simp [Enc.sz]; omega)
    clear hcp1 hW1 k1 k2 k3 G1 gb m1 m2 m3 SP R OO hg0 htk hcm O hgv hE1 hb
    go_enter Try.func79, Try.ntmps79
    go_wp2_with (simp only [hov])
    go_region
    go_wp2
    go_ret
    exact ⟨_, rfl, OF.out, G2.out⟩
set_option maxHeartbeats 2000000 in
set_option maxRecDepth 100000 in
theorem insgrow_Z (xs : List Int) (i : Nat) (hi : i < xs.length) (e : Int) (E : List Value) (hbig : xs.length ≤ 1000) (h : FH) (hE : Enc.rep h E e) (w : World) (hs : Sits h w) (base : Nat) (hbase : base ≤ w.heap.size) (g0 cap : Nat) (hroom : cap < xs.length + 1) (O : OwnL h w base 3 (.slice (some ⟨g0, 0, none⟩) xs.length cap) xs) (gv : Nat) (hb : w.heap[gv]? = some (.cells E.toArray 3 (0, 0))) :
    Calls Try.prog 79 #[.slice (some ⟨g0, 0, none⟩) xs.length cap, .int .i64 i, .slice (some ⟨gv, 0, none⟩) 1 1] w fun e' w' => ∃ v', e' = .returned v' ∧ OwnL h w' base 3 v' (xs.take i ++ [e] ++ xs.drop i) ∧ w.grownBy w' (some g0) := by
  have hEl : E.length = 1 := Enc.len hE
  have HE := hid hE
  have hE1 := Enc.one hE
  obtain ⟨cells, hw, R⟩ := O.own
  obtain ⟨ti, z, hti, hz, hts, htb, hzc⟩ := ty_Int.info
  rcases hw.2 with ⟨he, hn⟩ | ⟨g0', cap', cur, he, hb0, hg0, hlc, hcm, hcs, htk⟩
  · cases he
  · cases he
    have hcl : cells.length = xs.length := by have := hw.1; rw [show Enc.sz Int = 1 from rfl] at this; omega
    have hcs : cur.size = cap := by have := hcs; rw [show Enc.sz Int = 1 from rfl] at this; omega
    have htk : cur.toList.take (xs.length) = cells := by have := htk; rw [show xs.length * Enc.sz Int = xs.length from by show xs.length * 1 = _; omega] at this; exact this
    have hts : ti.size = 1 := hts
    have hgv := hb
    have hap0 := fun ty => run_append_zeros (P := Try.prog) w 29 3 ty 3 ti z .i64 .i64 ty_Int.und (by rfl) hti hz ⟨g0, 0, none⟩ i cap (xs.length + 1 - i) (cells.take (i)) (by rw [List.length_take, hcl, hts]; omega)
      (fun j v hj => by
        rw [Addr.add_lit, cell_of_row _ _ _ _ _ _ hg0, Nat.zero_add, ← Array.getElem?_toList]
        rw [← htk, List.take_take, List.getElem?_take] at hj
        split at hj
        · exact hj
        · cases hj) (by omega) (by omega) (by omega) (by omega) (by omega)
    have e1 : i + (xs.length + 1 - i) = xs.length + 1 := by omega
    have e2 : ((xs.length + 1 - i : Nat) : Int) = (xs.length : Int) + 1 - i := by omega
    rw [e1, e2] at hap0
    obtain ⟨g1, hg1⟩ : ∃ g1, g1 = w.heap.size := ⟨_, rfl⟩
    obtain ⟨C, hC⟩ : ∃ C, C = grownCap w (xs.length + 1) cap 3 := ⟨_, rfl⟩
    have hC1 : xs.length + 1 ≤ C := by rw [hC]; exact grownCap_ge _ _ _ _
    have hC2 : C ≤ maxLen := by rw [hC]; exact grownCap_le_maxLen _ _ _ _ (by unfold maxLen; omega)
    have hC3 : C ≤ 9223372036854775807 := by unfold maxLen at hC2; omega
    obtain ⟨cur0, hc0⟩ : ∃ cur0, cur0 = (cells.take (i)).toArray ++ Builtin.zeroCells z.cells (xs.length + 1 - i) ++ Builtin.zeroCells z.cells (C - (xs.length + 1)) := ⟨_, rfl⟩
    rw [← hC, ← hg1, ← hc0] at hap0
    have hzs : z.cells.size = 1 := hzc
    have hcs0 : cur0.size = C := by
      rw [hc0]; simp only [Array.size_append, List.size_toArray, size_zeroCells, hzs, List.length_take, hcl]; omega
    have hpre : ∀ j, j < i → cur0[j]? = cells[j]? := fun j hj => by
      rw [hc0, Array.append_assoc, Array.getElem?_append_left (by simp; omega)]
      simp [hj]
    obtain ⟨WA, hWA⟩ : ∃ WA, WA = w.drew.alloc (.cells cur0 3) := ⟨_, rfl⟩
    have ka : WA.heap[g1]? = some (.cells cur0 3 (0, 0)) := by rw [hWA, hg1]; exact heap_alloc_new w.drew _
    rw [← hWA] at hap0
    have GA : w.grownBy WA (some g0) := by rw [hWA]; exact ⟨rfl, rfl, rfl, by simp, fun k hk _ => heap_alloc_old w.drew _ hk⟩
    have hlv : gv < w.heap.size := (Array.getElem?_eq_some_iff.1 hb).1
    have hlg : g0 < w.heap.size := O.lt g0 rfl |>.2
    have gva : WA.heap[gv]? = some (.cells E.toArray 3 (0, 0)) := by rw [hWA]; rw [heap_alloc_old w.drew _ hlv]; exact hgv
    have g0a : WA.heap[g0]? = some (.cells cur 3 (0, 0)) := by rw [hWA]; rw [heap_alloc_old w.drew _ hlg]; exact hg0
    have hp1 : ∀ ty n1 dc, Nat.min 1 n1 = 1 → (Builtin.copy_ #[29, 29] ty #[.slice (some ⟨g1, i, none⟩) n1 dc, .slice (some ⟨gv, 0, none⟩) 1 1]).run Try.prog WA = .ok (goInt (Nat.min 1 n1)) (WA.setCells g1 (i) E) := fun ty n1 dc hm =>
      run_copy_any WA _ _ ty 3 1 g1 (i) n1 dc ⟨gv, 0, none⟩ 1 1 E ty_Int.und (by rfl) (by rw [hm, hEl])
        (fun j v hj => by
          rw [Addr.add_lit, cell_of_row _ _ _ _ _ _ gva]
          simpa using hj)
        (fun j hj => by
          rw [hEl] at hj
          rw [cell_of_row _ _ _ _ _ _ ka, Array.getElem?_eq_getElem (by omega)]; rfl)
        (fun j hj => by simp [World.frozen?, ka])
        hE1
    obtain ⟨WB, hWB⟩ : ∃ WB, WB = WA.setCells g1 (i) E := ⟨_, rfl⟩
    obtain ⟨cur1, k1, k2, k3⟩ := heap_setCells g1 3 (0, 0) E (i) WA cur0 ka
    rw [hEl] at k3
    have GB : w.grownBy WB (some g0) := by rw [hWB]; exact grown_new' g1 (by omega) _ _ _ GA
    have g0b : WB.heap[g0]? = some (.cells cur 3 (0, 0)) := by
      rw [hWB, setCells_ne' (by omega)]; exact g0a
    rw [← hWB] at k1 hp1
    have hp2 : ∀ ty n1 dc n2 sc, Nat.min n2 n1 = xs.length - i → (Builtin.copy_ #[29, 29] ty #[.slice (some ⟨g1, i + 1, none⟩) n1 dc, .slice (some ⟨g0, i, none⟩) n2 sc]).run Try.prog WB.drew = .ok (goInt (Nat.min n2 n1)) (WB.drew.setCells g1 (i + 1) (cells.drop (i))) := fun ty n1 dc n2 sc hm =>
      run_copy_any WB.drew _ _ ty 3 1 g1 (i + 1) n1 dc ⟨g0, i, none⟩ n2 sc (cells.drop (i)) ty_Int.und (by rfl) (by rw [hm, List.length_drop, hcl]; omega)
        (fun j v hj => by
          rw [Addr.add_lit, cell_of_row WB.drew _ _ _ _ _ g0b, ← Array.getElem?_toList]
          rw [List.getElem?_drop, ← htk, List.getElem?_take] at hj
          split at hj
          · exact hj
          · cases hj)
        (fun j hj => by
          rw [List.length_drop, hcl] at hj
          rw [cell_of_row WB.drew _ _ _ _ _ k1, Array.getElem?_eq_getElem (by omega)]; rfl)
        (fun j hj => by
          have k1' : WB.drew.heap[g1]? = some (.cells cur1 3 (0, 0)) := k1
          simp [World.frozen?, k1'])
        (fun v hv => R.one v (List.mem_of_mem_drop hv))
    obtain ⟨cur2, m1, m2, m3⟩ := heap_setCells g1 3 (0, 0) (cells.drop (i)) (i + 1) WB.drew cur1 k1
    have G2 := hid (grown_new' g1 (by omega) (cells.drop (i)) (i + 1) WB.drew ⟨GB.os, GB.tape, GB.output, GB.size, GB.block⟩)
    have SP := splice_Z (cells := cells) (E := E) (i := i) (n := xs.length) hEl hcl (by omega) (cur := cur0) (cur2 := cur2) (by omega) (by omega) hpre
      (fun j hj => by
        rw [m3 j (by omega), List.length_drop, hcl, show (xs.length - i) = xs.length - i by omega]
        by_cases h1 : i ≤ j ∧ j < i + 1
        · rw [if_neg (by omega), if_pos h1, k3 j (by omega), if_pos h1]
        · rw [if_neg h1]
          by_cases h2 : i + 1 ≤ j ∧ j < i + 1 + (xs.length - i)
          · rw [if_pos h2, if_pos h2, List.getElem?_drop]; congr 1; omega
          · rw [if_neg h2, if_neg h2, k3 j (by omega), if_neg h1])
    have OF := hid (show OwnL h (WB.drew.setCells g1 (i + 1) (cells.drop (i))) base 3 (.slice (some ⟨g1, 0, none⟩) (xs.length + 1) C) (xs.take i ++ [e] ++ xs.drop i) from by
      refine ⟨⟨cells.take (i) ++ E ++ cells.drop (i), ⟨?_, .inr ⟨g1, C, cur2, ?_, by omega, m1, ?_, hC2, by rw [m2, k2, hcs0]; show _ = C * 1; omega, ?_⟩⟩, reps_ins_Z R HE.out i⟩, fun g hg => ?_⟩
      · simp [Enc.sz, hEl]; omega
      · simp; omega
      · simp; omega
      · rw [← SP]; congr 1; simp [Enc.sz]; omega
      · cases hg; show h g1 = none; exact hs.none (by omega))
    have hm1 : Nat.min 1 (xs.length + 1 - i) = 1 := by simp only [Nat.min_def]; split <;> omega
    have hm2 : Nat.min (xs.length - i) (xs.length - i) = xs.length - i := by simp only [Nat.min_def]; split <;> omega
    have hm3 : Nat.min (xs.length - i) (xs.length + 1 - (i + 1)) = xs.length - i := by simp only [Nat.min_def]; split <;> omega
    have hq1 := fun ty dc => hp1 ty _ dc hm1
    have hq2 := fun ty dc sc => hp2 ty _ dc _ sc hm2
    have hq3 := fun ty dc sc => hp2 ty _ dc _ sc hm3
    clear hg1 hp1 hp2 SP R O hw hcl hcs htk hgv hc0 hzs hcs0 hpre hWA ka GA gva g0a hWB k1 k2 k3 GB g0b m1 m2 m3 hg0 hC2 hC hcm hti hz hts htb hzc hlv hlg hb hE hE1
    have hz2 : ¬ ((i : Int) = (xs.length : Int)) := by omega
    have hb1 : (0 : Int) ≤ (i : Int) + 1 := by omega
    have hr1 : (cap : Int) < (xs.length : Int) + 1 := by omega
    have htn : ((i : Int) + 1).toNat = i + 1 := by omega
    have hb2 : ¬ (C = i + 1) := by omega
    have hb4 : ¬ (cap = i) := by omega
    have hb6 : ¬ (C = i) := by omega
    have hb3 : (i : Int) ≤ (xs.length : Int) + 1 := by omega
    have hb5 : (i : Int) + 1 ≤ (xs.length : Int) + 1 := by omega
    have hb7 : (i : Int) ≤ (cap : Int) := by omega
    have hw1 : IntKind.i64.wrap ((i : Int) + 1) = (i : Int) + 1 := by rw [IntKind.wrap_i64]; omega
    have hw2 : IntKind.i64.wrap ((xs.length : Int) + 1) = (xs.length : Int) + 1 := by rw [IntKind.wrap_i64]; omega
    have hw3 : IntKind.i64.wrap ((xs.length : Int) + 1 - (i : Int)) = (xs.length : Int) + 1 - (i : Int) := by rw [IntKind.wrap_i64]; omega
    go_enter Try.func79, Try.ntmps79
    go_wp2_with (at_builtin; refine Lib.wpList_append_run _ rfl _ _ _ _ rfl _ _ rfl rfl _ _ (hap0 _) ?_)
    go_wp2
    go_region
    go_wp2
    go_ret
    exact ⟨_, rfl, OF.out, G2.out⟩
theorem insert_Z (xs : List Int) (i : Nat) (hi : i ≤ xs.length) (e : Int) (E : List Value) (hbig : xs.length ≤ 1000) (h : FH) (hE : Enc.rep h E e) (w : World) (hs : Sits h w) (base : Nat) (hbase : base ≤ w.heap.size) (v : Value) (O : OwnL h w base 3 v xs) (gv : Nat) (hb : w.heap[gv]? = some (.cells E.toArray 3 (0, 0))) (hne : v.ownBlock ≠ some gv) :
    Calls Try.prog 79 #[v, .int .i64 i, .slice (some ⟨gv, 0, none⟩) 1 1] w fun e' w' => ∃ v', e' = .returned v' ∧ OwnL h w' base 3 v' (xs.take i ++ [e] ++ xs.drop i) ∧ w.grownBy w' v.ownBlock := by
  by_cases he : i = xs.length
  · subst he
    have K := insend_Z xs e E hbig h hE w hs base hbase v O gv hb
    simpa using K
  · have hlt : i < xs.length := by omega
    obtain ⟨cells, hw, _⟩ := O.own
    rcases hw.2 with ⟨rfl, hn⟩ | ⟨g0, cap, cur, rfl, _⟩
    · omega
    · by_cases hr : xs.length + 1 ≤ cap
      · exact insshift_Z xs i hlt e E hbig h hE w hs base hbase g0 cap hr O gv hb (fun e => hne (by rw [e]; rfl))
      · exact insgrow_Z xs i hlt e E hbig h hE w hs base hbase g0 cap (by omega) O gv hb
end Go.Proofs.Yteolmamiblddjaa
