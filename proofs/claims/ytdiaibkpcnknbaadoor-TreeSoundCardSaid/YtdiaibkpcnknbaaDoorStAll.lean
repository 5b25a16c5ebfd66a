import Derived.Test.YtdiaibkpcnknbaaDoorBox
import Derived.Test.YtdiaibkpcnknbaaDoorCore
import Derived.Test.YtdiaibkpcnknbaaDoorApp
import Derived.Lib.AppendZeros
import Derived.Lib.Overlaps
import Derived.Laws.CopyOwn
namespace Go.Proofs.YtdiaibkpcnknbaaDoor
open Go.RowKit Go.Sort
set_option linter.unusedVariables false
def ixB {α : Type} (p : α → Bool) (xs : List α) : Int := match xs.findIdx? p with
  | some i => (i : Int)
  | none => -1
theorem ixB_hit {α : Type} {p : α → Bool} {xs : List α} {k : Nat} {x : α} (h : ∀ i y, i < k → xs[i]? = some y → p y = false) (hx : xs[k]? = some x) (hp : p x = true) : ixB p xs = (k : Int) := by
  unfold ixB
  have : xs.findIdx? p = some k := by
    rw [List.findIdx?_eq_some_iff_getElem]
    obtain ⟨hk, he⟩ := List.getElem?_eq_some_iff.1 hx
    exact ⟨hk, by rw [he]; exact hp, fun j hj => by
      have := h j (xs[j]'(by omega)) hj (List.getElem?_eq_getElem _)
      simp [this]⟩
  rw [this]
theorem ixB_none {α : Type} {p : α → Bool} {xs : List α} (h : ∀ i y, i < xs.length → xs[i]? = some y → p y = false) : ixB p xs = -1 := by
  unfold ixB
  have : xs.findIdx? p = none := by
    rw [List.findIdx?_eq_none_iff]
    intro y hy
    obtain ⟨i, hi, rfl⟩ := List.mem_iff_getElem.1 hy
    exact h i _ hi (List.getElem?_eq_getElem _)
  rw [this]
theorem no_step {α : Type} {p : α → Bool} {xs : List α} {k : Nat} {x : α} (h : ∀ i y, i < k → xs[i]? = some y → p y = false) (hx : xs[k]? = some x) (hp : p x = false) : ∀ i y, i < k + 1 → xs[i]? = some y → p y = false := fun i y hi hy => by
  by_cases e : i = k
  · subst e; rw [hx] at hy; cases hy; exact hp
  · exact h i y (by omega) hy
def isI (no : Int) (x : Inode) : Bool := x.no == no
def gtI (no : Int) (x : Inode) : Bool := decide (no < x.no)
def gtZ (no : Int) (x : Int) : Bool := decide (no < x)
def eqZ (no : Int) (x : Int) : Bool := no == x
set_option maxHeartbeats 2000000 in
theorem index_Int (xs : List Int) (A : Option Addr) (c : Nat) (no : Int) (h : FH) (w : World) (hs : Sits h w) (r : RowAt h A xs) :
    Calls Tryd.prog 70 #[.slice A xs.length c, .int .i64 no] w fun e w' => e = .returned (.int .i64 (ixB (eqZ no) xs)) ∧ Ext h w h w' := by
  have hl := r.1
  have E := Ext.refl hs
  go_enter Tryd.func70, Tryd.ntmps70
  go_wp2_with fail
  go_loop [5, 8] (fun s5 i => ∃ k : Nat, k ≤ xs.length ∧ i = .int .i64 k ∧ Hid (∀ i y, i < k → xs[i]? = some y → eqZ no y = false)) (fun _ i => xs.length - (intOf i).toNat)
  case atStart => exact ⟨0, Nat.zero_le _, rfl, hid (fun i y hi => by omega)⟩
  case round =>
    obtain ⟨k, hk, rfl, HN⟩ := hrel
    by_cases hlt : k < xs.length
    · obtain ⟨x, hx⟩ : ∃ x, xs[k]? = some x := ⟨xs[k], by simp [hlt]⟩
      obtain ⟨b, off, rfl, d0⟩ := r.int hx hs
      have HX := hid hx
      clear hx
      obtain ⟨q, hq⟩ : ∃ q, eqZ no x = q := ⟨_, rfl⟩
      have HQ := hid hq
      have hq2 : (no == x) = q := hq
      clear hq
      cases q
      · have HN2 := hid (no_step HN.out HX.out HQ.out)
        go_wp2_with fail
        go_round
        case rel => exact ⟨k + 1, by omega, by go_num, HN2⟩
        case measure => simp [intOf]; omega
      · have HI := hid (ixB_hit HN.out HX.out HQ.out)
        go_wp2_with fail
        go_ret
        exact ⟨by rw [HI.out]; rfl, E⟩
    · have HI := hid (ixB_none (p := eqZ no) (fun i y hi => HN.out i y (by omega)))
      go_wp2_with fail
      go_ret
      exact ⟨by rw [HI.out]; rfl, E⟩
theorem ixB_any {α : Type} (p : α → Bool) (xs : List α) : decide (0 ≤ ixB p xs) = xs.any p := by
  unfold ixB
  cases e : xs.findIdx? p with
  | none =>
    have := List.findIdx?_eq_none_iff.1 e
    rw [List.any_eq_false.2 (fun y hy => by simp [this y hy])]
    rfl
  | some i =>
    obtain ⟨hi, hp, _⟩ := List.findIdx?_eq_some_iff_getElem.1 e
    rw [List.any_eq_true.2 ⟨_, List.getElem_mem hi, hp⟩]
    simp
set_option maxHeartbeats 1000000 in
theorem contains_Int (xs : List Int) (A : Option Addr) (c : Nat) (no : Int) (t : Bool) (ht : xs.any (eqZ no) = t) (h : FH) (w : World) (hs : Sits h w) (r : RowAt h A xs) :
    Calls Tryd.prog 51 #[.slice A xs.length c, .int .i64 no] w fun e w' => e = .returned (.bool t) ∧ Ext h w h w' := by
  have K := hid (index_Int xs A c no h w hs r)
  have HT := hid ((ixB_any (eqZ no) xs).trans ht)
  clear ht
  go_enter Tryd.func51, Tryd.ntmps51
  go_wp2_with (go_at_call 70; refine K.out.mono ?_; rintro e w1 ⟨rfl, E1⟩)
  go_ret
  exact ⟨ret_bool HT.out, E1⟩
end Go.Proofs.YtdiaibkpcnknbaaDoor

namespace Go.Proofs.YtdiaibkpcnknbaaDoor
open Go.RowKit Go.Sort
set_option linter.unusedVariables false
/-! ### what slices.Insert and slices.Delete ask -/
section
variable {P : Program}
/-- append(s[:i], make([]T, n)...), which grows. -/
theorem run_append_zeros (w : World) (t tn ty e : TypeId) (i : TypeInfo) (z : Value) (k kn : IntKind) (ht : P.underlying t = some (.slice e)) (htn : P.underlying tn = some (.int kn)) (hi : P.info? e = some i) (hz : i.zero = some z)
    (ad : Addr) (sLen sCap n : Nat) (cells : List Value) (hl : cells.length = sLen * i.size) (hcells : ∀ j v, cells[j]? = some v → w.cell? (ad.add j) = some v) (hgrow : sCap < sLen + n)
    (h0 : 0 < n) (hs : 0 < i.size) (hsmall : sLen + n ≤ 1000000) (hby : i.bytes ≤ 1000) :
    (Builtin.append_ #[t, tn] ty #[.slice (some ad) sLen sCap, .int k n]).run P w =
      .ok (.slice (some ⟨w.heap.size, 0, none⟩) (sLen + n) (grownCap w (sLen + n) sCap e)) (w.drew.alloc (.cells (cells.toArray ++ Builtin.zeroCells z.cells n ++ Builtin.zeroCells z.cells (grownCap w (sLen + n) sCap e - (sLen + n))) e)) := by
  have hn : n ≠ 0 := by omega
  have hw : IntKind.i64.wrap (n : Int) = n := by rw [IntKind.wrap_i64]; omega
  have hneg : ¬ ((n : Int) < 0) := by omega
  have hns : ¬ (n * i.size = 0) := Nat.mul_ne_zero hn (by omega)
  have hb1 : n * i.bytes ≤ 1000000 * 1000 := Nat.mul_le_mul (by omega) hby
  have h48i : ¬ (281474976710656 < (n : Int) * (i.bytes : Int)) := by
    rw [← Int.natCast_mul]
    omega
  have hb2 : (sLen + n) * i.bytes ≤ 1000000 * 1000 := Nat.mul_le_mul hsmall hby
  have h48' : ¬ (281474976710656 < Builtin.nextslicecap (sLen + n) sCap * i.bytes) := by
    have := growslice_fits (old := sCap) (bytes := i.bytes) hgrow (by omega)
    omega
  have hfit : ¬ sLen + n ≤ sCap := by omega
  have h63' : ¬ (9223372036854775807 < (sLen : Int) + (n : Int)) := by omega
  have hfc' := run_firstCells_some (P := P) w.drew i.size sLen ad sLen sCap cells hl hcells
  simp [Builtin.append_, run_underlying ht, run_underlying htn, sizeOf, typeInfo, zeroValue, hi, hz, asInt, asIntOf, hw, hneg, hns, hfit, h63', h48', h48i, Question.forced, hfc', newRow, grownCap]
/-- copy, elements of any size: all is read before anything is written. -/
theorem run_copy_any (w : World) (dT sT ty elem : TypeId) (size : Nat) (b o dLen dCap : Nat) (a : Addr) (sLen sCap : Nat) (cs : List Value)
    (hu : P.underlying dT = some (.slice elem)) (hs : (P.info? elem).map (·.size) = some size) (hn : cs.length = Nat.min sLen dLen * size)
    (hsrc : ∀ j v, cs[j]? = some v → w.cell? (a.add j) = some v) (hc : ∀ j, j < cs.length → (w.cell? ⟨b, o + j, none⟩).isSome = true) (hf : ∀ j, j < cs.length → w.frozen? ⟨b, o + j, none⟩ = false) (h1 : ∀ v ∈ cs, v.oneCell' = true) :
    (Builtin.copy_ #[dT, sT] ty #[.slice (some ⟨b, o, none⟩) dLen dCap, .slice (some a) sLen sCap]).run P w = .ok (goInt (Nat.min sLen dLen)) (w.setCells b o cs) := by
  have hl := run_loadCells_list (P := P) w a cs hsrc
  have hst := run_storeCells_cells (P := P) b o cs 0 w (by simpa using hc) (by simpa using hf) h1
  cases hq : P.info? elem with
  | none => simp [hq] at hs
  | some i =>
    have hi : i.size = size := by simpa [hq] using hs
    simp [Builtin.copy_, run_underlying hu, Builtin.lenOf, Builtin.firstCells, sizeOf, typeInfo, hq, hi, ← hn, hl, hst]
/-- An operation whose run is known. -/
theorem step_copy_run (w : World) {o : Oper} {a : Act} {K : Act → World → Prop} {Q : Exit → Act → World → Prop} (d s : Operand) (dT sT : TypeId)
    (ho : o.op = .call { callee := .builtin .copy, args := #[d, s], argTypes := #[dT, sT] }) (vd vs : Value) (hd : a.eval d = vd) (hs : a.eval s = vs)
    (v' : Value) (w' : World) (hr : (Builtin.copy_ #[dT, sT] o.type #[vd, vs]).run P w = .ok v' w') (h : K (a.put o.dst v') w') : o.wp P a w K Q := by
  unfold Oper.wp
  simp [execOp, ho, resolve, invoke, builtin, hd, hs, hr, Result.andThen]
  exact h
theorem wpList_copy_run (w : World) {ops : Array Oper} {rest : List Oper} {o : Oper} {a : Act} {Q : Exit → Act → World → Prop} (hgd : o.guard = none) (d s : Operand) (dT sT : TypeId)
    (ho : o.op = .call { callee := .builtin .copy, args := #[d, s], argTypes := #[dT, sT] }) (vd vs : Value) (hd : a.eval d = vd) (hs : a.eval s = vs)
    (v' : Value) (w' : World) (hr : (Builtin.copy_ #[dT, sT] o.type #[vd, vs]).run P w = .ok v' w') (h : wpList P ops Q rest (a.put o.dst v') w') : wpList P ops Q (o :: rest) a w :=
  wpList_plain hgd fun _ hK => step_copy_run w d s dT sT ho vd vs hd hs v' w' hr (hK _ _ h)
/-- Two copies, and the row is as Insert wants it. -/
theorem splice2 {cells E : List Value} {i n : Nat} (hE : E.length = 2) (hc : cells.length = n * 2) (hi : i ≤ n) {cur cur2 : Array Value} (hsz : (n + 1) * 2 ≤ cur.size) (hs2 : cur2.size = cur.size)
    (hpre : ∀ j, j < i * 2 → cur[j]? = cells[j]?) (hget : ∀ j, j < cur.size → cur2[j]? = if i * 2 ≤ j ∧ j < i * 2 + 2 then E[j - i * 2]? else if (i + 1) * 2 ≤ j ∧ j < (i + 1) * 2 + (n - i) * 2 then cells[j - 2]? else cur[j]?) :
    cur2.toList.take ((n + 1) * 2) = cells.take (i * 2) ++ E ++ cells.drop (i * 2) := by
  apply List.ext_getElem?
  intro j
  rw [List.getElem?_take]
  by_cases hj : j < (n + 1) * 2
  · rw [if_pos hj, Array.getElem?_toList, hget j (by omega)]
    by_cases h1 : j < i * 2
    · rw [if_neg (by omega), if_neg (by omega), hpre j h1, List.append_assoc, List.getElem?_append_left (by simp; omega), List.getElem?_take, if_pos h1]
    · by_cases h2 : j < i * 2 + 2
      · rw [if_pos (by omega), List.append_assoc, List.getElem?_append_right (by simp; omega), List.getElem?_append_left (by simp; omega)]
        congr 1
        simp; omega
      · rw [if_neg (by omega), if_pos (by omega), List.getElem?_append_right (by simp; omega), List.getElem?_drop]
        congr 1
        simp; omega
  · rw [if_neg hj, List.getElem?_eq_none (by simp; omega)]
end
theorem grown_setCells {w0 : World} (g : Nat) : ∀ (vs : List Value) (o : Nat) (w : World), w0.grownBy w (some g) → w0.grownBy (w.setCells g o vs) (some g)
  | [], _, _, a => a
  | v :: r, o, w, a => grown_setCells g r (o + 1) _ ⟨a.os, a.tape, a.output, by simpa [World.setCell] using a.size, fun k hk hne => by
      rw [← a.block k hk hne]
      simp only [World.setCell]
      rw [Array.getElem?_modify, if_neg (by rintro rfl; exact hne rfl)]⟩
/-- 'clear(s)', elements of any size. -/
theorem run_clear_any {P : Program} (w : World) (t e ty : TypeId) (z : Value) (ht : P.underlying t = some (.slice e)) (hv : ∀ w, (zeroValue e).run P w = .ok z w) (h1 : ∀ v ∈ z.cells.toList, v.oneCell' = true) (hz0 : 0 < z.cells.size) (b o n c : Nat) (hn : 0 < n)
    (hc : ∀ j, j < n * z.cells.size → (w.cell? ⟨b, o + j, none⟩).isSome = true) (hf : ∀ j, j < n * z.cells.size → w.frozen? ⟨b, o + j, none⟩ = false) :
    (Builtin.clear_ #[t] ty #[.slice (some ⟨b, o, none⟩) n c]).run P w = .ok (.tuple #[]) (w.setCells b o (Builtin.zeroCells z.cells n).toList) := by
  have hl : (Builtin.zeroCells z.cells n).toList.length = n * z.cells.size := by simp [Builtin.zeroCells]
  have hst := run_storeCells_cells (P := P) b o (Builtin.zeroCells z.cells n).toList 0 w (by rw [hl]; simpa using hc) (by rw [hl]; simpa using hf) (by
    intro v hv'
    simp only [Builtin.zeroCells, Array.toList_map, List.mem_map, Array.toList_range, List.mem_range] at hv'
    obtain ⟨j, hj, rfl⟩ := hv'
    have hjm := Nat.mod_lt j hz0
    refine h1 _ ?_
    rw [getElem!_pos z.cells (j % z.cells.size) hjm]
    exact Array.mem_toList_iff.2 (Array.getElem_mem hjm))
  simp only [Nat.add_zero] at hst
  obtain ⟨m, rfl⟩ : ∃ m, n = m + 1 := ⟨n - 1, by omega⟩
  simp [Builtin.clear_, run_underlying ht, hv, hst]
end Go.Proofs.YtdiaibkpcnknbaaDoor

namespace Go.Proofs.YtdiaibkpcnknbaaDoor
open Go.RowKit Go.Sort
set_option linter.unusedVariables false
section
variable {α : Type} [Enc α] {P : Program}
/-- append(v, y), y's block known in the world. -/
theorem wpList_append1At {h : FH} {w : World} {ops : Array Oper} {rest : List Oper} {o : Oper} {a : Act} {Q : Exit → Act → World → Prop} (hgd : o.guard = none) (s x : Operand) (t : TypeId)
    (ho : o.op = .call { callee := .builtin .append, args := #[s, x], argTypes := #[t, t] }) (base : Nat) (e : TypeId) (bytes : Nat) (T : TyOk P t e (Enc.sz α) bytes) (v : Value) (xs : List α) (hv : a.eval s = v) (O : OwnL h w base e v xs) (hs : Sits h w)
    (g : Nat) (hx : a.eval x = .slice (some ⟨g, 0, none⟩) 1 1) (cs : List Value) (y : α) (hy : Enc.rep h cs y) (hc : ∀ j u, cs[j]? = some u → w.cell? ⟨g, j, none⟩ = some u) (hbytes : (xs.length + 1) * bytes ≤ 140737488355328) (hpos : 0 < bytes) (hbase : base ≤ w.heap.size)
    (k : ∀ v' w', OwnL h w' base e v' (xs ++ [y]) → w.grownBy w' v.ownBlock → wpList P ops Q rest (a.put o.dst v') w') : wpList P ops Q (o :: rest) a w := by
  refine wpList_plain hgd fun K hK => ?_
  obtain ⟨v', w', hr, h2, h3⟩ := run_append1At (ty := o.type) T O hs hy hc hbytes hpos hbase
  unfold Oper.wp execOp
  simp only [ho, resolve, invoke, builtin, Sem.run_bind, Sem.run_pure, Result.andThen_ok, List.map_toArray, List.map_cons, List.map_nil, hv, hx, hr]
  exact hK _ _ (k v' w' h2 h3)
end
theorem cells_of_box {w : World} {g : Nat} {cs : List Value} {t : TypeId} (h : w.heap[g]? = some (.cells cs.toArray t (0, 0))) : ∀ j u, cs[j]? = some u → w.cell? ⟨g, j, none⟩ = some u := fun j u hu => by
  rw [cell_of_row _ _ _ _ _ _ h]; simpa using hu
theorem grown_setCells' {w0 : World} (g : Nat) : ∀ (vs : List Value) (o : Nat) (w : World), w0.grownBy w (some g) → w0.grownBy (w.setCells g o vs) (some g)
  | [], _, _, a => a
  | v :: r, o, w, a => grown_setCells' g r (o + 1) _ ⟨a.os, a.tape, a.output, by simpa [World.setCell] using a.size, fun k hk hne => by
      rw [← a.block k hk hne]
      simp only [World.setCell]
      rw [Array.getElem?_modify, if_neg (by rintro rfl; exact hne rfl)]⟩
theorem grown_new' {w0 : World} {r : Option Nat} (g : Nat) (hg : w0.heap.size ≤ g) : ∀ (vs : List Value) (o : Nat) (w : World), w0.grownBy w r → w0.grownBy (w.setCells g o vs) r
  | [], _, _, a => a
  | v :: vs, o, w, a => grown_new' g hg vs (o + 1) _ ⟨a.os, a.tape, a.output, by simpa [World.setCell] using a.size, fun k hk hne => by
      rw [← a.block k hk hne]
      simp only [World.setCell]
      rw [Array.getElem?_modify, if_neg (by omega)]⟩
theorem setCells_ne' {g k : Nat} (hne : k ≠ g) : ∀ {vs : List Value} {o : Nat} {w : World}, (w.setCells g o vs).heap[k]? = w.heap[k]?
  | [], _, _ => rfl
  | v :: vs, o, w => by
    rw [World.setCells, setCells_ne' hne (vs := vs)]
    simp only [World.setCell]
    rw [Array.getElem?_modify, if_neg (fun e => hne e.symm)]

/-! ### slices.Insert at Inode -/
theorem splice_In {cells E : List Value} {i n : Nat} (hE : E.length = 7) (hc : cells.length = n * 7) (hi : i ≤ n) {cur cur2 : Array Value} (hsz : (n + 1) * 7 ≤ cur.size) (hs2 : cur2.size = cur.size)
    (hpre : ∀ j, j < i * 7 → cur[j]? = cells[j]?) (hget : ∀ j, j < cur.size → cur2[j]? = if i * 7 ≤ j ∧ j < i * 7 + 7 then E[j - i * 7]? else if (i + 1) * 7 ≤ j ∧ j < (i + 1) * 7 + (n - i) * 7 then cells[j - 7]? else cur[j]?) :
    cur2.toList.take ((n + 1) * 7) = cells.take (i * 7) ++ E ++ cells.drop (i * 7) := by
  apply List.ext_getElem?
  intro j
  rw [List.getElem?_take]
  by_cases hj : j < (n + 1) * 7
  · rw [if_pos hj, Array.getElem?_toList, hget j (by omega)]
    by_cases h1 : j < i * 7
    · rw [if_neg (by omega), if_neg (by omega), hpre j h1, List.append_assoc, List.getElem?_append_left (by simp; omega), List.getElem?_take, if_pos h1]
    · by_cases h2 : j < i * 7 + 7
      · rw [if_pos (by omega), List.append_assoc, List.getElem?_append_right (by simp; omega), List.getElem?_append_left (by simp; omega)]
        congr 1
        simp; omega
      · rw [if_neg (by omega), if_pos (by omega), List.getElem?_append_right (by simp; omega), List.getElem?_drop]
        congr 1
        simp; omega
  · rw [if_neg hj, List.getElem?_eq_none (by simp; omega)]
theorem reps_ins_In {h : FH} {cells E : List Value} {xs : List Inode} {e : Inode} (R : Reps h cells xs) (hE : Enc.rep h E e) (i : Nat) : Reps h (cells.take (i * 7) ++ E ++ cells.drop (i * 7)) (xs.take i ++ [e] ++ xs.drop i) := by
  have h1 := R.take i
  have h2 := R.drop i
  rw [show i * Enc.sz Inode = i * 7 from by show i * 7 = _; omega] at h1 h2
  exact (h1.append (Reps.single hE)).append h2
/-! ### slices.Insert at Int -/
theorem splice_Z {cells E : List Value} {i n : Nat} (hE : E.length = 1) (hc : cells.length = n) (hi : i ≤ n) {cur cur2 : Array Value} (hsz : n + 1 ≤ cur.size) (hs2 : cur2.size = cur.size)
    (hpre : ∀ j, j < i → cur[j]? = cells[j]?) (hget : ∀ j, j < cur.size → cur2[j]? = if i ≤ j ∧ j < i + 1 then E[j - i]? else if i + 1 ≤ j ∧ j < i + 1 + (n - i) then cells[j - 1]? else cur[j]?) :
    cur2.toList.take (n + 1) = cells.take (i) ++ E ++ cells.drop (i) := by
  apply List.ext_getElem?
  intro j
  rw [List.getElem?_take]
  by_cases hj : j < n + 1
  · rw [if_pos hj, Array.getElem?_toList, hget j (by omega)]
    by_cases h1 : j < i
    · rw [if_neg (by omega), if_neg (by omega), hpre j h1, List.append_assoc, List.getElem?_append_left (by simp; omega), List.getElem?_take, if_pos h1]
    · by_cases h2 : j < i + 1
      · rw [if_pos (by omega), List.append_assoc, List.getElem?_append_right (by simp; omega), List.getElem?_append_left (by simp; omega)]
        congr 1
        simp; omega
      · rw [if_neg (by omega), if_pos (by omega), List.getElem?_append_right (by simp; omega), List.getElem?_drop]
        congr 1
        simp; omega
  · rw [if_neg hj, List.getElem?_eq_none (by simp; omega)]
theorem reps_ins_Z {h : FH} {cells E : List Value} {xs : List Int} {e : Int} (R : Reps h cells xs) (hE : Enc.rep h E e) (i : Nat) : Reps h (cells.take (i) ++ E ++ cells.drop (i)) (xs.take i ++ [e] ++ xs.drop i) := by
  have h1 := R.take i
  have h2 := R.drop i
  rw [show i * Enc.sz Int = i from by show i * 1 = _; omega] at h1 h2
  exact (h1.append (Reps.single hE)).append h2
end Go.Proofs.YtdiaibkpcnknbaaDoor

namespace Go.Proofs.YtdiaibkpcnknbaaDoor
open Go.RowKit Go.Sort
set_option linter.unusedVariables false
section
variable {α : Type} [Enc α]
theorem Sits.grown {h : FH} {w w' : World} (hs : Sits h w) {g : Nat} (G : w.grownBy w' (some g)) (hn : h g = Option.none) : Sits h w' := fun b x hb => by
  rw [G.block b (hs.lt (by rw [hb]; simp)) (fun e => by cases e; rw [hn] at hb; cases hb)]; exact hs b x hb
theorem Ext.grownBy {h h1 : FH} {w w1 : World} (E : Ext h w h1 w1) (r : Option Nat) : w.grownBy w1 r := grownBy_of_ext E r
theorem frozen_set {w : World} {g : Nat} {cells : Array Value} {t : TypeId} {fr : Nat × Nat} : True := trivial
/-- A whole element is written. -/
theorem OwnL.setElem {h : FH} {w : World} {base : Nat} {e : TypeId} {g n cap : Nat} {xs : List α} (o : OwnL h w base e (.slice (some ⟨g, 0, none⟩) n cap) xs) {i : Nat} {y : α} {cs : List Value} (hi : i < xs.length) (hy : Enc.rep h cs y) :
    OwnL h (w.setCells g (i * Enc.sz α) cs) base e (.slice (some ⟨g, 0, none⟩) n cap) (xs.set i y) := by
  obtain ⟨cells, hw, r⟩ := o.own
  have hcl : cells.length = xs.length * Enc.sz α := hw.1
  have hyl : cs.length = Enc.sz α := Enc.len hy
  have hlt : (i + 1) * Enc.sz α ≤ xs.length * Enc.sz α := Nat.mul_le_mul_right _ hi
  have hlt2 : i * Enc.sz α + Enc.sz α ≤ xs.length * Enc.sz α := by rw [Nat.add_mul] at hlt; omega
  refine ⟨⟨cells.take (i * Enc.sz α) ++ cs ++ cells.drop ((i + 1) * Enc.sz α), ⟨?_, ?_⟩, r.set hi hy⟩, o.free⟩
  · rw [List.length_set]; simp only [List.length_append, List.length_take, List.length_drop, hcl, hyl, Nat.add_mul, Nat.one_mul]; omega
  · rcases hw.2 with ⟨he, hn⟩ | ⟨g', cap', cur, he, hb, hg, hc, hm, hcs, htake⟩
    · cases he
    · cases he
      obtain ⟨cur2, m1, m2, m3⟩ := heap_setCells g e (0, 0) cs (i * Enc.sz α) w cur hg
      refine .inr ⟨g, cap, cur2, by rw [List.length_set], hb, m1, by rw [List.length_set]; exact hc, hm, by rw [m2]; exact hcs, ?_⟩
      have hcap : xs.length * Enc.sz α ≤ cap * Enc.sz α := Nat.mul_le_mul_right _ hc
      have hcs' : cur.size = cap * Enc.sz α := hcs
      rw [List.length_set]
      apply List.ext_getElem?
      intro j
      rw [List.getElem?_take]
      by_cases hj : j < xs.length * Enc.sz α
      · rw [if_pos hj, Array.getElem?_toList, m3 j (by omega), hyl]
        by_cases h1 : i * Enc.sz α ≤ j ∧ j < i * Enc.sz α + Enc.sz α
        · rw [if_pos h1, List.append_assoc, List.getElem?_append_right (by simp only [List.length_take, hcl]; omega), List.getElem?_append_left (by simp only [List.length_take, hcl, hyl]; omega)]
          congr 1
          simp only [List.length_take, hcl]; omega
        · rw [if_neg h1]
          have hcj : cur[j]? = cells[j]? := by rw [← htake, List.getElem?_take, if_pos hj, Array.getElem?_toList]
          rw [hcj]
          by_cases h2 : j < i * Enc.sz α
          · rw [List.append_assoc, List.getElem?_append_left (by simp only [List.length_take, hcl]; omega), List.getElem?_take, if_pos h2]
          · rw [List.getElem?_append_right (by simp only [List.length_append, List.length_take, hcl, hyl]; omega), List.getElem?_drop]
            congr 1
            simp only [List.length_append, List.length_take, hcl, hyl, Nat.add_mul, Nat.one_mul]; omega
      · rw [if_neg hj, List.getElem?_eq_none]
        simp only [List.length_append, List.length_take, List.length_drop, hcl, hyl, Nat.add_mul, Nat.one_mul]; omega
/-- What lies behind is written, and cut off. -/
theorem OwnL.cut {h : FH} {w : World} {base : Nat} {e : TypeId} {g n cap : Nat} {xs : List α} (o : OwnL h w base e (.slice (some ⟨g, 0, none⟩) n cap) xs) {i : Nat} (hi : i ≤ xs.length) (vs : List Value) :
    OwnL h (w.setCells g (i * Enc.sz α) vs) base e (.slice (some ⟨g, 0, none⟩) i cap) (xs.take i) := by
  obtain ⟨cells, hw, r⟩ := o.own
  have hcl : cells.length = xs.length * Enc.sz α := hw.1
  have hlt : i * Enc.sz α ≤ xs.length * Enc.sz α := Nat.mul_le_mul_right _ hi
  have hli : (xs.take i).length = i := by rw [List.length_take]; omega
  refine ⟨⟨cells.take (i * Enc.sz α), ⟨?_, ?_⟩, r.take i⟩, fun g' hg' => o.free g' hg'⟩
  · rw [hli, List.length_take, hcl]; omega
  · rcases hw.2 with ⟨he, hn⟩ | ⟨g', cap', cur, he, hb, hg, hc, hm, hcs, htake⟩
    · cases he
    · cases he
      obtain ⟨cur2, m1, m2, m3⟩ := heap_setCells g e (0, 0) vs (i * Enc.sz α) w cur hg
      have hcap : xs.length * Enc.sz α ≤ cap * Enc.sz α := Nat.mul_le_mul_right _ hc
      have hcs' : cur.size = cap * Enc.sz α := hcs
      refine .inr ⟨g, cap, cur2, by rw [hli], hb, m1, by rw [hli]; omega, hm, by rw [m2]; exact hcs, ?_⟩
      rw [hli]
      apply List.ext_getElem?
      intro j
      rw [List.getElem?_take, List.getElem?_take]
      by_cases hj : j < i * Enc.sz α
      · rw [if_pos hj, if_pos hj, Array.getElem?_toList, m3 j (by omega), if_neg (by omega), ← htake, List.getElem?_take, if_pos (by omega), Array.getElem?_toList]
      · rw [if_neg hj, if_neg hj]
end
def neI (no : Int) (x : Inode) : Bool := !isI no x
theorem keep_filter {p : Inode → Bool} {xs ys : List Inode} {i j : Nat} {x : Inode} (hl : ys.length = xs.length) (ht : ys.take i = (xs.take j).filter p) (hd : ys.drop j = xs.drop j) (hi : i < j) (hj : j < xs.length) (hx : ys[j]? = some x) :
    xs[j]? = some x ∧ (p x = false → ys.take i = (xs.take (j + 1)).filter p ∧ ys.drop (j + 1) = xs.drop (j + 1)) ∧ (p x = true → (ys.set i x).take (i + 1) = (xs.take (j + 1)).filter p ∧ (ys.set i x).drop (j + 1) = xs.drop (j + 1)) := by
  have hxj : xs[j]? = some x := by
    have : (ys.drop j)[0]? = (xs.drop j)[0]? := by rw [hd]
    rw [List.getElem?_drop, List.getElem?_drop, Nat.add_zero] at this
    rw [← this]; exact hx
  have hts : xs.take (j + 1) = xs.take j ++ [x] := by
    rw [List.take_add_one, hxj]; rfl
  have hd1 : ys.drop (j + 1) = xs.drop (j + 1) := by
    have : (ys.drop j).drop 1 = (xs.drop j).drop 1 := by rw [hd]
    rw [List.drop_drop, List.drop_drop] at this
    exact this
  refine ⟨hxj, fun hp => ⟨?_, hd1⟩, fun hp => ⟨?_, ?_⟩⟩
  · rw [hts, List.filter_append, ← ht]; simp [hp]
  · rw [hts, List.filter_append, ← ht]
    rw [List.take_add_one, List.getElem?_set_self (by omega)]
    have : (ys.set i x).take i = ys.take i := by rw [List.take_set_of_le (Nat.le_refl _)]
    rw [this]; simp [hp]
  · rw [List.drop_set_of_lt (by omega)]; exact hd1
theorem skip_filter {p : Inode → Bool} {xs : List Inode} {k : Nat} {x : Inode} (h : ∀ i y, i < k → xs[i]? = some y → p y = true) (hx : xs[k]? = some x) (hp : p x = false) : xs.take k = (xs.take (k + 1)).filter p := by
  have hk := (List.getElem?_eq_some_iff.1 hx).1
  rw [List.take_add_one, hx, List.filter_append]
  have : (xs.take k).filter p = xs.take k := List.filter_eq_self.2 fun y hy => by
    obtain ⟨i, hi, rfl⟩ := List.mem_iff_getElem.1 hy
    rw [List.length_take] at hi
    exact h i _ (by omega) (by rw [List.getElem_take]; exact List.getElem?_eq_getElem _)
  rw [this]; simp [hp]
theorem zero_Inode : ∀ w, (zeroValue 51).run Tryd.prog w = .ok (.agg #[.int .i64 0, .int .i64 0, .int .i64 0, .int .i64 0, .string ⟨#[]⟩, .slice none 0 0, .slice none 0 0]) w := fun w => by
  obtain ⟨i, hi, hz, _⟩ := info_parts (show (Tryd.prog.info? 51).map (fun i => (i.zero, i.size, i.bytes)) = some (some (.agg #[.int .i64 0, .int .i64 0, .int .i64 0, .int .i64 0, .string ⟨#[]⟩, .slice none 0 0, .slice none 0 0]), 7, 96) from by kernel_rfl)
  simp [zeroValue, typeInfo, hi, hz]
end Go.Proofs.YtdiaibkpcnknbaaDoor

namespace Go.Proofs.YtdiaibkpcnknbaaDoor
open Go.RowKit Go.Sort
set_option linter.unusedVariables false
/-! ### state.own: a copy of an inode -/
set_option maxHeartbeats 4000000 in
set_option maxRecDepth 100000 in
theorem state_own (x : Inode) (cs : List Value) (hb1 : x.entries.length * 24 ≤ 140737488355328) (hb2 : x.runs.length * 24 ≤ 140737488355328) (h : FH) (w : World) (hs : Sits h w) (r : repInode h cs x) :
    Calls Tryd.prog 47 #[.agg cs.toArray] w fun e w' => ∃ cs' h1, e = .returned (.agg cs'.toArray) ∧ repInode h1 cs' x ∧ Ext h w h1 w' := by
  obtain ⟨A5, c5, A6, c6, rfl, s0, s1, s2, s3, s4⟩ := r
  have K1 := hid (fun (h' : FH) w' hs' (l : FLe h h') => clone_Entry x.entries A5 c5 hb1 h' w' hs' (s2.mono l))
  have K2 := hid (fun (h' : FH) w' hs' (l : FLe h h') => clone_Run x.runs A6 c6 hb2 h' w' hs' (s4.mono l))
  obtain ⟨no, kind, links, size, target, es, rs⟩ := x
  simp only at *
  have E2 := ((Ext.refl hs).alloc (.cells #[.int .i64 no, .int .i64 kind, .int .i64 links, .int .i64 size, .string target, .slice A5 es.length c5, .slice A6 rs.length c6] 51)).alloc (.cells #[.int .i64 0, .int .i64 0, .int .i64 0, .int .i64 0, .string ⟨#[]⟩, .slice none 0 0, .slice none 0 0] 51)
  have hb0 : ((w.alloc (.cells #[.int .i64 no, .int .i64 kind, .int .i64 links, .int .i64 size, .string target, .slice A5 es.length c5, .slice A6 rs.length c6] 51)).alloc (.cells #[.int .i64 0, .int .i64 0, .int .i64 0, .int .i64 0, .string ⟨#[]⟩, .slice none 0 0, .slice none 0 0] 51)).heap[w.heap.size]? = some (.cells #[.int .i64 no, .int .i64 kind, .int .i64 links, .int .i64 size, .string target, .slice A5 es.length c5, .slice A6 rs.length c6] 51) := box_alloc (heap_new _ _) _
  have hb3 : ((w.alloc (.cells #[.int .i64 no, .int .i64 kind, .int .i64 links, .int .i64 size, .string target, .slice A5 es.length c5, .slice A6 rs.length c6] 51)).alloc (.cells #[.int .i64 0, .int .i64 0, .int .i64 0, .int .i64 0, .string ⟨#[]⟩, .slice none 0 0, .slice none 0 0] 51)).heap[w.heap.size + 1]? = some (.cells #[.int .i64 0, .int .i64 0, .int .i64 0, .int .i64 0, .string ⟨#[]⟩, .slice none 0 0, .slice none 0 0] 51) := by
    have := heap_new (w.alloc (.cells #[.int .i64 no, .int .i64 kind, .int .i64 links, .int .i64 size, .string target, .slice A5 es.length c5, .slice A6 rs.length c6] 51)) (.cells #[.int .i64 0, .int .i64 0, .int .i64 0, .int .i64 0, .string ⟨#[]⟩, .slice none 0 0, .slice none 0 0] 51)
    simpa using this
  have N0 := hid (show h w.heap.size = none from hs.none (Nat.le_refl _))
  have N1 := hid (show h (w.heap.size + 1) = none from hs.none (Nat.le_succ _))
  go_enter Tryd.func47, Tryd.ntmps47
  go_upto_region 1 with (fail)
  generalize (w.alloc (.cells #[.int .i64 no, .int .i64 kind, .int .i64 links, .int .i64 size, .string target, .slice A5 es.length c5, .slice A6 rs.length c6] 51)).alloc (.cells #[.int .i64 0, .int .i64 0, .int .i64 0, .int .i64 0, .string ⟨#[]⟩, .slice none 0 0, .slice none 0 0] 51) = W1 at *
  have Ed := E2.drew
  have y5 : W1.cell? ⟨w.heap.size, 5, none⟩ = some (.slice A5 es.length c5) := box_cell (j := 5) hb0 rfl
  have y6 : W1.cell? ⟨w.heap.size, 6, none⟩ = some (.slice A6 rs.length c6) := box_cell (j := 6) hb0 rfl
  go_region_with (first
    | (go_at_call 43; refine (K1.out _ _ Ed.sits (FLe.refl h)).mono ?_; rintro e' w2 R; obtain ⟨A2, c2, h2, rfl, r2, F2, u0, u1, u2⟩ := RetOwn.stayX R (by omega); have hf2 := F2.row (show W1.drew.heap[w.heap.size]? = _ from hb0); have hz2 := F2.row (show W1.drew.heap[w.heap.size + 1]? = _ from hb3); have x6 : w2.cell? ⟨w.heap.size, 6, none⟩ = some (.slice A6 rs.length c6) := box_cell (j := 6) hf2 rfl; have Ed2 := Ed.trans F2; have l2 := F2.le)
    | (go_at_call 68; refine (K2.out _ _ Ed2.sits l2).mono ?_; rintro e' w3 R3; obtain ⟨A3, c3, h3, rfl, r3, F3, v0, v1, v2⟩ := RetOwn.stayX R3 (by omega); have hf3 := F3.row hf2; have hz3 := F3.row hz2; have z5 := box_free (j := 5) hf3; have z6 := box_free (j := 6) hf3; have q6 := box_free (j := 6) (box_set (i := 5) hf3 (.slice A2 es.length c2)); have q5 := box_free (j := 5) (box_set (i := 6) hf3 (.slice A3 rs.length c3)); have p6 := box_cell (j := 6) (v := .slice A6 rs.length c6) (box_set (i := 5) hf3 (.slice A2 es.length c2)) rfl; have p5 := box_cell (j := 5) (v := .slice A5 es.length c5) hf3 rfl; have p7 := box_cell (j := 6) (v := .slice A6 rs.length c6) hf3 rfl))
  all_goals
    have lt0 : w.heap.size < W1.drew.heap.size := (Array.getElem?_eq_some_iff.1 hb0).1
    have lt2 : w.heap.size < w2.heap.size := (Array.getElem?_eq_some_iff.1 hf2).1
    have g0 := F3.none (F2.none N0.out lt0) lt2
    have lt1 : w.heap.size + 1 < W1.drew.heap.size := (Array.getElem?_eq_some_iff.1 hb3).1
    have lt3 : w.heap.size + 1 < w2.heap.size := (Array.getElem?_eq_some_iff.1 hz2).1
    have g1 := F3.none (F2.none N1.out lt1) lt3
    have B5 := box_set (i := 6) (box_set (i := 5) hf3 (.slice A2 es.length c2)) (.slice A3 rs.length c3)
    have Z5 := box_other (i := 6) (box_other (i := 5) hz3 (Nat.succ_ne_self _) (.slice A2 es.length c2)) (Nat.succ_ne_self _) (.slice A3 rs.length c3)
    have E5 := Ext.setCell (p := ⟨w.heap.size, 6, none⟩) (Ext.setCell (p := ⟨w.heap.size, 5, none⟩) (Ed2.trans F3) (Nat.le_refl _) g0 (.slice A2 es.length c2)) (Nat.le_refl _) g0 (.slice A3 rs.length c3)
    generalize (w3.setCell ⟨w.heap.size, 5, none⟩ (.slice A2 es.length c2)).setCell ⟨w.heap.size, 6, none⟩ (.slice A3 rs.length c3) = W5 at *
    have d0 : W5.cell? ⟨w.heap.size, 0, none⟩ = some (.int .i64 no) := box_cell (j := 0) B5 rfl
    have d1 : W5.cell? ⟨w.heap.size, 1, none⟩ = some (.int .i64 kind) := box_cell (j := 1) B5 rfl
    have d2 : W5.cell? ⟨w.heap.size, 2, none⟩ = some (.int .i64 links) := box_cell (j := 2) B5 rfl
    have d3 : W5.cell? ⟨w.heap.size, 3, none⟩ = some (.int .i64 size) := box_cell (j := 3) B5 rfl
    have d4 : W5.cell? ⟨w.heap.size, 4, none⟩ = some (.string target) := box_cell (j := 4) B5 rfl
    have d5 : W5.cell? ⟨w.heap.size, 5, none⟩ = some (.slice A2 es.length c2) := box_cell (j := 5) B5 rfl
    have d6 : W5.cell? ⟨w.heap.size, 6, none⟩ = some (.slice A3 rs.length c3) := box_cell (j := 6) B5 rfl
    have f0 := box_free (j := 0) Z5
    have f1 := box_free (j := 1) Z5
    have f2 := box_free (j := 2) Z5
    have f3 := box_free (j := 3) Z5
    have f4 := box_free (j := 4) Z5
    have f5 := box_free (j := 5) Z5
    have f6 := box_free (j := 6) Z5
    have k0 : W5.cell? ⟨w.heap.size + 1, 0, none⟩ = some (.int .i64 0) := box_cell (j := 0) Z5 rfl
    have k1 : W5.cell? ⟨w.heap.size + 1, 1, none⟩ = some (.int .i64 0) := box_cell (j := 1) Z5 rfl
    have k2 : W5.cell? ⟨w.heap.size + 1, 2, none⟩ = some (.int .i64 0) := box_cell (j := 2) Z5 rfl
    have k3 : W5.cell? ⟨w.heap.size + 1, 3, none⟩ = some (.int .i64 0) := box_cell (j := 3) Z5 rfl
    have k4 : W5.cell? ⟨w.heap.size + 1, 4, none⟩ = some (.string ⟨#[]⟩) := box_cell (j := 4) Z5 rfl
    have k5 : W5.cell? ⟨w.heap.size + 1, 5, none⟩ = some (.slice none 0 0) := box_cell (j := 5) Z5 rfl
    have k6 : W5.cell? ⟨w.heap.size + 1, 6, none⟩ = some (.slice none 0 0) := box_cell (j := 6) Z5 rfl
    clear B5 hf3 hf2 hz2 hz3 hb0 hb3 x6 y5 y6 z5 z6 q5 q6 p5 p6 p7
    go_wp2_with fail
    have R7 := (box_set (i := 6) (box_set (i := 5) (box_set (i := 4) (box_set (i := 3) (box_set (i := 2) (box_set (i := 1) (box_set (i := 0) Z5 (.int .i64 no)) (.int .i64 kind)) (.int .i64 links)) (.int .i64 size)) (.string target)) (.slice A2 es.length c2)) (.slice A3 rs.length c3))
    have E7 := Ext.setCells (g := w.heap.size + 1) (Nat.le_succ _) g1 [.int .i64 no, .int .i64 kind, .int .i64 links, .int .i64 size, .string target, .slice A2 es.length c2, .slice A3 rs.length c3] 0 _ E5
    refine bodyPost_ret (v := .agg #[.int .i64 no, .int .i64 kind, .int .i64 links, .int .i64 size, .string target, .slice A2 es.length c2, .slice A3 rs.length c3]) ?_ rfl ⟨[.int .i64 no, .int .i64 kind, .int .i64 links, .int .i64 size, .string target, .slice A2 es.length c2, .slice A3 rs.length c3], h3, rfl, ⟨A2, c2, A3, c3, rfl, s0, ⟨u1, u0, u2⟩, r2.mono F3.le, ⟨v1, v0, v2⟩, r3⟩, E7⟩
    exact results_cell_row (p := 2) (ty := 51) (by kernel_rfl) _ _ (w.heap.size + 1) 51 #[.int .i64 no, .int .i64 kind, .int .i64 links, .int .i64 size, .string target, .slice A2 es.length c2, .slice A3 rs.length c3] (0, 0) _ (by simp) R7 Tryd.underlying51 rfl (by kernel_rfl)
end Go.Proofs.YtdiaibkpcnknbaaDoor

namespace Go.Proofs.YtdiaibkpcnknbaaDoor
open Go.RowKit Go.Sort
set_option linter.unusedVariables false
def fitI (x : Inode) : Prop := x.entries.length * 24 ≤ 140737488355328 ∧ x.runs.length * 24 ≤ 140737488355328
/-- An own row, whose elements' parts lie in what was made. -/
def RetOwnX {α : Type} [Enc α] (h : FH) (w : World) (T : TypeId) (xs : List α) (e : Ending) (w' : World) : Prop := ∃ v h1, e = .returned v ∧ OwnL h1 w' w.heap.size T v xs ∧ Ext h w h1 w'
theorem take_snoc {α : Type} {xs : List α} {k : Nat} {x : α} (hx : xs[k]? = some x) : xs.take (k + 1) = xs.take k ++ [x] := by
  rw [List.take_add_one, hx]; rfl
end Go.Proofs.YtdiaibkpcnknbaaDoor

namespace Go.Proofs.YtdiaibkpcnknbaaDoor
open Go.RowKit Go.Sort
set_option linter.unusedVariables false
/-! ### boxes at a function's head -/
theorem Ext.boxF {h h1 : FH} {w w1 : World} (E : Ext h w h1 w1) (C : Array Value) (T : TypeId) : ∃ h2, Ext h w h2 (w1.alloc (.cells C T)) ∧ h2 w1.heap.size = some (.cells C T (0, 0)) ∧ FLe h1 h2 ∧ h2 = h1.add w1.heap.size (.cells C T (0, 0)) :=
  ⟨_, (E.alloc _).add (heap_new _ _) (E.sits.none (Nat.le_refl _)) E.size, FH.add_same _ _ _, FLe.add (E.sits.none (Nat.le_refl _)) _, rfl⟩
theorem FH.at {h : FH} {g j : Nat} {C : Array Value} {T : TypeId} {v : Value} (hb : h g = some (.cells C T (0, 0))) (hv : C[j]? = some v) : h.cell ⟨g, j, none⟩ = some v := by
  unfold FH.cell; rw [hb]; exact hv
theorem Sits_at {h : FH} {w : World} (hs : Sits h w) {g j : Nat} {C : Array Value} {T : TypeId} {v : Value} (hb : h g = some (.cells C T (0, 0))) (hv : C[j]? = some v) : w.cell? ⟨g, j, none⟩ = some v := hs.cell (FH.at hb hv)
/-- Something that is the caller's own behind a call, or later. -/
theorem own_out {α : Type} [Enc α] {h h1 : FH} {w w1 : World} {base : Nat} {e : TypeId} {v : Value} {xs : List α} (O : OwnL h w base e v xs) (E : Ext h w h1 w1) : OwnL h1 w1 base e v xs := O.ext E
end Go.Proofs.YtdiaibkpcnknbaaDoor

namespace Go.Proofs.YtdiaibkpcnknbaaDoor
open Go.RowKit Go.Sort
set_option linter.unusedVariables false
def findI (xs : List Inode) (no : Int) : Option Inode := xs.find? (isI no)
def zeroI : Inode := ⟨0, 0, 0, 0, ⟨#[]⟩, [], []⟩
/-- An inode, and whether there is one. -/
def RetFind (h : FH) (w : World) (v : Option Inode) (e : Ending) (w' : World) : Prop := ∃ cs h1, e = .returned (.tuple #[.agg cs.toArray, .bool v.isSome]) ∧ repInode h1 cs (v.getD zeroI) ∧ Ext h w h1 w'
theorem zeroI_rep (h : FH) : repInode h [.int .i64 0, .int .i64 0, .int .i64 0, .int .i64 0, .string ⟨#[]⟩, .slice none 0 0, .slice none 0 0] zeroI := ⟨none, 0, none, 0, rfl, by decide, ⟨Nat.le_refl _, fun _ => rfl, by decide⟩, RowAt.nil _ _, ⟨Nat.le_refl _, fun _ => rfl, by decide⟩, RowAt.nil _ _⟩
theorem find_at {xs : List Inode} {no : Int} {k : Nat} {x : Inode} (h : ∀ i y, i < k → xs[i]? = some y → isI no y = false) (hx : xs[k]? = some x) (hp : isI no x = true) : findI xs no = some x := find_none_take h hx hp
theorem find_no {xs : List Inode} {no : Int} (h : ∀ i y, i < xs.length → xs[i]? = some y → isI no y = false) : findI xs no = none := by
  unfold findI
  rw [List.find?_eq_none]
  intro y hy
  obtain ⟨i, hi, rfl⟩ := List.mem_iff_getElem.1 hy
  rw [h i _ hi (List.getElem?_eq_getElem _)]; simp
set_option maxHeartbeats 8000000 in
set_option maxRecDepth 100000 in
theorem state_Find (s : State) (cs : List Value) (no : Int) (hfit : ∀ x ∈ s.inodes, fitI x) (v : Option Inode) (hv : findI s.inodes no = v) (h : FH) (w : World) (hs : Sits h w) (r : repState h cs s) :
    Calls Tryd.prog 22 #[.agg cs.toArray, .int .i64 no] w fun e w' => RetFind h w v e w' := by
  obtain ⟨A1, c1, A2, c2, rfl, l1, r1, l2, r2⟩ := r
  have hl := r1.1
  have HF := hid hfit
  have HV := hid hv
  clear hfit hv
  obtain ⟨h1, E1, hb1, le1, hh1⟩ := (Ext.refl hs).boxF #[.int .i64 s.next, .slice A1 s.inodes.length c1, .slice A2 s.bads.length c2] 31
  have E2 := E1.alloc (.cells #[.int .i64 0, .int .i64 0, .int .i64 0, .int .i64 0, .string ⟨#[]⟩, .slice none 0 0, .slice none 0 0] 51)
  have hR := heap_new (w.alloc (.cells #[.int .i64 s.next, .slice A1 s.inodes.length c1, .slice A2 s.bads.length c2] 31)) (.cells #[.int .i64 0, .int .i64 0, .int .i64 0, .int .i64 0, .string ⟨#[]⟩, .slice none 0 0, .slice none 0 0] 51)
  have hR0 := E1.sits.none (g := (w.alloc (.cells #[.int .i64 s.next, .slice A1 s.inodes.length c1, .slice A2 s.bads.length c2] 31)).heap.size) (Nat.le_refl _)
  have hRs := E1.size
  go_enter Tryd.func22, Tryd.ntmps22
  go_upto_region 1 with (fail)
  generalize hgR : (w.alloc (.cells #[.int .i64 s.next, .slice A1 s.inodes.length c1, .slice A2 s.bads.length c2] 31)).heap.size = gR at *
  have hgR' : w.heap.size + 1 = gR := by rw [← hgR]; simp
  generalize (w.alloc (.cells #[.int .i64 s.next, .slice A1 s.inodes.length c1, .slice A2 s.bads.length c2] 31)).alloc (.cells #[.int .i64 0, .int .i64 0, .int .i64 0, .int .i64 0, .string ⟨#[]⟩, .slice none 0 0, .slice none 0 0] 51) = W2 at *
  have x1 : W2.cell? ⟨w.heap.size, 1, none⟩ = some (.slice A1 s.inodes.length c1) := Sits_at E2.sits hb1 rfl
  have HR := hid hR
  have HE2 := hid E2
  rw [hgR']
  clear hR E2 hh1 hgR hgR'
  go_wp2_with fail
  go_loopw [11] (fun i wr => ∃ k : Nat, k ≤ s.inodes.length ∧ i = .int .i64 k ∧ Hid (∀ i y, i < k → s.inodes[i]? = some y → isI no y = false) ∧ Hid (Ext h w h1 wr) ∧ Hid (wr.heap[gR]? = some (.cells #[.int .i64 0, .int .i64 0, .int .i64 0, .int .i64 0, .string ⟨#[]⟩, .slice none 0 0, .slice none 0 0] 51 (0, 0)))) (fun i _ => s.inodes.length - (intOf i).toNat)
  case atStart => exact ⟨0, Nat.zero_le _, rfl, hid (fun i y hi => by omega), HE2, HR⟩
  case round =>
    obtain ⟨k, hk, rfl, HN, E, HRr⟩ := hrel
    clear x1
    by_cases hlt : k < s.inodes.length
    · obtain ⟨x, hx⟩ : ∃ x, s.inodes[k]? = some x := ⟨s.inodes[k], by simp [hlt]⟩
      obtain ⟨b, off, A5, c5, A6, c6, rfl, d0, d1, d2, d3, d4, d5, d6, s0, s1, s2, s3, s4⟩ := (r1.mono E.out.le).inode hx E.out.sits
      have HX := hid hx
      have HFX := hid (HF.out x (List.mem_of_getElem? hx))
      have RX := hid (show repInode h1 [.int .i64 x.no, .int .i64 x.kind, .int .i64 x.links, .int .i64 x.size, .string x.target, .slice A5 x.entries.length c5, .slice A6 x.runs.length c6] x from ⟨A5, c5, A6, c6, rfl, s0, s1, s2, s3, s4⟩)
      clear hx
      go_upto_region 4 with (fail)
      have E1 := hid (E.out.alloc (.cells #[.int .i64 x.no, .int .i64 x.kind, .int .i64 x.links, .int .i64 x.size, .string x.target, .slice A5 x.entries.length c5, .slice A6 x.runs.length c6] 51))
      have HBX := hid (heap_new wr (.cells #[.int .i64 x.no, .int .i64 x.kind, .int .i64 x.links, .int .i64 x.size, .string x.target, .slice A5 x.entries.length c5, .slice A6 x.runs.length c6] 51))
      have HRb := hid (box_alloc HRr.out (.cells #[.int .i64 x.no, .int .i64 x.kind, .int .i64 x.links, .int .i64 x.size, .string x.target, .slice A5 x.entries.length c5, .slice A6 x.runs.length c6] 51))
      generalize hgb : wr.heap.size = gb at *
      generalize (wr.alloc (.cells #[.int .i64 x.no, .int .i64 x.kind, .int .i64 x.links, .int .i64 x.size, .string x.target, .slice A5 x.entries.length c5, .slice A6 x.runs.length c6] 51)) = W1 at *
      have e0 : W1.cell? ⟨gb, 0, none⟩ = some (.int .i64 x.no) := box_cell (j := 0) HBX.out rfl
      have e1 : W1.cell? ⟨gb, 1, none⟩ = some (.int .i64 x.kind) := box_cell (j := 1) HBX.out rfl
      have e2 : W1.cell? ⟨gb, 2, none⟩ = some (.int .i64 x.links) := box_cell (j := 2) HBX.out rfl
      have e3 : W1.cell? ⟨gb, 3, none⟩ = some (.int .i64 x.size) := box_cell (j := 3) HBX.out rfl
      have e4 : W1.cell? ⟨gb, 4, none⟩ = some (.string x.target) := box_cell (j := 4) HBX.out rfl
      have e5 : W1.cell? ⟨gb, 5, none⟩ = some (.slice A5 x.entries.length c5) := box_cell (j := 5) HBX.out rfl
      have e6 : W1.cell? ⟨gb, 6, none⟩ = some (.slice A6 x.runs.length c6) := box_cell (j := 6) HBX.out rfl
      have K := hid (state_own x _ HFX.out.1 HFX.out.2 h1 W1 E1.out.sits RX.out)
      obtain ⟨q, hq⟩ : ∃ q, isI no x = q := ⟨_, rfl⟩
      have HQ := hid hq
      have hq2 : (x.no == no) = q := hq
      clear hq d0 d1 d2 d3 d4 d5 d6
      cases q
      · have HN2 := hid (no_step HN.out HX.out HQ.out)
        go_wp2_with fail
        go_roundw
        case rel => exact ⟨k + 1, by omega, by go_num, HN2, E1, HRb⟩
        case measure => simp [intOf]; omega
      · have HVS := hid (show v = some x by rw [← HV.out]; exact find_at HN.out HX.out HQ.out)
        go_wp2_with (go_at_call 47; refine K.out.mono ?_; rintro e w2 ⟨cs2, h2, rfl, ⟨A7, c7, A8, c8, rfl, t0, t1, t2, t3, t4⟩, F2⟩; have RY := hid (show repInode h2 [.int .i64 x.no, .int .i64 x.kind, .int .i64 x.links, .int .i64 x.size, .string x.target, .slice A7 x.entries.length c7, .slice A8 x.runs.length c8] x from ⟨A7, c7, A8, c8, rfl, t0, t1, t2, t3, t4⟩); have hR2 := F2.row HRb.out; have F2 := hid F2; have u0 : w2.cell? ⟨gR, 0, none⟩ = some (.int .i64 0) := box_cell (j := 0) hR2 rfl; have f0 := box_free (j := 0) hR2; have u1 : w2.cell? ⟨gR, 1, none⟩ = some (.int .i64 0) := box_cell (j := 1) hR2 rfl; have f1 := box_free (j := 1) hR2; have u2 : w2.cell? ⟨gR, 2, none⟩ = some (.int .i64 0) := box_cell (j := 2) hR2 rfl; have f2 := box_free (j := 2) hR2; have u3 : w2.cell? ⟨gR, 3, none⟩ = some (.int .i64 0) := box_cell (j := 3) hR2 rfl; have f3 := box_free (j := 3) hR2; have u4 : w2.cell? ⟨gR, 4, none⟩ = some (.string ⟨#[]⟩) := box_cell (j := 4) hR2 rfl; have f4 := box_free (j := 4) hR2; have u5 : w2.cell? ⟨gR, 5, none⟩ = some (.slice none 0 0) := box_cell (j := 5) hR2 rfl; have f5 := box_free (j := 5) hR2; have u6 : w2.cell? ⟨gR, 6, none⟩ = some (.slice none 0 0) := box_cell (j := 6) hR2 rfl; have f6 := box_free (j := 6) hR2)
        have hRn := F2.out.none hR0 (Array.getElem?_eq_some_iff.1 HRb.out).1
        have E7 := Ext.setCells (g := gR) hRs hRn [.int .i64 x.no, .int .i64 x.kind, .int .i64 x.links, .int .i64 x.size, .string x.target, .slice A7 x.entries.length c7, .slice A8 x.runs.length c8] 0 _ (E1.out.trans F2.out)
        have R7 : ((((((((w2.setCell ⟨gR, 0, none⟩ (.int .i64 x.no)).setCell ⟨gR, 1, none⟩ (.int .i64 x.kind)).setCell ⟨gR, 2, none⟩ (.int .i64 x.links)).setCell ⟨gR, 3, none⟩ (.int .i64 x.size)).setCell ⟨gR, 4, none⟩ (.string x.target)).setCell ⟨gR, 5, none⟩ (.slice A7 x.entries.length c7)).setCell ⟨gR, 6, none⟩ (.slice A8 x.runs.length c8))).heap[gR]? = some (.cells #[.int .i64 x.no, .int .i64 x.kind, .int .i64 x.links, .int .i64 x.size, .string x.target, .slice A7 x.entries.length c7, .slice A8 x.runs.length c8] 51 (0, 0)) := setCells_row [.int .i64 x.no, .int .i64 x.kind, .int .i64 x.links, .int .i64 x.size, .string x.target, .slice A7 x.entries.length c7, .slice A8 x.runs.length c8] hR2 rfl
        have E7 : Ext h w h2 (((((((w2.setCell ⟨gR, 0, none⟩ (.int .i64 x.no)).setCell ⟨gR, 1, none⟩ (.int .i64 x.kind)).setCell ⟨gR, 2, none⟩ (.int .i64 x.links)).setCell ⟨gR, 3, none⟩ (.int .i64 x.size)).setCell ⟨gR, 4, none⟩ (.string x.target)).setCell ⟨gR, 5, none⟩ (.slice A7 x.entries.length c7)).setCell ⟨gR, 6, none⟩ (.slice A8 x.runs.length c8)) := E7
        with_reducible generalize (((((((w2.setCell ⟨gR, 0, none⟩ (.int .i64 x.no)).setCell ⟨gR, 1, none⟩ (.int .i64 x.kind)).setCell ⟨gR, 2, none⟩ (.int .i64 x.links)).setCell ⟨gR, 3, none⟩ (.int .i64 x.size)).setCell ⟨gR, 4, none⟩ (.string x.target)).setCell ⟨gR, 5, none⟩ (.slice A7 x.entries.length c7)).setCell ⟨gR, 6, none⟩ (.slice A8 x.runs.length c8)) = W9 at E7 R7 ⊢
        have y0 : W9.cell? ⟨gR, 0, none⟩ = some (.int .i64 x.no) := box_cell (j := 0) R7 rfl
        have y1 : W9.cell? ⟨gR, 1, none⟩ = some (.int .i64 x.kind) := box_cell (j := 1) R7 rfl
        have y2 : W9.cell? ⟨gR, 2, none⟩ = some (.int .i64 x.links) := box_cell (j := 2) R7 rfl
        have y3 : W9.cell? ⟨gR, 3, none⟩ = some (.int .i64 x.size) := box_cell (j := 3) R7 rfl
        have y4 : W9.cell? ⟨gR, 4, none⟩ = some (.string x.target) := box_cell (j := 4) R7 rfl
        have y5 : W9.cell? ⟨gR, 5, none⟩ = some (.slice A7 x.entries.length c7) := box_cell (j := 5) R7 rfl
        have y6 : W9.cell? ⟨gR, 6, none⟩ = some (.slice A8 x.runs.length c8) := box_cell (j := 6) R7 rfl
        refine bodyPost_ret (v := .tuple #[.agg #[.int .i64 x.no, .int .i64 x.kind, .int .i64 x.links, .int .i64 x.size, .string x.target, .slice A7 x.entries.length c7, .slice A8 x.runs.length c8], .bool true]) (by simp [results, Tryd.results22, go_sem, y0, y1, y2, y3, y4, y5, y6]) rfl ⟨_, h2, by rw [HVS.out]; rfl, by rw [HVS.out]; exact RY.out, E7⟩
    · have HVN := hid (show v = none by rw [← HV.out]; exact find_no (fun i y hi => HN.out i y (by omega)))
      have hR2 := HRr.out
      have u0 : wr.cell? ⟨gR, 0, none⟩ = some (.int .i64 0) := box_cell (j := 0) hR2 rfl
      have f0 := box_free (j := 0) hR2
      have u1 : wr.cell? ⟨gR, 1, none⟩ = some (.int .i64 0) := box_cell (j := 1) hR2 rfl
      have f1 := box_free (j := 1) hR2
      have u2 : wr.cell? ⟨gR, 2, none⟩ = some (.int .i64 0) := box_cell (j := 2) hR2 rfl
      have f2 := box_free (j := 2) hR2
      have u3 : wr.cell? ⟨gR, 3, none⟩ = some (.int .i64 0) := box_cell (j := 3) hR2 rfl
      have f3 := box_free (j := 3) hR2
      have u4 : wr.cell? ⟨gR, 4, none⟩ = some (.string ⟨#[]⟩) := box_cell (j := 4) hR2 rfl
      have f4 := box_free (j := 4) hR2
      have u5 : wr.cell? ⟨gR, 5, none⟩ = some (.slice none 0 0) := box_cell (j := 5) hR2 rfl
      have f5 := box_free (j := 5) hR2
      have u6 : wr.cell? ⟨gR, 6, none⟩ = some (.slice none 0 0) := box_cell (j := 6) hR2 rfl
      have f6 := box_free (j := 6) hR2
      clear hR2
      go_wp2_with fail
      have E7 : Ext h w h1 (((((((wr.setCell ⟨gR, 0, none⟩ (.int .i64 0)).setCell ⟨gR, 1, none⟩ (.int .i64 0)).setCell ⟨gR, 2, none⟩ (.int .i64 0)).setCell ⟨gR, 3, none⟩ (.int .i64 0)).setCell ⟨gR, 4, none⟩ (.string ⟨#[]⟩)).setCell ⟨gR, 5, none⟩ (.slice none 0 0)).setCell ⟨gR, 6, none⟩ (.slice none 0 0)) := Ext.setCells (g := gR) hRs hR0 [.int .i64 0, .int .i64 0, .int .i64 0, .int .i64 0, .string ⟨#[]⟩, .slice none 0 0, .slice none 0 0] 0 _ E.out
      have R7 : ((((((((wr.setCell ⟨gR, 0, none⟩ (.int .i64 0)).setCell ⟨gR, 1, none⟩ (.int .i64 0)).setCell ⟨gR, 2, none⟩ (.int .i64 0)).setCell ⟨gR, 3, none⟩ (.int .i64 0)).setCell ⟨gR, 4, none⟩ (.string ⟨#[]⟩)).setCell ⟨gR, 5, none⟩ (.slice none 0 0)).setCell ⟨gR, 6, none⟩ (.slice none 0 0))).heap[gR]? = some (.cells #[.int .i64 0, .int .i64 0, .int .i64 0, .int .i64 0, .string ⟨#[]⟩, .slice none 0 0, .slice none 0 0] 51 (0, 0)) := setCells_row [.int .i64 0, .int .i64 0, .int .i64 0, .int .i64 0, .string ⟨#[]⟩, .slice none 0 0, .slice none 0 0] HRr.out rfl
      with_reducible generalize (((((((wr.setCell ⟨gR, 0, none⟩ (.int .i64 0)).setCell ⟨gR, 1, none⟩ (.int .i64 0)).setCell ⟨gR, 2, none⟩ (.int .i64 0)).setCell ⟨gR, 3, none⟩ (.int .i64 0)).setCell ⟨gR, 4, none⟩ (.string ⟨#[]⟩)).setCell ⟨gR, 5, none⟩ (.slice none 0 0)).setCell ⟨gR, 6, none⟩ (.slice none 0 0)) = W9 at E7 R7 ⊢
      have y0 : W9.cell? ⟨gR, 0, none⟩ = some (.int .i64 0) := box_cell (j := 0) R7 rfl
      have y1 : W9.cell? ⟨gR, 1, none⟩ = some (.int .i64 0) := box_cell (j := 1) R7 rfl
      have y2 : W9.cell? ⟨gR, 2, none⟩ = some (.int .i64 0) := box_cell (j := 2) R7 rfl
      have y3 : W9.cell? ⟨gR, 3, none⟩ = some (.int .i64 0) := box_cell (j := 3) R7 rfl
      have y4 : W9.cell? ⟨gR, 4, none⟩ = some (.string ⟨#[]⟩) := box_cell (j := 4) R7 rfl
      have y5 : W9.cell? ⟨gR, 5, none⟩ = some (.slice none 0 0) := box_cell (j := 5) R7 rfl
      have y6 : W9.cell? ⟨gR, 6, none⟩ = some (.slice none 0 0) := box_cell (j := 6) R7 rfl
      refine bodyPost_ret (v := .tuple #[.agg #[.int .i64 0, .int .i64 0, .int .i64 0, .int .i64 0, .string ⟨#[]⟩, .slice none 0 0, .slice none 0 0], .bool false]) (by simp [results, Tryd.results22, go_sem, y0, y1, y2, y3, y4, y5, y6]) rfl ⟨_, h1, by rw [HVN.out]; rfl, by rw [HVN.out]; exact zeroI_rep _, E7⟩
end Go.Proofs.YtdiaibkpcnknbaaDoor
