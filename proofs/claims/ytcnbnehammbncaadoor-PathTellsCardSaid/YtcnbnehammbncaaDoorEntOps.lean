import Derived.Test.YtcnbnehammbncaaDoorRefEnt
import Derived.Test.YtcnbnehammbncaaDoorCore
import Derived.Test.YtcnbnehammbncaaDoorRefAdd
import Derived.Test.YtcnbnehammbncaaDoorStAll
import Derived.Laws.CopyRow
namespace Go.Proofs.YtcnbnehammbncaaDoor
open Go.RowKit Go.Sort
set_option linter.unusedVariables false
/-! ### entries: places, Find -/
def firstIx : List Entry → Nat → ByteArray → Option Nat
  | [], _, _ => none
  | x :: xs, i, a => if a = x.name then some i else firstIx xs (i + 1) a
def placesE (xs : List Entry) (k : Nat) : ByteArray → Option Value := fun a => (firstIx (xs.drop k) k a).map fun j => Value.int .i64 (j : Nat)
theorem placesE_end (xs : List Entry) (a : ByteArray) : placesE xs xs.length a = none := by unfold placesE; rw [List.drop_length]; rfl
theorem placesE_step {xs : List Entry} {k : Nat} {x : Entry} (hx : xs[k]? = some x) (a : ByteArray) : placesE xs k a = if a = x.name then some (Value.int .i64 (k : Nat)) else placesE xs (k + 1) a := by
  obtain ⟨hk, he⟩ := List.getElem?_eq_some_iff.1 hx
  unfold placesE
  rw [List.drop_eq_getElem_cons hk, he]
  show (if a = x.name then some k else firstIx (xs.drop (k + 1)) (k + 1) a).map _ = _
  split <;> rfl
theorem firstIx_none : ∀ {xs : List Entry} {i : Nat} {a : ByteArray}, firstIx xs i a = none → findE xs a = none ∧ xs.findIdx? (isE a) = none
  | [], _, _, _ => ⟨rfl, rfl⟩
  | x :: xs, i, a, h => by
    unfold firstIx at h
    split at h
    · cases h
    · rename_i hne
      obtain ⟨h1, h2⟩ := firstIx_none h
      have hp : isE a x = false := decide_eq_false (fun e => hne e.symm)
      refine ⟨?_, ?_⟩
      · unfold findE at h1 ⊢
        rw [List.find?_cons, hp]; exact h1
      · rw [List.findIdx?_cons, hp]
        simp [h2]
theorem firstIx_some : ∀ {xs : List Entry} {i j : Nat} {a : ByteArray}, firstIx xs i a = some j → i ≤ j ∧ ∃ y, xs[j - i]? = some y ∧ findE xs a = some y.no ∧ xs.findIdx? (isE a) = some (j - i)
  | [], _, _, _, h => by cases h
  | x :: xs, i, j, a, h => by
    unfold firstIx at h
    split at h
    · rename_i he
      cases h
      have hp : isE a x = true := decide_eq_true he.symm
      refine ⟨Nat.le_refl _, x, by simp, ?_, ?_⟩
      · unfold findE; rw [List.find?_cons, hp]; rfl
      · rw [List.findIdx?_cons, hp]; simp
    · rename_i hne
      obtain ⟨h1, y, h2, h3, h4⟩ := firstIx_some h
      have hp : isE a x = false := decide_eq_false (fun e => hne e.symm)
      have e : j - i = (j - (i + 1)) + 1 := by omega
      refine ⟨by omega, y, by rw [e]; simpa using h2, ?_, ?_⟩
      · unfold findE at h3 ⊢
        rw [List.find?_cons, hp]; exact h3
      · rw [List.findIdx?_cons, hp, e]
        simp [h4]
set_option maxHeartbeats 4000000 in
theorem entries_places (xs : List Entry) (A : Option Addr) (c : Nat) (h : FH) (w : World) (hs : Sits h w) (r : RowAt h A xs) :
    Calls Tryd.prog 70 #[.slice A xs.length c] w fun e w' => RetMap encS h w (placesE xs 0) e w' := by
  have hl := r.1
  have hmm := @run_makeMap Tryd.prog
  have HN1 := hid (hs.none (g := w.heap.size) (Nat.le_refl _))
  go_enter Tryd.func70, Tryd.ntmps70
  go_wp2
  go_loopw [4] (fun i wr => ∃ k : Nat, k ≤ xs.length ∧ i = .int .i64 ((k : Int) - 1) ∧ MapIs encS wr w.heap.size (placesE xs k) ∧ Ext h w h wr) (fun i _ => (intOf i + 1).toNat)
  case atStart => exact ⟨xs.length, Nat.le_refl _, by go_num, (MapIs.made encS w).congr (fun a => (placesE_end xs a).symm), (Ext.refl hs).alloc _⟩
  case round =>
    obtain ⟨k, hk, rfl, M, E⟩ := hrel
    cases k with
    | zero =>
      go_wp2_with fail
      go_ret
      exact ⟨_, rfl, M, Nat.le_refl _, E⟩
    | succ m =>
      obtain ⟨x, hx⟩ : ∃ x, xs[m]? = some x := ⟨xs[m]'(by omega), List.getElem?_eq_getElem _⟩
      obtain ⟨b, off, rfl, c0, c1, hxs⟩ := r.entry hx E.sits
      have HST := hid (placesE_step hx)
      clear hx
      rw [show ((m + 1 : Nat) : Int) - 1 = (m : Int) by omega]
      have i1 : (0 : Int) ≤ (m : Int) := by omega
      have i2 : (m : Int) < (xs.length : Int) := by omega
      go_wp2_with (at_mapUpdate; refine wpList_mapSet _ rfl _ _ _ 121 3 rfl kt_entries_key Tryd.underlying121 w.heap.size _ rfl M x.name rfl (.int .i64 m) rfl ?_; intro w1 M1 hg1)
      go_roundw
      case rel => exact ⟨m, by omega, by go_num, M1.congr (fun a => (HST.out a).symm), E.grown hg1 (fun j hj => by cases hj; exact ⟨Nat.le_refl _, HN1.out⟩)⟩
      case measure => simp [intOf]
set_option maxHeartbeats 4000000 in
theorem entries_Find (xs : List Entry) (A : Option Addr) (c : Nat) (s : ByteArray) (hsz : s.size ≤ 9223372036854775807) (v : Option Int) (hv : findE xs s = v) (h : FH) (w : World) (hs : Sits h w) (r : RowAt h A xs) :
    Calls Tryd.prog 64 #[.slice A xs.length c, .string s] w fun e w' => e = .returned (.tuple #[.int .i64 (v.getD 0), .bool v.isSome]) ∧ Ext h w h w' := by
  have hl := r.1
  have HV := hid hv
  have KP := hid (entries_places xs A c h w hs r)
  clear hv
  go_enter Tryd.func64, Tryd.ntmps64
  go_wp2_with fail
  refine KP.out.mono ?_
  rintro e w1 ⟨b, rfl, M, hb, E1⟩
  have hlook := M.lookOk kt_entries_key Tryd.underlying121 zero_int s
  cases hf : firstIx xs 0 s with
  | none =>
    have hp : placesE xs 0 s = none := by unfold placesE; rw [List.drop_zero, hf]; rfl
    rw [hp] at hlook
    have HF := hid (firstIx_none hf).1
    simp only [Option.getD_none, Option.isSome_none, encS] at hlook
    clear hf hp M
    go_wp2_with fail
    go_ret2
    exact ⟨ret_ib' (by rw [← HV.out, HF.out]; rfl) (by rw [← HV.out, HF.out]; rfl), E1⟩
  | some j =>
    obtain ⟨_, y, hy, hF, _⟩ := firstIx_some hf
    rw [Nat.sub_zero] at hy
    have hp : placesE xs 0 s = some (.int .i64 (j : Nat)) := by unfold placesE; rw [List.drop_zero, hf]; rfl
    rw [hp] at hlook
    have HF := hid hF
    have hjl := (List.getElem?_eq_some_iff.1 hy).1
    obtain ⟨b', off, rfl, c0, c1, hxs⟩ := r.entry hy E1.sits
    have i1 : (0 : Int) ≤ (j : Int) := by omega
    have i2 : (j : Int) < (xs.length : Int) := by omega
    simp only [Option.getD_some, Option.isSome_some, encS] at hlook
    clear hf hp M hF hy
    go_wp2_with fail
    go_ret2
    exact ⟨ret_ib' (by rw [← HV.out, HF.out]; rfl) (by rw [← HV.out, HF.out]; rfl), E1⟩
end Go.Proofs.YtcnbnehammbncaaDoor

namespace Go.Proofs.YtcnbnehammbncaaDoor
open Go.RowKit Go.Sort
set_option linter.unusedVariables false
/-! ### entries.Add: the closure, slices.IndexFunc -/
theorem not_leB (a b : ByteArray) : (!Op.bytesLess a.toList b.toList && !(a.toList == b.toList)) = !leB a b := by unfold leB; rw [Bool.not_or]
def ixGt (xs : List Entry) (s : ByteArray) : Int := if posE xs s < xs.length then posE xs s else -1
end Go.Proofs.YtcnbnehammbncaaDoor

namespace Go.Proofs.YtcnbnehammbncaaDoor
open Go.RowKit Go.Sort
set_option linter.unusedVariables false
/-! ### slices.Insert at Entry, one element -/
theorem ent_row {h : FH} {gv : Nat} {e : Entry} (hsz : e.name.size ≤ 9223372036854775807) (hb : h gv = some (.cells #[.string e.name, .int .i64 e.no] 81 (0, 0))) : RowAt h (some ⟨gv, 0, none⟩) [e] :=
  RowAt.of_block hb ⟨_, _, rfl, ⟨rfl, hsz⟩, rfl⟩ (by simp)
theorem Reps.take2 {h : FH} : ∀ {cells : List Value} {xs : List Entry} (_ : Reps h cells xs) (i : Nat), Reps h (cells.take (i * 2)) (xs.take i)
  | _, _, r, 0 => by simp; rfl
  | cells, [], r, i + 1 => by
    have : cells = [] := r
    subst this; simp; rfl
  | _, x :: xs, ⟨cs, rest, e, r, t⟩, i + 1 => by
    have hl : cs.length = 2 := Enc.len r
    subst e
    exact ⟨cs, rest.take (i * 2), by rw [List.take_append, hl, List.take_of_length_le (by omega)]; congr 2; omega, r, t.take2 i⟩
theorem Reps.drop2 {h : FH} : ∀ {cells : List Value} {xs : List Entry} (_ : Reps h cells xs) (i : Nat), Reps h (cells.drop (i * 2)) (xs.drop i)
  | _, _, r, 0 => by simpa using r
  | cells, [], r, i + 1 => by
    have : cells = [] := r
    subst this; simp; rfl
  | _, x :: xs, ⟨cs, rest, e, r, t⟩, i + 1 => by
    have hl : cs.length = 2 := Enc.len r
    subst e
    rw [List.drop_append, hl, List.drop_of_length_le (by omega), List.nil_append, show (i + 1) * 2 - 2 = i * 2 by omega]
    exact t.drop2 i
end Go.Proofs.YtcnbnehammbncaaDoor

namespace Go.Proofs.YtcnbnehammbncaaDoor
open Go.RowKit Go.Sort
set_option linter.unusedVariables false
/-! ### slices.Insert at Entry: no room -/
theorem grown_new {w0 : World} {r : Option Nat} (g : Nat) (hg : w0.heap.size ≤ g) : ∀ (vs : List Value) (o : Nat) (w : World), w0.grownBy w r → w0.grownBy (w.setCells g o vs) r
  | [], _, _, a => a
  | v :: vs, o, w, a => grown_new g hg vs (o + 1) _ ⟨a.os, a.tape, a.output, by simpa [World.setCell] using a.size, fun k hk hne => by
      rw [← a.block k hk hne]
      simp only [World.setCell]
      rw [Array.getElem?_modify, if_neg (by omega)]⟩
theorem setCells_ne {g k : Nat} (hne : k ≠ g) : ∀ {vs : List Value} {o : Nat} {w : World}, (w.setCells g o vs).heap[k]? = w.heap[k]?
  | [], _, _ => rfl
  | v :: vs, o, w => by
    rw [World.setCells, setCells_ne hne (vs := vs)]
    simp only [World.setCell]
    rw [Array.getElem?_modify, if_neg (fun e => hne e.symm)]
end Go.Proofs.YtcnbnehammbncaaDoor

namespace Go.Proofs.YtcnbnehammbncaaDoor
open Go.RowKit Go.Sort
set_option linter.unusedVariables false
/-! ### entries.Add -/
theorem posE_le : ∀ (xs : List Entry) (s : ByteArray), posE xs s ≤ xs.length := fun xs s => by
  unfold posE
  induction xs with
  | nil => simp
  | cons x xs ih => rw [List.takeWhile_cons]; split <;> simp <;> omega
end Go.Proofs.YtcnbnehammbncaaDoor

namespace Go.Proofs.YtcnbnehammbncaaDoor
open Go.RowKit Go.Sort
set_option linter.unusedVariables false
/-! ### slices.Delete at Entry, one element -/
section
variable {P : Program}
theorem step_append_run (w : World) {o : Oper} {a : Act} {K : Act → World → Prop} {Q : Exit → Act → World → Prop} (d s : Operand) (dT sT : TypeId)
    (ho : o.op = .call { callee := .builtin .append, args := #[d, s], argTypes := #[dT, sT] }) (vd vs : Value) (hd : a.eval d = vd) (hs : a.eval s = vs)
    (v' : Value) (w' : World) (hr : (Builtin.append_ #[dT, sT] o.type #[vd, vs]).run P w = .ok v' w') (h : K (a.put o.dst v') w') : o.wp P a w K Q := by
  unfold Oper.wp
  simp [execOp, ho, resolve, invoke, builtin, hd, hs, hr, Result.andThen]
  exact h
end
end Go.Proofs.YtcnbnehammbncaaDoor

namespace Go.Proofs.YtcnbnehammbncaaDoor
open Go.RowKit Go.Sort
set_option linter.unusedVariables false
end Go.Proofs.YtcnbnehammbncaaDoor

namespace Go.Proofs.YtcnbnehammbncaaDoor
open Go.RowKit Go.Sort
set_option linter.unusedVariables false
/-! ### entries.Remove -/
end Go.Proofs.YtcnbnehammbncaaDoor
