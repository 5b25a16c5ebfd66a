import Derived.Test.YtdiaibkpcnknbaaDoorDds
namespace Go.Proofs.YtdiaibkpcnknbaaDoor
open Go.RowKit Go.Sort
set_option linter.unusedVariables false
theorem szG3 {cs : List Value} (h : cs.length = 3) : (#[.int .i64 0, .slice none 0 0, .slice none 0 0] : Array Value).size = cs.toArray.size := by refine Eq.trans (b := 3) rfl ?_; rw [List.size_toArray, h]
/-- So many calls. -/
def growK (os : List Int) (ops : List POp) (k : Nat) : State := (ops.take k).foldl (growS os) newS
theorem growK_succ (os : List Int) {ops : List POp} {k : Nat} {o : POp} (h : ops[k]? = some o) : growK os ops (k + 1) = growS os (growK os ops k) o := by
  unfold growK
  rw [List.take_add_one, h, List.foldl_append]; rfl
theorem growK_end {os : List Int} {ops : List POp} {k : Nat} (h : (k = ops.length ∧ k ≤ 40) ∨ k = 40) : growK os ops k = grownP os ops := by
  unfold growK grownP
  rcases h with ⟨h, h2⟩ | h
  · rw [List.take_of_length_le (by omega), List.take_of_length_le (by omega)]
  · rw [h]
set_option maxRecDepth 100000 in
theorem RowAt.ixPOp {h : FH} {A : Option Addr} {xs : List POp} (r : RowAt h A xs) {k : Nat} {x : POp} (hx : xs[k]? = some x) {w : World} (hs : Sits h w) (c : Nat) :
    ∃ b off, (∀ w', (Instr.indexAt 22 (.slice A xs.length c) (.int .i64 (k : Int))).run Tryd.prog w' = .ok (.pointer (some ⟨b, off + k * 4, none⟩)) w') ∧ w.cell? ⟨b, off + k * 4, none⟩ = some (.int .i64 x.kind) ∧ w.cell? ⟨b, off + k * 4 + 1, none⟩ = some (.string x.path) ∧ w.cell? ⟨b, off + k * 4 + 2, none⟩ = some (.string x.other) ∧ w.cell? ⟨b, off + k * 4 + 3, none⟩ = some (.int .i64 x.n) ∧ x.path.size ≤ 9223372036854775807 ∧ x.other.size ≤ 9223372036854775807 := by
  obtain ⟨b, off, rfl, d0, d1, d2, d3, s0, s1⟩ := r.pop hx hs
  have hlt := (List.getElem?_eq_some_iff.1 hx).1
  refine ⟨b, off, fun w' => ?_, d0, d1, d2, d3, s0, s1⟩
  rw [run_indexAt_slice (h := Tryd.underlying22), if_pos (by omega)]
  rw [show (sizeOf (Tryd.prog.elem 22)).run Tryd.prog w' = .ok 4 w' from by kernel_rfl]
  simp [Result.andThen, Addr.add]
set_option maxHeartbeats 8000000 in
set_option maxRecDepth 100000 in
theorem play_Small (ops : List POp) (A : Option Addr) (c : Nat) (h : FH) (w : World) (hs : Sits h w) (ra : RowAt h A ops) :
    Calls Tryd.prog 4 #[.slice A ops.length c] w fun e w' => ∃ b, e = .returned (.bool b) ∧ Ext h w h w' := by
  have RA := hid ra
  have hal := ra.1
  have E0 := hid (Ext.refl hs)
  clear ra
  go_enter Tryd.func4, Tryd.ntmps4
  go_wp2_with fail
  go_loopw [3, 4] (fun n i wr => ∃ (k : Nat) (z : Int), k ≤ ops.length ∧ n = .int .i64 z ∧ i = .int .i64 (k : Int) ∧ Hid (Ext h w h wr)) (fun _ i _ => ops.length - (intOf i).toNat)
  case atStart => exact ⟨0, 0, Nat.zero_le _, rfl, rfl, E0⟩
  case round =>
    obtain ⟨k, z, hk, rfl, rfl, I⟩ := hrel
    by_cases hkl : k < ops.length
    · have hkl' : (k : Int) < (ops.length : Int) := by omega
      obtain ⟨o, ho⟩ : ∃ o, ops[k]? = some o := ⟨_, List.getElem?_eq_getElem hkl⟩
      obtain ⟨b, off, hix, e0, e1, e2, e3, sp, so⟩ := RA.out.ixPOp ho I.out.sits c
      clear ho e0 e3
      go_upto_region 5 with (fail)
      go_region
      go_wp2_with fail
      go_roundw
      case rel => exact ⟨k + 1, _, by omega, rfl, by go_num, hid I.out.drew⟩
      case measure => simp [intOf]; omega
    · have hkl' : ¬ ((k : Int) < (ops.length : Int)) := by omega
      by_cases hz : z ≤ 20000
      · go_wp2
        exact bodyPost_ret (v := .bool true) (by simp [results, Tryd.results4, go_sem]) rfl ⟨.inr rfl, I.out⟩
      · go_wp2
        exact bodyPost_ret (v := .bool false) (by simp [results, Tryd.results4, go_sem]) rfl ⟨.inl rfl, I.out⟩

end Go.Proofs.YtdiaibkpcnknbaaDoor
