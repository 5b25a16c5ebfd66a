import Derived.Test.YtcnbnehammbncaaDoorPkS
import Derived.Lib.AppendZeros
namespace Go.Proofs.YtcnbnehammbncaaDoor
open Go.RowKit Go.Sort
set_option linter.unusedVariables false
/-! ### slices.Concat of two rows of strings -/
theorem OwnL.fresh0 {α : Type} [Enc α] {h : FH} {w : World} (hs : Sits h w) {T : TypeId} {cs : Array Value} {cap : Nat} (hc : cs.size = cap * Enc.sz α) (hm : cap ≤ maxLen) : OwnL h (w.alloc (.cells cs T)) w.heap.size T (.slice (some ⟨w.heap.size, 0, none⟩) 0 cap) ([] : List α) := by
  refine ⟨⟨[], ⟨by simp, .inr ⟨w.heap.size, cap, cs, rfl, Nat.le_refl _, heap_new _ _, Nat.zero_le _, hm, hc, by simp⟩⟩, rfl⟩, fun g hg => ?_⟩
  have : g = w.heap.size := by simpa [Value.ownBlock] using hg.symm
  rw [this]; exact hs.none (Nat.le_refl _)
set_option maxHeartbeats 4000000 in
set_option maxRecDepth 100000 in
theorem slices_Grow (n : Nat) (hn : n ≤ 1000000) (h : FH) (w : World) (hs : Sits h w) :
    Calls Tryd.prog 66 #[.slice none 0 0, .int .i64 n] w fun e w' => RetOwn h w 9 ([] : List ByteArray) e w' := by
  have E0 := Ext.refl hs
  by_cases h0 : n = 0
  · subst h0
    go_enter Tryd.func66, Tryd.ntmps66
    go_wp2_with fail
    go_ret
    exact ⟨_, rfl, OwnL.nil _ _ _ _, E0⟩
  · have hn0 : (0 : Int) < (n : Int) := by omega
    obtain ⟨i, z, hi, hz0, hz1, hz2, hz3⟩ := ty_Str.info
    have hr := Go.Lib.run_append_nil_zeros (P := Tryd.prog) w 30 3 30 9 i z .i64 .i64 ty_Str.und Tryd.underlying3 hi hz0 n (by omega) (by rw [hz1]; exact Enc.pos (α := ByteArray)) (by omega) (by rw [hz2]; omega)
    have hcap := grownCap_ge w n 0 9
    have O := OwnL.fresh0 (α := ByteArray) (h := h) (w := w.drew) hs (T := 9) (cs := Builtin.zeroCells z.cells n ++ Builtin.zeroCells z.cells (grownCap w n 0 9 - n)) (cap := grownCap w n 0 9) (by
      simp only [Array.size_append, size_zeroCells, hz3, ← Nat.add_mul]
      congr 1
      omega) (grownCap_le_maxLen w n 0 9 (by unfold maxLen; omega))
    have E1 := (Ext.refl hs).drew.alloc (.cells (Builtin.zeroCells z.cells n ++ Builtin.zeroCells z.cells (grownCap w n 0 9 - n)) 9)
    have hc0 : ¬ grownCap w n 0 9 = 0 := by omega
    obtain ⟨cc, hcc⟩ : ∃ cc, grownCap w n 0 9 = cc := ⟨_, rfl⟩
    rw [hcc] at hr hcap O E1 hc0
    obtain ⟨W2, hW2⟩ : ∃ W2, w.drew.alloc (.cells (Builtin.zeroCells z.cells n ++ Builtin.zeroCells z.cells (cc - n)) 9) = W2 := ⟨_, rfl⟩
    rw [hW2] at hr O E1
    have O := hid (show OwnL h W2 w.heap.size 9 (.slice (some ⟨w.heap.size, 0, none⟩) 0 cc) ([] : List ByteArray) from O)
    have E1 := hid E1
    have hr := hid hr
    clear hW2 hcc hi hz0 hz1 hz2 hz3 E0
    go_enter Tryd.func66, Tryd.ntmps66
    go_wp2_with (at_builtin; refine Go.Lib.wpList_append_run w rfl _ _ 30 3 rfl (.slice none 0 0) (.int .i64 n) rfl rfl _ W2 hr.out ?_)
    go_ret
    exact ⟨_, rfl, O.out, E1.out⟩
def catK (a b : List ByteArray) : Nat → List ByteArray
  | 0 => []
  | 1 => a
  | _ => a ++ b
def sumK (a b : List ByteArray) (k : Nat) : Int := (catK a b k).length
set_option maxHeartbeats 8000000 in
set_option maxRecDepth 100000 in
theorem slices_Concat (a b : List ByteArray) (A : Option Addr) (ca : Nat) (A' : Option Addr) (cb : Nat) (g : Nat) (h : FH) (hg : h g = some (.cells #[.slice A a.length ca, .slice A' b.length cb] 30 (0, 0))) (hla : a.length ≤ 100000) (hlb : b.length ≤ 100000) (w : World) (hs : Sits h w) (ra : RowAt h A a) (rb : RowAt h A' b) :
    Calls Tryd.prog 53 #[.slice (some ⟨g, 0, none⟩) 2 2] w fun e w' => RetOwn h w 9 (a ++ b) e w' := by
  have c0 : w.cell? ⟨g, 0, none⟩ = some (.slice A a.length ca) := Sits_at hs hg rfl
  have c1 : w.cell? ⟨g, 1, none⟩ = some (.slice A' b.length cb) := Sits_at hs hg rfl
  have hi0 : (0 : Int) ≤ (a.length : Int) := by omega
  have hi1 : (0 : Int) ≤ (b.length : Int) := by omega
  have hi2 : (a.length : Int) ≤ 100000 := by omega
  have hi3 : (b.length : Int) ≤ 100000 := by omega
  go_enter Tryd.func53, Tryd.ntmps53
  go_wp2_with fail
  go_loopw [3, 11] (fun s3 i wr => ∃ k : Nat, k ≤ 2 ∧ i = .int .i64 k ∧ s3 = .int .i64 (sumK a b k) ∧ wr = w) (fun _ i _ => 2 - (intOf i).toNat)
  case atStart => exact ⟨0, Nat.zero_le _, rfl, rfl, rfl⟩
  case round =>
    obtain ⟨k, hk, rfl, rfl, rfl⟩ := hrel
    obtain rfl | rfl | rfl : k = 0 ∨ k = 1 ∨ k = 2 := by omega
    · rw [show sumK a b 0 = 0 from rfl]
      go_wp2_with fail
      go_roundw
      case rel => exact ⟨1, by omega, rfl, rfl, trivial⟩
      case measure => simp [intOf]
    · rw [show sumK a b 1 = a.length from rfl]
      go_wp2_with fail
      go_roundw
      case rel => exact ⟨2, by omega, rfl, by unfold sumK catK; simp, trivial⟩
      case measure => simp [intOf]
    · rw [show sumK a b 2 = ((a.length + b.length : Nat) : Int) from by unfold sumK catK; simp]
      have KG := hid (slices_Grow (a.length + b.length) (by omega) h wr hs)
      go_wp2_with (go_at_call 66; refine KG.out.mono ?_; rintro e w2 ⟨v2, rfl, O2, E2⟩; have O2 := hid O2; have E2 := hid E2)
      have HB1 := hid (show (([] : List ByteArray).length + a.length) * 16 ≤ 140737488355328 by simp; omega)
      have HB2 := hid (show (a.length + b.length) * 16 ≤ 140737488355328 by omega)
      clear c0 c1
      obtain ⟨W0, hW0⟩ : ∃ W0, W0 = wr := ⟨_, rfl⟩
      have HW0 := hid hW0
      rw [← hW0] at O2 E2
      clear hW0
      go_loopw [6, 27] (fun s6 i wx => ∃ k : Nat, k ≤ 2 ∧ i = .int .i64 k ∧ Hid (OwnL h wx W0.heap.size 9 s6 (catK a b k)) ∧ Hid (Ext h W0 h wx)) (fun _ i _ => 2 - (intOf i).toNat)
      case atStart => exact ⟨0, Nat.zero_le _, rfl, O2, E2⟩
      case round =>
        obtain ⟨k, hk, rfl, O, E⟩ := hrel
        have c0 : wr.cell? ⟨g, 0, none⟩ = some (.slice A a.length ca) := Sits_at E.out.sits hg rfl
        have c1 : wr.cell? ⟨g, 1, none⟩ = some (.slice A' b.length cb) := Sits_at E.out.sits hg rfl
        obtain rfl | rfl | rfl : k = 0 ∨ k = 1 ∨ k = 2 := by omega
        · go_wp2_with (at_builtin; refine wpList_appendR rfl _ _ 30 rfl W0.heap.size 9 16 ty_Str _ ([] : List ByteArray) a rfl O.out E.out.sits _ _ _ rfl rfl ra HB1.out (by decide) E.out.size ?_; intro v5 w5 O5 hg5 _; have E5 := hid (E.out.grown hg5 (fun k hk => ⟨(O.out.lt k hk).1, O.out.free k hk⟩)); have O5 := hid O5; clear hg5)
          go_roundw
          case rel => exact ⟨1, by omega, rfl, O5, E5⟩
          case measure => simp [intOf]
        · go_wp2_with (at_builtin; refine wpList_appendR rfl _ _ 30 rfl W0.heap.size 9 16 ty_Str _ a b rfl O.out E.out.sits _ _ _ rfl rfl rb HB2.out (by decide) E.out.size ?_; intro v5 w5 O5 hg5 _; have E5 := hid (E.out.grown hg5 (fun k hk => ⟨(O.out.lt k hk).1, O.out.free k hk⟩)); have O5 := hid O5; clear hg5)
          go_roundw
          case rel => exact ⟨2, by omega, rfl, O5, E5⟩
          case measure => simp [intOf]
        · go_wp2_with fail
          go_ret
          exact ⟨_, rfl, by rw [← HW0.out]; exact O.out, by rw [← HW0.out]; exact E.out⟩
end Go.Proofs.YtcnbnehammbncaaDoor
