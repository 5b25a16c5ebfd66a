import Derived.Test.YtmljcjjhakhjaaaDoorApp
import Derived.Laws.BytesArg
namespace Go.Proofs.YtmljcjjhakhjaaaDoor
open Go.RowKit Go.Sort
set_option linter.unusedVariables false
/-! ### string([]byte{..}) -/
theorem conv1 (w : World) (x : Int) (o : Nat) (s : ByteArray) (hs : s = ⟨#[UInt8.ofNat x.toNat]⟩) : (convert 33 9 (.slice (some ⟨w.heap.size, 0, none⟩) 1 o)).run Tryd.prog (w.alloc (.cells #[.int .u8 x] 5)) = .ok (.string s) (w.alloc (.cells #[.int .u8 x] 5)) := by
  rw [run_convert_bytes_arg (P := Tryd.prog) (w.alloc (.cells #[.int .u8 x] 5)) 33 5 Tryd.underlying33 Tryd.underlying5 w.heap.size 0 1 o [x] rfl (fun i hi => by
    obtain rfl : i = 0 := by omega
    rw [cell_of_row _ _ _ _ _ (0, 0) (heap_alloc_new w _)]; rfl) _ Tryd.underlying9, hs]
  rfl
theorem conv2 (w : World) (x y : Int) (o : Nat) (s : ByteArray) (hs : s = ⟨#[UInt8.ofNat x.toNat, UInt8.ofNat y.toNat]⟩) : (convert 33 9 (.slice (some ⟨w.heap.size, 0, none⟩) 2 o)).run Tryd.prog (w.alloc (.cells #[.int .u8 x, .int .u8 y] 5)) = .ok (.string s) (w.alloc (.cells #[.int .u8 x, .int .u8 y] 5)) := by
  rw [run_convert_bytes_arg (P := Tryd.prog) (w.alloc (.cells #[.int .u8 x, .int .u8 y] 5)) 33 5 Tryd.underlying33 Tryd.underlying5 w.heap.size 0 2 o [x, y] rfl (fun i hi => by
    rw [cell_of_row _ _ _ _ _ (0, 0) (heap_alloc_new w _)]
    rcases (show i = 0 ∨ i = 1 by omega) with rfl | rfl <;> rfl) _ Tryd.underlying9, hs]
  rfl
theorem conv1d (w : World) (x : Int) (o : Nat) (s : ByteArray) (hs : s = ⟨#[UInt8.ofNat x.toNat]⟩) : (convert 33 9 (.slice (some ⟨w.heap.size, 0, none⟩) 1 o)).run Tryd.prog (w.alloc (.cells #[.int .u8 x] 5)).drew = .ok (.string s) (w.alloc (.cells #[.int .u8 x] 5)).drew := by
  rw [run_convert_bytes_arg (P := Tryd.prog) (w.alloc (.cells #[.int .u8 x] 5)).drew 33 5 Tryd.underlying33 Tryd.underlying5 w.heap.size 0 1 o [x] rfl (fun i hi => by
    obtain rfl : i = 0 := by omega
    show (w.alloc (.cells #[.int .u8 x] 5)).cell? _ = _
    rw [cell_of_row _ _ _ _ _ (0, 0) (heap_alloc_new w _)]; rfl) _ Tryd.underlying9, hs]
  rfl
theorem u8_range {H : Type} (enc : TypeId × Value → H) (W : World) (sp : Nat → Bool) (held : Bool) (fuel : Nat) (n : Int) (x : DataW H × List MemPlace) (h : DataW.trod enc Tryd.prog W 0 sp held fuel 5 [.int .u8 n] = some x) : 0 ≤ n ∧ n < 256 := by
  obtain ⟨k, e1, _, wf⟩ := DataW.trod_int Tryd.underlying5 h
  have e1 : n = k := by simpa using e1
  subst e1
  have := wf
  simp [Lit.wf, IntKind.min, IntKind.max, IntKind.signed, IntKind.bits] at this
  omega
end Go.Proofs.YtmljcjjhakhjaaaDoor
