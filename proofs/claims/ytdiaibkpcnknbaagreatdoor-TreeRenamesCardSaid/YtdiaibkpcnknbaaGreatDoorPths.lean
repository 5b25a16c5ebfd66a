import Derived.Test.YtdiaibkpcnknbaaGreatDoorGrw
namespace Go.Proofs.YtdiaibkpcnknbaaGreatDoor
open Go.RowKit Go.Sort
set_option linter.unusedVariables false
theorem OwnL.lit {α : Type} [Enc α] {h : FH} {w : World} (hs : Sits h w) (e : TypeId) (cur : Array Value) (xs : List α) (hr : Reps h cur.toList xs) (hl : xs.length ≤ 1000) : OwnL h (w.alloc (.cells cur e)) w.heap.size e (.slice (some ⟨w.heap.size, 0, none⟩) xs.length xs.length) xs :=
  ⟨⟨cur.toList, ⟨hr.length, .inr ⟨w.heap.size, xs.length, cur, rfl, Nat.le_refl _, heap_alloc_new w _, Nat.le_refl _, by unfold maxLen; omega, by rw [← hr.length, Array.length_toList], by rw [← hr.length, List.take_length]⟩⟩, hr⟩, fun g hg => by simp [Value.ownBlock] at hg; subst hg; exact hs.none (Nat.le_refl _)⟩
theorem reps_strs (h : FH) : ∀ {xs : List ByteArray}, (∀ x ∈ xs, x.size ≤ 9223372036854775807) → Reps h (xs.map Value.string) xs
  | [], _ => rfl
  | x :: xs, hx => ⟨[.string x], xs.map Value.string, rfl, ⟨rfl, hx x (by simp)⟩, reps_strs h fun y hy => hx y (by simp [hy])⟩
def pathsP : List ByteArray := [⟨#[47, 97]⟩, ⟨#[47, 98]⟩, ⟨#[47, 100]⟩, ⟨#[47, 100, 47, 97]⟩, ⟨#[47, 100, 47, 98]⟩, ⟨#[47, 100, 47, 101]⟩, ⟨#[47, 108]⟩, ⟨#[47]⟩, ⟨#[47, 100, 47, 101, 47, 102]⟩, ⟨#[47, 97, 47, 120]⟩, ⟨#[47, 100, 47, 46, 46, 47, 97]⟩, ⟨#[47, 108, 47, 98]⟩, ⟨#[47, 47, 100, 47, 47, 46]⟩, ⟨#[47, 122, 122]⟩]
theorem paths_small : ∀ x ∈ pathsP, x.size ≤ 20 := by decide +kernel
set_option maxHeartbeats 2000000 in
set_option maxRecDepth 100000 in
theorem play_Paths (h : FH) (w : World) (hs : Sits h w) : Calls Tryz.prog 8 #[] w fun e w' => RetOwn h w 9 pathsP e w' := by
  go_enter Tryz.func8, Tryz.ntmps8
  go_wp2
  go_ret
  exact ⟨_, rfl, OwnL.lit hs 9 #[.string ⟨#[47, 97]⟩, .string ⟨#[47, 98]⟩, .string ⟨#[47, 100]⟩, .string ⟨#[47, 100, 47, 97]⟩, .string ⟨#[47, 100, 47, 98]⟩, .string ⟨#[47, 100, 47, 101]⟩, .string ⟨#[47, 108]⟩, .string ⟨#[47]⟩, .string ⟨#[47, 100, 47, 101, 47, 102]⟩, .string ⟨#[47, 97, 47, 120]⟩, .string ⟨#[47, 100, 47, 46, 46, 47, 97]⟩, .string ⟨#[47, 108, 47, 98]⟩, .string ⟨#[47, 47, 100, 47, 47, 46]⟩, .string ⟨#[47, 122, 122]⟩] pathsP (reps_strs h (xs := pathsP) fun x hx => Nat.le_trans (paths_small x hx) (by decide)) (by decide), (Ext.refl hs).alloc _⟩
end Go.Proofs.YtdiaibkpcnknbaaGreatDoor
