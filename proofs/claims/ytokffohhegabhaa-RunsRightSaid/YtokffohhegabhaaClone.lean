import Derived.Test.YtokffohhegabhaaMapOps
import Derived.Test.YtokffohhegabhaaTys
namespace Go.Proofs.Ytokffohhegabhaa
open Go.RowKit Go.Sort
set_option linter.unusedVariables false
set_option maxHeartbeats 1000000 in
theorem clone_Run (xs : List Run) (A : Option Addr) (c : Nat) (hb : xs.length * 24 ≤ 140737488355328) (h : FH) (w : World) (hs : Sits h w) (r : RowAt h A xs) :
    Calls Try.prog 98 #[.slice A xs.length c] w fun e w' => RetOwn h w 48 xs e w' := by
  have q22 : ∀ (w : World) (a : Option Addr) (n c n' c' : Nat), (binOp .eql 44 (.slice a n c) (.slice none n' c')).run Try.prog w = .ok (.bool a.isNone) w := fun w a n c n' c' => Lib.run_eql_slice_nil w _ _ a n c n' c' Try.underlying44
  cases A with
  | none =>
    have hx : xs = [] := by
      cases xs with
      | nil => rfl
      | cons y ys => obtain ⟨b, off, e, _⟩ := r.2 (by simp); cases e
    subst hx
    go_enter Try.func98, Try.ntmps98
    go_wp2
    go_ret
    exact ⟨_, rfl, OwnL.nil _ _ _ _, Ext.refl hs⟩
  | some ad =>
    have O0 : OwnL h (w.alloc (.cells #[] 48)) w.heap.size 48 (.slice (some ⟨w.heap.size, 0, none⟩) 0 0) ([] : List Run) :=
      ⟨⟨[], World.ownsRow_made w #[] 0 (Nat.le_refl _) (by unfold maxLen; omega) (by simp), rfl⟩, fun g hg => by simp [Value.ownBlock] at hg; subst hg; exact hs.none (Nat.le_refl _)⟩
    have E1 := (Ext.refl hs).alloc (.cells #[] 48)
    go_enter Try.func98, Try.ntmps98
    go_wp2_with (at_builtin; refine wpList_appendR rfl _ _ 44 rfl w.heap.size 48 24 ty_Run _ [] xs rfl O0 E1.sits (some ad) _ c rfl rfl r (by simpa using hb) (by decide) (by simp) ?_)
    intro v w1 O hg _
    change OwnL _ _ _ _ _ xs at O
    have E2 := E1.grown hg (fun k hk => by simp [Value.ownBlock] at hk; subst hk; exact ⟨Nat.le_refl _, hs.none (Nat.le_refl _)⟩)
    go_wp2
    go_ret
    exact ⟨_, rfl, O, E2⟩
set_option maxHeartbeats 1000000 in
theorem clone_Entry (xs : List Entry) (A : Option Addr) (c : Nat) (hb : xs.length * 24 ≤ 140737488355328) (h : FH) (w : World) (hs : Sits h w) (r : RowAt h A xs) :
    Calls Try.prog 114 #[.slice A xs.length c] w fun e w' => RetOwn h w 73 xs e w' := by
  have q22 : ∀ (w : World) (a : Option Addr) (n c n' c' : Nat), (binOp .eql 60 (.slice a n c) (.slice none n' c')).run Try.prog w = .ok (.bool a.isNone) w := fun w a n c n' c' => Lib.run_eql_slice_nil w _ _ a n c n' c' Try.underlying60
  cases A with
  | none =>
    have hx : xs = [] := by
      cases xs with
      | nil => rfl
      | cons y ys => obtain ⟨b, off, e, _⟩ := r.2 (by simp); cases e
    subst hx
    go_enter Try.func114, Try.ntmps114
    go_wp2
    go_ret
    exact ⟨_, rfl, OwnL.nil _ _ _ _, Ext.refl hs⟩
  | some ad =>
    have O0 : OwnL h (w.alloc (.cells #[] 73)) w.heap.size 73 (.slice (some ⟨w.heap.size, 0, none⟩) 0 0) ([] : List Entry) :=
      ⟨⟨[], World.ownsRow_made w #[] 0 (Nat.le_refl _) (by unfold maxLen; omega) (by simp), rfl⟩, fun g hg => by simp [Value.ownBlock] at hg; subst hg; exact hs.none (Nat.le_refl _)⟩
    have E1 := (Ext.refl hs).alloc (.cells #[] 73)
    go_enter Try.func114, Try.ntmps114
    go_wp2_with (at_builtin; refine wpList_appendR rfl _ _ 60 rfl w.heap.size 73 24 ty_Entry _ [] xs rfl O0 E1.sits (some ad) _ c rfl rfl r (by simpa using hb) (by decide) (by simp) ?_)
    intro v w1 O hg _
    change OwnL _ _ _ _ _ xs at O
    have E2 := E1.grown hg (fun k hk => by simp [Value.ownBlock] at hk; subst hk; exact ⟨Nat.le_refl _, hs.none (Nat.le_refl _)⟩)
    go_wp2
    go_ret
    exact ⟨_, rfl, O, E2⟩
set_option maxHeartbeats 1000000 in
theorem clone_Int (xs : List Int) (A : Option Addr) (c : Nat) (hb : xs.length * 8 ≤ 140737488355328) (h : FH) (w : World) (hs : Sits h w) (r : RowAt h A xs) :
    Calls Try.prog 131 #[.slice A xs.length c] w fun e w' => RetOwn h w 3 xs e w' := by
  have q22 : ∀ (w : World) (a : Option Addr) (n c n' c' : Nat), (binOp .eql 23 (.slice a n c) (.slice none n' c')).run Try.prog w = .ok (.bool a.isNone) w := fun w a n c n' c' => Lib.run_eql_slice_nil w _ _ a n c n' c' Try.underlying23
  cases A with
  | none =>
    have hx : xs = [] := by
      cases xs with
      | nil => rfl
      | cons y ys => obtain ⟨b, off, e, _⟩ := r.2 (by simp); cases e
    subst hx
    go_enter Try.func131, Try.ntmps131
    go_wp2
    go_ret
    exact ⟨_, rfl, OwnL.nil _ _ _ _, Ext.refl hs⟩
  | some ad =>
    have O0 : OwnL h (w.alloc (.cells #[] 3)) w.heap.size 3 (.slice (some ⟨w.heap.size, 0, none⟩) 0 0) ([] : List Int) :=
      ⟨⟨[], World.ownsRow_made w #[] 0 (Nat.le_refl _) (by unfold maxLen; omega) (by simp), rfl⟩, fun g hg => by simp [Value.ownBlock] at hg; subst hg; exact hs.none (Nat.le_refl _)⟩
    have E1 := (Ext.refl hs).alloc (.cells #[] 3)
    go_enter Try.func131, Try.ntmps131
    go_wp2_with (at_builtin; refine wpList_appendR rfl _ _ 23 rfl w.heap.size 3 8 ty_Int _ [] xs rfl O0 E1.sits (some ad) _ c rfl rfl r (by simpa using hb) (by decide) (by simp) ?_)
    intro v w1 O hg _
    change OwnL _ _ _ _ _ xs at O
    have E2 := E1.grown hg (fun k hk => by simp [Value.ownBlock] at hk; subst hk; exact ⟨Nat.le_refl _, hs.none (Nat.le_refl _)⟩)
    go_wp2
    go_ret
    exact ⟨_, rfl, O, E2⟩
end Go.Proofs.Ytokffohhegabhaa
