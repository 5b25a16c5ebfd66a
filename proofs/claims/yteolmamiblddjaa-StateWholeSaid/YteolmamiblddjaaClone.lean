import Derived.Test.YteolmamiblddjaaMapOps
import Derived.Test.YteolmamiblddjaaTys
namespace Go.Proofs.Yteolmamiblddjaa
open Go.RowKit Go.Sort
set_option linter.unusedVariables false
set_option maxHeartbeats 1000000 in
theorem clone_Run (xs : List Run) (A : Option Addr) (c : Nat) (hb : xs.length * 24 ≤ 140737488355328) (h : FH) (w : World) (hs : Sits h w) (r : RowAt h A xs) :
    Calls Try.prog 71 #[.slice A xs.length c] w fun e w' => RetOwn h w 46 xs e w' := by
  have q22 : ∀ (w : World) (a : Option Addr) (n c n' c' : Nat), (binOp .eql 35 (.slice a n c) (.slice none n' c')).run Try.prog w = .ok (.bool a.isNone) w := fun w a n c n' c' => Lib.run_eql_slice_nil w _ _ a n c n' c' Try.underlying35
  cases A with
  | none =>
    have hx : xs = [] := by
      cases xs with
      | nil => rfl
      | cons y ys => obtain ⟨b, off, e, _⟩ := r.2 (by simp); cases e
    subst hx
    go_enter Try.func71, Try.ntmps71
    go_wp2
    go_ret
    exact ⟨_, rfl, OwnL.nil _ _ _ _, Ext.refl hs⟩
  | some ad =>
    have O0 : OwnL h (w.alloc (.cells #[] 46)) w.heap.size 46 (.slice (some ⟨w.heap.size, 0, none⟩) 0 0) ([] : List Run) :=
      ⟨⟨[], World.ownsRow_made w #[] 0 (Nat.le_refl _) (by unfold maxLen; omega) (by simp), rfl⟩, fun g hg => by simp [Value.ownBlock] at hg; subst hg; exact hs.none (Nat.le_refl _)⟩
    have E1 := (Ext.refl hs).alloc (.cells #[] 46)
    go_enter Try.func71, Try.ntmps71
    go_wp2_with (at_builtin; refine wpList_appendR rfl _ _ 35 rfl w.heap.size 46 24 ty_Run _ [] xs rfl O0 E1.sits (some ad) _ c rfl rfl r (by simpa using hb) (by decide) (by simp) ?_)
    intro v w1 O hg _
    change OwnL _ _ _ _ _ xs at O
    have E2 := E1.grown hg (fun k hk => by simp [Value.ownBlock] at hk; subst hk; exact ⟨Nat.le_refl _, hs.none (Nat.le_refl _)⟩)
    go_wp2
    go_ret
    exact ⟨_, rfl, O, E2⟩
set_option maxHeartbeats 1000000 in
theorem clone_Entry (xs : List Entry) (A : Option Addr) (c : Nat) (hb : xs.length * 24 ≤ 140737488355328) (h : FH) (w : World) (hs : Sits h w) (r : RowAt h A xs) :
    Calls Try.prog 70 #[.slice A xs.length c] w fun e w' => RetOwn h w 44 xs e w' := by
  have q22 : ∀ (w : World) (a : Option Addr) (n c n' c' : Nat), (binOp .eql 34 (.slice a n c) (.slice none n' c')).run Try.prog w = .ok (.bool a.isNone) w := fun w a n c n' c' => Lib.run_eql_slice_nil w _ _ a n c n' c' Try.underlying34
  cases A with
  | none =>
    have hx : xs = [] := by
      cases xs with
      | nil => rfl
      | cons y ys => obtain ⟨b, off, e, _⟩ := r.2 (by simp); cases e
    subst hx
    go_enter Try.func70, Try.ntmps70
    go_wp2
    go_ret
    exact ⟨_, rfl, OwnL.nil _ _ _ _, Ext.refl hs⟩
  | some ad =>
    have O0 : OwnL h (w.alloc (.cells #[] 44)) w.heap.size 44 (.slice (some ⟨w.heap.size, 0, none⟩) 0 0) ([] : List Entry) :=
      ⟨⟨[], World.ownsRow_made w #[] 0 (Nat.le_refl _) (by unfold maxLen; omega) (by simp), rfl⟩, fun g hg => by simp [Value.ownBlock] at hg; subst hg; exact hs.none (Nat.le_refl _)⟩
    have E1 := (Ext.refl hs).alloc (.cells #[] 44)
    go_enter Try.func70, Try.ntmps70
    go_wp2_with (at_builtin; refine wpList_appendR rfl _ _ 34 rfl w.heap.size 44 24 ty_Entry _ [] xs rfl O0 E1.sits (some ad) _ c rfl rfl r (by simpa using hb) (by decide) (by simp) ?_)
    intro v w1 O hg _
    change OwnL _ _ _ _ _ xs at O
    have E2 := E1.grown hg (fun k hk => by simp [Value.ownBlock] at hk; subst hk; exact ⟨Nat.le_refl _, hs.none (Nat.le_refl _)⟩)
    go_wp2
    go_ret
    exact ⟨_, rfl, O, E2⟩
set_option maxHeartbeats 1000000 in
theorem clone_Int (xs : List Int) (A : Option Addr) (c : Nat) (hb : xs.length * 8 ≤ 140737488355328) (h : FH) (w : World) (hs : Sits h w) (r : RowAt h A xs) :
    Calls Try.prog 41 #[.slice A xs.length c] w fun e w' => RetOwn h w 3 xs e w' := by
  have q22 : ∀ (w : World) (a : Option Addr) (n c n' c' : Nat), (binOp .eql 29 (.slice a n c) (.slice none n' c')).run Try.prog w = .ok (.bool a.isNone) w := fun w a n c n' c' => Lib.run_eql_slice_nil w _ _ a n c n' c' Try.underlying29
  cases A with
  | none =>
    have hx : xs = [] := by
      cases xs with
      | nil => rfl
      | cons y ys => obtain ⟨b, off, e, _⟩ := r.2 (by simp); cases e
    subst hx
    go_enter Try.func41, Try.ntmps41
    go_wp2
    go_ret
    exact ⟨_, rfl, OwnL.nil _ _ _ _, Ext.refl hs⟩
  | some ad =>
    have O0 : OwnL h (w.alloc (.cells #[] 3)) w.heap.size 3 (.slice (some ⟨w.heap.size, 0, none⟩) 0 0) ([] : List Int) :=
      ⟨⟨[], World.ownsRow_made w #[] 0 (Nat.le_refl _) (by unfold maxLen; omega) (by simp), rfl⟩, fun g hg => by simp [Value.ownBlock] at hg; subst hg; exact hs.none (Nat.le_refl _)⟩
    have E1 := (Ext.refl hs).alloc (.cells #[] 3)
    go_enter Try.func41, Try.ntmps41
    go_wp2_with (at_builtin; refine wpList_appendR rfl _ _ 29 rfl w.heap.size 3 8 ty_Int _ [] xs rfl O0 E1.sits (some ad) _ c rfl rfl r (by simpa using hb) (by decide) (by simp) ?_)
    intro v w1 O hg _
    change OwnL _ _ _ _ _ xs at O
    have E2 := E1.grown hg (fun k hk => by simp [Value.ownBlock] at hk; subst hk; exact ⟨Nat.le_refl _, hs.none (Nat.le_refl _)⟩)
    go_wp2
    go_ret
    exact ⟨_, rfl, O, E2⟩
end Go.Proofs.Yteolmamiblddjaa
