import Derived.Test.YtdiaibkpcnknbaaDoorSn6
import Derived.Test.YtdiaibkpcnknbaaDoorSnA
import Derived.Test.YtdiaibkpcnknbaaDoorRSnA
namespace Go.Proofs.YtdiaibkpcnknbaaDoor
open Go.RowKit Go.Sort
set_option linter.unusedVariables false
/-! ### the calls of TreeSound -/
def treeP (s : State) (o : POp) (os : List Int) : List Deed × Int :=
  if modP o.kind 7 = 0 then ((makeP s o.path 1 ⟨#[]⟩).1, (makeP s o.path 1 ⟨#[]⟩).2.2)
  else if modP o.kind 7 = 1 then ((makeP s o.path 2 ⟨#[]⟩).1, (makeP s o.path 2 ⟨#[]⟩).2.2)
  else if modP o.kind 7 = 2 then ((makeP s o.path 3 o.other).1, (makeP s o.path 3 o.other).2.2)
  else if modP o.kind 7 = 3 then linkP s o.path o.other
  else if modP o.kind 7 = 4 then renameP s o.path o.other os
  else if modP o.kind 7 = 5 then unlinkP s o.path os
  else rmdirP s o.path
theorem makeP_code {s : State} {path t : ByteArray} {kind : Int} (h : (makeP s path kind t).2.2 ≠ 0) : (makeP s path kind t).1 = [] := by
  unfold makeP at h ⊢
  simp only at h ⊢
  repeat' split
  all_goals first | rfl | skip
  simp_all
theorem hardP_code {s : State} {a b : ByteArray} (h : (hardP s a b).2 ≠ 0) : (hardP s a b).1 = [] := by
  unfold hardP hardU hardT at h ⊢
  repeat' split
  all_goals first | rfl | skip
  simp_all
theorem unlinkP_code {s : State} {a : ByteArray} {os : List Int} (h : (unlinkP s a os).2 ≠ 0) : (unlinkP s a os).1 = [] := by
  unfold unlinkP at h ⊢
  repeat' split
  all_goals first | rfl | skip
  simp_all
theorem rmdirP_code {s : State} {a : ByteArray} (h : (rmdirP s a).2 ≠ 0) : (rmdirP s a).1 = [] := by
  unfold rmdirP at h ⊢
  repeat' split
  all_goals first | rfl | skip
  simp_all
theorem rrE_code (p q : Spot) (th : Bool) (al : List Entry) (os : List Int) : (rrE p q th al os).2 = 0 := by
  unfold rrE; repeat' split
  all_goals rfl
theorem rrenameP_code {s : State} {a b : ByteArray} {os : List Int} (h : (rrenameP s a b os).2 ≠ 0) : (rrenameP s a b os).1 = [] := by
  unfold rrenameP at h ⊢
  split
  · rfl
  · rename_i h1
    rw [if_neg h1] at h
    unfold rrP at h ⊢
    split
    · rfl
    · rename_i h2
      rw [if_neg h2] at h
      split
      · rfl
      · rename_i h3
        rw [if_neg h3] at h
        split
        · rfl
        · rename_i h4
          rw [if_neg h4] at h
          split
          · rfl
          · rename_i h5
            rw [if_neg h5] at h
            unfold rrM at h ⊢
            split
            · rfl
            · rename_i h6
              rw [if_neg h6] at h
              exact absurd (rrE_code _ _ _ _ _) h
structure TreeOk (n k : Nat) (s : State) (r : List Deed × Int) : Prop where
  snd : Snd (applyS s r.1)
  len : r.1.length ≤ 3
  ok : ∀ d ∈ r.1, okD (n + 1) (k + 1) d
  none_ : r.2 ≠ 0 → r.1 = []
theorem treeP_ok {n k : Nat} {s : State} (m : MidS n k s) (S : Snd s) (hl : s.inodes.length + 1 ≤ 200) (o : POp) (os : List Int) : TreeOk n k s (treeP s o os) := by
  unfold treeP
  repeat' split
  · exact ⟨S.callMake _ _ _, (make_mid m _ _ _).1, (make_mid m _ _ _).2, makeP_code⟩
  · exact ⟨S.callMake _ _ _, (make_mid m _ _ _).1, (make_mid m _ _ _).2, makeP_code⟩
  · exact ⟨S.callMake _ _ _, (make_mid m _ _ _).1, (make_mid m _ _ _).2, makeP_code⟩
  · rw [hard_eq S]; exact ⟨S.callHard _ _, (hard_mid m _ _).1, (hard_mid m _ _).2, hardP_code⟩
  · rw [rename_eq S hl]; exact ⟨S.callRename hl _ _ _, (rename_mid m _ _ _).1, (rename_mid m _ _ _).2, rrenameP_code⟩
  · exact ⟨S.callUnlink _ _, (unlink_mid m _ _).1, (unlink_mid m _ _).2, unlinkP_code⟩
  · exact ⟨S.callRmdir _, (rmdir_mid m _).1, (rmdir_mid m _).2, rmdirP_code⟩
def treeK (os : List Int) (ops : List POp) : Nat → State
  | 0 => newS
  | k + 1 => match ops[k]? with
    | none => treeK os ops k
    | some o => applyS (treeK os ops k) (treeP (treeK os ops k) o os).1
theorem treeK_ok (os : List Int) (ops : List POp) : ∀ k, k ≤ 40 → MidS k k (treeK os ops k) ∧ Snd (treeK os ops k)
  | 0, _ => ⟨newS_midS, newS_snd⟩
  | k + 1, hk => by
    obtain ⟨m, S⟩ := treeK_ok os ops k (by omega)
    unfold treeK
    cases h : ops[k]? with
    | none => exact ⟨m.up (Nat.le_succ k) (Nat.le_succ k), S⟩
    | some o =>
      have t := treeP_ok m S (by have := m.len; omega) o os
      exact ⟨m.all t.len t.ok, t.snd⟩
end Go.Proofs.YtdiaibkpcnknbaaDoor

namespace Go.Proofs.YtdiaibkpcnknbaaDoor
open Go.RowKit Go.Sort
set_option linter.unusedVariables false
/-! ### who is sound is told sound -/
theorem allR_of {nx : Int} {xs : List Inode} (hr : riseI xs) (h : ∀ x ∈ xs, rightI x = true ∧ x.no < nx) : allR nx xs = true := by
  refine range_all fun i hi => ?_
  have hx := List.getElem?_eq_getElem hi
  obtain ⟨h1, h2⟩ := h _ (List.mem_of_getElem? hx)
  cases i with
  | zero => exact okR_c hx h1 h2
  | succ m =>
    have hy := List.getElem?_eq_getElem (show m < xs.length by omega)
    rw [okR_d hx hy h1 h2]
    have := pw_get hr (i := m) (j := m + 1) (x := (xs[m]'(by omega)).no) (y := (xs[m + 1]).no) (by rw [List.getElem?_map, hy]; rfl) (by rw [List.getElem?_map, hx]; rfl) (by omega)
    exact decide_eq_true this
theorem placesL_nil : ∀ {xs : List Inode}, (∀ x ∈ xs, x.runs = []) → placesL xs = []
  | [], _ => rfl
  | x :: xs, h => by
    unfold placesL
    rw [List.flatMap_cons, h x (by simp)]
    exact placesL_nil fun y hy => h y (by simp [hy])
theorem rootR_kind {xs : List Inode} (h : kindF (findI xs) 1 = 2) : rootR xs = true := by
  obtain ⟨x, hx, hk⟩ := kindF_isSome h
  unfold rootR
  rw [hx]
  simpa using hk
theorem Snd.refB {s : State} (S : Snd s) : refB s.inodes = true := by
  unfold Go.Proofs.YtdiaibkpcnknbaaDoor.refB
  rw [S.linked, rootR_kind S.ok.root]; rfl
theorem Snd.right {s : State} (S : Snd s) : ∀ x ∈ s.inodes, rightI x = true ∧ x.no < s.next := fun x hx => by
  obtain ⟨h1, h2, h3⟩ := S.ok.ok _ _ (findI_of_mem S.rise hx)
  exact ⟨h3, h2⟩
theorem Snd.sums {s : State} (S : Snd s) : sumsB s.inodes = true := by
  rw [sums_eq S.rise fun x hx => (S.right x hx).1]; exact S.refB
theorem Snd.soundW {s : State} (S : Snd s) (hb : s.bads = []) (hr : ∀ x ∈ s.inodes, x.runs = []) (hn : s.next ≤ 2147483647) : soundP s wideG = true := by
  unfold soundP riseB
  rw [show geoB wideG = true from by decide, allR_of S.rise S.right, hb, S.sums, placesL_nil hr, decide_eq_true (show (s.inodes.length : Int) ≤ 200 by have := S.len; omega), decide_eq_true hn]
  rfl
end Go.Proofs.YtdiaibkpcnknbaaDoor
