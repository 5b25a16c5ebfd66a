import Derived.Test.YtcnbnehammbncaaDoorInsEq
namespace Go.Proofs.YtcnbnehammbncaaDoor
open Go.RowKit Go.Sort
set_option linter.unusedVariables false
/-! ### in states that grew only directories have entries -/
def bareX (x : Inode) : Prop := x.kind ≠ 2 → x.entries = []
def bareD (d : Deed) : Prop := d.kind = 2 → bareX d.inode
theorem bareD_put {x : Inode} (h : bareX x) : bareD (putD x) := fun _ => h
theorem bareD_drop (no : Int) : bareD ⟨3, no, zeroI⟩ := fun e => absurd e (by show (3 : Int) ≠ 2; decide)
theorem bareD_next (no : Int) : bareD ⟨1, no, zeroI⟩ := fun e => absurd e (by show (1 : Int) ≠ 2; decide)
theorem bareX_dir {x : Inode} (h : x.kind = 2) : bareX x := fun e => absurd h e
theorem bareX_zero : bareX zeroI := fun _ => rfl
theorem bare_one {s : State} (h : bareI s.inodes) {d : Deed} (hd : bareD d) : bareI (applyD s d).inodes := by
  unfold applyD
  split
  · exact h
  · split
    · rename_i h2
      intro x hx
      rcases mem_putI hx with rfl | hx
      · exact hd h2
      · exact h x hx
    · split
      · exact fun x hx => h x (List.mem_filter.1 hx).1
      · split
        · exact h
        · exact h
theorem bare_all : ∀ {ds : List Deed} {s : State}, bareI s.inodes → (∀ d ∈ ds, bareD d) → bareI (applyS s ds).inodes
  | [], s, h, _ => h
  | d :: ds, s, h, hd => bare_all (ds := ds) (bare_one h (hd d (by simp))) (fun e he => hd e (by simp [he]))
theorem bare_find {xs : List Inode} (h : bareI xs) (no : Int) : bareX ((findI xs no).getD zeroI) := by
  cases e : findI xs no with
  | none => exact bareX_zero
  | some x => exact h x (mem_of_findI e)
theorem parentL_kind {xs : List Inode} {l : List ByteArray} (h : (parentL xs l).2.2 = 0) : ((findI xs (parentL xs l).1).getD zeroI).kind = 2 := by
  unfold parentL at h ⊢
  split at h
  · exact absurd h (by decide)
  · rename_i a ha
    by_cases h1 : (a.toList == [46, 46]) = true
    · rw [if_pos h1] at h; exact absurd h (by decide)
    · rw [if_neg h1] at h ⊢
      by_cases h2 : (walkP xs l.dropLast true).2 ≠ 0
      · rw [if_pos h2] at h; exact absurd h h2
      · rw [if_neg h2] at h ⊢
        by_cases h3 : ((findI xs (walkP xs l.dropLast true).1).getD zeroI).kind = 2
        · rw [if_pos h3]; exact h3
        · rw [if_neg h3] at h; exact absurd h (by show (13 : Int) ≠ 0; decide)
theorem parentP_kind {xs : List Inode} {path : ByteArray} (h : (parentP xs path).2.2 = 0) : ((findI xs (parentP xs path).1).getD zeroI).kind = 2 := by
  unfold parentP at h ⊢
  split at h
  · rename_i h1; rw [if_pos h1]; exact parentL_kind h
  · rename_i h1; exact absurd h h1
theorem atS_dirB (xs : List Inode) (no : Int) (name : ByteArray) : (atS xs no name).dir = (findI xs no).getD zeroI ∧ (atS xs no name).name = name := by
  unfold atS; split <;> exact ⟨rfl, rfl⟩
theorem findS_dir (xs : List Inode) (path : ByteArray) : (findS xs path).1.dir.no ≠ 0 → (findS xs path).1.dir.kind = 2 := by
  unfold findS
  split
  · intro h; exact absurd rfl h
  · rename_i h
    intro _
    show (atS xs (parentP xs path).1 (parentP xs path).2.1).dir.kind = 2
    rw [(atS_dirB _ _ _).1]
    exact parentP_kind (by simpa using h)
theorem thereS_fst (xs : List Inode) (path : ByteArray) : (thereS xs path).1 = (findS xs path).1 := by
  unfold thereS; split <;> rfl
theorem thereS_dir0 {xs : List Inode} {path : ByteArray} (h : (thereS xs path).2 = 0) : (thereS xs path).1.dir.kind = 2 := by
  have h2 : (findS xs path).2 = 0 := by
    unfold thereS at h
    split at h
    · exact absurd h (by show (11 : Int) ≠ 0; decide)
    · exact h
  rw [thereS_fst]
  unfold findS at h2 ⊢
  split at h2
  · rename_i h3; exact absurd h2 h3
  · rename_i h3
    rw [if_neg h3]
    show (atS xs (parentP xs path).1 (parentP xs path).2.1).dir.kind = 2
    rw [(atS_dirB _ _ _).1]
    exact parentP_kind (by simpa using h3)
theorem bare_there {xs : List Inode} (h : bareI xs) (path : ByteArray) : bareX (thereS xs path).1.dir ∧ bareX (thereS xs path).1.x := by
  rw [thereS_fst]
  unfold findS
  split
  · exact ⟨bareX_zero, bareX_zero⟩
  · unfold atS
    split
    · exact ⟨bare_find h _, bareX_zero⟩
    · exact ⟨bare_find h _, bare_find h _⟩
theorem remE_nil (s : ByteArray) : remE [] s = [] := rfl
theorem bare_without {x : Inode} (h : bareX x) (name : ByteArray) : bareX (withoutP x name) := by
  unfold withoutP
  split
  · intro e
    show remE x.entries name = []
    rw [h e]; rfl
  · exact h
theorem bare_letGo {x : Inode} (h : bareX x) (os : List Int) : bareD (letGoP x os) := by
  unfold letGoP
  split
  · exact bareD_drop _
  · exact fun _ => h
theorem bare_make {s : State} (h : bareI s.inodes) (path : ByteArray) (kind : Int) (t : ByteArray) : ∀ d ∈ (makeP s path kind t).1, bareD d := by
  unfold makeP
  simp only
  repeat' split
  all_goals first | (intro d hd; simp at hd; done) | skip
  rename_i hp _ _ _ _
  intro d hd
  simp only [List.mem_cons, List.not_mem_nil, or_false] at hd
  rcases hd with rfl | rfl | rfl
  · exact bareD_next _
  · exact bareD_put (bareX_dir (parentP_kind (xs := s.inodes) (path := path) (by simpa using hp)))
  · exact bareD_put (fun _ => rfl)
theorem bare_hard {s : State} (h : bareI s.inodes) (old path : ByteArray) : ∀ d ∈ (hardP s old path).1, bareD d := by
  unfold hardP
  split
  · intro d hd; simp at hd
  split
  · intro d hd; simp at hd
  unfold hardU
  split
  · intro d hd; simp at hd
  rename_i hp
  unfold hardT
  repeat' split
  all_goals first | (intro d hd; simp at hd; done) | skip
  intro d hd
  simp only [List.mem_cons, List.not_mem_nil, or_false] at hd
  rcases hd with rfl | rfl
  · exact bareD_put (bareX_dir (parentP_kind (xs := s.inodes) (path := path) (by simpa using hp)))
  · exact bareD_put (bare_find h _)
theorem bare_unlink {s : State} (h : bareI s.inodes) (path : ByteArray) (os : List Int) : ∀ d ∈ (unlinkP s path os).1, bareD d := by
  obtain ⟨h1, h2⟩ := bare_there h path
  unfold unlinkP
  repeat' split
  all_goals first | (intro d hd; simp at hd; done) | skip
  intro d hd
  simp only [List.mem_cons, List.not_mem_nil, or_false] at hd
  rcases hd with rfl | rfl
  · exact bareD_put (bare_without h1 _)
  · exact bare_letGo h2 os
theorem bare_rmdir {s : State} (h : bareI s.inodes) (path : ByteArray) : ∀ d ∈ (rmdirP s path).1, bareD d := by
  obtain ⟨h1, h2⟩ := bare_there h path
  unfold rmdirP
  repeat' split
  all_goals first | (intro d hd; simp at hd; done) | skip
  intro d hd
  simp only [List.mem_cons, List.not_mem_nil, or_false] at hd
  rcases hd with rfl | rfl
  · exact bareD_put (bare_without h1 _)
  · exact bareD_drop _
theorem bare_rename {s : State} (h : bareI s.inodes) (old path : ByteArray) (os : List Int) : ∀ d ∈ (rrenameP s old path os).1, bareD d := by
  unfold rrenameP
  split
  · intro d hd; simp at hd
  rename_i hc
  have hp := thereS_dir0 (xs := s.inodes) (path := old) (by simpa using hc)
  have hx2 := (bare_there h path).2
  have hq : (thereS s.inodes path).1.dir.no ≠ 0 → (thereS s.inodes path).1.dir.kind = 2 := by rw [thereS_fst]; exact findS_dir _ _
  generalize (thereS s.inodes old).1 = p at hp
  generalize (thereS s.inodes path).2 = c
  generalize (thereS s.inodes path).1 = q at hq hx2
  unfold rrP
  split
  · intro d hd; simp at hd
  rename_i h0
  have hqk := hq (fun e => h0 (.inr e))
  repeat' split
  all_goals first | (intro d hd; simp at hd; done) | skip
  generalize (c == 0) = th
  unfold rrM
  split
  · intro d hd; simp at hd
  have hL : ∀ al, ∀ d ∈ rrL p q th al, bareD d := fun al d hd => by
    unfold rrL at hd
    split at hd
    · simp only [List.mem_cons, List.not_mem_nil, or_false] at hd
      subst hd; exact bareD_put (bareX_dir hqk)
    · simp only [List.mem_cons, List.not_mem_nil, or_false] at hd
      rcases hd with rfl | rfl
      · exact bareD_put (bareX_dir hp)
      · exact bareD_put (bareX_dir hqk)
  unfold rrE
  split
  · exact hL _
  · split
    · intro d hd
      rcases List.mem_append.1 hd with hd | hd
      · exact hL _ d hd
      · simp only [List.mem_cons, List.not_mem_nil, or_false] at hd
        subst hd; exact bareD_drop _
    · intro d hd
      rcases List.mem_append.1 hd with hd | hd
      · exact hL _ d hd
      · simp only [List.mem_cons, List.not_mem_nil, or_false] at hd
        subst hd; exact bare_letGo hx2 os
theorem bare_op {s : State} (h : bareI s.inodes) (o : POp) (os : List Int) : ∀ d ∈ opD s o os, bareD d := by
  unfold opD
  repeat' split
  · exact bare_make h _ _ _
  · exact bare_make h _ _ _
  · exact bare_make h _ _ _
  · exact bare_hard h _ _
  · exact bare_rename h _ _ _
  · exact bare_unlink h _ _
  · exact bare_rmdir h _
  · intro d hd; simp at hd
theorem bare_grow (os : List Int) : ∀ (ops : List POp) (s : State), bareI s.inodes → bareI (ops.foldl (growS os) s).inodes
  | [], s, h => h
  | o :: ops, s, h => bare_grow os ops _ (bare_all h (bare_op h o os))
theorem bare_new : bareI newS.inodes := fun x hx => by
  have : x = newI 1 2 ⟨#[]⟩ := by simpa [newS] using hx
  subst this
  exact fun _ => rfl
theorem grown_bare (os : List Int) (ops : List POp) : bareI (grownP os ops).inodes := bare_grow os _ _ bare_new
theorem grown_inside (os : List Int) (ops : List POp) (no dir : Int) : insideP (grownP os ops).inodes no dir = insideR (grownP os ops).inodes no dir := by
  have m : MidS 40 40 (grownP os ops) := by
    have q := grown_mid os ops 40 (Nat.le_refl _)
    exact q
  exact inside_eq (grown_bare os ops) (fun x hx => Nat.le_trans (m.ent x hx).1 (by decide)) (by have := m.len; omega) no dir
end Go.Proofs.YtcnbnehammbncaaDoor
