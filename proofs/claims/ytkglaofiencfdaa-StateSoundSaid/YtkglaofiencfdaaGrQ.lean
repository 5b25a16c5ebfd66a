import Derived.Test.YtkglaofiencfdaaGrP
namespace Go.Proofs.Ytkglaofiencfdaa
open Go.RowKit Go.Sort
set_option linter.unusedVariables false
/-! ### small numbers, and any word of an inode's number and runs -/
class RunQ (Q : Int → List Run → Prop) : Prop where
  nil : ∀ n, Q n []
structure MidG (Q : Int → List Run → Prop) (n k : Nat) (s : State) : Prop where
  n0 : 0 ≤ s.next
  n1 : s.next ≤ n + 2
  len : s.inodes.length ≤ 3 * n + 1
  bad : s.bads = []
  ent : ∀ x ∈ s.inodes, x.entries.length ≤ k ∧ -(k : Int) - 2 ≤ x.links ∧ x.links ≤ k + 2 ∧ Q x.no x.runs
def okE (Q : Int → List Run → Prop) (n k : Nat) (d : Deed) : Prop := (d.kind = 1 → 0 ≤ d.no ∧ d.no ≤ n + 2) ∧ (d.kind = 2 → d.inode.entries.length ≤ k ∧ -(k : Int) - 2 ≤ d.inode.links ∧ d.inode.links ≤ k + 2 ∧ Q d.inode.no d.inode.runs) ∧ d.kind ≠ 4
/-- What holds of the inodes, the next number; without bad ones. -/
structure MidU (Q : Int → List Run → Prop) (n k : Nat) (s : State) : Prop where
  n0 : 0 ≤ s.next
  n1 : s.next ≤ n + 2
  bad : s.bads = []
  ent : ∀ x ∈ s.inodes, x.entries.length ≤ k ∧ -(k : Int) - 2 ≤ x.links ∧ x.links ≤ k + 2 ∧ Q x.no x.runs
section
variable {Q : Int → List Run → Prop}
theorem MidU.one {n k : Nat} {s : State} (q : MidU Q n k s) {d : Deed} (h : okE Q n k d) : MidU Q n k (applyD s d) := by
  unfold applyD
  split
  · rename_i h1; exact ⟨(h.1 h1).1, (h.1 h1).2, q.bad, q.ent⟩
  · split
    · rename_i h1
      refine ⟨q.n0, q.n1, q.bad, fun x hx => ?_⟩
      rcases mem_putI hx with rfl | hx
      · exact h.2.1 h1
      · exact q.ent x hx
    · split
      · exact ⟨q.n0, q.n1, q.bad, fun x hx => q.ent x ((List.mem_filter.1 hx).1)⟩
      · rw [if_neg h.2.2]; exact q
theorem MidU.all {n k : Nat} : ∀ {ds : List Deed} {s : State}, MidU Q n k s → (∀ d ∈ ds, okE Q n k d) → MidU Q n k (applyS s ds)
  | [], s, q, _ => q
  | d :: ds, s, q, h => MidU.all (ds := ds) (q.one (h d (by simp))) (fun e he => h e (by simp [he]))
theorem MidG.q {n k : Nat} {s : State} (m : MidG Q n k s) {n' k' : Nat} (hn : n ≤ n') (hk : k ≤ k') : MidU Q n' k' s :=
  ⟨m.n0, by have := m.n1; omega, m.bad, fun x hx => by
    have := m.ent x hx
    exact ⟨by omega, by omega, by omega, this.2.2.2⟩⟩
theorem MidG.all {n k : Nat} {s : State} (m : MidG Q n k s) {ds : List Deed} (hl : ds.length ≤ 3) (h : ∀ d ∈ ds, okE Q (n + 1) (k + 1) d) : MidG Q (n + 1) (k + 1) (applyS s ds) := by
  have q := (m.q (Nat.le_succ n) (Nat.le_succ k)).all h
  have := (applyS_len ds s).1
  have := m.len
  exact ⟨q.n0, q.n1, by omega, q.bad, q.ent⟩
/-- An inode that is put. -/
def okY (Q : Int → List Run → Prop) (k : Nat) (x : Inode) : Prop := x.entries.length ≤ k ∧ -(k : Int) - 2 ≤ x.links ∧ x.links ≤ k + 2 ∧ Q x.no x.runs
theorem okY_zero [RunQ Q] (k : Nat) : okY Q k zeroI := ⟨Nat.zero_le _, by show -(k : Int) - 2 ≤ 0; omega, by show (0 : Int) ≤ k + 2; omega, RunQ.nil (Q := Q) 0⟩
theorem okE_put {n k : Nat} {x : Inode} (h : okY Q k x) : okE Q n k (putD x) := ⟨fun e => absurd e (by show (2 : Int) ≠ 1; decide), fun _ => h, by show (2 : Int) ≠ 4; decide⟩
theorem okE_drop {n k : Nat} (no : Int) : okE Q n k ⟨3, no, zeroI⟩ := ⟨fun e => absurd e (by show (3 : Int) ≠ 1; decide), fun e => absurd e (by show (3 : Int) ≠ 2; decide), by show (3 : Int) ≠ 4; decide⟩
theorem okE_next {n k : Nat} {no : Int} (h : 0 ≤ no ∧ no ≤ n + 2) : okE Q n k ⟨1, no, zeroI⟩ := ⟨fun _ => h, fun e => absurd e (by show (1 : Int) ≠ 2; decide), by show (1 : Int) ≠ 4; decide⟩
theorem MidG.find [RunQ Q] {n k : Nat} {s : State} (m : MidG Q n k s) (no : Int) : okY Q k ((findI s.inodes no).getD zeroI) := by
  cases h : findI s.inodes no with
  | none => exact okY_zero k
  | some x => exact m.ent x (mem_of_findI h)
theorem atS_okQ [RunQ Q] {k : Nat} {xs : List Inode} (h : ∀ no, okY Q k ((findI xs no).getD zeroI)) (no : Int) (name : ByteArray) : okY Q k (atS xs no name).dir ∧ okY Q k (atS xs no name).x := by
  unfold atS
  split
  · exact ⟨h no, okY_zero k⟩
  · exact ⟨h no, h _⟩
theorem findS_okQ [RunQ Q] {k : Nat} {xs : List Inode} (h : ∀ no, okY Q k ((findI xs no).getD zeroI)) (path : ByteArray) : okY Q k (findS xs path).1.dir ∧ okY Q k (findS xs path).1.x := by
  unfold findS
  split
  · exact ⟨okY_zero k, okY_zero k⟩
  · exact atS_okQ h _ _
theorem thereS_okQ [RunQ Q] {k : Nat} {xs : List Inode} (h : ∀ no, okY Q k ((findI xs no).getD zeroI)) (path : ByteArray) : okY Q k (thereS xs path).1.dir ∧ okY Q k (thereS xs path).1.x := by
  unfold thereS
  split
  · exact findS_okQ h path
  · exact findS_okQ h path
theorem okY_ent {k : Nat} {x : Inode} {es : List Entry} {l : Int} (h : okY Q k x) (he : es.length ≤ k + 1) (h1 : x.links - 1 ≤ l) (h2 : l ≤ x.links + 1) : okY Q (k + 1) { x with entries := es, links := l } :=
  ⟨he, by have := h.2.1; show -((k + 1 : Nat) : Int) - 2 ≤ l; omega, by have := h.2.2.1; show l ≤ ((k + 1 : Nat) : Int) + 2; omega, h.2.2.2⟩
theorem okY_links {k : Nat} {x : Inode} {l : Int} (h : okY Q k x) (h1 : x.links - 1 ≤ l) (h2 : l ≤ x.links + 1) : okY Q (k + 1) { x with links := l } :=
  ⟨Nat.le_succ_of_le h.1, by have := h.2.1; show -((k + 1 : Nat) : Int) - 2 ≤ l; omega, by have := h.2.2.1; show l ≤ ((k + 1 : Nat) : Int) + 2; omega, h.2.2.2⟩
theorem okY_ents {k : Nat} {x : Inode} {es : List Entry} (h : okY Q k x) (he : es.length ≤ k + 1) : okY Q (k + 1) { x with entries := es } :=
  ⟨he, by have := h.2.1; show -((k + 1 : Nat) : Int) - 2 ≤ x.links; omega, by have := h.2.2.1; show x.links ≤ ((k + 1 : Nat) : Int) + 2; omega, h.2.2.2⟩
theorem okY_succ {k : Nat} {x : Inode} (h : okY Q k x) : okY Q (k + 1) x := ⟨Nat.le_succ_of_le h.1, by have := h.2.1; omega, by have := h.2.2.1; omega, h.2.2.2⟩
theorem okY_new [RunQ Q] (k : Nat) (no kind : Int) (t : ByteArray) : okY Q k (newI no kind t) := by
  refine ⟨Nat.zero_le _, ?_, ?_, RunQ.nil (Q := Q) no⟩
  · show -(k : Int) - 2 ≤ if kind = 2 then 2 else 1
    split <;> omega
  · show (if kind = 2 then (2 : Int) else 1) ≤ k + 2
    split <;> omega
theorem make_midQ [RunQ Q] {n k : Nat} {s : State} (m : MidG Q n k s) (path : ByteArray) (kind : Int) (t : ByteArray) : (makeP s path kind t).1.length ≤ 3 ∧ ∀ d ∈ (makeP s path kind t).1, okE Q (n + 1) (k + 1) d := by
  unfold makeP
  simp only
  repeat' split
  all_goals first | exact ⟨Nat.zero_le _, fun d hd => by simp at hd⟩ | skip
  refine ⟨by simp, fun d hd => ?_⟩
  simp only [List.mem_cons, List.not_mem_nil, or_false] at hd
  have hf := m.find (parentP s.inodes path).1
  rcases hd with rfl | rfl | rfl
  · exact okE_next ⟨by have := m.n0; omega, by have := m.n1; push_cast; omega⟩
  · refine okE_put (okY_ent hf (addL_len1 hf.1) ?_ ?_) <;> (split <;> omega)
  · exact okE_put (okY_new _ _ _ _)
theorem hard_midQ [RunQ Q] {n k : Nat} {s : State} (m : MidG Q n k s) (old path : ByteArray) : (hardP s old path).1.length ≤ 3 ∧ ∀ d ∈ (hardP s old path).1, okE Q (n + 1) (k + 1) d := by
  unfold hardP hardU hardT
  repeat' split
  all_goals first | exact ⟨Nat.zero_le _, fun d hd => by simp at hd⟩ | skip
  refine ⟨by simp, fun d hd => ?_⟩
  simp only [List.mem_cons, List.not_mem_nil, or_false] at hd
  rcases hd with rfl | rfl
  · have hf := m.find (parentP s.inodes path).1
    exact okE_put (okY_ents hf (addL_len1 hf.1))
  · have hf := m.find (resolveP s.inodes old false).1
    exact okE_put (okY_links hf (by omega) (by omega))
theorem without_midQ {k : Nat} {x : Inode} (h : okY Q k x) (name : ByteArray) : okY Q k (withoutP x name) ∧ (withoutP x name).links = x.links := by
  unfold withoutP
  split
  · exact ⟨⟨Nat.le_trans (remE_lenT _ _) h.1, h.2⟩, rfl⟩
  · exact ⟨h, rfl⟩
theorem letGo_midQ [RunQ Q] {n k : Nat} {x : Inode} (h : okY Q k x) (os : List Int) : okE Q n (k + 1) (letGoP x os) := by
  unfold letGoP
  split
  · exact okE_drop _
  · refine okE_put (x := { x with links := max (x.links - 1) 0 }) ⟨Nat.le_succ_of_le h.1, ?_, ?_, h.2.2.2⟩
    · show -((k + 1 : Nat) : Int) - 2 ≤ max (x.links - 1) 0
      omega
    · have := h.2.2.1
      show max (x.links - 1) 0 ≤ ((k + 1 : Nat) : Int) + 2
      omega
theorem unlink_midQ [RunQ Q] {n k : Nat} {s : State} (m : MidG Q n k s) (path : ByteArray) (os : List Int) : (unlinkP s path os).1.length ≤ 3 ∧ ∀ d ∈ (unlinkP s path os).1, okE Q (n + 1) (k + 1) d := by
  obtain ⟨hd, hx⟩ := thereS_okQ m.find path
  unfold unlinkP
  repeat' split
  all_goals first | exact ⟨Nat.zero_le _, fun d hd => by simp at hd⟩ | skip
  refine ⟨by simp, fun d h => ?_⟩
  simp only [List.mem_cons, List.not_mem_nil, or_false] at h
  rcases h with rfl | rfl
  · exact okE_put (okY_succ (without_midQ hd _).1)
  · exact letGo_midQ hx os
theorem rmdir_midQ [RunQ Q] {n k : Nat} {s : State} (m : MidG Q n k s) (path : ByteArray) : (rmdirP s path).1.length ≤ 3 ∧ ∀ d ∈ (rmdirP s path).1, okE Q (n + 1) (k + 1) d := by
  obtain ⟨hd, hx⟩ := thereS_okQ m.find path
  unfold rmdirP
  repeat' split
  all_goals first | exact ⟨Nat.zero_le _, fun d hd => by simp at hd⟩ | skip
  refine ⟨by simp, fun d h => ?_⟩
  simp only [List.mem_cons, List.not_mem_nil, or_false] at h
  rcases h with rfl | rfl
  · exact okE_put (okY_links (without_midQ hd _).1 (by omega) (by omega))
  · exact okE_drop _
theorem rrL_midQ [RunQ Q] {n k : Nat} {p q : Spot} (hp : okY Q k p.dir) (hq : okY Q k q.dir) (th : Bool) {al : List Entry} (ha : al.length ≤ k + 1) : (rrL p q th al).length ≤ 2 ∧ ∀ d ∈ rrL p q th al, okE Q n (k + 1) d := by
  have hT : (rrT q th).length ≤ k := by
    unfold rrT; split
    · exact Nat.le_trans (remE_lenT _ _) hq.1
    · exact hq.1
  have hA : (rrA p q th).length ≤ k := by
    unfold rrA
    refine Nat.le_trans (remE_lenT _ _) ?_
    split
    · exact hT
    · exact hp.1
  unfold rrL
  split
  · refine ⟨by simp, fun d h => ?_⟩
    simp only [List.mem_cons, List.not_mem_nil, or_false] at h
    subst h
    refine okE_put (okY_ent hq ha ?_ ?_) <;> (split <;> omega)
  · refine ⟨by simp, fun d h => ?_⟩
    simp only [List.mem_cons, List.not_mem_nil, or_false] at h
    rcases h with rfl | rfl
    · refine okE_put (okY_ent hp (Nat.le_succ_of_le hA) ?_ ?_) <;> (split <;> omega)
    · refine okE_put (okY_ent hq ha ?_ ?_) <;> (split <;> omega)
theorem rename_midQ [RunQ Q] {n k : Nat} {s : State} (m : MidG Q n k s) (old path : ByteArray) (os : List Int) : (rrenameP s old path os).1.length ≤ 3 ∧ ∀ d ∈ (rrenameP s old path os).1, okE Q (n + 1) (k + 1) d := by
  obtain ⟨hd, hx⟩ := thereS_okQ m.find old
  obtain ⟨hd2, hx2⟩ := thereS_okQ m.find path
  unfold rrenameP
  split
  · exact ⟨Nat.zero_le _, fun d hd => by simp at hd⟩
  generalize (thereS s.inodes old).1 = p at hd hx
  generalize (thereS s.inodes path).2 = c
  generalize (thereS s.inodes path).1 = q at hd2 hx2
  unfold rrP
  repeat' split
  all_goals first | exact ⟨Nat.zero_le _, fun d hd => by simp at hd⟩ | skip
  generalize (c == 0) = th
  have hT : (rrT q th).length ≤ k := by
    unfold rrT; split
    · exact Nat.le_trans (remE_lenT _ _) hd2.1
    · exact hd2.1
  have hB : (rrB p q th).length ≤ k := by
    unfold rrB rrA
    split
    · refine Nat.le_trans (remE_lenT _ _) ?_
      first | rw [if_pos (by assumption)] | skip
      exact hT
    · exact hT
  have hL := rrL_midQ (n := n + 1) hd hd2 th (addL_len1 (e := ⟨q.name, p.x.no⟩) hB)
  unfold rrM
  split
  · exact ⟨Nat.zero_le _, fun d hd => by simp at hd⟩
  unfold rrE
  split
  · exact ⟨Nat.le_succ_of_le hL.1, hL.2⟩
  · split
    · refine ⟨by rw [List.length_append]; exact Nat.add_le_add_right hL.1 1, fun d h => ?_⟩
      rcases List.mem_append.1 h with h | h
      · exact hL.2 d h
      · simp only [List.mem_cons, List.not_mem_nil, or_false] at h
        subst h; exact okE_drop _
    · refine ⟨by rw [List.length_append]; exact Nat.add_le_add_right hL.1 1, fun d h => ?_⟩
      rcases List.mem_append.1 h with h | h
      · exact hL.2 d h
      · simp only [List.mem_cons, List.not_mem_nil, or_false] at h
        subst h; exact letGo_midQ hx2 os
theorem opD_midQ [RunQ Q] {n k : Nat} {s : State} (m : MidG Q n k s) (o : POp) (os : List Int) : (opD s o os).length ≤ 3 ∧ ∀ d ∈ opD s o os, okE Q (n + 1) (k + 1) d := by
  unfold opD
  repeat' split
  · exact make_midQ m _ _ _
  · exact make_midQ m _ _ _
  · exact make_midQ m _ _ _
  · exact hard_midQ m _ _
  · exact rename_midQ m _ _ _
  · exact unlink_midQ m _ _
  · exact rmdir_midQ m _
  · exact ⟨Nat.zero_le _, fun d hd => by simp at hd⟩
theorem newS_midSQ [RunQ Q] : MidG Q 0 0 newS := ⟨by decide, by decide, by decide, rfl, fun x hx => by
  have : x = newI 1 2 ⟨#[]⟩ := by simpa [newS] using hx
  subst this
  exact okY_new 0 1 2 ⟨#[]⟩⟩
theorem MidG.up {n k n' k' : Nat} {s : State} (m : MidG Q n k s) (hn : n ≤ n') (hk : k ≤ k') : MidG Q n' k' s := by
  have q := m.q hn hk
  have := m.len
  exact ⟨q.n0, q.n1, by omega, q.bad, q.ent⟩
theorem MidG.midI {n k : Nat} {s : State} (m : MidG Q n k s) (hk : k ≤ 900) : ∀ x ∈ s.inodes, midI x := fun x hx => by
  have := m.ent x hx
  exact ⟨by omega, by omega, by omega⟩
end
end Go.Proofs.Ytkglaofiencfdaa
