import Derived.Test.YtkglaofiencfdaaRRenP
namespace Go.Proofs.Ytkglaofiencfdaa
open Go.RowKit Go.Sort
set_option linter.unusedVariables false
/-! ### the states that grew, in plain words -/
def modP (k n : Int) : Int := (IntKind.u64.wrap k).tmod n
theorem modP_range (k : Int) {n : Int} (hn : 0 < n) : 0 ≤ modP k n ∧ modP k n < n := by
  have h0 : 0 ≤ IntKind.u64.wrap k := by rw [IntKind.wrap_u64]; omega
  unfold modP
  rw [Int.tmod_eq_emod_of_nonneg h0]
  exact ⟨Int.emod_nonneg _ (by omega), Int.emod_lt_of_pos _ hn⟩
def opD (s : State) (o : POp) (os : List Int) : List Deed :=
  if modP o.kind 8 = 0 then (makeP s o.path 1 ⟨#[]⟩).1
  else if modP o.kind 8 = 1 then (makeP s o.path 2 ⟨#[]⟩).1
  else if modP o.kind 8 = 2 then (makeP s o.path 3 o.other).1
  else if modP o.kind 8 = 3 then (hardP s o.path o.other).1
  else if modP o.kind 8 = 4 then (rrenameP s o.path o.other os).1
  else if modP o.kind 8 = 5 then (unlinkP s o.path os).1
  else if modP o.kind 8 = 6 then (rmdirP s o.path).1
  else []
def growS (os : List Int) (s : State) (o : POp) : State := applyS s (opD s o os)
def grownP (os : List Int) (ops : List POp) : State := (ops.take 40).foldl (growS os) newS
/-! ### small numbers stay small -/
structure MidS (n k : Nat) (s : State) : Prop where
  n0 : 0 ≤ s.next
  n1 : s.next ≤ n + 2
  len : s.inodes.length ≤ 3 * n + 1
  bad : s.bads = []
  ent : ∀ x ∈ s.inodes, x.entries.length ≤ k ∧ -(k : Int) - 2 ≤ x.links ∧ x.links ≤ k + 2 ∧ x.runs = []
def okD (n k : Nat) (d : Deed) : Prop := (d.kind = 1 → 0 ≤ d.no ∧ d.no ≤ n + 2) ∧ (d.kind = 2 → d.inode.entries.length ≤ k ∧ -(k : Int) - 2 ≤ d.inode.links ∧ d.inode.links ≤ k + 2 ∧ d.inode.runs = []) ∧ d.kind ≠ 4
theorem mem_putI {xs : List Inode} {x y : Inode} (h : y ∈ putI xs x) : y = x ∨ y ∈ xs := by
  unfold putI at h
  split at h
  · rcases List.mem_or_eq_of_mem_set h with h | h
    · exact .inr h
    · exact .inl h
  · simp only [List.mem_append, List.mem_singleton] at h
    rcases h with (h | h) | h
    · exact .inr (List.mem_of_mem_take h)
    · exact .inl h
    · exact .inr (List.mem_of_mem_drop h)
/-- What holds of the inodes, the next number; without bad ones. -/
structure MidQ (n k : Nat) (s : State) : Prop where
  n0 : 0 ≤ s.next
  n1 : s.next ≤ n + 2
  bad : s.bads = []
  ent : ∀ x ∈ s.inodes, x.entries.length ≤ k ∧ -(k : Int) - 2 ≤ x.links ∧ x.links ≤ k + 2 ∧ x.runs = []
theorem MidQ.one {n k : Nat} {s : State} (q : MidQ n k s) {d : Deed} (h : okD n k d) : MidQ n k (applyD s d) := by
  unfold applyD
  split
  · rename_i h1; exact ⟨(h.1 h1).1, (h.1 h1).2, q.bad, q.ent⟩
  · split
    · rename_i h1
      refine ⟨q.n0, q.n1, q.bad, fun x hx => ?_⟩
      rcases mem_putI hx with rfl | hx
      · exact h.2.1 h1
      · exact q.ent x hx
    · split
      · exact ⟨q.n0, q.n1, q.bad, fun x hx => q.ent x ((List.mem_filter.1 hx).1)⟩
      · rw [if_neg h.2.2]; exact q
theorem MidQ.all {n k : Nat} : ∀ {ds : List Deed} {s : State}, MidQ n k s → (∀ d ∈ ds, okD n k d) → MidQ n k (applyS s ds)
  | [], s, q, _ => q
  | d :: ds, s, q, h => MidQ.all (ds := ds) (q.one (h d (by simp))) (fun e he => h e (by simp [he]))
theorem MidS.q {n k : Nat} {s : State} (m : MidS n k s) {n' k' : Nat} (hn : n ≤ n') (hk : k ≤ k') : MidQ n' k' s :=
  ⟨m.n0, by have := m.n1; omega, m.bad, fun x hx => by
    have := m.ent x hx
    exact ⟨by omega, by omega, by omega, this.2.2.2⟩⟩
theorem MidS.all {n k : Nat} {s : State} (m : MidS n k s) {ds : List Deed} (hl : ds.length ≤ 3) (h : ∀ d ∈ ds, okD (n + 1) (k + 1) d) : MidS (n + 1) (k + 1) (applyS s ds) := by
  have q := (m.q (Nat.le_succ n) (Nat.le_succ k)).all h
  have := (applyS_len ds s).1
  have := m.len
  exact ⟨q.n0, q.n1, by omega, q.bad, q.ent⟩
/-- An inode that is put. -/
def okX (k : Nat) (x : Inode) : Prop := x.entries.length ≤ k ∧ -(k : Int) - 2 ≤ x.links ∧ x.links ≤ k + 2 ∧ x.runs = []
theorem okX_zero (k : Nat) : okX k zeroI := ⟨Nat.zero_le _, by show -(k : Int) - 2 ≤ 0; omega, by show (0 : Int) ≤ k + 2; omega, rfl⟩
theorem okD_put {n k : Nat} {x : Inode} (h : okX k x) : okD n k (putD x) := ⟨fun e => absurd e (by show (2 : Int) ≠ 1; decide), fun _ => h, by show (2 : Int) ≠ 4; decide⟩
theorem okD_drop {n k : Nat} (no : Int) : okD n k ⟨3, no, zeroI⟩ := ⟨fun e => absurd e (by show (3 : Int) ≠ 1; decide), fun e => absurd e (by show (3 : Int) ≠ 2; decide), by show (3 : Int) ≠ 4; decide⟩
theorem okD_next {n k : Nat} {no : Int} (h : 0 ≤ no ∧ no ≤ n + 2) : okD n k ⟨1, no, zeroI⟩ := ⟨fun _ => h, fun e => absurd e (by show (1 : Int) ≠ 2; decide), by show (1 : Int) ≠ 4; decide⟩
theorem MidS.find {n k : Nat} {s : State} (m : MidS n k s) (no : Int) : okX k ((findI s.inodes no).getD zeroI) := by
  cases h : findI s.inodes no with
  | none => exact okX_zero k
  | some x => exact m.ent x (mem_of_findI h)
theorem addL_len1 {xs : List Entry} {e : Entry} {k : Nat} (h : xs.length ≤ k) : (addL xs e).length ≤ k + 1 := by
  unfold addL; split
  · unfold insE; simp; omega
  · simp
theorem atS_ok {k : Nat} {xs : List Inode} (h : ∀ no, okX k ((findI xs no).getD zeroI)) (no : Int) (name : ByteArray) : okX k (atS xs no name).dir ∧ okX k (atS xs no name).x := by
  unfold atS
  split
  · exact ⟨h no, okX_zero k⟩
  · exact ⟨h no, h _⟩
theorem findS_ok {k : Nat} {xs : List Inode} (h : ∀ no, okX k ((findI xs no).getD zeroI)) (path : ByteArray) : okX k (findS xs path).1.dir ∧ okX k (findS xs path).1.x := by
  unfold findS
  split
  · exact ⟨okX_zero k, okX_zero k⟩
  · exact atS_ok h _ _
theorem thereS_ok {k : Nat} {xs : List Inode} (h : ∀ no, okX k ((findI xs no).getD zeroI)) (path : ByteArray) : okX k (thereS xs path).1.dir ∧ okX k (thereS xs path).1.x := by
  unfold thereS
  split
  · exact findS_ok h path
  · exact findS_ok h path
theorem okX_ent {k : Nat} {x : Inode} {es : List Entry} {l : Int} (h : okX k x) (he : es.length ≤ k + 1) (h1 : x.links - 1 ≤ l) (h2 : l ≤ x.links + 1) : okX (k + 1) { x with entries := es, links := l } :=
  ⟨he, by have := h.2.1; show -((k + 1 : Nat) : Int) - 2 ≤ l; omega, by have := h.2.2.1; show l ≤ ((k + 1 : Nat) : Int) + 2; omega, h.2.2.2⟩
theorem okX_links {k : Nat} {x : Inode} {l : Int} (h : okX k x) (h1 : x.links - 1 ≤ l) (h2 : l ≤ x.links + 1) : okX (k + 1) { x with links := l } :=
  ⟨Nat.le_succ_of_le h.1, by have := h.2.1; show -((k + 1 : Nat) : Int) - 2 ≤ l; omega, by have := h.2.2.1; show l ≤ ((k + 1 : Nat) : Int) + 2; omega, h.2.2.2⟩
theorem okX_ents {k : Nat} {x : Inode} {es : List Entry} (h : okX k x) (he : es.length ≤ k + 1) : okX (k + 1) { x with entries := es } :=
  ⟨he, by have := h.2.1; show -((k + 1 : Nat) : Int) - 2 ≤ x.links; omega, by have := h.2.2.1; show x.links ≤ ((k + 1 : Nat) : Int) + 2; omega, h.2.2.2⟩
theorem okX_succ {k : Nat} {x : Inode} (h : okX k x) : okX (k + 1) x := ⟨Nat.le_succ_of_le h.1, by have := h.2.1; omega, by have := h.2.2.1; omega, h.2.2.2⟩
theorem okX_new (k : Nat) (no kind : Int) (t : ByteArray) : okX k (newI no kind t) := by
  refine ⟨Nat.zero_le _, ?_, ?_, rfl⟩
  · show -(k : Int) - 2 ≤ if kind = 2 then 2 else 1
    split <;> omega
  · show (if kind = 2 then (2 : Int) else 1) ≤ k + 2
    split <;> omega
theorem make_mid {n k : Nat} {s : State} (m : MidS n k s) (path : ByteArray) (kind : Int) (t : ByteArray) : (makeP s path kind t).1.length ≤ 3 ∧ ∀ d ∈ (makeP s path kind t).1, okD (n + 1) (k + 1) d := by
  unfold makeP
  simp only
  repeat' split
  all_goals first | exact ⟨Nat.zero_le _, fun d hd => by simp at hd⟩ | skip
  refine ⟨by simp, fun d hd => ?_⟩
  simp only [List.mem_cons, List.not_mem_nil, or_false] at hd
  have hf := m.find (parentP s.inodes path).1
  rcases hd with rfl | rfl | rfl
  · exact okD_next ⟨by have := m.n0; omega, by have := m.n1; push_cast; omega⟩
  · refine okD_put (okX_ent hf (addL_len1 hf.1) ?_ ?_) <;> (split <;> omega)
  · exact okD_put (okX_new _ _ _ _)
theorem hard_mid {n k : Nat} {s : State} (m : MidS n k s) (old path : ByteArray) : (hardP s old path).1.length ≤ 3 ∧ ∀ d ∈ (hardP s old path).1, okD (n + 1) (k + 1) d := by
  unfold hardP hardU hardT
  repeat' split
  all_goals first | exact ⟨Nat.zero_le _, fun d hd => by simp at hd⟩ | skip
  refine ⟨by simp, fun d hd => ?_⟩
  simp only [List.mem_cons, List.not_mem_nil, or_false] at hd
  rcases hd with rfl | rfl
  · have hf := m.find (parentP s.inodes path).1
    exact okD_put (okX_ents hf (addL_len1 hf.1))
  · have hf := m.find (resolveP s.inodes old false).1
    exact okD_put (okX_links hf (by omega) (by omega))
theorem without_mid {k : Nat} {x : Inode} (h : okX k x) (name : ByteArray) : okX k (withoutP x name) ∧ (withoutP x name).links = x.links := by
  unfold withoutP
  split
  · exact ⟨⟨Nat.le_trans (remE_lenT _ _) h.1, h.2⟩, rfl⟩
  · exact ⟨h, rfl⟩
theorem letGo_mid {n k : Nat} {x : Inode} (h : okX k x) (os : List Int) : okD n (k + 1) (letGoP x os) := by
  unfold letGoP
  split
  · exact okD_drop _
  · refine okD_put (x := { x with links := max (x.links - 1) 0 }) ⟨Nat.le_succ_of_le h.1, ?_, ?_, h.2.2.2⟩
    · show -((k + 1 : Nat) : Int) - 2 ≤ max (x.links - 1) 0
      omega
    · have := h.2.2.1
      show max (x.links - 1) 0 ≤ ((k + 1 : Nat) : Int) + 2
      omega
theorem unlink_mid {n k : Nat} {s : State} (m : MidS n k s) (path : ByteArray) (os : List Int) : (unlinkP s path os).1.length ≤ 3 ∧ ∀ d ∈ (unlinkP s path os).1, okD (n + 1) (k + 1) d := by
  obtain ⟨hd, hx⟩ := thereS_ok m.find path
  unfold unlinkP
  repeat' split
  all_goals first | exact ⟨Nat.zero_le _, fun d hd => by simp at hd⟩ | skip
  refine ⟨by simp, fun d h => ?_⟩
  simp only [List.mem_cons, List.not_mem_nil, or_false] at h
  rcases h with rfl | rfl
  · exact okD_put (okX_succ (without_mid hd _).1)
  · exact letGo_mid hx os
theorem rmdir_mid {n k : Nat} {s : State} (m : MidS n k s) (path : ByteArray) : (rmdirP s path).1.length ≤ 3 ∧ ∀ d ∈ (rmdirP s path).1, okD (n + 1) (k + 1) d := by
  obtain ⟨hd, hx⟩ := thereS_ok m.find path
  unfold rmdirP
  repeat' split
  all_goals first | exact ⟨Nat.zero_le _, fun d hd => by simp at hd⟩ | skip
  refine ⟨by simp, fun d h => ?_⟩
  simp only [List.mem_cons, List.not_mem_nil, or_false] at h
  rcases h with rfl | rfl
  · exact okD_put (okX_links (without_mid hd _).1 (by omega) (by omega))
  · exact okD_drop _
theorem rrL_mid {n k : Nat} {p q : Spot} (hp : okX k p.dir) (hq : okX k q.dir) (th : Bool) {al : List Entry} (ha : al.length ≤ k + 1) : (rrL p q th al).length ≤ 2 ∧ ∀ d ∈ rrL p q th al, okD n (k + 1) d := by
  have hT : (rrT q th).length ≤ k := by
    unfold rrT; split
    · exact Nat.le_trans (remE_lenT _ _) hq.1
    · exact hq.1
  have hA : (rrA p q th).length ≤ k := by
    unfold rrA
    refine Nat.le_trans (remE_lenT _ _) ?_
    split
    · exact hT
    · exact hp.1
  unfold rrL
  split
  · refine ⟨by simp, fun d h => ?_⟩
    simp only [List.mem_cons, List.not_mem_nil, or_false] at h
    subst h
    refine okD_put (okX_ent hq ha ?_ ?_) <;> (split <;> omega)
  · refine ⟨by simp, fun d h => ?_⟩
    simp only [List.mem_cons, List.not_mem_nil, or_false] at h
    rcases h with rfl | rfl
    · refine okD_put (okX_ent hp (Nat.le_succ_of_le hA) ?_ ?_) <;> (split <;> omega)
    · refine okD_put (okX_ent hq ha ?_ ?_) <;> (split <;> omega)
theorem rename_mid {n k : Nat} {s : State} (m : MidS n k s) (old path : ByteArray) (os : List Int) : (rrenameP s old path os).1.length ≤ 3 ∧ ∀ d ∈ (rrenameP s old path os).1, okD (n + 1) (k + 1) d := by
  obtain ⟨hd, hx⟩ := thereS_ok m.find old
  obtain ⟨hd2, hx2⟩ := thereS_ok m.find path
  unfold rrenameP
  split
  · exact ⟨Nat.zero_le _, fun d hd => by simp at hd⟩
  generalize (thereS s.inodes old).1 = p at hd hx
  generalize (thereS s.inodes path).2 = c
  generalize (thereS s.inodes path).1 = q at hd2 hx2
  unfold rrP
  repeat' split
  all_goals first | exact ⟨Nat.zero_le _, fun d hd => by simp at hd⟩ | skip
  generalize (c == 0) = th
  have hT : (rrT q th).length ≤ k := by
    unfold rrT; split
    · exact Nat.le_trans (remE_lenT _ _) hd2.1
    · exact hd2.1
  have hB : (rrB p q th).length ≤ k := by
    unfold rrB rrA
    split
    · refine Nat.le_trans (remE_lenT _ _) ?_
      first | rw [if_pos (by assumption)] | skip
      exact hT
    · exact hT
  have hL := rrL_mid (n := n + 1) hd hd2 th (addL_len1 (e := ⟨q.name, p.x.no⟩) hB)
  unfold rrM
  split
  · exact ⟨Nat.zero_le _, fun d hd => by simp at hd⟩
  unfold rrE
  split
  · exact ⟨Nat.le_succ_of_le hL.1, hL.2⟩
  · split
    · refine ⟨by rw [List.length_append]; exact Nat.add_le_add_right hL.1 1, fun d h => ?_⟩
      rcases List.mem_append.1 h with h | h
      · exact hL.2 d h
      · simp only [List.mem_cons, List.not_mem_nil, or_false] at h
        subst h; exact okD_drop _
    · refine ⟨by rw [List.length_append]; exact Nat.add_le_add_right hL.1 1, fun d h => ?_⟩
      rcases List.mem_append.1 h with h | h
      · exact hL.2 d h
      · simp only [List.mem_cons, List.not_mem_nil, or_false] at h
        subst h; exact letGo_mid hx2 os
theorem opD_mid {n k : Nat} {s : State} (m : MidS n k s) (o : POp) (os : List Int) : (opD s o os).length ≤ 3 ∧ ∀ d ∈ opD s o os, okD (n + 1) (k + 1) d := by
  unfold opD
  repeat' split
  · exact make_mid m _ _ _
  · exact make_mid m _ _ _
  · exact make_mid m _ _ _
  · exact hard_mid m _ _
  · exact rename_mid m _ _ _
  · exact unlink_mid m _ _
  · exact rmdir_mid m _
  · exact ⟨Nat.zero_le _, fun d hd => by simp at hd⟩
theorem newS_midS : MidS 0 0 newS := ⟨by decide, by decide, by decide, rfl, fun x hx => by
  have : x = newI 1 2 ⟨#[]⟩ := by simpa [newS] using hx
  subst this
  exact okX_new 0 1 2 ⟨#[]⟩⟩
theorem grow_mid (os : List Int) : ∀ (ops : List POp) (n : Nat) (s : State), MidS n n s → MidS (n + ops.length) (n + ops.length) (ops.foldl (growS os) s)
  | [], n, s, m => m
  | o :: ops, n, s, m => by
    have h := opD_mid m o os
    have q := grow_mid os ops (n + 1) (growS os s o) (m.all h.1 h.2)
    rw [List.length_cons, show n + (ops.length + 1) = n + 1 + ops.length by omega]
    exact q
theorem MidS.up {n k n' k' : Nat} {s : State} (m : MidS n k s) (hn : n ≤ n') (hk : k ≤ k') : MidS n' k' s := by
  have q := m.q hn hk
  have := m.len
  exact ⟨q.n0, q.n1, by omega, q.bad, q.ent⟩
theorem grown_mid (os : List Int) (ops : List POp) (j : Nat) (hj : j ≤ 40) : MidS 40 40 ((ops.take j).foldl (growS os) newS) := by
  have q := grow_mid os (ops.take j) 0 newS newS_midS
  rw [Nat.zero_add] at q
  have : (ops.take j).length ≤ 40 := by rw [List.length_take]; omega
  exact q.up this this
theorem MidS.midI {n k : Nat} {s : State} (m : MidS n k s) (hk : k ≤ 900) : ∀ x ∈ s.inodes, midI x := fun x hx => by
  have := m.ent x hx
  exact ⟨by omega, by omega, by omega⟩
theorem MidS.fitI {n k : Nat} {s : State} (m : MidS n k s) (hk : k ≤ 900) : ∀ x ∈ s.inodes, fitI x := fun x hx => by
  have := m.ent x hx
  refine ⟨by omega, ?_⟩
  rw [this.2.2.2]; decide
end Go.Proofs.Ytkglaofiencfdaa
