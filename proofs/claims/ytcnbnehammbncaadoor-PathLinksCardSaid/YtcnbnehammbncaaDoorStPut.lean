import Derived.Test.YtcnbnehammbncaaDoorStFind
namespace Go.Proofs.YtcnbnehammbncaaDoor
open Go.RowKit Go.Sort
set_option linter.unusedVariables false
/-- What a call may have done that may write one own row. -/
structure OExt (h : FH) (w : World) (h' : FH) (w' : World) (row : Option Nat) : Prop where
  le : FLe h h'
  sits : Sits h' w'
  grown : w.grownBy w' row
  fresh : ∀ b, h' b ≠ none → h b ≠ none ∨ w.heap.size ≤ b
theorem OExt.of {h h' : FH} {w w' : World} (E : Ext h w h' w') (row : Option Nat) : OExt h w h' w' row := ⟨E.le, E.sits, grownBy_of_ext E row, E.fresh⟩
theorem OExt.trans {h h1 h2 : FH} {w w1 w2 : World} {row : Option Nat} (a : OExt h w h1 w1 row) (b : OExt h1 w1 h2 w2 row) : OExt h w h2 w2 row :=
  ⟨a.le.trans b.le, b.sits, a.grown.trans b.grown, fun k hk => by
    rcases b.fresh k hk with h3 | h3
    · exact a.fresh k h3
    · exact .inr (Nat.le_trans a.grown.size h3)⟩
theorem OExt.row {h h1 : FH} {w w1 w2 : World} {row : Option Nat} (a : OExt h w h1 w1 row) (G : w1.grownBy w2 row) (hr : ∀ k, row = some k → h1 k = none) : OExt h w h1 w2 row :=
  ⟨a.le, fun b x hb => by
    rw [G.block b (a.sits.lt (by rw [hb]; simp)) (fun e => by have := hr b e.symm; rw [hb] at this; cases this)]; exact a.sits b x hb, a.grown.trans G, a.fresh⟩
theorem OExt.lift {h0 h h1 : FH} {w0 w w1 : World} {row : Option Nat} (E : Ext h0 w0 h w) (a : OExt h w h1 w1 row) (hr : ∀ k, row = some k → w0.heap.size ≤ k) : Ext h0 w0 h1 w1 :=
  ⟨E.le.trans a.le, a.sits, E.below.grown a.grown E.size hr, fun b hb => by
    rcases a.fresh b hb with h2 | h2
    · exact E.fresh b h2
    · exact .inr (Nat.le_trans E.size h2)⟩
theorem OExt.none {h h' : FH} {w w' : World} {row : Option Nat} (E : OExt h w h' w' row) {g : Nat} (hn : h g = Option.none) (hg : g < w.heap.size) : h' g = Option.none := by
  cases e : h' g with
  | none => rfl
  | some o =>
    rcases E.fresh g (by rw [e]; simp) with h2 | h2
    · exact absurd hn h2
    · omega
def posI (xs : List Inode) (no : Int) : Nat := (xs.findIdx? (gtI no)).getD xs.length
def putI (xs : List Inode) (x : Inode) : List Inode := match xs.findIdx? (isI x.no) with
  | some i => xs.set i x
  | none => xs.take (posI xs x.no) ++ [x] ++ xs.drop (posI xs x.no)
theorem putI_len (xs : List Inode) (x : Inode) : (putI xs x).length ≤ xs.length + 1 := by
  unfold putI; split
  · simp
  · simp; omega
/-- An own row that the caller handed in, and what was done. -/
def RetPut {α : Type} [Enc α] (h : FH) (w : World) (base : Nat) (T : TypeId) (row : Option Nat) (ys : List α) (e : Ending) (w' : World) : Prop := ∃ v' h1, e = .returned v' ∧ OwnL h1 w' base T v' ys ∧ OExt h w h1 w' row
theorem own_get {h : FH} {w : World} {base : Nat} {T : TypeId} {g cap n : Nat} {xs : List Inode} (O : OwnL h w base T (.slice (some ⟨g, 0, none⟩) n cap) xs) {i : Nat} {z : Inode} (hz : xs[i]? = some z) :
    ∃ A5 c5 A6 c6, (w.cell? ⟨g, i * 7, none⟩ = some (.int .i64 z.no) ∧ w.cell? ⟨g, i * 7 + 1, none⟩ = some (.int .i64 z.kind) ∧ w.cell? ⟨g, i * 7 + 2, none⟩ = some (.int .i64 z.links) ∧ w.cell? ⟨g, i * 7 + 3, none⟩ = some (.int .i64 z.size) ∧ w.cell? ⟨g, i * 7 + 4, none⟩ = some (.string z.target) ∧ w.cell? ⟨g, i * 7 + 5, none⟩ = some (.slice A5 z.entries.length c5) ∧ w.cell? ⟨g, i * 7 + 6, none⟩ = some (.slice A6 z.runs.length c6)) ∧ repInode h [.int .i64 z.no, .int .i64 z.kind, .int .i64 z.links, .int .i64 z.size, .string z.target, .slice A5 z.entries.length c5, .slice A6 z.runs.length c6] z ∧ ∀ k, w.frozen? ⟨g, k, none⟩ = false := by
  obtain ⟨g2, cap2, cs2, hv2, _, _, _, rz, hcc2, hfr2⟩ := O.get hz
  obtain ⟨rfl, hq9, rfl⟩ : g = g2 ∧ n = xs.length ∧ cap = cap2 := by simpa using hv2
  have rz' := rz
  obtain ⟨A7, c7, A8, c8, rfl, _⟩ := rz
  exact ⟨A7, c7, A8, c8, ⟨hcc2 0 _ rfl, hcc2 1 _ rfl, hcc2 2 _ rfl, hcc2 3 _ rfl, hcc2 4 _ rfl, hcc2 5 _ rfl, hcc2 6 _ rfl⟩, rz', hfr2⟩
theorem posI_ix (xs : List Inode) (no : Int) : posI xs no ≤ xs.length ∧ (ixB (gtI no) xs = (posI xs no : Int) ∧ posI xs no < xs.length ∨ ixB (gtI no) xs = -1 ∧ posI xs no = xs.length) := by
  unfold posI ixB
  cases e : xs.findIdx? (gtI no) with
  | none => exact ⟨Nat.le_refl _, .inr ⟨rfl, rfl⟩⟩
  | some i =>
    have := (List.findIdx?_eq_some_iff_getElem.1 e).1
    exact ⟨by simp; omega, .inl ⟨rfl, by simpa using this⟩⟩
def posZ (xs : List Int) (no : Int) : Nat := (xs.findIdx? (gtZ no)).getD xs.length
def badZ (xs : List Int) (no : Int) : List Int := if xs.any (eqZ no) then xs else xs.take (posZ xs no) ++ [no] ++ xs.drop (posZ xs no)
theorem badZ_len (xs : List Int) (no : Int) : (badZ xs no).length ≤ xs.length + 1 := by
  unfold badZ; split
  · simp
  · simp; omega
theorem posZ_ix (xs : List Int) (no : Int) : posZ xs no ≤ xs.length ∧ (ixB (gtZ no) xs = (posZ xs no : Int) ∧ posZ xs no < xs.length ∨ ixB (gtZ no) xs = -1 ∧ posZ xs no = xs.length) := by
  unfold posZ ixB
  cases e : xs.findIdx? (gtZ no) with
  | none => exact ⟨Nat.le_refl _, .inr ⟨rfl, rfl⟩⟩
  | some i =>
    have := (List.findIdx?_eq_some_iff_getElem.1 e).1
    exact ⟨by simp; omega, .inl ⟨rfl, by simpa using this⟩⟩
end Go.Proofs.YtcnbnehammbncaaDoor
