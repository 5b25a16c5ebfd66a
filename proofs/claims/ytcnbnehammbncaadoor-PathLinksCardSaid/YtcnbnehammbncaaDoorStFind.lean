import Derived.Test.YtcnbnehammbncaaDoorStCp
import Derived.Test.YtcnbnehammbncaaDoorEnter
namespace Go.Proofs.YtcnbnehammbncaaDoor
open Go.RowKit Go.Sort
set_option linter.unusedVariables false
def findI (xs : List Inode) (no : Int) : Option Inode := xs.find? (isI no)
def zeroI : Inode := ⟨0, 0, 0, 0, ⟨#[]⟩, [], []⟩
/-- An inode, and whether there is one. -/
def RetFind (h : FH) (w : World) (v : Option Inode) (e : Ending) (w' : World) : Prop := ∃ cs h1, e = .returned (.tuple #[.agg cs.toArray, .bool v.isSome]) ∧ repInode h1 cs (v.getD zeroI) ∧ Ext h w h1 w'
theorem zeroI_rep (h : FH) : repInode h [.int .i64 0, .int .i64 0, .int .i64 0, .int .i64 0, .string ⟨#[]⟩, .slice none 0 0, .slice none 0 0] zeroI := ⟨none, 0, none, 0, rfl, by decide, ⟨Nat.le_refl _, fun _ => rfl, by decide⟩, RowAt.nil _ _, ⟨Nat.le_refl _, fun _ => rfl, by decide⟩, RowAt.nil _ _⟩
theorem find_at {xs : List Inode} {no : Int} {k : Nat} {x : Inode} (h : ∀ i y, i < k → xs[i]? = some y → isI no y = false) (hx : xs[k]? = some x) (hp : isI no x = true) : findI xs no = some x := find_none_take h hx hp
theorem find_no {xs : List Inode} {no : Int} (h : ∀ i y, i < xs.length → xs[i]? = some y → isI no y = false) : findI xs no = none := by
  unfold findI
  rw [List.find?_eq_none]
  intro y hy
  obtain ⟨i, hi, rfl⟩ := List.mem_iff_getElem.1 hy
  rw [h i _ hi (List.getElem?_eq_getElem _)]; simp
end Go.Proofs.YtcnbnehammbncaaDoor
