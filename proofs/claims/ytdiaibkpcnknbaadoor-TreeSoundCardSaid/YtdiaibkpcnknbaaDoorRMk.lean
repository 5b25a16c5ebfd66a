import Derived.Test.YtdiaibkpcnknbaaDoorWkAll
namespace Go.Proofs.YtdiaibkpcnknbaaDoor
open Go.RowKit Go.Sort
set_option linter.unusedVariables false
def resolveP (xs : List Inode) (path : ByteArray) (follow : Bool) : Int × Int := if waysCode path = 0 then walkP xs (waysXs path) follow else (0, waysCode path)
/-- The directory, the last name, and why not. -/
def parentL (xs : List Inode) (l : List ByteArray) : Int × ByteArray × Int :=
  match l.getLast? with
  | none => (0, ⟨#[]⟩, 24)
  | some a =>
    if (a.toList == [46, 46]) = true then (0, ⟨#[]⟩, 24)
    else if (walkP xs l.dropLast true).2 ≠ 0 then (0, ⟨#[]⟩, (walkP xs l.dropLast true).2)
    else if ((findI xs (walkP xs l.dropLast true).1).getD zeroI).kind = 2 then ((walkP xs l.dropLast true).1, a, 0) else (0, ⟨#[]⟩, 13)
def parentP (xs : List Inode) (path : ByteArray) : Int × ByteArray × Int := if waysCode path = 0 then parentL xs (waysXs path) else (0, ⟨#[]⟩, waysCode path)
theorem parentL_nil (xs : List Inode) : parentL xs [] = (0, ⟨#[]⟩, 24) := rfl
theorem parentL_at {xs : List Inode} {l : List ByteArray} {n : Nat} {a : ByteArray} (hn : l.length = n + 1) (ha : l[n]? = some a) : parentL xs l = (if (a.toList == [46, 46]) = true then (0, ⟨#[]⟩, 24)
    else if (walkP xs (l.take n) true).2 ≠ 0 then (0, ⟨#[]⟩, (walkP xs (l.take n) true).2)
    else if ((findI xs (walkP xs (l.take n) true).1).getD zeroI).kind = 2 then ((walkP xs (l.take n) true).1, a, 0) else (0, ⟨#[]⟩, 13)) := by
  have h1 : l.getLast? = some a := by rw [List.getLast?_eq_getElem?, hn]; simpa using ha
  have h2 : l.dropLast = l.take n := by rw [List.dropLast_eq_take, hn]; rfl
  unfold parentL
  rw [h1, h2]
end Go.Proofs.YtdiaibkpcnknbaaDoor

namespace Go.Proofs.YtdiaibkpcnknbaaDoor
open Go.RowKit Go.Sort
set_option linter.unusedVariables false
/-- What is not too great. -/
def midI (x : Inode) : Prop := x.entries.length ≤ 1000 ∧ -1000000 ≤ x.links ∧ x.links ≤ 1000000
theorem midI_zero : midI zeroI := ⟨by decide, by decide, by decide⟩
/-- Deeds, a number, and why not. -/
def RetMake (h : FH) (w : World) (r : List Deed × Int × Int) (e : Ending) (w' : World) : Prop := ∃ A c h1, e = .returned (.tuple #[.slice A r.1.length c, .int .i64 r.2.1, .int .i64 r.2.2]) ∧ CapLe A r.1.length c ∧ RowAt h1 A r.1 ∧ Ext h w h1 w'
def putD (x : Inode) : Deed := ⟨2, 0, x⟩
def makeD (d : Inode) (name : ByteArray) (next kind : Int) : Inode := { d with entries := addL d.entries ⟨name, next⟩, links := if kind = 2 then d.links + 1 else d.links }
def makeP (s : State) (path : ByteArray) (kind : Int) (target : ByteArray) : List Deed × Int × Int :=
  if kind < 1 ∨ 3 < kind then ([], 0, 1)
  else if kind = 3 ∧ (targetB target = false ∨ partsCode target ≠ 0) then ([], 0, 17)
  else if (parentP s.inodes path).2.2 ≠ 0 then ([], 0, (parentP s.inodes path).2.2)
  else
    let d := (findI s.inodes (parentP s.inodes path).1).getD zeroI
    let name := (parentP s.inodes path).2.1
    if (findE d.entries name).isSome = true then ([], 0, 12)
    else if 200 ≤ s.inodes.length then ([], 0, 10)
    else if kind = 2 ∧ 100 ≤ d.links then ([], 0, 18)
    else if addC d.entries ⟨name, s.next⟩ ≠ 0 then ([], 0, addC d.entries ⟨name, s.next⟩)
    else ([⟨1, s.next + 1, zeroI⟩, putD (makeD d name s.next kind), putD (newI s.next kind target)], s.next, 0)
theorem makeP_late {s : State} {path target : ByteArray} {kind : Int} (h1 : ¬ (kind < 1 ∨ 3 < kind)) (h2 : ¬ (kind = 3 ∧ (targetB target = false ∨ partsCode target ≠ 0))) {no : Int} {name : ByteArray} (hp : parentP s.inodes path = (no, name, 0)) {d : Inode} (hd : (findI s.inodes no).getD zeroI = d) :
    makeP s path kind target = (if (findE d.entries name).isSome = true then ([], 0, 12)
    else if 200 ≤ s.inodes.length then ([], 0, 10)
    else if kind = 2 ∧ 100 ≤ d.links then ([], 0, 18)
    else if addC d.entries ⟨name, s.next⟩ ≠ 0 then ([], 0, addC d.entries ⟨name, s.next⟩)
    else ([⟨1, s.next + 1, zeroI⟩, putD (makeD d name s.next kind), putD (newI s.next kind target)], s.next, 0)) := by
  unfold makeP
  rw [if_neg h1, if_neg h2, hp, if_neg (by simp)]
  simp only [hd]
theorem makeP_par {s : State} {path target : ByteArray} {kind : Int} (h1 : ¬ (kind < 1 ∨ 3 < kind)) (h2 : ¬ (kind = 3 ∧ (targetB target = false ∨ partsCode target ≠ 0))) (h3 : (parentP s.inodes path).2.2 ≠ 0) : makeP s path kind target = ([], 0, (parentP s.inodes path).2.2) := by
  unfold makeP; rw [if_neg h1, if_neg h2, if_pos h3]

theorem box7_5 {w : World} {g : Nat} {a0 a1 a2 a3 a4 a5 a6 : Value} {t : TypeId} (h : w.heap[g]? = some (.cells #[a0, a1, a2, a3, a4, a5, a6] t (0, 0))) (v : Value) : (w.setCell ⟨g, 5, none⟩ v).heap[g]? = some (.cells #[a0, a1, a2, a3, a4, v, a6] t (0, 0)) := box_set (i := 5) h v
theorem box7_2 {w : World} {g : Nat} {a0 a1 a2 a3 a4 a5 a6 : Value} {t : TypeId} (h : w.heap[g]? = some (.cells #[a0, a1, a2, a3, a4, a5, a6] t (0, 0))) (v : Value) : (w.setCell ⟨g, 2, none⟩ v).heap[g]? = some (.cells #[a0, a1, v, a3, a4, a5, a6] t (0, 0)) := box_set (i := 2) h v
theorem mem_of_findI {xs : List Inode} {no : Int} {x : Inode} (h : findI xs no = some x) : x ∈ xs := List.mem_of_find?_eq_some h
end Go.Proofs.YtdiaibkpcnknbaaDoor
