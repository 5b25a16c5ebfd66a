import Derived.Test.YtdiaibkpcnknbaaDoorROpsA
namespace Go.Proofs.YtdiaibkpcnknbaaDoor
open Go.RowKit Go.Sort
set_option linter.unusedVariables false
def hardT (x : Inode) (no : Int) (d : Inode) (name : ByteArray) : List Deed × Int :=
  if (findE d.entries name).isSome = true then ([], 12)
  else if 100 ≤ x.links then ([], 18)
  else if addC d.entries ⟨name, no⟩ ≠ 0 then ([], addC d.entries ⟨name, no⟩)
  else ([putD { d with entries := addL d.entries ⟨name, no⟩ }, putD { x with links := x.links + 1 }], 0)
def hardU (xs : List Inode) (x : Inode) (no : Int) (q : Int × ByteArray × Int) : List Deed × Int :=
  if q.2.2 ≠ 0 then ([], q.2.2) else hardT x no ((findI xs q.1).getD zeroI) q.2.1
def hardP (s : State) (old path : ByteArray) : List Deed × Int :=
  if (resolveP s.inodes old false).2 ≠ 0 then ([], (resolveP s.inodes old false).2)
  else if ((findI s.inodes (resolveP s.inodes old false).1).getD zeroI).kind = 2 then ([], 14)
  else hardU s.inodes ((findI s.inodes (resolveP s.inodes old false).1).getD zeroI) (resolveP s.inodes old false).1 (parentP s.inodes path)
end Go.Proofs.YtdiaibkpcnknbaaDoor
