import Derived.Test.YtkglaofiencfdaaRInsA
import Derived.Test.YtkglaofiencfdaaRHard
import Derived.Test.YtkglaofiencfdaaROpsA
namespace Go.Proofs.Ytkglaofiencfdaa
open Go.RowKit Go.Sort
set_option linter.unusedVariables false
/-! ### the reference's Rename, in plain words -/
def rrT (q : Spot) (th : Bool) : List Entry := if th = true then remE q.dir.entries q.name else q.dir.entries
def rrA (p q : Spot) (th : Bool) : List Entry := remE (if p.dir.no = q.dir.no then rrT q th else p.dir.entries) p.name
def rrB (p q : Spot) (th : Bool) : List Entry := if p.dir.no = q.dir.no then rrA p q th else rrT q th
def rrL (p q : Spot) (th : Bool) (al : List Entry) : List Deed := if p.dir.no = q.dir.no then [putD { q.dir with entries := al, links := q.dir.links - (if p.x.kind = 2 ∧ th = true then 1 else 0) }] else [putD { p.dir with entries := rrA p q th, links := p.dir.links - (if p.x.kind = 2 then 1 else 0) }, putD { q.dir with entries := al, links := q.dir.links + (if p.x.kind = 2 ∧ th = false then 1 else 0) }]
def rrE (p q : Spot) (th : Bool) (al : List Entry) (os : List Int) : List Deed × Int := if th = false then (rrL p q th al, 0) else if p.x.kind = 2 then (rrL p q th al ++ [⟨3, q.x.no, zeroI⟩], 0) else (rrL p q th al ++ [letGoP q.x os], 0)
def rrM (p q : Spot) (th : Bool) (os : List Int) : List Deed × Int := if addC (rrB p q th) ⟨q.name, p.x.no⟩ ≠ 0 then ([], addC (rrB p q th) ⟨q.name, p.x.no⟩) else rrE p q th (addL (rrB p q th) ⟨q.name, p.x.no⟩) os
def rrV (p q : Spot) (th : Bool) : Int := if th = true then takenR p.x q.x else if p.x.kind = 2 ∧ p.dir.no ≠ q.dir.no ∧ 100 ≤ q.dir.links then 18 else 0
def rrP (xs : List Inode) (p q : Spot) (c : Int) (os : List Int) : List Deed × Int :=
  if (c ≠ 0 ∧ c ≠ 11) ∨ q.dir.no = 0 then ([], c)
  else if c = 0 ∧ q.x.no = p.x.no then ([], 0)
  else if p.x.kind = 2 ∧ insideR xs q.dir.no p.x.no = true then ([], 22)
  else if rrV p q (c == 0) ≠ 0 then ([], rrV p q (c == 0)) else rrM p q (c == 0) os
def rrenameP (s : State) (old path : ByteArray) (os : List Int) : List Deed × Int :=
  if (thereS s.inodes old).2 ≠ 0 then ([], (thereS s.inodes old).2) else rrP s.inodes (thereS s.inodes old).1 (thereS s.inodes path).1 (thereS s.inodes path).2 os
theorem rrT_len {q : Spot} {th : Bool} (h : q.dir.entries.length ≤ 1000) : (rrT q th).length ≤ 1000 := by
  unfold rrT; split
  · exact Nat.le_trans (remE_lenT _ _) h
  · exact h
theorem rrE_new (p q : Spot) (al : List Entry) (os : List Int) : rrE p q false al os = (rrL p q false al, 0) := rfl
theorem rrE_go {p q : Spot} (h : ¬ p.x.kind = 2) (al : List Entry) (os : List Int) : rrE p q true al os = (rrL p q true al ++ [letGoP q.x os], 0) := by
  unfold rrE
  rw [if_neg (by decide), if_neg h]
theorem rrE_drop {p q : Spot} (h : p.x.kind = 2) (al : List Entry) (os : List Int) : rrE p q true al os = (rrL p q true al ++ [⟨3, q.x.no, zeroI⟩], 0) := by
  unfold rrE
  rw [if_neg (by decide), if_pos h]
end Go.Proofs.Ytkglaofiencfdaa
