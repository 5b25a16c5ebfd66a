import Derived.Test.YtkglaofiencfdaaStPg
namespace Go.Proofs.Ytkglaofiencfdaa
open Go.RowKit Go.Sort
set_option linter.unusedVariables false
/-! ### what is counted of a state, plainly -/
def lastK (xs : List Inode) : Int → Option Int := fun a => (xs.reverse.find? (isI a)).map (·.kind)
def pairsE (d : Int) (es : List Entry) : List (Int × Int) := es.map fun e => (d, e.no)
def pairsL (xs : List Inode) : List (Int × Int) := xs.flatMap fun x => pairsE x.no x.entries
def cntM (p : Int × Int → Bool) (ps : List (Int × Int)) : Option Int := if (ps.filter p).length = 0 then none else some ((ps.filter p).length : Int)
def toM (ps : List (Int × Int)) : Int → Option Int := fun a => cntM (fun p => p.2 == a) ps
def upM (ps : List (Int × Int)) : Int → Option Int := fun a => (ps.reverse.find? (fun p => p.2 == a)).map (·.1)
def dirM (kf : Int → Option Int) (ps : List (Int × Int)) : Int → Option Int := fun a => cntM (fun p => p.1 == a && (kf p.2).getD 0 == 2) ps
def vm (f : Int → Option Int) : Int → Option Value := fun a => (f a).map fun v => .int .i64 v
def okLead (kf : Int → Option Int) (p : Int × Int) : Bool := !((kf p.2).getD 0 == 0) && !(p.2 == 1)
def okLeads (kf : Int → Option Int) (ps : List (Int × Int)) : Bool := ps.all (okLead kf)
def leadsF (up : Int → Option Int) : Int → Nat → Bool
  | no, 0 => no == 1
  | no, n + 1 => if no = 1 then true else leadsF up ((up no).getD 0) n
def linkedF (tos up dirs : Int → Option Int) (x : Inode) (steps : Nat) : Bool :=
  if x.kind = 2 then (x.links == 2 + (dirs x.no).getD 0) && ((x.no == 1) || (((tos x.no).getD 0 == 1) && leadsF up x.no steps)) else x.links == (tos x.no).getD 0
def sumsB (xs : List Inode) : Bool := okLeads (lastK xs) (pairsL xs) && ((lastK xs 1).getD 0 == 2) && xs.all fun x => linkedF (toM (pairsL xs)) (upM (pairsL xs)) (dirM (lastK xs) (pairsL xs)) x xs.length
def soundP (s : State) (g : Geo) : Bool := geoB g && riseB s g && okPl (g.blocks * g.pages) (placesL s.inodes) && sumsB s.inodes
end Go.Proofs.Ytkglaofiencfdaa
