import Derived.Test.YtcnbnehammbncaaDoorInodeN
namespace Go.Proofs.YtcnbnehammbncaaDoor
open Go.RowKit Go.Sort
set_option linter.unusedVariables false
def statV (x : Inode) : Value := .agg #[.int .i64 x.no, .int .i64 x.kind, .int .i64 x.links, .int .i64 (if x.kind = 2 then (x.entries.length : Int) else x.size), .int .i64 ((pagesR x.runs).length : Int)]
theorem Ext.row {h h1 : FH} {w w1 : World} {b : Nat} {o : Obj} (E : Ext h w h1 w1) (hb : w.heap[b]? = some o) : w1.heap[b]? = some o := by
  rw [E.below.block b (Array.getElem?_eq_some_iff.1 hb).1]; exact hb
theorem Ext.more {h h2 h' h'' : FH} {w w1 wf : World} (E : Ext h w h2 w1) (Ef : Ext h' w1 h'' wf) : Ext h w h2 wf := E.trans (Ext.of_below E.sits Ef.below)
end Go.Proofs.YtcnbnehammbncaaDoor
