import Derived.Test.YtdiaibkpcnknbaaDoorRRenP
import Derived.Deep.CutBlock
namespace Go.Proofs.YtdiaibkpcnknbaaDoor
open Go.RowKit Go.Sort
set_option linter.unusedVariables false
theorem rep_open7 {h : FH} {cs : List Value} {no kind links size : Int} {target : ByteArray} {es : List Entry} {rs : List Run} (r : repInode h cs ⟨no, kind, links, size, target, es, rs⟩) : ∃ A5 c5 A6 c6, cs = [.int .i64 no, .int .i64 kind, .int .i64 links, .int .i64 size, .string target, .slice A5 es.length c5, .slice A6 rs.length c6] ∧ target.size ≤ 9223372036854775807 ∧ CapLe A5 es.length c5 ∧ RowAt h A5 es ∧ CapLe A6 rs.length c6 ∧ RowAt h A6 rs := r

end Go.Proofs.YtdiaibkpcnknbaaDoor
