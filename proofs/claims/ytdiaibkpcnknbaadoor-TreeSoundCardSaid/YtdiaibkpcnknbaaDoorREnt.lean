import Derived.Test.YtdiaibkpcnknbaaDoorTrAll
namespace Go.Proofs.YtdiaibkpcnknbaaDoor
open Go.RowKit Go.Sort
set_option linter.unusedVariables false
theorem sits_rangeG {h : FH} {w : World} (hs : Sits h w) {g : Nat} {cs : Array Value} {T : TypeId} {fr : Nat × Nat} (hb : h g = some (.cells cs T fr)) {o : Nat} {vs : List Value} (hv : ∀ (j : Nat) (v : Value), vs[j]? = some v → cs[o + j]? = some v) : w.rangeAt g o vs := fun j v hj => by
  rw [cell_of_row _ _ _ _ _ _ (hs _ _ hb)]; exact hv j v hj
theorem sits_cellG {h : FH} {w : World} (hs : Sits h w) {g j : Nat} {cs : Array Value} {T : TypeId} {fr : Nat × Nat} (hb : h g = some (.cells cs T fr)) {v : Value} (hv : cs[j]? = some v) : w.cell? ⟨g, j, none⟩ = some v := by
  rw [cell_of_row _ _ _ _ _ _ (hs _ _ hb)]; exact hv
theorem sits_cellL {h : FH} {w : World} (hs : Sits h w) {g j : Nat} {cs : List Value} {T : TypeId} {fr : Nat × Nat} (hb : h g = some (.cells cs.toArray T fr)) {v : Value} (hv : cs[j]? = some v) : w.cell? ⟨g, j, none⟩ = some v := sits_cellG hs hb (by rw [List.getElem?_toArray]; exact hv)
theorem results_ctct {P : Program} {fn : Func} {p q r s : Tmp} {ty : TypeId} (h : fn.results = #[.cell p ty, .tmp q, .cell r ty, .tmp s]) (tmps : Array Value) (w : World) (g g2 : Nat) (t : TypeId) (cs ds : Array Value) (fr fr2 : Nat × Nat) (d : TypeDesc) (v u : Value)
    (hp : tmps.getD p undef = .pointer (some ⟨g, 0, none⟩)) (hr : tmps.getD r undef = .pointer (some ⟨g2, 0, none⟩)) (hq : tmps.getD q undef = v) (hs : tmps.getD s undef = u) (hg : w.heap[g]? = some (.cells cs t fr)) (hg2 : w.heap[g2]? = some (.cells ds t fr2))
    (hu : P.underlying ty = some d) (hd : (match d with | .struct _ | .array _ _ => true | _ => false) = true) (hi : (P.info? ty).map (·.size) = some cs.size) (hi2 : (P.info? ty).map (·.size) = some ds.size) :
    (results fn tmps).run P w = .ok (.tuple #[.agg cs, v, .agg ds, u]) w := by
  have hp' : tmps[p]?.getD undef = .pointer (some ⟨g, 0, none⟩) := by simpa using hp
  have hr' : tmps[r]?.getD undef = .pointer (some ⟨g2, 0, none⟩) := by simpa using hr
  have hq' : tmps[q]?.getD undef = v := by simpa using hq
  have hs' : tmps[s]?.getD undef = u := by simpa using hs
  simp [results, h, hp', hq', hr', hs', asAddr, run_loadVar_row w g t ty cs fr d hg hu hd hi, run_loadVar_row w g2 t ty ds fr2 d hg2 hu hd hi2]
/-- The directory, the name, the inode that it leads to, and why not. -/
def RetEnt (h : FH) (w : World) (p : Spot) (code : Int) (e : Ending) (w' : World) : Prop := ∃ dl xl h1, e = .returned (.tuple #[.agg dl.toArray, .string p.name, .agg xl.toArray, .int .i64 code]) ∧ repInode h1 dl p.dir ∧ repInode h1 xl p.x ∧ p.name.size ≤ 9223372036854775807 ∧ Ext h w h1 w'
theorem zi_sizeR {h : FH} {cs : List Value} {x : Inode} (r : repInode h cs x) : (#[.int .i64 0, .int .i64 0, .int .i64 0, .int .i64 0, .string ⟨#[]⟩, .slice none 0 0, .slice none 0 0] : Array Value).size = cs.toArray.size := by refine Eq.trans (b := 7) rfl ?_; rw [List.size_toArray, r.len]
theorem zi_oneR : (#[.int .i64 0, .int .i64 0, .int .i64 0, .int .i64 0, .string ⟨#[]⟩, .slice none 0 0, .slice none 0 0] : Array Value).all (·.oneCell') = true := one_arr (cs := zeroL) (zeroL_rep (fun _ => none)).one
theorem zi_infoR : (Tryd.prog.info? 51).map (·.size) = some (#[.int .i64 0, .int .i64 0, .int .i64 0, .int .i64 0, .string ⟨#[]⟩, .slice none 0 0, .slice none 0 0] : Array Value).size := by kernel_rfl
theorem thereS_err {xs : List Inode} {path : ByteArray} {no : Int} {name : ByteArray} {c : Int} (hp : parentP xs path = (no, name, c)) (hc : c ≠ 0) : thereS xs path = (zeroSpot, c) := by
  unfold thereS findS
  rw [hp]
  simp only [ne_eq, hc, not_false_eq_true, if_true, false_and, if_false]
theorem thereS_in {xs : List Inode} {path : ByteArray} {no : Int} {name : ByteArray} (hp : parentP xs path = (no, name, 0)) : thereS xs path = if (atS xs no name).is = false then (atS xs no name, 11) else (atS xs no name, 0) := by
  unfold thereS findS
  rw [hp]
  simp only [ne_eq, not_true_eq_false, if_false, true_and]
theorem atS_miss {xs : List Inode} {no : Int} {name : ByteArray} {d : Inode} (hd : (findI xs no).getD zeroI = d) {v : Option Int} (hv : findE d.entries name = v) (h : v = none ∨ ∃ t, v = some t ∧ findI xs t = none) : atS xs no name = ⟨d, name, zeroI, false⟩ := by
  unfold atS
  rw [hd, hv]
  rcases h with rfl | ⟨t, rfl, ht⟩
  · rfl
  · simp only [ht]; rfl
theorem atS_hit {xs : List Inode} {no t : Int} {name : ByteArray} {d x : Inode} (hd : (findI xs no).getD zeroI = d) (hv : findE d.entries name = some t) (hx : findI xs t = some x) : atS xs no name = ⟨d, name, x, true⟩ := by
  unfold atS
  rw [hd, hv]
  simp only [hx]; rfl

end Go.Proofs.YtdiaibkpcnknbaaDoor
