import Derived.Test.YtdiaibkpcnknbaaDoorTrAll
import Derived.Test.YtdiaibkpcnknbaaDoorPkInA
namespace Go.Proofs.YtdiaibkpcnknbaaDoor
open Go.RowKit Go.Sort
set_option linter.unusedVariables false
/-! ### package tree: taken, may -/
theorem check_pair (w : World) (em a b : Bool) : (Instr.checkKey em 10000 130 (.agg #[.bool a, .bool b])).run Tryd.prog w = .ok () w := by kernel_rfl
theorem find_pair0 (w : World) (a b : Bool) : (Instr.findKey 130 (.agg #[.bool a, .bool b]) []).run Tryd.prog w = .ok none w := by cases a <;> cases b <;> kernel_rfl
theorem find_pair1 (w : World) (v : Value) : (Instr.findKey 130 (.agg #[.bool false, .bool true]) [⟨.agg #[.bool true, .bool false], v, 0⟩]).run Tryd.prog w = .ok none w := by kernel_rfl
theorem find_pair2 (w : World) (v u : Value) (a b : Bool) : (Instr.findKey 130 (.agg #[.bool a, .bool b]) [⟨.agg #[.bool true, .bool false], v, 0⟩, ⟨.agg #[.bool false, .bool true], u, 1⟩]).run Tryd.prog w = .ok (if a = true ∧ b = false then some (0, v) else if a = false ∧ b = true then some (1, u) else none) w := by cases a <;> cases b <;> kernel_rfl
theorem pair_make (w : World) : (Instr.makeMap 131 none).run Tryd.prog w = .ok (.map (some w.heap.size)) (w.alloc (.map #[] 0)) := by kernel_rfl
def pairM1 : Obj := .map #[⟨.agg #[.bool true, .bool false], .int .i64 13, 0⟩] 1
def pairM2 : Obj := .map #[⟨.agg #[.bool true, .bool false], .int .i64 13, 0⟩, ⟨.agg #[.bool false, .bool true], .int .i64 14, 1⟩] 2
theorem pair_put1 (w : World) (b : Nat) (h : w.heap[b]? = some (.map #[] 0)) :
    (Instr.mapUpdate 131 (.map (some b)) (.agg #[.bool true, .bool false]) (.int .i64 13)).run Tryd.prog w = .ok () (Go.ChangeMaps.setBlock w b pairM1) := by
  simp [Instr.mapUpdate, run_underlying Tryd.underlying131, MapKept.run_getObj_map h, check_pair, find_pair0, MapKept.run_setObj_map _ h, Result.andThen, Go.ChangeMaps.setBlock, pairM1]
theorem pair_put2 (w : World) (b : Nat) (h : w.heap[b]? = some pairM1) :
    (Instr.mapUpdate 131 (.map (some b)) (.agg #[.bool false, .bool true]) (.int .i64 14)).run Tryd.prog w = .ok () (Go.ChangeMaps.setBlock w b pairM2) := by
  unfold pairM1 at h
  simp [Instr.mapUpdate, run_underlying Tryd.underlying131, MapKept.run_getObj_map h, check_pair, find_pair1, MapKept.run_setObj_map _ h, Result.andThen, Go.ChangeMaps.setBlock, pairM2]
theorem pair_look (w : World) (g : Nat) (a b : Bool) (h : w.heap[g]? = some pairM2) :
    (Instr.lookup 131 (.map (some g)) (.agg #[.bool a, .bool b]) true).run Tryd.prog w = .ok (.tuple #[.int .i64 (if a = true ∧ b = false then 13 else if a = false ∧ b = true then 14 else 0), .bool (a != b)]) w := by
  unfold pairM2 at h
  cases a <;> cases b <;> simp [Instr.lookup, run_underlying Tryd.underlying131, MapKept.run_getObj_map h, check_pair, find_pair2, Result.andThen]
def pairN1 : Obj := .map #[⟨.agg #[.bool false, .bool true], .int .i64 14, 0⟩] 1
def pairN2 : Obj := .map #[⟨.agg #[.bool false, .bool true], .int .i64 14, 0⟩, ⟨.agg #[.bool true, .bool false], .int .i64 13, 1⟩] 2
theorem find_pair3 (w : World) (v : Value) : (Instr.findKey 130 (.agg #[.bool true, .bool false]) [⟨.agg #[.bool false, .bool true], v, 0⟩]).run Tryd.prog w = .ok none w := by kernel_rfl
theorem find_pair4 (w : World) (v u : Value) (a b : Bool) : (Instr.findKey 130 (.agg #[.bool a, .bool b]) [⟨.agg #[.bool false, .bool true], v, 0⟩, ⟨.agg #[.bool true, .bool false], u, 1⟩]).run Tryd.prog w = .ok (if a = false ∧ b = true then some (0, v) else if a = true ∧ b = false then some (1, u) else none) w := by cases a <;> cases b <;> kernel_rfl
theorem pair_put3 (w : World) (b : Nat) (h : w.heap[b]? = some (.map #[] 0)) :
    (Instr.mapUpdate 131 (.map (some b)) (.agg #[.bool false, .bool true]) (.int .i64 14)).run Tryd.prog w = .ok () (Go.ChangeMaps.setBlock w b pairN1) := by
  simp [Instr.mapUpdate, run_underlying Tryd.underlying131, MapKept.run_getObj_map h, check_pair, find_pair0, MapKept.run_setObj_map _ h, Result.andThen, Go.ChangeMaps.setBlock, pairN1]
theorem pair_put4 (w : World) (b : Nat) (h : w.heap[b]? = some pairN1) :
    (Instr.mapUpdate 131 (.map (some b)) (.agg #[.bool true, .bool false]) (.int .i64 13)).run Tryd.prog w = .ok () (Go.ChangeMaps.setBlock w b pairN2) := by
  unfold pairN1 at h
  simp [Instr.mapUpdate, run_underlying Tryd.underlying131, MapKept.run_getObj_map h, check_pair, find_pair3, MapKept.run_setObj_map _ h, Result.andThen, Go.ChangeMaps.setBlock, pairN2]
theorem pair_look2 (w : World) (g : Nat) (a b : Bool) (h : w.heap[g]? = some pairN2) :
    (Instr.lookup 131 (.map (some g)) (.agg #[.bool a, .bool b]) true).run Tryd.prog w = .ok (.tuple #[.int .i64 (if a = true ∧ b = false then 13 else if a = false ∧ b = true then 14 else 0), .bool (a != b)]) w := by
  unfold pairN2 at h
  cases a <;> cases b <;> simp [Instr.lookup, run_underlying Tryd.underlying131, MapKept.run_getObj_map h, check_pair, find_pair4, Result.andThen]
theorem pair_at (w : World) (b : Nat) (o : Obj) (h : b < w.heap.size) : (Go.ChangeMaps.setBlock w b o).heap[b]? = some o := by
  unfold Go.ChangeMaps.setBlock
  simp [h]
def takenP (a b : Inode) : Int := if a.kind = 2 ∧ b.kind ≠ 2 then 13 else if a.kind ≠ 2 ∧ b.kind = 2 then 14 else if b.kind = 2 ∧ 0 < b.entries.length then 15 else 0
set_option maxHeartbeats 16000000 in
set_option maxRecDepth 100000 in
theorem tree_taken (a b : Inode) (ca cb : List Value) (h : FH) (w : World) (hs : Sits h w) (ra : repInode h ca a) (rb : repInode h cb b) :
    Calls Tryd.prog 50 #[.agg ca.toArray, .agg cb.toArray] w fun e w' => e = .returned (.int .i64 (takenP a b)) ∧ Ext h w h w' := by
  obtain ⟨h1, E1, hb1, le1, hh1⟩ := (Ext.refl hs).boxF ca.toArray 51
  obtain ⟨h2, E2, hb2, le2, hh2⟩ := E1.boxF cb.toArray 51
  have hszR : (w.alloc (.cells ca.toArray 51)).heap.size = w.heap.size + 1 := by simp
  rw [hszR] at hb2
  have hb1 := le2 _ _ hb1
  clear hh1 hh2
  obtain ⟨A5, c5, at5, -, -⟩ := rb.at5
  have RA := hid ra.at1
  have RB := hid rb.at1
  have RE := hid at5
  clear at5
  go_enter Tryd.func50, Tryd.ntmps50
  go_upto_region 1 with (fail)
  obtain ⟨ga, hga⟩ : ∃ ga, ga = w.heap.size := ⟨_, rfl⟩
  obtain ⟨gb, hgb⟩ : ∃ gb, gb = w.heap.size + 1 := ⟨_, rfl⟩
  rw [← hga] at hb1
  rw [← hgb] at hb2
  rw [← hgb, ← hga]
  with_reducible generalize (w.alloc (.cells ca.toArray 51)).alloc (.cells cb.toArray 51) = W2 at E2 ⊢
  clear hga hgb hszR E1
  have hmk := pair_make
  have ha1 := pair_put1 (W2.drew.alloc (.map #[] 0)) W2.heap.size (heap_new W2.drew _)
  have hb_1 := pair_put2 (Go.ChangeMaps.setBlock (W2.drew.alloc (.map #[] 0)) W2.heap.size pairM1) W2.heap.size (pair_at _ _ _ (by simp))
  have ha2 := pair_put3 (W2.drew.alloc (.map #[] 0)) W2.heap.size (heap_new W2.drew _)
  have hb_2 := pair_put4 (Go.ChangeMaps.setBlock (W2.drew.alloc (.map #[] 0)) W2.heap.size pairN1) W2.heap.size (pair_at _ _ _ (by simp))
  have ha3 := pair_put1 (W2.alloc (.map #[] 0)).drew W2.heap.size (heap_new W2 _)
  have hb_3 := pair_put2 (Go.ChangeMaps.setBlock (W2.alloc (.map #[] 0)).drew W2.heap.size pairM1) W2.heap.size (pair_at _ _ _ (by simp))
  have ha4 := pair_put3 (W2.alloc (.map #[] 0)).drew W2.heap.size (heap_new W2 _)
  have hb_4 := pair_put4 (Go.ChangeMaps.setBlock (W2.alloc (.map #[] 0)).drew W2.heap.size pairN1) W2.heap.size (pair_at _ _ _ (by simp))
  go_region
  · have hl := fun q r => pair_look (Go.ChangeMaps.setBlock (Go.ChangeMaps.setBlock (W2.alloc (.map #[] 0)).drew W2.heap.size pairM1) W2.heap.size pairM2) W2.heap.size q r (pair_at _ _ _ (by simp [Go.ChangeMaps.setBlock]))
    have E3 : Ext h w h2 (Go.ChangeMaps.setBlock (Go.ChangeMaps.setBlock (W2.alloc (.map #[] 0)).drew W2.heap.size pairM1) W2.heap.size pairM2) := ((E2.alloc (.map #[] 0)).drew.grown (grownBy_setBlock _ W2.heap.size pairM1 (heap_new W2 _)) (fun k hk => by cases hk; exact ⟨E2.size, E2.sits.none (Nat.le_refl _)⟩)).grown (grownBy_setBlock _ W2.heap.size pairM2 (show _ = some (Obj.map _ _) from pair_at _ _ pairM1 (by simp))) (fun k hk => by cases hk; exact ⟨E2.size, E2.sits.none (Nat.le_refl _)⟩)
    clear hmk ha1 hb_1 ha2 hb_2 ha3 hb_3 ha4 hb_4
    generalize W2.heap.size = gm at *
    with_reducible generalize Go.ChangeMaps.setBlock (Go.ChangeMaps.setBlock (W2.alloc (.map #[] 0)).drew gm pairM1) gm pairM2 = W3 at hl E3 ⊢
    have n1 : W3.cell? ⟨ga, 1, none⟩ = some (.int .i64 a.kind) := Sits_at E3.sits hb1 (by rw [List.getElem?_toArray]; exact RA.out)
    have n2 : W3.cell? ⟨gb, 1, none⟩ = some (.int .i64 b.kind) := Sits_at E3.sits hb2 (by rw [List.getElem?_toArray]; exact RB.out)
    have n5 : W3.cell? ⟨gb, 5, none⟩ = some (.slice A5 b.entries.length c5) := Sits_at E3.sits hb2 (by rw [List.getElem?_toArray]; exact RE.out)
    have E3 := hid E3
    clear hb1 hb2 E2
    by_cases ka : a.kind = 2
    · have k1 : (a.kind == 2) = true := by simpa using ka
      by_cases kb : b.kind = 2
      · have k2 : (b.kind == 2) = true := by simpa using kb
        have hl1 : (Instr.lookup 131 (.map (some gm)) (.agg #[.bool true, .bool true]) true).run Tryd.prog W3 = .ok (.tuple #[.int .i64 0, .bool false]) W3 := by simpa using hl true true
        by_cases he : 0 < b.entries.length
        · have HT := hid (show takenP a b = 15 by unfold takenP; rw [if_neg (by simp [kb]), if_neg (by simp [ka]), if_pos ⟨kb, he⟩])
          have he2 : (0 : Int) < (b.entries.length : Int) := by omega
          clear hl ka kb he
          go_wp2_with fail
          go_ret
          exact ⟨by rw [HT.out]; rfl, E3.out.back⟩
        · have HT := hid (show takenP a b = 0 by unfold takenP; rw [if_neg (by simp [kb]), if_neg (by simp [ka]), if_neg (by intro q; exact he q.2)])
          have he2 : ¬ ((0 : Int) < (b.entries.length : Int)) := by omega
          clear hl ka kb he
          go_wp2_with fail
          go_ret
          exact ⟨by rw [HT.out]; rfl, E3.out.back⟩
      · have k2 : (b.kind == 2) = false := by simpa using kb
        have hl1 : (Instr.lookup 131 (.map (some gm)) (.agg #[.bool true, .bool false]) true).run Tryd.prog W3 = .ok (.tuple #[.int .i64 13, .bool true]) W3 := by simpa using hl true false
        have HT := hid (show takenP a b = 13 by unfold takenP; rw [if_pos ⟨ka, kb⟩])
        clear hl ka kb
        go_wp2_with fail
        go_ret
        exact ⟨by rw [HT.out]; rfl, E3.out.back⟩
    · have k1 : (a.kind == 2) = false := by simpa using ka
      by_cases kb : b.kind = 2
      · have k2 : (b.kind == 2) = true := by simpa using kb
        have hl1 : (Instr.lookup 131 (.map (some gm)) (.agg #[.bool false, .bool true]) true).run Tryd.prog W3 = .ok (.tuple #[.int .i64 14, .bool true]) W3 := by simpa using hl false true
        have HT := hid (show takenP a b = 14 by unfold takenP; rw [if_neg (by simp [kb]), if_pos ⟨ka, kb⟩])
        clear hl ka kb
        go_wp2_with fail
        go_ret
        exact ⟨by rw [HT.out]; rfl, E3.out.back⟩
      · have k2 : (b.kind == 2) = false := by simpa using kb
        have hl1 : (Instr.lookup 131 (.map (some gm)) (.agg #[.bool false, .bool false]) true).run Tryd.prog W3 = .ok (.tuple #[.int .i64 0, .bool false]) W3 := by simpa using hl false false
        have HT := hid (show takenP a b = 0 by unfold takenP; rw [if_neg (by simp [ka]), if_neg (by simp [kb]), if_neg (by simp [kb])])
        clear hl ka kb
        go_wp2_with fail
        go_ret
        exact ⟨by rw [HT.out]; rfl, E3.out.back⟩
  · have hl := fun q r => pair_look2 (Go.ChangeMaps.setBlock (Go.ChangeMaps.setBlock (W2.alloc (.map #[] 0)).drew W2.heap.size pairN1) W2.heap.size pairN2) W2.heap.size q r (pair_at _ _ _ (by simp [Go.ChangeMaps.setBlock]))
    have E3 : Ext h w h2 (Go.ChangeMaps.setBlock (Go.ChangeMaps.setBlock (W2.alloc (.map #[] 0)).drew W2.heap.size pairN1) W2.heap.size pairN2) := ((E2.alloc (.map #[] 0)).drew.grown (grownBy_setBlock _ W2.heap.size pairN1 (heap_new W2 _)) (fun k hk => by cases hk; exact ⟨E2.size, E2.sits.none (Nat.le_refl _)⟩)).grown (grownBy_setBlock _ W2.heap.size pairN2 (show _ = some (Obj.map _ _) from pair_at _ _ pairN1 (by simp))) (fun k hk => by cases hk; exact ⟨E2.size, E2.sits.none (Nat.le_refl _)⟩)
    clear hmk ha1 hb_1 ha2 hb_2 ha3 hb_3 ha4 hb_4
    generalize W2.heap.size = gm at *
    with_reducible generalize Go.ChangeMaps.setBlock (Go.ChangeMaps.setBlock (W2.alloc (.map #[] 0)).drew gm pairN1) gm pairN2 = W3 at hl E3 ⊢
    have n1 : W3.cell? ⟨ga, 1, none⟩ = some (.int .i64 a.kind) := Sits_at E3.sits hb1 (by rw [List.getElem?_toArray]; exact RA.out)
    have n2 : W3.cell? ⟨gb, 1, none⟩ = some (.int .i64 b.kind) := Sits_at E3.sits hb2 (by rw [List.getElem?_toArray]; exact RB.out)
    have n5 : W3.cell? ⟨gb, 5, none⟩ = some (.slice A5 b.entries.length c5) := Sits_at E3.sits hb2 (by rw [List.getElem?_toArray]; exact RE.out)
    have E3 := hid E3
    clear hb1 hb2 E2
    by_cases ka : a.kind = 2
    · have k1 : (a.kind == 2) = true := by simpa using ka
      by_cases kb : b.kind = 2
      · have k2 : (b.kind == 2) = true := by simpa using kb
        have hl1 : (Instr.lookup 131 (.map (some gm)) (.agg #[.bool true, .bool true]) true).run Tryd.prog W3 = .ok (.tuple #[.int .i64 0, .bool false]) W3 := by simpa using hl true true
        by_cases he : 0 < b.entries.length
        · have HT := hid (show takenP a b = 15 by unfold takenP; rw [if_neg (by simp [kb]), if_neg (by simp [ka]), if_pos ⟨kb, he⟩])
          have he2 : (0 : Int) < (b.entries.length : Int) := by omega
          clear hl ka kb he
          go_wp2_with fail
          go_ret
          exact ⟨by rw [HT.out]; rfl, E3.out.back⟩
        · have HT := hid (show takenP a b = 0 by unfold takenP; rw [if_neg (by simp [kb]), if_neg (by simp [ka]), if_neg (by intro q; exact he q.2)])
          have he2 : ¬ ((0 : Int) < (b.entries.length : Int)) := by omega
          clear hl ka kb he
          go_wp2_with fail
          go_ret
          exact ⟨by rw [HT.out]; rfl, E3.out.back⟩
      · have k2 : (b.kind == 2) = false := by simpa using kb
        have hl1 : (Instr.lookup 131 (.map (some gm)) (.agg #[.bool true, .bool false]) true).run Tryd.prog W3 = .ok (.tuple #[.int .i64 13, .bool true]) W3 := by simpa using hl true false
        have HT := hid (show takenP a b = 13 by unfold takenP; rw [if_pos ⟨ka, kb⟩])
        clear hl ka kb
        go_wp2_with fail
        go_ret
        exact ⟨by rw [HT.out]; rfl, E3.out.back⟩
    · have k1 : (a.kind == 2) = false := by simpa using ka
      by_cases kb : b.kind = 2
      · have k2 : (b.kind == 2) = true := by simpa using kb
        have hl1 : (Instr.lookup 131 (.map (some gm)) (.agg #[.bool false, .bool true]) true).run Tryd.prog W3 = .ok (.tuple #[.int .i64 14, .bool true]) W3 := by simpa using hl false true
        have HT := hid (show takenP a b = 14 by unfold takenP; rw [if_neg (by simp [kb]), if_pos ⟨ka, kb⟩])
        clear hl ka kb
        go_wp2_with fail
        go_ret
        exact ⟨by rw [HT.out]; rfl, E3.out.back⟩
      · have k2 : (b.kind == 2) = false := by simpa using kb
        have hl1 : (Instr.lookup 131 (.map (some gm)) (.agg #[.bool false, .bool false]) true).run Tryd.prog W3 = .ok (.tuple #[.int .i64 0, .bool false]) W3 := by simpa using hl false false
        have HT := hid (show takenP a b = 0 by unfold takenP; rw [if_neg (by simp [ka]), if_neg (by simp [kb]), if_neg (by simp [kb])])
        clear hl ka kb
        go_wp2_with fail
        go_ret
        exact ⟨by rw [HT.out]; rfl, E3.out.back⟩

end Go.Proofs.YtdiaibkpcnknbaaDoor
