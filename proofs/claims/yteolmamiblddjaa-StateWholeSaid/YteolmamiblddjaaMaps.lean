import Derived.Test.YteolmamiblddjaaData
import Derived.Laws.StructEq
import Derived.WideKeyEntry
namespace Go.Proofs.Yteolmamiblddjaa
open Go.RowKit Go.Sort
open Go.ChangeMaps (setBlock heap_setBlock_same heap_setBlock_other modify_eq_set)
open Go.WideElems (findIdx_arr findIdx_born modify_last set_self)
set_option linter.unusedVariables false

/-! ### maps, key by key -/
section
variable {κ : Type} [DecidableEq κ]
/-- The entries as they lie: the key, the value, the stamp. -/
def mkE (enc : κ → Value) (e : κ × Value × Nat) : MapEntry := ⟨enc e.1, e.2.1, e.2.2⟩
def lk : List (κ × Value × Nat) → κ → Option Value
  | [], _ => none
  | e :: es, a => if a = e.1 then some e.2.1 else lk es a
def ix : List (κ × Value × Nat) → κ → Nat → Option (Nat × Value)
  | [], _, _ => none
  | e :: es, a, i => if a = e.1 then some (i, e.2.1) else ix es a (i + 1)
/-- What is asked of a key's type. -/
structure KeyT (κ : Type) [DecidableEq κ] (P : Program) (k : TypeId) (enc : κ → Value) : Prop where
  check : ∀ w em a, (Instr.checkKey em 10000 k (enc a)).run P w = .ok () w
  find : ∀ w a (kv : List (κ × Value × Nat)), (Instr.findKey k (enc a) (kv.map (mkE enc))).run P w = .ok (ix kv a 0) w
  stays : ∀ w a, (Instr.keyThatStays (enc a) (enc a)).run P w = .ok (enc a) w
theorem ix_none : ∀ {kv : List (κ × Value × Nat)} {a : κ} {i : Nat}, ix kv a i = none → lk kv a = none ∧ ∀ e ∈ kv, e.1 ≠ a
  | [], _, _, _ => ⟨rfl, fun e he => by cases he⟩
  | e :: es, a, i, h => by
    unfold ix at h
    split at h
    · cases h
    · rename_i hne
      obtain ⟨h1, h2⟩ := ix_none h
      refine ⟨by simp only [lk, if_neg hne]; exact h1, fun x hx => ?_⟩
      rcases List.mem_cons.1 hx with rfl | hx
      · exact fun e => hne e.symm
      · exact h2 x hx
theorem ix_some : ∀ {kv : List (κ × Value × Nat)} {a : κ} {i j : Nat} {v : Value}, ix kv a i = some (j, v) → lk kv a = some v ∧ i ≤ j ∧ ∃ s, kv[j - i]? = some (a, v, s)
  | [], _, _, _, _, h => by cases h
  | e :: es, a, i, j, v, h => by
    unfold ix at h
    split at h
    · rename_i he
      cases h
      refine ⟨by simp only [lk, if_pos he], Nat.le_refl _, e.2.2, by simp [he]⟩
    · rename_i hne
      obtain ⟨h1, h2, s, h3⟩ := ix_some h
      refine ⟨by simp only [lk, if_neg hne]; exact h1, by omega, s, ?_⟩
      rw [show j - i = (j - (i + 1)) + 1 from by omega]
      simpa using h3
theorem lk_append_new : ∀ {kv : List (κ × Value × Nat)} {a : κ} {v : Value} {s : Nat} (x : κ), (∀ e ∈ kv, e.1 ≠ a) → lk (kv ++ [(a, v, s)]) x = if x = a then some v else lk kv x
  | [], a, v, s, x, _ => by simp [lk]
  | e :: es, a, v, s, x, h => by
    simp only [List.cons_append, lk]
    by_cases hx : x = e.1
    · rw [if_pos hx, if_pos hx, if_neg (fun e' => h e (by simp) (by rw [← hx, e']))]
    · rw [if_neg hx, if_neg hx, lk_append_new x (fun y hy => h y (by simp [hy]))]
theorem lk_set : ∀ {kv : List (κ × Value × Nat)} {a : κ} {v u : Value} {s s' j : Nat} (x : κ), kv[j]? = some (a, v, s) → (kv.map (·.1)).Nodup → lk (kv.set j (a, u, s')) x = if x = a then some u else lk kv x
  | [], _, _, _, _, _, _, _, h, _ => by simp at h
  | e :: es, a, v, u, s, s', 0, x, h, hn => by
    simp at h
    subst h
    simp only [List.set_cons_zero, lk]
    by_cases hx : x = a
    · rw [if_pos hx, if_pos hx]
    · rw [if_neg hx, if_neg hx, if_neg hx]
  | e :: es, a, v, u, s, s', j + 1, x, h, hn => by
    simp only [List.set_cons_succ, lk]
    simp only [List.map_cons, List.nodup_cons] at hn
    have hne : e.1 ≠ a := fun h' => hn.1 (by rw [h']; exact List.mem_map.2 ⟨(a, v, s), List.mem_of_getElem? (by simpa using h), rfl⟩)
    by_cases hx : x = e.1
    · rw [if_pos hx, if_pos hx, if_neg (by rw [hx]; exact hne)]
    · rw [if_neg hx, if_neg hx]
      exact lk_set x (by simpa using h) hn.2

variable {P : Program} {k : TypeId} {enc : κ → Value}
/-- Block b is a map that has just these values. -/
def MapIs (enc : κ → Value) (w : World) (b : Nat) (f : κ → Option Value) : Prop :=
  ∃ kv clock, w.heap[b]? = some (.map (kv.map (mkE enc)).toArray clock) ∧ (kv.map (·.1)).Nodup ∧ (kv.map (·.2.2)).Nodup ∧ (∀ e ∈ kv, e.2.2 < clock) ∧ ∀ a, lk kv a = f a
theorem MapIs.made (enc : κ → Value) (w : World) : MapIs enc (w.alloc (.map #[] 0)) w.heap.size (fun _ => none) :=
  ⟨[], 0, (MapKept.heap_alloc w _).1, by simp, by simp, by simp, fun _ => rfl⟩
theorem MapIs.lt {w : World} {b : Nat} {f : κ → Option Value} (m : MapIs enc w b f) : b < w.heap.size := by
  obtain ⟨kv, clock, hb, _⟩ := m
  exact (Array.getElem?_eq_some_iff.1 hb).1
theorem MapIs.congr {w : World} {b : Nat} {f g : κ → Option Value} (m : MapIs enc w b f) (h : ∀ a, f a = g a) : MapIs enc w b g := by
  obtain ⟨kv, clock, hb, h1, h2, h3, h4⟩ := m
  exact ⟨kv, clock, hb, h1, h2, h3, fun a => (h4 a).trans (h a)⟩
theorem MapIs.of_block {w w' : World} {b : Nat} {f : κ → Option Value} (m : MapIs enc w b f) (e : w'.heap[b]? = w.heap[b]?) : MapIs enc w' b f := by
  obtain ⟨kv, clock, hb, h⟩ := m
  exact ⟨kv, clock, e.trans hb, h⟩
theorem MapIs.alloc {w : World} {b : Nat} {f : κ → Option Value} (m : MapIs enc w b f) (o : Obj) : MapIs enc (w.alloc o) b f := m.of_block (Below.heap_alloc _ _ _ m.lt)
theorem MapIs.drew {w : World} {b : Nat} {f : κ → Option Value} (m : MapIs enc w b f) : MapIs enc w.drew b f := m.of_block rfl
theorem MapIs.ext {h h1 : FH} {w w1 : World} {b : Nat} {f : κ → Option Value} (m : MapIs enc w b f) (a : Ext h w h1 w1) : MapIs enc w1 b f := m.of_block (a.below.block b m.lt)
theorem MapIs.setCell {w : World} {b : Nat} {f : κ → Option Value} (m : MapIs enc w b f) {p : Addr} (hp : b ≠ p.block) (v : Value) : MapIs enc (w.setCell p v) b f := m.of_block (Below.heap_setCell _ _ _ _ hp)

/-- A map that stays as it is. -/
def FMap (enc : κ → Value) (h : FH) (b : Nat) (f : κ → Option Value) : Prop := ∀ w, Sits h w → MapIs enc w b f
theorem FMap.mono {h h' : FH} {b : Nat} {f : κ → Option Value} (hl : FLe h h') (m : FMap enc h b f) : FMap enc h' b f := fun w hs => m w fun x o hx => hs x o (hl x o hx)
/-- From now on it stays as it is. -/
theorem MapIs.freeze {h0 h : FH} {w0 w : World} {b : Nat} {f : κ → Option Value} (m : MapIs enc w b f) (E : Ext h0 w0 h w) (hn : h b = none) (hb : w0.heap.size ≤ b) : ∃ h', Ext h0 w0 h' w ∧ FLe h h' ∧ FMap enc h' b f ∧ ∀ x, x ≠ b → h' x = h x := by
  have hlt := m.lt
  obtain ⟨o, ho⟩ : ∃ o, w.heap[b]? = some o := ⟨w.heap[b], Array.getElem?_eq_getElem hlt⟩
  exact ⟨h.add b o, E.add ho hn hb, FLe.add hn o, fun w' hs => m.of_block ((hs b o (FH.add_same h b o)).trans ho.symm), fun x hx => FH.add_other h o hx⟩

theorem MapIs.look {w : World} {b : Nat} {f : κ → Option Value} {t e : TypeId} (m : MapIs enc w b f) (K : KeyT κ P k enc) (ht : P.underlying t = some (.map k e)) {z : Value} (hz : ∀ w, (zeroValue e).run P w = .ok z w) (a : κ) :
    (Instr.lookup t (.map (some b)) (enc a) false).run P w = .ok ((f a).getD z) w := by
  obtain ⟨kv, clock, hb, h1, h2, h3, h4⟩ := m
  rw [← h4 a]
  cases hi : ix kv a 0 with
  | none =>
    obtain ⟨e1, _⟩ := ix_none hi
    simp [Instr.lookup, run_underlying ht, MapKept.run_getObj_map hb, K.check, K.find, hi, e1, hz, Result.andThen]
  | some jv =>
    obtain ⟨e1, _⟩ := ix_some hi
    simp [Instr.lookup, run_underlying ht, MapKept.run_getObj_map hb, K.check, K.find, hi, e1, Result.andThen]
theorem MapIs.lookOk {w : World} {b : Nat} {f : κ → Option Value} {t e : TypeId} (m : MapIs enc w b f) (K : KeyT κ P k enc) (ht : P.underlying t = some (.map k e)) {z : Value} (hz : ∀ w, (zeroValue e).run P w = .ok z w) (a : κ) :
    (Instr.lookup t (.map (some b)) (enc a) true).run P w = .ok (.tuple #[(f a).getD z, .bool (f a).isSome]) w := by
  obtain ⟨kv, clock, hb, h1, h2, h3, h4⟩ := m
  rw [← h4 a]
  cases hi : ix kv a 0 with
  | none =>
    obtain ⟨e1, _⟩ := ix_none hi
    simp [Instr.lookup, run_underlying ht, MapKept.run_getObj_map hb, K.check, K.find, hi, e1, hz, Result.andThen]
  | some jv =>
    obtain ⟨e1, _⟩ := ix_some hi
    simp [Instr.lookup, run_underlying ht, MapKept.run_getObj_map hb, K.check, K.find, hi, e1, Result.andThen]
theorem grownBy_setBlock (w : World) (b : Nat) {es : Array MapEntry} {c : Nat} (o' : Obj) (hb : w.heap[b]? = some (.map es c)) : w.grownBy (setBlock w b o') (some b) :=
  ⟨rfl, rfl, rfl, by simp [setBlock], fun i _ hi => heap_setBlock_other hb _ (fun e => hi (by rw [e]))⟩
/-- m[a] = v. -/
theorem MapIs.update {w : World} {b : Nat} {f : κ → Option Value} {t e : TypeId} (m : MapIs enc w b f) (K : KeyT κ P k enc) (ht : P.underlying t = some (.map k e)) (a : κ) (v : Value) :
    ∃ w', (Instr.mapUpdate t (.map (some b)) (enc a) v).run P w = .ok () w' ∧ MapIs enc w' b (fun x => if x = a then some v else f x) ∧ w.grownBy w' (some b) := by
  obtain ⟨kv, clock, hb, h1, h2, h3, h4⟩ := m
  cases hi : ix kv a 0 with
  | none =>
    obtain ⟨e1, e2⟩ := ix_none hi
    refine ⟨setBlock w b (.map ((kv.map (mkE enc)).toArray.push ⟨enc a, v, clock⟩) (clock + 1)), ?_, ⟨kv ++ [(a, v, clock)], clock + 1, ?_, ?_, ?_, ?_, fun x => ?_⟩, grownBy_setBlock w b _ hb⟩
    · simp [Instr.mapUpdate, run_underlying ht, MapKept.run_getObj_map hb, K.check, K.find, hi, MapKept.run_setObj_map _ hb, Result.andThen, setBlock]
    · rw [heap_setBlock_same hb]; simp [mkE]
    · simp only [List.map_append, List.map_cons, List.map_nil]
      exact List.nodup_append.2 ⟨h1, by simp, fun x hx y hy => by
        simp at hy; subst hy
        obtain ⟨z, hz, rfl⟩ := List.mem_map.1 hx
        exact e2 z hz⟩
    · simp only [List.map_append, List.map_cons, List.map_nil]
      exact List.nodup_append.2 ⟨h2, by simp, fun x hx y hy => by
        simp at hy; subst hy
        obtain ⟨z, hz, rfl⟩ := List.mem_map.1 hx
        have := h3 z hz
        omega⟩
    · intro x hx
      rcases List.mem_append.1 hx with hx | hx
      · have := h3 x hx; omega
      · simp at hx; subst hx; simp
    · rw [lk_append_new x e2, h4]
  | some jv =>
    obtain ⟨j, v0⟩ := jv
    obtain ⟨e1, _, s, e3⟩ := ix_some hi
    simp only [Nat.sub_zero] at e3
    have hj : (kv.map (mkE enc))[j]? = some ⟨enc a, v0, s⟩ := by rw [List.getElem?_map, e3]; rfl
    refine ⟨setBlock w b (.map ((kv.map (mkE enc)).toArray.modify j fun e => { e with key := enc a, val := v }) clock), ?_, ⟨kv.set j (a, v, s), clock, ?_, ?_, ?_, ?_, fun x => ?_⟩, grownBy_setBlock w b _ hb⟩
    · simp [Instr.mapUpdate, run_underlying ht, MapKept.run_getObj_map hb, K.check, K.find, hi, e3, mkE, K.stays, MapKept.run_setObj_map _ hb, Result.andThen, setBlock]
    · rw [heap_setBlock_same hb]
      congr 1
      congr 1
      apply Array.ext'
      rw [Array.toList_modify, modify_eq_set _ _ _ _ hj, List.map_set]
      rfl
    · rw [List.map_set, set_self _ _ _ (by rw [List.getElem?_map, e3]; rfl)]; exact h1
    · rw [List.map_set, set_self _ _ _ (by rw [List.getElem?_map, e3]; rfl)]; exact h2
    · intro x hx
      rcases List.mem_or_eq_of_mem_set hx with hx | rfl
      · exact h3 x hx
      · exact h3 (a, v0, s) (List.mem_of_getElem? e3)
    · rw [lk_set x e3 h1, h4]
/-- m[a] op= ..: the entry is there, then it is written. -/
theorem MapIs.entry {w : World} {b : Nat} {f : κ → Option Value} {t e : TypeId} (m : MapIs enc w b f) (K : KeyT κ P k enc) (ht : P.underlying t = some (.map k e)) {z : Value} (hz : ∀ w, (zeroValue e).run P w = .ok z w) (a : κ) :
    ∃ (st : Nat) (w1 : World), (Instr.mapEntry t (.map (some b)) (enc a)).run P w = .ok (.tuple #[(f a).getD z, .int .i64 st]) w1 ∧ MapIs enc w1 b (fun x => if x = a then some ((f a).getD z) else f x) ∧ w.grownBy w1 (some b) ∧
      ∀ v, ∃ w2, (Instr.entryStore t (.map (some b)) (.int .i64 st) v).run P w1 = .ok () w2 ∧ MapIs enc w2 b (fun x => if x = a then some v else f x) ∧ w.grownBy w2 (some b) := by
  obtain ⟨kv, clock, hb, h1, h2, h3, h4⟩ := m
  cases hi : ix kv a 0 with
  | none =>
    obtain ⟨e1, e2⟩ := ix_none hi
    have e1' : f a = none := by rw [← h4 a]; exact e1
    have nd1 : ∀ v : Value, ((kv ++ [(a, v, clock)]).map (·.1)).Nodup := fun v => by
      simp only [List.map_append, List.map_cons, List.map_nil]
      exact List.nodup_append.2 ⟨h1, by simp, fun x hx y hy => by
        simp at hy; subst hy
        obtain ⟨z, hz, rfl⟩ := List.mem_map.1 hx
        exact e2 z hz⟩
    have nd2 : ∀ v : Value, ((kv ++ [(a, v, clock)]).map (·.2.2)).Nodup := fun v => by
      simp only [List.map_append, List.map_cons, List.map_nil]
      exact List.nodup_append.2 ⟨h2, by simp, fun x hx y hy => by
        simp at hy; subst hy
        obtain ⟨z, hz, rfl⟩ := List.mem_map.1 hx
        have := h3 z hz
        omega⟩
    have lt : ∀ v : Value, ∀ x ∈ kv ++ [(a, v, clock)], x.2.2 < clock + 1 := fun v x hx => by
      rcases List.mem_append.1 hx with hx | hx
      · have := h3 x hx; omega
      · simp at hx; subst hx; simp
    have hb1 : (setBlock w b (.map ((kv.map (mkE enc)).toArray.push ⟨enc a, z, clock⟩) (clock + 1))).heap[b]? = some (.map ((kv ++ [(a, z, clock)]).map (mkE enc)).toArray (clock + 1)) := by
      rw [heap_setBlock_same hb]; simp [mkE]
    refine ⟨clock, setBlock w b (.map ((kv.map (mkE enc)).toArray.push ⟨enc a, z, clock⟩) (clock + 1)), ?_, ⟨kv ++ [(a, z, clock)], clock + 1, hb1, nd1 z, nd2 z, lt z, fun x => ?_⟩, grownBy_setBlock w b _ hb, fun v => ?_⟩
    · simp [Instr.mapEntry, run_underlying ht, MapKept.run_getObj_map hb, K.check, K.find, hi, hz, e1', MapKept.run_setObj_map _ hb, Result.andThen, setBlock, goInt]
    · rw [lk_append_new x e2, h4, e1']; rfl
    · have hidx : ((kv ++ [(a, z, clock)]).map (mkE enc)).toArray.findIdx? (fun e => ((e.born : Nat) : Int) == ((clock : Nat) : Int)) = some kv.length := by
        rw [findIdx_arr]
        exact findIdx_born (l := (kv ++ [(a, z, clock)]).map (mkE enc)) (j := kv.length) (e0 := ⟨enc a, z, clock⟩) (by rw [List.map_map]; exact nd2 z) (by simp [mkE])
      refine ⟨setBlock (setBlock w b (.map ((kv.map (mkE enc)).toArray.push ⟨enc a, z, clock⟩) (clock + 1))) b (.map (((kv ++ [(a, z, clock)]).map (mkE enc)).toArray.modify kv.length (fun e => { e with val := v })) (clock + 1)), ?_, ⟨kv ++ [(a, v, clock)], clock + 1, ?_, nd1 v, nd2 v, lt v, fun x => by rw [lk_append_new x e2, h4]⟩, World.grownBy.trans (grownBy_setBlock w b _ hb) (grownBy_setBlock _ b _ hb1)⟩
      · unfold Instr.entryStore
        simp only [Sem.run_bind, MapKept.run_getObj_map hb1, Result.andThen_ok, asInt, asIntOf, Sem.run_pure, hidx]
        rw [MapKept.run_setObj_map _ hb1]
        rfl
      · rw [heap_setBlock_same hb1]
        congr 1
        congr 1
        apply Array.ext'
        rw [Array.toList_modify]
        simp only [List.map_append, List.map_cons, List.map_nil]
        have := modify_last (fun e : MapEntry => { e with val := v }) (mkE enc (a, z, clock)) (kv.map (mkE enc))
        rw [List.length_map] at this
        rw [this]
        rfl
  | some jv =>
    obtain ⟨j, v0⟩ := jv
    obtain ⟨e1, _, s, e3⟩ := ix_some hi
    simp only [Nat.sub_zero] at e3
    have e1' : f a = some v0 := by rw [← h4 a]; exact e1
    have hj : (kv.map (mkE enc))[j]? = some ⟨enc a, v0, s⟩ := by rw [List.getElem?_map, e3]; rfl
    have hsame : (kv.map (mkE enc)).toArray.modify j (fun e => { e with key := enc a }) = (kv.map (mkE enc)).toArray := by
      apply Array.ext'
      rw [Array.toList_modify, modify_eq_set _ _ _ _ hj]
      exact set_self _ _ _ hj
    have hb1 : (setBlock w b (.map (kv.map (mkE enc)).toArray clock)).heap[b]? = some (.map (kv.map (mkE enc)).toArray clock) := heap_setBlock_same hb _
    refine ⟨s, setBlock w b (.map (kv.map (mkE enc)).toArray clock), ?_, ⟨kv, clock, hb1, h1, h2, h3, fun x => ?_⟩, grownBy_setBlock w b _ hb, fun v => ?_⟩
    · have hj' : (kv.map (mkE enc)).toArray[j]? = some ⟨enc a, v0, s⟩ := by simpa using hj
      unfold Instr.mapEntry
      simp only [Sem.run_bind, run_underlying ht, MapKept.run_getObj_map hb, K.check, K.find, hi, Result.andThen_ok, hj', Option.map_some, Option.getD_some, K.stays, hsame]
      rw [MapKept.run_setObj_map _ hb, e1']
      rfl
    · rw [h4]
      by_cases hx : x = a
      · subst hx; simp [e1']
      · simp only [if_neg hx]
    · have hidx : (kv.map (mkE enc)).toArray.findIdx? (fun e => ((e.born : Nat) : Int) == ((s : Nat) : Int)) = some j := by
        rw [findIdx_arr]
        exact findIdx_born (l := kv.map (mkE enc)) (j := j) (e0 := ⟨enc a, v0, s⟩) (by rw [List.map_map]; exact h2) hj
      refine ⟨setBlock (setBlock w b (.map (kv.map (mkE enc)).toArray clock)) b (.map ((kv.map (mkE enc)).toArray.modify j (fun e => { e with val := v })) clock), ?_, ⟨kv.set j (a, v, s), clock, ?_, ?_, ?_, ?_, fun x => ?_⟩, World.grownBy.trans (grownBy_setBlock w b _ hb) (grownBy_setBlock _ b _ hb1)⟩
      · unfold Instr.entryStore
        simp only [Sem.run_bind, MapKept.run_getObj_map hb1, Result.andThen_ok, asInt, asIntOf, Sem.run_pure, hidx]
        rw [MapKept.run_setObj_map _ hb1]
        rfl
      · rw [heap_setBlock_same hb1]
        congr 1
        congr 1
        apply Array.ext'
        rw [Array.toList_modify, modify_eq_set _ _ _ _ hj, List.map_set]
        rfl
      · rw [List.map_set, set_self _ _ _ (by rw [List.getElem?_map, e3]; rfl)]; exact h1
      · rw [List.map_set, set_self _ _ _ (by rw [List.getElem?_map, e3]; rfl)]; exact h2
      · intro x hx
        rcases List.mem_or_eq_of_mem_set hx with hx | rfl
        · exact h3 x hx
        · exact h3 (a, v0, s) (List.mem_of_getElem? e3)
      · rw [lk_set x e3 h1, h4]
end
end Go.Proofs.Yteolmamiblddjaa
