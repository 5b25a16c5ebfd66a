import Derived.Test.YteolmamiblddjaaStCp
import Derived.SizedLaws
namespace Go.Proofs.Yteolmamiblddjaa
open Go.RowKit Go.Sort Go.DataW
set_option linter.unusedVariables false
/-! ### how much what came in takes -/
def Bnd {H : Type} (P : Program) (t : TypeId) (d : DataW H) : Prop := ∀ n ∈ d.weights P t, n ≤ reachBytes
theorem weightsAll_mem {H : Type} {P : Program} {e : TypeId} : ∀ {ds : List (DataW H)} {i : Nat} {d : DataW H}, ds[i]? = some d → ∀ n ∈ d.weights P e, n ∈ DataW.weightsAll P e ds
  | [], _, _, h, _, _ => by simp at h
  | x :: xs, 0, d, h, n, hn => by
    simp at h; subst h
    simp only [DataW.weightsAll, List.mem_append]; exact .inl hn
  | x :: xs, i + 1, d, h, n, hn => by
    simp only [DataW.weightsAll, List.mem_append]
    exact .inr (weightsAll_mem (by simpa using h) n hn)
theorem bnd_slice {P : Program} {t e : TypeId} (ht : P.underlying t = some (.slice e)) {H : Type} {enc : TypeId × Value → H} {W : World} {sp : Nat → Bool} {held : Bool} {fuel : Nat} {A : Option Addr} {n c : Nat} {d : DataW H} {ps : List MemPlace}
    (h : DataW.trod enc P W 0 sp held fuel t [.slice A n c] = some (d, ps)) (B : Bnd P t d) :
    n * P.bytesOf e ≤ reachBytes ∧ ∀ i, i < n → ∃ a fuel' cs d' ps', A = some a ∧ W.cells? 0 (a.add (i * P.cellsOf e)) (P.cellsOf e) = some cs ∧ DataW.trod enc P W 0 sp held fuel' e cs = some (d', ps') ∧ Bnd P e d' := by
  cases fuel with
  | zero => simp [DataW.trod] at h
  | succ fuel =>
    unfold DataW.trod at h
    rw [ht] at h
    split at h
    all_goals (try (simp_all; done))
    rename_i e' a len cap heq heq2
    simp only [Option.some.injEq, TypeDesc.slice.injEq] at heq
    subst heq
    split at h
    case isFalse => cases h
    simp only [List.cons.injEq, Value.slice.injEq, and_true] at heq2
    obtain ⟨rfl, rfl, rfl⟩ := heq2
    obtain ⟨elems, h1, h2⟩ := Option.bind_eq_some_iff.1 h
    obtain ⟨rest, h3, h4⟩ := Option.map_eq_some_iff.1 h2
    simp only [Prod.mk.injEq] at h4
    obtain ⟨rfl, _⟩ := h4
    obtain ⟨el, eg⟩ := mapM_get h1
    have elen : elems.length = n := by simpa using el
    have hw : ∀ m, m = ((elems.map (·.1)).length + (rest.map (·.1)).length) * P.bytesOf e ∨ m ∈ DataW.weightsAll P e (elems.map (·.1)) → m ≤ reachBytes := fun m hm => by
      refine B m ?_
      simp only [DataW.weights, ht, List.mem_cons, List.mem_append]
      rcases hm with hm | hm
      · exact .inl hm
      · exact .inr (.inl hm)
    refine ⟨?_, fun i hi => ?_⟩
    · have := hw _ (.inl rfl)
      simp only [List.length_map, elen] at this
      exact Nat.le_trans (Nat.mul_le_mul_right _ (Nat.le_add_right _ _)) this
    · obtain ⟨y, hy, hy2⟩ := eg i i (by simp [hi])
      obtain ⟨cs, hc1, hc2⟩ := Option.bind_eq_some_iff.1 hy
      exact ⟨a, fuel, cs, y.1, y.2, rfl, hc1, hc2, fun m hm => hw m (.inr (weightsAll_mem (i := i) (d := y.1) (by rw [List.getElem?_map, hy2]; rfl) m hm))⟩
theorem bnd_struct {P : Program} {t : TypeId} {fs : Array Field} (ht : P.underlying t = some (.struct fs)) {H : Type} {enc : TypeId × Value → H} {W : World} {sp : Nat → Bool} {held : Bool} {fuel : Nat} {cs : List Value} {d : DataW H} {ps : List MemPlace}
    (h : DataW.trod enc P W 0 sp held fuel t cs = some (d, ps)) (B : Bnd P t d) {i : Nat} {f : Field} (hf : fs.toList[i]? = some f) :
    ∃ fuel' d' ps', DataW.trod enc P W 0 sp held fuel' f.type ((cs.drop f.offset).take (P.cellsOf f.type)) = some (d', ps') ∧ Bnd P f.type d' := by
  cases fuel with
  | zero => simp [DataW.trod] at h
  | succ fuel =>
    unfold DataW.trod at h
    rw [ht] at h
    split at h
    all_goals (try (simp_all; done))
    rename_i fs' heq
    simp only [Option.some.injEq, TypeDesc.struct.injEq] at heq
    subst heq
    split at h
    case isFalse => cases h
    obtain ⟨xs, h1, h2⟩ := Option.map_eq_some_iff.1 h
    simp only [Prod.mk.injEq] at h2
    obtain ⟨rfl, _⟩ := h2
    obtain ⟨_, g⟩ := mapM_get h1
    obtain ⟨y, hy, hy2⟩ := g i f hf
    refine ⟨fuel, y.1, y.2, hy, fun m hm => B m ?_⟩
    simp only [DataW.weights, ht]
    exact DataW.weights_mem_each (j := i) (by rw [List.getElem?_map, hf]; rfl) (by rw [List.getElem?_map, hy2]; rfl) m hm
set_option maxRecDepth 100000 in
theorem bnd_deed {H : Type} {enc : TypeId × Value → H} {W : World} {sp : Nat → Bool} {held : Bool} {fuel : Nat} {k0 k1 k2 k3 k4 k5 k6 : Value} {A7 A8 : Option Addr} {n7 n8 c7 c8 : Nat} {d : DataW H} {ps : List MemPlace}
    (h : DataW.trod enc Try.prog W 0 sp held fuel 39 [k0, k1, k2, k3, k4, k5, k6, .slice A7 n7 c7, .slice A8 n8 c8] = some (d, ps)) (B : Bnd Try.prog 39 d) : n7 * 24 ≤ 140737488355328 ∧ n8 * 24 ≤ 140737488355328 := by
  obtain ⟨f1, d1, p1, h1, B1⟩ := bnd_struct Try.underlying39 h B (i := 2) rfl
  obtain ⟨f2, d2, p2, h2, B2⟩ := bnd_struct Try.underlying37 h1 B1 (i := 5) rfl
  obtain ⟨f3, d3, p3, h3, B3⟩ := bnd_struct Try.underlying37 h1 B1 (i := 6) rfl
  have e1 := (bnd_slice (A := A7) (n := n7) (c := c7) Try.underlying34 h2 B2).1
  have e2 := (bnd_slice (A := A8) (n := n8) (c := c8) Try.underlying35 h3 B3).1
  rw [show Try.prog.bytesOf 44 = 24 from by kernel_rfl] at e1
  rw [show Try.prog.bytesOf 46 = 24 from by kernel_rfl] at e2
  unfold reachBytes at e1 e2
  omega
set_option maxRecDepth 100000 in
theorem deeds_fit {H : Type} {enc : TypeId × Value → H} {W : World} {sp : Nat → Bool} {held : Bool} {fuel : Nat} {A : Option Addr} {c : Nat} {d : DataW H} {ps : List MemPlace} {xs : List Deed}
    (h : DataW.trod enc Try.prog W 0 sp held fuel 40 [.slice A xs.length c] = some (d, ps)) (B : Bnd Try.prog 40 d) (r : RowAt (fhOf W) A xs) : ∀ x ∈ xs, fitI x.inode := fun x hx => by
  obtain ⟨i, hi, rfl⟩ := List.mem_iff_getElem.1 hx
  obtain ⟨a, f', cs, d', ps', ha, hcs, htr, B'⟩ := (bnd_slice Try.underlying40 h B).2 i hi
  obtain ⟨b, off, A7, c7, A8, c8, ha2, e0, e1, e2, e3, e4, e5, e6, e7, e8, _⟩ := r.deed (List.getElem?_eq_getElem hi) (Sits.all W)
  rw [ha] at ha2
  cases ha2
  rw [show Try.prog.cellsOf 39 = 9 from by kernel_rfl] at hcs
  obtain ⟨hl, hg⟩ := cells_get hcs
  obtain ⟨k0, k1, k2, k3, k4, k5, k6, k7, k8, rfl⟩ := list_9 cs hl
  have ea : ∀ j, ((⟨b, off, none⟩ : Addr).add (i * 9)).add j = ⟨b, off + i * 9 + j, none⟩ := fun j => by
    unfold Addr.add; repeat' split
    all_goals simp_all
  have g7 := hg 7 k7 rfl
  have g8 := hg 8 k8 rfl
  rw [ea] at g7 g8
  rw [e7] at g7
  rw [e8] at g8
  cases g7
  cases g8
  exact bnd_deed htr B'
end Go.Proofs.Yteolmamiblddjaa
