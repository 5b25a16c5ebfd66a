import Derived.Test.YtdiaibkpcnknbaaDoorRefEnt
import Derived.Test.YtdiaibkpcnknbaaDoorRunsAll
import Derived.Test.YtdiaibkpcnknbaaDoorInoAll
namespace Go.Proofs.YtdiaibkpcnknbaaDoor
open Go.RowKit Go.Sort
set_option linter.unusedVariables false
/-! ### adding an entry -/
def posE (xs : List Entry) (s : ByteArray) : Nat := (xs.takeWhile (fun x => leB x.name s)).length
def insE (xs : List Entry) (e : Entry) : List Entry := xs.take (posE xs e.name) ++ [e] ++ xs.drop (posE xs e.name)
def addC (xs : List Entry) (e : Entry) : Int := if nameB e.name = false then 17 else if e.no ≤ 0 then 1 else if (findE xs e.name).isSome = true then 12 else if 100 ≤ xs.length then 21 else 0
def addL (xs : List Entry) (e : Entry) : List Entry := if addC xs e = 0 then insE xs e else []
theorem posE_at {s : ByteArray} : ∀ {xs : List Entry} {k : Nat}, k ≤ xs.length → (∀ i y, i < k → xs[i]? = some y → leB y.name s = true) → (∀ y, xs[k]? = some y → leB y.name s = false) → posE xs s = k
  | [], k, hk, _, _ => by
    have : k = 0 := by simpa using hk
    subst this; rfl
  | x :: xs, 0, _, _, h => by
    have := h x rfl
    simp [posE, this]
  | x :: xs, k + 1, hk, h1, h2 => by
    have h0 := h1 0 x (by omega) rfl
    have ih := posE_at (s := s) (xs := xs) (k := k) (by simpa using hk) (fun i y hi hy => h1 (i + 1) y (by omega) (by simpa using hy)) (fun y hy => h2 y (by simpa using hy))
    unfold posE at ih ⊢
    rw [List.takeWhile_cons, h0]
    simp only [if_true, List.length_cons, ih]
def stayE (xs : List Entry) (k : Nat) (s : ByteArray) : Bool := match xs[k]? with
  | some y => leB y.name s
  | none => false
theorem newcells (w : World) (cs : List Value) (t : TypeId) : ∀ j u, cs[j]? = some u → (w.alloc (.cells cs.toArray t)).cell? ⟨w.heap.size, j, none⟩ = some u := fun j u hu => by
  rw [cell_of_row _ _ j cs.toArray t (0, 0) (heap_alloc_new w _)]; simpa using hu
theorem row_drop' {h : FH} {b off c : Nat} {xs : List Entry} (r : RowAt h (some ⟨b, off, none⟩) xs) (k : Nat) (hk : k ≤ xs.length) (hlc : xs.length ≤ c) : RowAt h (if c = k then some ⟨b, off, none⟩ else some ⟨b, off + k * 2, none⟩) (xs.drop k) := by
  by_cases e : c = k
  · rw [if_pos e, List.drop_of_length_le (by omega)]; exact RowAt.nil _ _
  · rw [if_neg e]; exact r.dropN k
theorem Reps.ent_any {h h' : FH} : ∀ {cells : List Value} {xs : List Entry}, Reps h cells xs → Reps h' cells xs
  | _, [], r => r
  | _, _ :: _, ⟨cs, rest, e, r, t⟩ => ⟨cs, rest, e, r, t.ent_any⟩
theorem OwnL.back_ent {h h2 : FH} {w : World} {base : Nat} {e : TypeId} {v : Value} {xs : List Entry} (o : OwnL h2 w base e v xs) (l : FLe h h2) : OwnL h w base e v xs := by
  obtain ⟨c, a, b⟩ := o.own
  refine ⟨⟨c, a, b.ent_any⟩, fun g hg => ?_⟩
  cases e : h g with
  | none => rfl
  | some x => have := l _ _ e; rw [o.free g hg] at this; cases this
end Go.Proofs.YtdiaibkpcnknbaaDoor
