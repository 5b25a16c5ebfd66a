import Derived.WalkKit
import Derived.Maps.AppendAt
import Derived.Maps.Own
import Derived.OwnWalk
import Derived.WalkSpells
import Derived.WalkLawsBesides
import Derived.Deep.RegionHeld3
import Derived.Deep.LoopGhost
import Derived.Deep.DeepCutAuto
import Derived.Deep.QuietTactic
import Derived.BigQuiet
import Derived.Lib.QuietBelow
import Derived.KernelRfl
import Derived.Test.YtkglaofiencfdaaChecked
import Derived.Laws.StructEq
import Derived.WideKeyEntry
import Derived.Deep.MidRow
namespace Go.Proofs.Ytkglaofiencfdaa
open Go.RowKit Go.Sort

theorem hid {p : Prop} (h : p) : Hid p := h

theorem ret_int {k : IntKind} {a b : Int} (h : a = b) : Ending.returned (.int k a) = .returned (.int k b) := by rw [h]
theorem ret_bool {a b : Bool} (h : a = b) : Ending.returned (.bool a) = .returned (.bool b) := by rw [h]
theorem ret_ib {k : IntKind} {a b : Int} {c d : Bool} (h : a = b) (h' : c = d) : Ending.returned (.tuple #[.int k a, .bool c]) = .returned (.tuple #[.int k b, .bool d]) := by rw [h, h']

/-- A part of the heap that stays as it is. -/
abbrev FH := Nat → Option Obj
def Sits (h : FH) (w : World) : Prop := ∀ b o, h b = some o → w.heap[b]? = some o
def FLe (h h' : FH) : Prop := ∀ b o, h b = some o → h' b = some o
theorem FLe.refl (h : FH) : FLe h h := fun _ _ x => x
theorem FLe.trans {a b c : FH} (h : FLe a b) (k : FLe b c) : FLe a c := fun x o y => k x o (h x o y)
def FH.cell (h : FH) (a : Addr) : Option Value :=
  match h a.block with
  | some (.cells c _ _) => if a.spot.isSome then none else c[a.off]?
  | _ => none
theorem Sits.cell {h : FH} {w : World} (hs : Sits h w) {a : Addr} {v : Value} (hc : h.cell a = some v) : w.cell? a = some v := by
  unfold FH.cell at hc
  unfold World.cell?
  cases e : h a.block with
  | none => rw [e] at hc; cases hc
  | some o => rw [e] at hc; rw [hs _ _ e]; exact hc
theorem FLe.cell {h h' : FH} (hl : FLe h h') {a : Addr} {v : Value} (hc : h.cell a = some v) : h'.cell a = some v := by
  unfold FH.cell at hc ⊢
  cases e : h a.block with
  | none => rw [e] at hc; cases hc
  | some o => rw [e] at hc; rw [hl _ _ e]; exact hc
theorem Sits.lt {h : FH} {w : World} (hs : Sits h w) {b : Nat} (hb : h b ≠ none) : b < w.heap.size := by
  cases e : h b with
  | none => exact absurd e hb
  | some o => exact (Array.getElem?_eq_some_iff.1 (hs _ _ e)).1

/-- What a call may have done: what stays, stays; it may be more. -/
structure Ext (h : FH) (w : World) (h' : FH) (w' : World) : Prop where
  le : FLe h h'
  sits : Sits h' w'
  below : Below w.heap.size w w'
  fresh : ∀ b, h' b ≠ none → h b ≠ none ∨ w.heap.size ≤ b
theorem Ext.refl {h : FH} {w : World} (hs : Sits h w) : Ext h w h w := ⟨FLe.refl h, hs, Below.refl _ _, fun _ hb => .inl hb⟩
theorem Ext.size {h h' : FH} {w w' : World} (e : Ext h w h' w') : w.heap.size ≤ w'.heap.size := e.below.size
theorem Ext.trans {h h1 h2 : FH} {w w1 w2 : World} (a : Ext h w h1 w1) (b : Ext h1 w1 h2 w2) : Ext h w h2 w2 :=
  ⟨a.le.trans b.le, b.sits, a.below.trans (b.below.mono a.size), fun k hk => by
    rcases b.fresh k hk with h3 | h3
    · exact a.fresh k h3
    · exact .inr (Nat.le_trans a.size h3)⟩
theorem Sits.alloc {h : FH} {w : World} (hs : Sits h w) (o : Obj) : Sits h (w.alloc o) := fun b x hb => by
  rw [Below.heap_alloc _ _ _ (hs.lt (by rw [hb]; simp))]; exact hs b x hb
theorem Ext.alloc {h h1 : FH} {w w1 : World} (a : Ext h w h1 w1) (o : Obj) : Ext h w h1 (w1.alloc o) :=
  ⟨a.le, a.sits.alloc o, a.below.alloc a.size o, a.fresh⟩
theorem Ext.drew {h h1 : FH} {w w1 : World} (a : Ext h w h1 w1) : Ext h w h1 w1.drew := ⟨a.le, a.sits, a.below.drew, a.fresh⟩
theorem Ext.drewN {h h1 : FH} {w w1 : World} (a : Ext h w h1 w1) (n : Nat) : Ext h w h1 (w1.drewN n) :=
  ⟨a.le, a.sits, ⟨a.below.os, a.below.tape, a.below.output, a.below.size, a.below.block⟩, a.fresh⟩
theorem Ext.setCell {h h1 : FH} {w w1 : World} (a : Ext h w h1 w1) {p : Addr} (hp : w.heap.size ≤ p.block) (hn : h1 p.block = none) (v : Value) : Ext h w h1 (w1.setCell p v) :=
  ⟨a.le, fun b o hb => by
    by_cases e : b = p.block
    · subst e; rw [hn] at hb; cases hb
    · rw [Below.heap_setCell _ _ _ _ e]; exact a.sits b o hb, a.below.setCell hp v, a.fresh⟩
theorem Ext.grown {h h1 : FH} {w w1 w2 : World} (a : Ext h w h1 w1) {row : Option Nat} (hg : w1.grownBy w2 row) (hr : ∀ k, row = some k → w.heap.size ≤ k ∧ h1 k = none) : Ext h w h1 w2 :=
  ⟨a.le, fun b o hb => by
    rw [hg.block b (a.sits.lt (by rw [hb]; simp)) (fun e => by have := (hr b e.symm).2; rw [hb] at this; cases this)]
    exact a.sits b o hb, a.below.grown hg a.size (fun k hk => (hr k hk).1), a.fresh⟩

theorem Ext.keep {h h1 : FH} {w w1 : World} (a : Ext h w h1 w1) {p : Addr} {v : Value} (hc : w.cell? p = some v) : w1.cell? p = some v :=
  (a.below.cell (World.block_lt_of_cell? w p hc)).trans hc

theorem Ext.of_below {h : FH} {w w1 : World} (hs : Sits h w) (b : Below w.heap.size w w1) : Ext h w h w1 :=
  ⟨FLe.refl h, fun k o hk => by rw [b.block k (hs.lt (by rw [hk]; simp))]; exact hs k o hk, b, fun _ x => .inl x⟩
theorem Ext.quiet {h : FH} {w : World} (hs : Sits h w) (d : Nat) (os : Array Obj) : Ext h w h (grow (redrawn w d) os) := Ext.of_below hs (below_regrown w d os)
theorem quietCall {P : Program} {f : FuncId} {args : Array Value} {w : World} {d : Nat} {os : Array Obj} {v : Value} {h h1 : FH}
    (hc : Calls P f args (grow (redrawn w d) os) fun e w' => e = .returned v ∧ Ext h (grow (redrawn w d) os) h1 w') : Calls P f args (grow (redrawn w d) os) fun e w'' => e = .returned v ∧ ∃ p : Regrown, w'' = grow (redrawn w p.d) p.os :=
  Calls.regrown_of (hc.mono fun _ _ ⟨a, b⟩ => ⟨a, b.below⟩)

/-- One block more that stays as it is. -/
def FH.add (h : FH) (g : Nat) (o : Obj) : FH := fun b => if b = g then some o else h b
theorem Sits.none {h : FH} {w : World} (hs : Sits h w) {g : Nat} (hg : w.heap.size ≤ g) : h g = none := by
  cases e : h g with
  | none => rfl
  | some o => exact absurd (hs.lt (b := g) (by rw [e]; simp)) (by omega)
theorem FLe.add {h : FH} {g : Nat} (hn : h g = none) (o : Obj) : FLe h (h.add g o) := fun b x hx => by
  unfold FH.add
  by_cases e : b = g
  · subst e; rw [hn] at hx; cases hx
  · rw [if_neg e]; exact hx
theorem Sits.add {h : FH} {w : World} (hs : Sits h w) {g : Nat} {o : Obj} (hg : w.heap[g]? = some o) : Sits (h.add g o) w := fun b x hx => by
  unfold FH.add at hx
  by_cases e : b = g
  · subst e; simp at hx; subst hx; exact hg
  · rw [if_neg e] at hx; exact hs b x hx
theorem Ext.add {h h1 : FH} {w w1 : World} (a : Ext h w h1 w1) {g : Nat} {o : Obj} (hg : w1.heap[g]? = some o) (hn : h1 g = none) (hb : w.heap.size ≤ g) : Ext h w (h1.add g o) w1 :=
  ⟨a.le.trans (FLe.add hn o), a.sits.add hg, a.below, fun b hx => by
    unfold FH.add at hx
    by_cases e : b = g
    · subst e; exact .inr hb
    · rw [if_neg e] at hx; exact a.fresh b hx⟩
theorem FH.add_same (h : FH) (g : Nat) (o : Obj) : (h.add g o) g = some o := by simp [FH.add]
theorem FH.add_other (h : FH) {g b : Nat} (o : Obj) (hne : b ≠ g) : (h.add g o) b = h b := by simp [FH.add, hne]
theorem FH.add_cell (h : FH) (g : Nat) (cs : Array Value) (t : TypeId) (fr : Nat × Nat) {j : Nat} {v : Value} (hv : cs[j]? = some v) : (h.add g (.cells cs t fr)).cell ⟨g, j, none⟩ = some v := by
  simp [FH.cell, FH.add, hv]
/-- The same, of what was there to begin with. -/
theorem Ext.back {h h1 : FH} {w w1 : World} (a : Ext h w h1 w1) : Ext h w h w1 := ⟨FLe.refl h, fun b o hb => a.sits b o (a.le b o hb), a.below, fun _ x => .inl x⟩
theorem heap_new (w : World) (o : Obj) : (w.alloc o).heap[w.heap.size]? = some o := heap_alloc_new w o
theorem keep1 {w : World} {p : Addr} {v : Value} (hc : w.cell? p = some v) (o : Obj) : (w.alloc o).cell? p = some v := by
  have hb := World.block_lt_of_cell? w p hc
  rw [← hc]
  exact World.cell?_of_block (w := w) (Below.heap_alloc _ _ _ hb)
theorem keep2 {w : World} {p : Addr} {v : Value} (hc : w.cell? p = some v) (o o' : Obj) : ((w.alloc o).alloc o').cell? p = some v := keep1 (keep1 hc o) o'
theorem keep3 {w : World} {p : Addr} {v : Value} (hc : w.cell? p = some v) (o o' o'' : Obj) : (((w.alloc o).alloc o').alloc o'').cell? p = some v := keep1 (keep2 hc o o') o''

/-- How a thing lies in cells. -/
class Enc (α : Type) where
  sz : Nat
  rep : FH → List Value → α → Prop
  len : ∀ {h cs x}, rep h cs x → cs.length = sz
  mono : ∀ {h h' cs x}, FLe h h' → rep h cs x → rep h' cs x
  one : ∀ {h cs x}, rep h cs x → ∀ u ∈ cs, u.oneCell' = true
  pos : 0 < sz
instance : Enc Int := ⟨1, fun _ cs x => cs = [.int .i64 x], fun h => by rw [h]; rfl, fun _ h => h, fun h u hu => by subst h; simp at hu; subst hu; rfl, Nat.one_pos⟩
instance : Enc Bool := ⟨1, fun _ cs x => cs = [.bool x], fun h => by rw [h]; rfl, fun _ h => h, fun h u hu => by subst h; simp at hu; subst hu; rfl, Nat.one_pos⟩
instance : Enc ByteArray := ⟨1, fun _ cs x => cs = [.string x] ∧ x.size ≤ 9223372036854775807, fun h => by rw [h.1]; rfl, fun _ h => h, fun ⟨h, _⟩ u hu => by subst h; simp at hu; subst hu; rfl, Nat.one_pos⟩

/-- A slice's elements, from its address on. -/
def RowAt {α : Type} [Enc α] (h : FH) (A : Option Addr) (xs : List α) : Prop :=
  xs.length ≤ 9223372036854775807 ∧ (0 < xs.length → ∃ b off, A = some ⟨b, off, none⟩ ∧ ∀ i x, xs[i]? = some x → ∃ cs, Enc.rep h cs x ∧ ∀ j u, cs[j]? = some u → h.cell ⟨b, off + i * Enc.sz α + j, none⟩ = some u)
theorem RowAt.mono {α : Type} [Enc α] {h h' : FH} {A : Option Addr} {xs : List α} (hl : FLe h h') (r : RowAt h A xs) : RowAt h' A xs :=
  ⟨r.1, fun hp => by
    obtain ⟨b, off, e, f⟩ := r.2 hp
    exact ⟨b, off, e, fun i x hx => by
      obtain ⟨cs, hr, hc⟩ := f i x hx
      exact ⟨cs, Enc.mono hl hr, fun j u hu => hl.cell (hc j u hu)⟩⟩⟩
theorem RowAt.nil {α : Type} [Enc α] (h : FH) (A : Option Addr) : RowAt h A ([] : List α) := ⟨by simp, fun hp => by simp at hp⟩
instance {α : Type} [Enc α] : Enc (List α) :=
  ⟨1, fun h cs xs => ∃ A c, cs = [.slice A xs.length c] ∧ xs.length ≤ c ∧ RowAt h A xs, fun ⟨_, _, e, _⟩ => by rw [e]; rfl, fun hl ⟨A, c, e, hc, r⟩ => ⟨A, c, e, hc, r.mono hl⟩,
   fun ⟨A, c, e, _⟩ u hu => by subst e; simp at hu; subst hu; rfl, Nat.one_pos⟩

/-- Elements, one behind the other, in cells. -/
def Reps {α : Type} [Enc α] (h : FH) : List Value → List α → Prop
  | cells, [] => cells = []
  | cells, x :: xs => ∃ cs rest, cells = cs ++ rest ∧ Enc.rep h cs x ∧ Reps h rest xs
section
variable {α : Type} [Enc α]
theorem Reps.mono {h h' : FH} (hl : FLe h h') : ∀ {cells : List Value} {xs : List α}, Reps h cells xs → Reps h' cells xs
  | _, [], r => r
  | _, _ :: _, ⟨cs, rest, e, r, t⟩ => ⟨cs, rest, e, Enc.mono hl r, t.mono hl⟩
theorem Reps.length {h : FH} : ∀ {cells : List Value} {xs : List α}, Reps h cells xs → cells.length = xs.length * Enc.sz α
  | _, [], r => by rw [show _ = [] from r]; simp
  | _, x :: xs, ⟨cs, rest, e, r, t⟩ => by rw [e, List.length_append, Enc.len r, t.length, List.length_cons, Nat.add_mul]; omega
theorem Reps.append {h : FH} : ∀ {c1 c2 : List Value} {xs ys : List α}, Reps h c1 xs → Reps h c2 ys → Reps h (c1 ++ c2) (xs ++ ys)
  | _, _, [], _, r, t => by rw [show _ = [] from r]; exact t
  | _, _, _ :: _, _, ⟨cs, rest, e, r, k⟩, t => ⟨cs, rest ++ _, by rw [e, List.append_assoc], r, k.append t⟩
theorem Reps.single {h : FH} {cs : List Value} {x : α} (r : Enc.rep h cs x) : Reps h cs [x] := ⟨cs, [], by simp, r, rfl⟩
theorem Reps.one {h : FH} : ∀ {cells : List Value} {xs : List α}, Reps h cells xs → ∀ u ∈ cells, u.oneCell' = true
  | _, [], r, u, hu => by rw [show _ = [] from r] at hu; cases hu
  | _, _ :: _, ⟨cs, rest, e, r, t⟩, u, hu => by
    rw [e] at hu
    rcases List.mem_append.1 hu with h1 | h1
    · exact Enc.one r u h1
    · exact t.one u h1
theorem Reps.get {h : FH} : ∀ {cells : List Value} {xs : List α}, Reps h cells xs → ∀ {i : Nat} {x : α}, xs[i]? = some x → ∃ cs, Enc.rep h cs x ∧ ∀ j u, cs[j]? = some u → cells[i * Enc.sz α + j]? = some u
  | _, [], _, _, _, hx => by simp at hx
  | _, y :: ys, ⟨cs, rest, e, r, t⟩, 0, x, hx => ⟨cs, by simp at hx; subst hx; exact r, fun j u hu => by
      rw [e, Nat.zero_mul, Nat.zero_add, List.getElem?_append_left (List.getElem?_eq_some_iff.1 hu).1]; exact hu⟩
  | _, y :: ys, ⟨cs, rest, e, r, t⟩, i + 1, x, hx => by
    obtain ⟨cs', r', f⟩ := t.get (i := i) (x := x) (by simpa using hx)
    refine ⟨cs', r', fun j u hu => ?_⟩
    have hl := Enc.len r
    rw [e, List.getElem?_append_right (by rw [hl, Nat.add_mul]; omega), hl, show (i + 1) * Enc.sz α + j - Enc.sz α = i * Enc.sz α + j from by rw [Nat.add_mul]; omega]
    exact f j u hu
theorem Reps.take {h : FH} : ∀ {cells : List Value} {xs : List α}, Reps h cells xs → ∀ (n : Nat), Reps h (cells.take (n * Enc.sz α)) (xs.take n)
  | _, [], r, n => by rw [show _ = [] from r]; simp [Reps]
  | _, _ :: _, _, 0 => by simp [Reps]
  | _, x :: xs, ⟨cs, rest, e, r, t⟩, n + 1 => by
    have hl := Enc.len r
    refine ⟨cs, rest.take (n * Enc.sz α), ?_, r, t.take n⟩
    rw [e, List.take_append, List.take_of_length_le (by rw [hl, Nat.add_mul]; omega), hl, show (n + 1) * Enc.sz α - Enc.sz α = n * Enc.sz α from by rw [Nat.add_mul]; omega]
theorem Reps.drop {h : FH} : ∀ {cells : List Value} {xs : List α}, Reps h cells xs → ∀ (n : Nat), Reps h (cells.drop (n * Enc.sz α)) (xs.drop n)
  | _, [], r, n => by rw [show _ = [] from r]; simp [Reps]
  | _, _ :: _, r, 0 => by simpa using r
  | _, x :: xs, ⟨cs, rest, e, r, t⟩, n + 1 => by
    have hl := Enc.len r
    rw [e, List.drop_append, List.drop_of_length_le (by rw [hl, Nat.add_mul]; omega), hl, show (n + 1) * Enc.sz α - Enc.sz α = n * Enc.sz α from by rw [Nat.add_mul]; omega]
    exact t.drop n
theorem Reps.set {h : FH} {cells : List Value} {xs : List α} (r : Reps h cells xs) {i : Nat} {y : α} {cs : List Value} (hi : i < xs.length) (hy : Enc.rep h cs y) :
    Reps h (cells.take (i * Enc.sz α) ++ cs ++ cells.drop ((i + 1) * Enc.sz α)) (xs.set i y) := by
  have e : xs.set i y = xs.take i ++ [y] ++ xs.drop (i + 1) := by
    rw [List.set_eq_take_append_cons_drop, if_pos hi]; simp
  rw [e]
  exact ((r.take i).append (Reps.single hy)).append (r.drop (i + 1))
/-- The cells of what is read. -/
theorem RowAt.reps {h : FH} {b off : Nat} : ∀ {xs : List α} (k : Nat), (∀ i x, xs[i]? = some x → ∃ cs, Enc.rep h cs x ∧ ∀ j u, cs[j]? = some u → h.cell ⟨b, off + (k + i) * Enc.sz α + j, none⟩ = some u) →
    ∃ cells, Reps h cells xs ∧ ∀ j u, cells[j]? = some u → h.cell ⟨b, off + k * Enc.sz α + j, none⟩ = some u
  | [], k, _ => ⟨[], rfl, fun j u hu => by simp at hu⟩
  | x :: xs, k, f => by
    obtain ⟨cs, r, hc⟩ := f 0 x rfl
    obtain ⟨rest, t, ht⟩ := RowAt.reps (xs := xs) (k + 1) (fun i y hy => by
      obtain ⟨cs', r', hc'⟩ := f (i + 1) y (by simpa using hy)
      exact ⟨cs', r', fun j u hu => by rw [show k + 1 + i = k + (i + 1) from by omega]; exact hc' j u hu⟩)
    refine ⟨cs ++ rest, ⟨cs, rest, rfl, r, t⟩, fun j u hu => ?_⟩
    have hl := Enc.len r
    by_cases hj : j < cs.length
    · rw [List.getElem?_append_left hj] at hu; simpa using hc j u hu
    · rw [List.getElem?_append_right (by omega)] at hu
      have := ht _ _ hu
      rwa [hl, show off + (k + 1) * Enc.sz α + (j - Enc.sz α) = off + k * Enc.sz α + j from by rw [Nat.add_mul]; omega] at this

theorem RowAt.of_block {h : FH} {g : Nat} {cells : Array Value} {t : TypeId} {fr : Nat × Nat} {xs : List α} (hb : h g = some (.cells cells t fr)) (r : Reps h cells.toList xs) (hl : xs.length ≤ 9223372036854775807) : RowAt h (some ⟨g, 0, none⟩) xs :=
  ⟨hl, fun _ => ⟨g, 0, rfl, fun i x hx => by
    obtain ⟨cs, hr, hc⟩ := r.get hx
    refine ⟨cs, hr, fun j u hu => ?_⟩
    simp only [FH.cell, hb, Option.isSome_none, Bool.false_eq_true, if_false, Nat.zero_add]
    simpa using hc j u hu⟩⟩
/-- A row of the call's own. -/
structure OwnL (h : FH) (w : World) (base : Nat) (e : TypeId) (v : Value) (xs : List α) : Prop where
  own : ∃ cells, w.ownsRow base e (Enc.sz α) v xs.length cells ∧ Reps h cells xs
  free : ∀ g, v.ownBlock = some g → h g = none
theorem OwnL.nil (h : FH) (w : World) (base : Nat) (e : TypeId) : OwnL h w base e (.slice none 0 0) ([] : List α) :=
  ⟨⟨[], World.ownsRow_nil w base e _, rfl⟩, fun g hg => by simp [Value.ownBlock] at hg⟩
theorem OwnL.lt {h : FH} {w : World} {base : Nat} {e : TypeId} {v : Value} {xs : List α} (o : OwnL h w base e v xs) : ∀ k, v.ownBlock = some k → base ≤ k ∧ k < w.heap.size := by
  obtain ⟨cells, hw, _⟩ := o.own
  exact hw.lt
theorem OwnL.slice {h : FH} {w : World} {base : Nat} {e : TypeId} {v : Value} {xs : List α} (o : OwnL h w base e v xs) : ∃ A c, v = .slice A xs.length c ∧ xs.length ≤ c := by
  obtain ⟨cells, hw, _⟩ := o.own
  rcases hw.2 with ⟨rfl, hn⟩ | ⟨g, cap, cur, rfl, _, _, hc, _⟩
  · exact ⟨none, 0, by rw [hn], by omega⟩
  · exact ⟨_, cap, rfl, hc⟩
/-- What is done elsewhere leaves it. -/
theorem OwnL.kept {h h' : FH} {w w' : World} {base : Nat} {e : TypeId} {v : Value} {xs : List α} (o : OwnL h w base e v xs) {row : Option Nat} (hg : w.grownBy w' row) (hne : v.ownBlock = none ∨ v.ownBlock ≠ row) (hl : FLe h h') (hf : ∀ g, v.ownBlock = some g → h' g = none) : OwnL h' w' base e v xs := by
  obtain ⟨cells, hw, r⟩ := o.own
  exact ⟨⟨cells, hw.kept hg hne, r.mono hl⟩, hf⟩
theorem OwnL.alloc {h : FH} {w : World} {base : Nat} {e : TypeId} {v : Value} {xs : List α} (o : OwnL h w base e v xs) (x : Obj) : OwnL h (w.alloc x) base e v xs :=
  o.kept (World.grownBy_alloc w x none) (by cases v.ownBlock <;> simp) (FLe.refl h) o.free
theorem OwnL.drew {h : FH} {w : World} {base : Nat} {e : TypeId} {v : Value} {xs : List α} (o : OwnL h w base e v xs) : OwnL h w.drew base e v xs :=
  o.kept (row := none) ⟨rfl, rfl, rfl, Nat.le_refl _, fun _ _ _ => rfl⟩ (by cases v.ownBlock <;> simp) (FLe.refl h) o.free
theorem grownBy_of_ext {h h1 : FH} {w w1 : World} (a : Ext h w h1 w1) (row : Option Nat) : w.grownBy w1 row := ⟨a.below.os, a.below.tape, a.below.output, a.below.size, fun i hi _ => a.below.block i hi⟩
/-- Behind a call. -/
theorem OwnL.ext {h h1 : FH} {w w1 : World} {base : Nat} {e : TypeId} {v : Value} {xs : List α} (o : OwnL h w base e v xs) (a : Ext h w h1 w1) : OwnL h1 w1 base e v xs :=
  o.kept (grownBy_of_ext a none) (by cases v.ownBlock <;> simp) a.le (fun g hg => by
    cases e : h1 g with
    | none => rfl
    | some x =>
      rcases a.fresh g (by rw [e]; simp) with h2 | h2
      · exact absurd (o.free g hg) h2
      · exact absurd (o.lt g hg).2 (by omega))
/-- From now on it stays as it is. -/
theorem OwnL.freeze {h : FH} {w : World} {base : Nat} {e : TypeId} {v : Value} {xs : List α} (o : OwnL h w base e v xs) (hs : Sits h w) (hlen : xs.length ≤ 9223372036854775807) :
    ∃ h' A c, v = .slice A xs.length c ∧ xs.length ≤ c ∧ RowAt h' A xs ∧ FLe h h' ∧ Sits h' w ∧ ∀ b, h' b ≠ none → h b ≠ none ∨ base ≤ b := by
  obtain ⟨cells, hw, r⟩ := o.own
  rcases hw.2 with ⟨rfl, hn⟩ | ⟨g, cap, cur, rfl, hb, hg, hc, _, hcs, htake⟩
  · have hx : xs = [] := List.eq_nil_of_length_eq_zero hn
    subst hx
    exact ⟨h, none, 0, rfl, Nat.le_refl _, RowAt.nil _ _, FLe.refl h, hs, fun b hb => .inl hb⟩
  · have hfree := o.free g rfl
    have hle : FLe h (fun b => if b = g then some (.cells cur e (0, 0)) else h b) := fun b x hx => by
      by_cases hbg : b = g
      · subst hbg; rw [hfree] at hx; cases hx
      · simp only [hbg, if_false]; exact hx
    refine ⟨fun b => if b = g then some (.cells cur e (0, 0)) else h b, _, cap, rfl, hc, ⟨hlen, fun _ => ⟨g, 0, rfl, fun i x hx => ?_⟩⟩, hle, fun b x hx => ?_, fun b hb' => ?_⟩
    · obtain ⟨cs, hr, hcc⟩ := r.get hx
      refine ⟨cs, Enc.mono hle hr, fun j u hu => ?_⟩
      have h1 := hcc j u hu
      have h2 := (List.getElem?_eq_some_iff.1 h1).1
      rw [← htake] at h1
      rw [List.getElem?_take] at h1
      simp only [FH.cell, if_true, Option.isSome_none, Bool.false_eq_true, if_false, Nat.zero_add]
      split at h1
      · simpa using h1
      · cases h1
    · by_cases hbg : b = g
      · subst hbg; simp at hx; subst hx; exact hg
      · simp only [hbg, if_false] at hx; exact hs b x hx
    · by_cases hbg : b = g
      · subst hbg; exact .inr hb
      · simp only [hbg, if_false] at hb'; exact .inl hb'
end
/-- A slice type, and its elements'. -/
structure TyOk (P : Program) (t e : TypeId) (size bytes : Nat) : Prop where
  und : P.underlying t = some (.slice e)
  info : ∃ i z, P.info? e = some i ∧ i.zero = some z ∧ i.size = size ∧ i.bytes = bytes ∧ z.cells.size = size
theorem TyOk.mk' {P : Program} {t e : TypeId} {z : Value} {size bytes : Nat} (hu : P.underlying t = some (.slice e)) (hi : (P.info? e).map (fun i => (i.zero, i.size, i.bytes)) = some (some z, size, bytes)) (hz : z.cells.size = size) : TyOk P t e size bytes := by
  obtain ⟨i, h1, h2, h3, h4⟩ := info_parts hi
  exact ⟨hu, i, z, h1, h2, h3, h4, hz⟩
section
variable {α : Type} [Enc α] {P : Program}
/-- append(v, ys...), v of the call's own, ys as they lie. -/
theorem run_appendL {h : FH} {w : World} {base : Nat} {t ty e : TypeId} {bytes : Nat} (T : TyOk P t e (Enc.sz α) bytes) {v : Value} {xs ys : List α} (O : OwnL h w base e v xs) (hs : Sits h w) {A : Option Addr} {c : Nat} (r : RowAt h A ys) (hn : A = none → c = 0)
    (hbytes : (xs.length + ys.length) * bytes ≤ 140737488355328) (hpos : 0 < bytes) (hbase : base ≤ w.heap.size) :
    ∃ v' w', (Builtin.append_ #[t, t] ty #[v, .slice A ys.length c]).run P w = .ok v' w' ∧ OwnL h w' base e v' (xs ++ ys) ∧ w.grownBy w' v.ownBlock ∧ (v'.ownBlock = v.ownBlock ∨ v'.ownBlock = some w.heap.size) := by
  obtain ⟨i, z, hi, hz0, hz1, hz2, hz3⟩ := T.info
  obtain ⟨cells, hw, R⟩ := O.own
  have hlen : xs.length + ys.length ≤ 140737488355328 := Nat.le_trans (Nat.le_mul_of_pos_right _ hpos) hbytes
  cases A with
  | none =>
    have hy : ys = [] := by
      cases ys with
      | nil => rfl
      | cons y ys => obtain ⟨b, off, e, _⟩ := r.2 (by simp); cases e
    subst hy
    obtain rfl := hn rfl
    exact ⟨v, w, run_append_owned_none (P := P) (w := w) base t ty e i (Enc.sz α) T.und hi v xs.length cells hw, by simpa using O, ⟨rfl, rfl, rfl, Nat.le_refl _, fun _ _ _ => rfl⟩, .inl rfl⟩
  | some ad =>
    obtain ⟨news, RN, hnews⟩ : ∃ news, Reps h news ys ∧ ∀ j u, news[j]? = some u → w.cell? (ad.add j) = some u := by
      by_cases hy : 0 < ys.length
      · obtain ⟨b, off, e, f⟩ := r.2 hy
        cases e
        obtain ⟨news, RN, hn⟩ := RowAt.reps (h := h) (b := b) (off := off) (xs := ys) 0 (fun i x hx => by simpa using f i x hx)
        exact ⟨news, RN, fun j u hu => by rw [show (⟨b, off, none⟩ : Addr).add j = ⟨b, off + j, none⟩ from by unfold Addr.add; split <;> simp_all]; exact hs.cell (by simpa using hn j u hu)⟩
      · have : ys = [] := List.eq_nil_of_length_eq_zero (by omega)
        subst this
        exact ⟨[], rfl, fun j u hu => by simp at hu⟩
    obtain ⟨v', w', h1, h2, h3, h4, h5⟩ := run_append_own_at (P := P) w base t ty e i z (Enc.sz α) bytes T.und hi hz0 hz1 hz2 hz3 Enc.pos v xs.length cells hw ad ys.length c news RN.length hnews RN.one (by unfold maxLen; omega) hbytes hbase
    refine ⟨v', w', h1, ⟨⟨_, by rw [List.length_append]; exact h2, R.append RN⟩, fun g hg => ?_⟩, h3, h5⟩
    rcases h5 with h6 | h6
    · exact O.free g (by rw [← h6]; exact hg)
    · rw [h6] at hg
      cases hg
      cases e : h w.heap.size with
      | none => rfl
      | some x => exact absurd (hs.lt (b := w.heap.size) (by rw [e]; simp)) (by omega)
theorem wpList_appendL {h : FH} {w : World} {ops : Array Oper} {rest : List Oper} {o : Oper} {a : Act} {Q : Exit → Act → World → Prop} (hgd : o.guard = none) (s x : Operand) (t : TypeId)
    (ho : o.op = .call { callee := .builtin .append, args := #[s, x], argTypes := #[t, t] }) (base : Nat) (e : TypeId) (bytes : Nat) (T : TyOk P t e (Enc.sz α) bytes) (v : Value) (xs ys : List α) (hv : a.eval s = v) (O : OwnL h w base e v xs) (hs : Sits h w)
    (A : Option Addr) (n c : Nat) (hx : a.eval x = .slice A n c) (hny : n = ys.length) (r : RowAt h A ys) (hn : A = none → c = 0) (hbytes : (xs.length + ys.length) * bytes ≤ 140737488355328) (hpos : 0 < bytes) (hbase : base ≤ w.heap.size)
    (k : ∀ v' w', OwnL h w' base e v' (xs ++ ys) → w.grownBy w' v.ownBlock → (v'.ownBlock = v.ownBlock ∨ v'.ownBlock = some w.heap.size) → wpList P ops Q rest (a.put o.dst v') w') : wpList P ops Q (o :: rest) a w := by
  refine wpList_plain hgd fun K hK => ?_
  subst hny
  obtain ⟨v', w', hr, h2, h3, h4⟩ := run_appendL (ty := o.type) T O hs r hn hbytes hpos hbase
  unfold Oper.wp execOp
  simp only [ho, resolve, invoke, builtin, Sem.run_bind, Sem.run_pure, Result.andThen_ok, List.map_toArray, List.map_cons, List.map_nil, hv, hx, hr]
  exact hK _ _ (k v' w' h2 h3 h4)
/-- append(v, y): the one element's box is the newest block. -/
theorem wpList_append1 {h : FH} {w : World} {ops : Array Oper} {rest : List Oper} {o : Oper} {a : Act} {Q : Exit → Act → World → Prop} (hgd : o.guard = none) (s x : Operand) (t : TypeId)
    (ho : o.op = .call { callee := .builtin .append, args := #[s, x], argTypes := #[t, t] }) (base : Nat) (e : TypeId) (bytes : Nat) (T : TyOk P t e (Enc.sz α) bytes) (v : Value) (xs : List α) (hv : a.eval s = v) (O : OwnL h w base e v xs) (hs : Sits h w)
    (cs : List Value) (y : α) (e' : TypeId) (hx : a.eval x = .slice (some ⟨w.heap.size, 0, none⟩) 1 1) (r : Enc.rep h cs y) (hbytes : (xs.length + 1) * bytes ≤ 140737488355328) (hpos : 0 < bytes) (hbase : base ≤ w.heap.size)
    (k : ∀ v' w', OwnL h w' base e v' (xs ++ [y]) → w.grownBy w' v.ownBlock → (v'.ownBlock = v.ownBlock ∨ ∃ b, v'.ownBlock = some b ∧ w.heap.size ≤ b) → wpList P ops Q rest (a.put o.dst v') w') : wpList P ops Q (o :: rest) a (w.alloc (.cells cs.toArray e')) := by
  refine wpList_plain hgd fun K hK => ?_
  obtain ⟨i, z, hi, hz0, hz1, hz2, hz3⟩ := T.info
  obtain ⟨cells, hw, R⟩ := (O.alloc (.cells cs.toArray e')).own
  have hlen : xs.length + 1 ≤ 140737488355328 := Nat.le_trans (Nat.le_mul_of_pos_right _ hpos) hbytes
  have RN := Reps.single r
  obtain ⟨v', w', hr, h2, h3, h4, h5⟩ := run_append_own_at (P := P) (w.alloc (.cells cs.toArray e')) base t o.type e i z (Enc.sz α) bytes T.und hi hz0 hz1 hz2 hz3 Enc.pos v xs.length cells hw ⟨w.heap.size, 0, none⟩ 1 1 cs (by rw [Enc.len r]; omega) (fun j u hu => by
      rw [show (⟨w.heap.size, 0, none⟩ : Addr).add j = ⟨w.heap.size, j, none⟩ from by unfold Addr.add; split <;> simp_all]
      rw [cell_of_row _ w.heap.size j cs.toArray e' (0, 0) (heap_alloc_new w _)]
      simpa using hu) RN.one (by unfold maxLen; omega) hbytes (by simp; omega)
  unfold Oper.wp execOp
  simp only [ho, resolve, invoke, builtin, Sem.run_bind, Sem.run_pure, Result.andThen_ok, List.map_toArray, List.map_cons, List.map_nil, hv, hx, hr]
  refine hK _ _ (k v' w' ⟨⟨_, by rw [List.length_append]; exact h2, R.append RN⟩, fun g hg => ?_⟩ (World.grownBy.trans (World.grownBy_alloc w _ _) h3) (h5.imp id (fun h6 => ⟨_, h6, by simp⟩)))
  rcases h5 with h6 | h6
  · exact O.free g (by rw [← h6]; exact hg)
  · rw [h6] at hg
    cases hg
    cases e : h (w.alloc (.cells cs.toArray e')).heap.size with
    | none => rfl
    | some x => exact absurd (hs.lt (by rw [e]; simp)) (by simp)
end

/-- All that is there. -/
def fhOf (W : World) : FH := fun b => W.heap[b]?
theorem Sits.all (W : World) : Sits (fhOf W) W := fun _ _ h => h
theorem fhOf_cell (W : World) (a : Addr) : (fhOf W).cell a = W.cell? a := rfl

/-! ### what came in -/
open Go.DataW
/-- What reads as data of a type lies as a thing of ours. -/
def Opens (α : Type) [Enc α] (P : Program) (t : TypeId) : Prop :=
  ∀ {H : Type} (enc : TypeId × Value → H) (W : World) (sp : Nat → Bool) (held : Bool) (fuel : Nat) (cs : List Value) (d : DataW H) (ps : List MemPlace), DataW.trod enc P W 0 sp held fuel t cs = some (d, ps) → ∃ x : α, Enc.rep (fhOf W) cs x
theorem Opens.int {P : Program} {t : TypeId} (ht : P.underlying t = some (.int .i64)) : Opens Int P t := fun enc W sp held fuel cs d ps h => by
  cases fuel with
  | zero => simp [DataW.trod] at h
  | succ fuel =>
    unfold DataW.trod at h
    rw [ht] at h
    split at h
    all_goals (try (simp_all; done))
    rename_i k k' n heq
    simp only [Option.some.injEq, TypeDesc.int.injEq] at heq
    subst heq
    split at h
    · rename_i hk
      obtain ⟨rfl, _⟩ := hk
      exact ⟨n, show _ = _ from rfl⟩
    · cases h
theorem Opens.bool {P : Program} {t : TypeId} (ht : P.underlying t = some .bool) : Opens Bool P t := fun enc W sp held fuel cs d ps h => by
  cases fuel with
  | zero => simp [DataW.trod] at h
  | succ fuel =>
    unfold DataW.trod at h
    rw [ht] at h
    split at h
    all_goals (try (simp_all; done))
    rename_i b _
    exact ⟨b, show _ = _ from rfl⟩
theorem Opens.string {P : Program} {t : TypeId} (ht : P.underlying t = some .string) : Opens ByteArray P t := fun enc W sp held fuel cs d ps h => by
  cases fuel with
  | zero => simp [DataW.trod] at h
  | succ fuel =>
    unfold DataW.trod at h
    rw [ht] at h
    split at h <;> simp_all
    exact ⟨_, show _ ∧ _ from ⟨rfl, by have := h.1; unfold maxLen at this; omega⟩⟩
theorem mapM_get {α β : Type} {f : α → Option β} : ∀ {l : List α} {r : List β}, l.mapM f = some r → r.length = l.length ∧ ∀ (i : Nat) (x : α), l[i]? = some x → ∃ y, f x = some y ∧ r[i]? = some y
  | [], r, h => by simp at h; subst h; simp
  | a :: l, r, h => by
    simp only [List.mapM_cons, Option.bind_eq_bind, Option.bind_eq_some_iff, Option.pure_def, Option.some.injEq] at h
    obtain ⟨y, hy, ys, hys, rfl⟩ := h
    obtain ⟨e, g⟩ := mapM_get hys
    refine ⟨by simp [e], fun i x hx => ?_⟩
    cases i with
    | zero => simp at hx; subst hx; exact ⟨y, hy, rfl⟩
    | succ i => exact g i x (by simpa using hx)
theorem cells_get {W : World} {a : Addr} {n : Nat} {cs : List Value} (h : W.cells? 0 a n = some cs) : cs.length = n ∧ ∀ j u, cs[j]? = some u → W.cell? (a.add j) = some u := by
  simp only [World.cells?, Nat.zero_le, if_true] at h
  obtain ⟨e, g⟩ := mapM_get h
  have e' : cs.length = n := by simpa using e
  refine ⟨e', fun j u hu => ?_⟩
  have hj : j < n := by have := (List.getElem?_eq_some_iff.1 hu).1; omega
  obtain ⟨y, hy, hz⟩ := g j j (by simp [hj])
  rw [hu] at hz
  rw [hy, hz]
theorem exists_list {α : Type} {p : Nat → α → Prop} : ∀ (n : Nat), (∀ i, i < n → ∃ x, p i x) → ∃ xs : List α, xs.length = n ∧ ∀ i x, xs[i]? = some x → p i x
  | 0, _ => ⟨[], rfl, fun i x h => by simp at h⟩
  | n + 1, h => by
    obtain ⟨xs, hl, hx⟩ := exists_list n (fun i hi => h i (by omega))
    obtain ⟨y, hy⟩ := h n (by omega)
    refine ⟨xs ++ [y], by simp [hl], fun i x hix => ?_⟩
    by_cases hi : i < n
    · rw [List.getElem?_append_left (by omega)] at hix; exact hx i x hix
    · rw [List.getElem?_append_right (by omega)] at hix
      have : i = n := by
        have := (List.getElem?_eq_some_iff.1 hix).1
        simp at this; omega
      subst this
      simp [hl] at hix
      subst hix
      exact hy
theorem Opens.slice {α : Type} [Enc α] {P : Program} {t e : TypeId} (ht : P.underlying t = some (.slice e)) (hc : P.cellsOf e = Enc.sz α) (he : Opens α P e) : Opens (List α) P t := fun enc W sp held fuel cs d ps h => by
  cases fuel with
  | zero => simp [DataW.trod] at h
  | succ fuel =>
    unfold DataW.trod at h
    rw [ht] at h
    split at h
    all_goals (try (simp_all; done))
    · exact ⟨[], none, 0, rfl, Nat.le_refl _, RowAt.nil _ _⟩
    · rename_i e' a len cap heq
      simp only [Option.some.injEq, TypeDesc.slice.injEq] at heq
      subst heq
      split at h
      case isFalse => cases h
      rename_i hb
      obtain ⟨elems, h1, h2⟩ := Option.bind_eq_some_iff.1 h
      obtain ⟨el, eg⟩ := mapM_get h1
      have hex : ∀ i, i < len → ∃ x : α, ∃ c, Enc.rep (fhOf W) c x ∧ W.cells? 0 (a.add (i * P.cellsOf e)) (P.cellsOf e) = some c := fun i hi => by
        obtain ⟨y, hy, _⟩ := eg i i (by simp [hi])
        obtain ⟨c, hc1, hc2⟩ := Option.bind_eq_some_iff.1 hy
        obtain ⟨x, hx⟩ := he enc W sp held fuel c y.1 y.2 hc2
        exact ⟨x, c, hx, hc1⟩
      obtain ⟨xs, hl, hx⟩ := exists_list len hex
      subst hl
      refine ⟨xs, some a, cap, rfl, hb.2.1, by have := hb.2.1; have := hb.2.2; unfold maxLen at this; omega, fun hp => ?_⟩
      have hspot : a.spot = none := by
        obtain ⟨c, hc1, hc2⟩ := hx 0 xs[0] (List.getElem?_eq_getElem hp)
        obtain ⟨g1, g2⟩ := cells_get hc2
        have hp2 := Enc.pos (α := α)
        have hc0 := g2 0 (c[0]'(by omega)) (List.getElem?_eq_getElem (by omega))
        simp only [Nat.zero_mul, Addr.add, if_true] at hc0
        exact World.cell?_spot hc0
      obtain ⟨b, off, spot⟩ := a
      simp only at hspot
      subst hspot
      refine ⟨b, off, rfl, fun i x hix => ?_⟩
      obtain ⟨c, hc1, hc2⟩ := hx i x hix
      obtain ⟨g1, g2⟩ := cells_get hc2
      refine ⟨c, hc1, fun j u hu => ?_⟩
      have := g2 j u hu
      rw [hc] at this
      rw [fhOf_cell]
      have ea : ((⟨b, off, none⟩ : Addr).add (i * Enc.sz α)).add j = ⟨b, off + i * Enc.sz α + j, none⟩ := by
        unfold Addr.add; repeat' split
        all_goals simp_all
      rwa [ea] at this
/-- A struct that reads as data: its fields, one by one. -/
theorem trod_fields {P : Program} {t : TypeId} {fs : Array Field} (ht : P.underlying t = some (.struct fs)) {H : Type} {enc : TypeId × Value → H} {W : World} {sp : Nat → Bool} {held : Bool} {fuel : Nat} {cs : List Value} {d : DataW H} {ps : List MemPlace}
    (h : DataW.trod enc P W 0 sp held fuel t cs = some (d, ps)) : cs.length = P.cellsOf t ∧ ∃ fuel', ∀ (i : Nat) f, fs.toList[i]? = some f → ∃ d ps, DataW.trod enc P W 0 sp held fuel' f.type ((cs.drop f.offset).take (P.cellsOf f.type)) = some (d, ps) := by
  cases fuel with
  | zero => simp [DataW.trod] at h
  | succ fuel =>
    unfold DataW.trod at h
    rw [ht] at h
    split at h
    all_goals (try (simp_all; done))
    rename_i fs' heq
    simp only [Option.some.injEq, TypeDesc.struct.injEq] at heq
    subst heq
    split at h
    case isFalse => cases h
    rename_i hl
    obtain ⟨xs, h1, h2⟩ := Option.map_eq_some_iff.1 h
    obtain ⟨_, g⟩ := mapM_get h1
    exact ⟨hl, fuel, fun i f hf => by
      obtain ⟨y, hy, _⟩ := g i f hf
      exact ⟨y.1, y.2, hy⟩⟩
end Go.Proofs.Ytkglaofiencfdaa

namespace Go.Proofs.Ytkglaofiencfdaa
open Go.RowKit Go.Sort
set_option linter.unusedVariables false
/-- What a slice has room for. -/
structure CapLe (A : Option Addr) (n c : Nat) : Prop where
  le : n ≤ c
  nn : A = none → c = 0
  mx : c ≤ 9223372036854775807
section
open Go.DataW
theorem slice_cap {P : Program} {t e : TypeId} (ht : P.underlying t = some (.slice e)) {H : Type} (enc : TypeId × Value → H) (W : World) (sp : Nat → Bool) (held : Bool) (fuel : Nat) (A : Option Addr) (n c : Nat) (d : DataW H) (ps : List MemPlace)
    (h : DataW.trod enc P W 0 sp held fuel t [.slice A n c] = some (d, ps)) : (A = none → c = 0) ∧ n ≤ c ∧ c ≤ 9223372036854775807 := by
  cases fuel with
  | zero => simp [DataW.trod] at h
  | succ fuel =>
    unfold DataW.trod at h
    rw [ht] at h
    split at h
    all_goals (try (simp_all; done))
    rename_i e' a len cap heq heq2
    split at h
    case isFalse => cases h
    rename_i hb
    simp only [List.cons.injEq, Value.slice.injEq, and_true] at heq2
    obtain ⟨rfl, rfl, rfl⟩ := heq2
    unfold maxLen at hb
    exact ⟨(fun e => by cases e), hb.2.1, by omega⟩
theorem CapLe.opens {P : Program} {t e : TypeId} (ht : P.underlying t = some (.slice e)) {H : Type} (enc : TypeId × Value → H) (W : World) (sp : Nat → Bool) (held : Bool) (fuel : Nat) (A : Option Addr) (n c : Nat) (d : DataW H) (ps : List MemPlace)
    (h : DataW.trod enc P W 0 sp held fuel t [.slice A n c] = some (d, ps)) : CapLe A n c := by
  obtain ⟨a, b, c⟩ := slice_cap ht enc W sp held fuel A n c d ps h
  exact ⟨b, a, c⟩
end

structure Block where
  prog : Int
  live : Int
  era : Int
  bad : Bool
  deriving Inhabited
def repBlock (h : FH) (cs : List Value) (x : Block) : Prop := cs = [.int .i64 x.prog, .int .i64 x.live, .int .i64 x.era, .bool x.bad]
theorem repBlock.len {h : FH} {cs : List Value} {x : Block} (r : repBlock h cs x) : cs.length = 4 := by
  have e : cs = [.int .i64 x.prog, .int .i64 x.live, .int .i64 x.era, .bool x.bad] := r
  rw [e]; rfl
theorem repBlock.mono {h h' : FH} {cs : List Value} {x : Block} (hl : FLe h h') (r : repBlock h cs x) : repBlock h' cs x := by
  have e : cs = [.int .i64 x.prog, .int .i64 x.live, .int .i64 x.era, .bool x.bad] := r
  exact e
theorem repBlock.one {h : FH} {cs : List Value} {x : Block} (r : repBlock h cs x) : ∀ u ∈ cs, u.oneCell' = true := by
  have e : cs = [.int .i64 x.prog, .int .i64 x.live, .int .i64 x.era, .bool x.bad] := r
  subst e
  simp [Value.oneCell']
instance : Enc Block := ⟨4, repBlock, repBlock.len, repBlock.mono, repBlock.one, by decide⟩
theorem RowAt.block {h : FH} {A : Option Addr} {xs : List Block} (r : RowAt h A xs) {i : Nat} {x : Block} (hx : xs[i]? = some x) {w : World} (hs : Sits h w) :
    ∃ b off , A = some ⟨b, off, none⟩ ∧ w.cell? ⟨b, off + i * 4, none⟩ = some (.int .i64 x.prog) ∧ w.cell? ⟨b, off + i * 4 + 1, none⟩ = some (.int .i64 x.live) ∧ w.cell? ⟨b, off + i * 4 + 2, none⟩ = some (.int .i64 x.era) ∧ w.cell? ⟨b, off + i * 4 + 3, none⟩ = some (.bool x.bad) := by
  have hp : 0 < xs.length := by have := (List.getElem?_eq_some_iff.1 hx).1; omega
  obtain ⟨b, off, e', f⟩ := r.2 hp
  obtain ⟨cs, hr, hc⟩ := f i x hx
  have e : cs = [.int .i64 x.prog, .int .i64 x.live, .int .i64 x.era, .bool x.bad] := hr
  subst e
  exact ⟨b, off, e', hs.cell (hc 0 _ rfl), hs.cell (hc 1 _ rfl), hs.cell (hc 2 _ rfl), hs.cell (hc 3 _ rfl)⟩

structure Run where
  from_ : Int
  at_ : Int
  count : Int
  deriving Inhabited
def repRun (h : FH) (cs : List Value) (x : Run) : Prop := cs = [.int .i64 x.from_, .int .i64 x.at_, .int .i64 x.count]
theorem repRun.len {h : FH} {cs : List Value} {x : Run} (r : repRun h cs x) : cs.length = 3 := by
  have e : cs = [.int .i64 x.from_, .int .i64 x.at_, .int .i64 x.count] := r
  rw [e]; rfl
theorem repRun.mono {h h' : FH} {cs : List Value} {x : Run} (hl : FLe h h') (r : repRun h cs x) : repRun h' cs x := by
  have e : cs = [.int .i64 x.from_, .int .i64 x.at_, .int .i64 x.count] := r
  exact e
theorem repRun.one {h : FH} {cs : List Value} {x : Run} (r : repRun h cs x) : ∀ u ∈ cs, u.oneCell' = true := by
  have e : cs = [.int .i64 x.from_, .int .i64 x.at_, .int .i64 x.count] := r
  subst e
  simp [Value.oneCell']
instance : Enc Run := ⟨3, repRun, repRun.len, repRun.mono, repRun.one, by decide⟩
theorem RowAt.run {h : FH} {A : Option Addr} {xs : List Run} (r : RowAt h A xs) {i : Nat} {x : Run} (hx : xs[i]? = some x) {w : World} (hs : Sits h w) :
    ∃ b off , A = some ⟨b, off, none⟩ ∧ w.cell? ⟨b, off + i * 3, none⟩ = some (.int .i64 x.from_) ∧ w.cell? ⟨b, off + i * 3 + 1, none⟩ = some (.int .i64 x.at_) ∧ w.cell? ⟨b, off + i * 3 + 2, none⟩ = some (.int .i64 x.count) := by
  have hp : 0 < xs.length := by have := (List.getElem?_eq_some_iff.1 hx).1; omega
  obtain ⟨b, off, e', f⟩ := r.2 hp
  obtain ⟨cs, hr, hc⟩ := f i x hx
  have e : cs = [.int .i64 x.from_, .int .i64 x.at_, .int .i64 x.count] := hr
  subst e
  exact ⟨b, off, e', hs.cell (hc 0 _ rfl), hs.cell (hc 1 _ rfl), hs.cell (hc 2 _ rfl)⟩

structure Entry where
  name : ByteArray
  no : Int
  deriving Inhabited
def repEntry (h : FH) (cs : List Value) (x : Entry) : Prop := cs = [.string x.name, .int .i64 x.no] ∧ x.name.size ≤ 9223372036854775807
theorem repEntry.len {h : FH} {cs : List Value} {x : Entry} (r : repEntry h cs x) : cs.length = 2 := by
  obtain ⟨e, _⟩ := r
  rw [e]; rfl
theorem repEntry.mono {h h' : FH} {cs : List Value} {x : Entry} (hl : FLe h h') (r : repEntry h cs x) : repEntry h' cs x := by
  obtain ⟨e, s0⟩ := r
  exact ⟨e, s0⟩
theorem repEntry.one {h : FH} {cs : List Value} {x : Entry} (r : repEntry h cs x) : ∀ u ∈ cs, u.oneCell' = true := by
  obtain ⟨e, _⟩ := r
  subst e
  simp [Value.oneCell']
instance : Enc Entry := ⟨2, repEntry, repEntry.len, repEntry.mono, repEntry.one, by decide⟩
theorem RowAt.entry {h : FH} {A : Option Addr} {xs : List Entry} (r : RowAt h A xs) {i : Nat} {x : Entry} (hx : xs[i]? = some x) {w : World} (hs : Sits h w) :
    ∃ b off , A = some ⟨b, off, none⟩ ∧ w.cell? ⟨b, off + i * 2, none⟩ = some (.string x.name) ∧ w.cell? ⟨b, off + i * 2 + 1, none⟩ = some (.int .i64 x.no) ∧ x.name.size ≤ 9223372036854775807 := by
  have hp : 0 < xs.length := by have := (List.getElem?_eq_some_iff.1 hx).1; omega
  obtain ⟨b, off, e', f⟩ := r.2 hp
  obtain ⟨cs, hr, hc⟩ := f i x hx
  obtain ⟨e, s0⟩ := hr
  subst e
  exact ⟨b, off, e', hs.cell (hc 0 _ rfl), hs.cell (hc 1 _ rfl), s0⟩

structure Inode where
  no : Int
  kind : Int
  links : Int
  size : Int
  target : ByteArray
  entries : List Entry
  runs : List Run
  deriving Inhabited
def repInode (h : FH) (cs : List Value) (x : Inode) : Prop := ∃ A5 c5 A6 c6, cs = [.int .i64 x.no, .int .i64 x.kind, .int .i64 x.links, .int .i64 x.size, .string x.target, .slice A5 x.entries.length c5, .slice A6 x.runs.length c6] ∧ x.target.size ≤ 9223372036854775807 ∧ CapLe A5 x.entries.length c5 ∧ RowAt h A5 x.entries ∧ CapLe A6 x.runs.length c6 ∧ RowAt h A6 x.runs
theorem repInode.len {h : FH} {cs : List Value} {x : Inode} (r : repInode h cs x) : cs.length = 7 := by
  obtain ⟨A5, c5, A6, c6, e, _, _, _, _, _⟩ := r
  rw [e]; rfl
theorem repInode.mono {h h' : FH} {cs : List Value} {x : Inode} (hl : FLe h h') (r : repInode h cs x) : repInode h' cs x := by
  obtain ⟨A5, c5, A6, c6, e, s0, s1, s2, s3, s4⟩ := r
  exact ⟨A5, c5, A6, c6, e, s0, s1, s2.mono hl, s3, s4.mono hl⟩
theorem repInode.one {h : FH} {cs : List Value} {x : Inode} (r : repInode h cs x) : ∀ u ∈ cs, u.oneCell' = true := by
  obtain ⟨A5, c5, A6, c6, e, _, _, _, _, _⟩ := r
  subst e
  simp [Value.oneCell']
instance : Enc Inode := ⟨7, repInode, repInode.len, repInode.mono, repInode.one, by decide⟩
theorem RowAt.inode {h : FH} {A : Option Addr} {xs : List Inode} (r : RowAt h A xs) {i : Nat} {x : Inode} (hx : xs[i]? = some x) {w : World} (hs : Sits h w) :
    ∃ b off A5 c5 A6 c6, A = some ⟨b, off, none⟩ ∧ w.cell? ⟨b, off + i * 7, none⟩ = some (.int .i64 x.no) ∧ w.cell? ⟨b, off + i * 7 + 1, none⟩ = some (.int .i64 x.kind) ∧ w.cell? ⟨b, off + i * 7 + 2, none⟩ = some (.int .i64 x.links) ∧ w.cell? ⟨b, off + i * 7 + 3, none⟩ = some (.int .i64 x.size) ∧ w.cell? ⟨b, off + i * 7 + 4, none⟩ = some (.string x.target) ∧ w.cell? ⟨b, off + i * 7 + 5, none⟩ = some (.slice A5 x.entries.length c5) ∧ w.cell? ⟨b, off + i * 7 + 6, none⟩ = some (.slice A6 x.runs.length c6) ∧ x.target.size ≤ 9223372036854775807 ∧ CapLe A5 x.entries.length c5 ∧ RowAt h A5 x.entries ∧ CapLe A6 x.runs.length c6 ∧ RowAt h A6 x.runs := by
  have hp : 0 < xs.length := by have := (List.getElem?_eq_some_iff.1 hx).1; omega
  obtain ⟨b, off, e', f⟩ := r.2 hp
  obtain ⟨cs, hr, hc⟩ := f i x hx
  obtain ⟨A5, c5, A6, c6, e, s0, s1, s2, s3, s4⟩ := hr
  subst e
  exact ⟨b, off, A5, c5, A6, c6, e', hs.cell (hc 0 _ rfl), hs.cell (hc 1 _ rfl), hs.cell (hc 2 _ rfl), hs.cell (hc 3 _ rfl), hs.cell (hc 4 _ rfl), hs.cell (hc 5 _ rfl), hs.cell (hc 6 _ rfl), s0, s1, s2, s3, s4⟩

structure Deed where
  kind : Int
  no : Int
  inode : Inode
  deriving Inhabited
def repDeed (h : FH) (cs : List Value) (x : Deed) : Prop := ∃ A7 c7 A8 c8, cs = [.int .i64 x.kind, .int .i64 x.no, .int .i64 x.inode.no, .int .i64 x.inode.kind, .int .i64 x.inode.links, .int .i64 x.inode.size, .string x.inode.target, .slice A7 x.inode.entries.length c7, .slice A8 x.inode.runs.length c8] ∧ x.inode.target.size ≤ 9223372036854775807 ∧ CapLe A7 x.inode.entries.length c7 ∧ RowAt h A7 x.inode.entries ∧ CapLe A8 x.inode.runs.length c8 ∧ RowAt h A8 x.inode.runs
theorem repDeed.len {h : FH} {cs : List Value} {x : Deed} (r : repDeed h cs x) : cs.length = 9 := by
  obtain ⟨A7, c7, A8, c8, e, _, _, _, _, _⟩ := r
  rw [e]; rfl
theorem repDeed.mono {h h' : FH} {cs : List Value} {x : Deed} (hl : FLe h h') (r : repDeed h cs x) : repDeed h' cs x := by
  obtain ⟨A7, c7, A8, c8, e, s0, s1, s2, s3, s4⟩ := r
  exact ⟨A7, c7, A8, c8, e, s0, s1, s2.mono hl, s3, s4.mono hl⟩
theorem repDeed.one {h : FH} {cs : List Value} {x : Deed} (r : repDeed h cs x) : ∀ u ∈ cs, u.oneCell' = true := by
  obtain ⟨A7, c7, A8, c8, e, _, _, _, _, _⟩ := r
  subst e
  simp [Value.oneCell']
instance : Enc Deed := ⟨9, repDeed, repDeed.len, repDeed.mono, repDeed.one, by decide⟩
theorem RowAt.deed {h : FH} {A : Option Addr} {xs : List Deed} (r : RowAt h A xs) {i : Nat} {x : Deed} (hx : xs[i]? = some x) {w : World} (hs : Sits h w) :
    ∃ b off A7 c7 A8 c8, A = some ⟨b, off, none⟩ ∧ w.cell? ⟨b, off + i * 9, none⟩ = some (.int .i64 x.kind) ∧ w.cell? ⟨b, off + i * 9 + 1, none⟩ = some (.int .i64 x.no) ∧ w.cell? ⟨b, off + i * 9 + 2, none⟩ = some (.int .i64 x.inode.no) ∧ w.cell? ⟨b, off + i * 9 + 3, none⟩ = some (.int .i64 x.inode.kind) ∧ w.cell? ⟨b, off + i * 9 + 4, none⟩ = some (.int .i64 x.inode.links) ∧ w.cell? ⟨b, off + i * 9 + 5, none⟩ = some (.int .i64 x.inode.size) ∧ w.cell? ⟨b, off + i * 9 + 6, none⟩ = some (.string x.inode.target) ∧ w.cell? ⟨b, off + i * 9 + 7, none⟩ = some (.slice A7 x.inode.entries.length c7) ∧ w.cell? ⟨b, off + i * 9 + 8, none⟩ = some (.slice A8 x.inode.runs.length c8) ∧ x.inode.target.size ≤ 9223372036854775807 ∧ CapLe A7 x.inode.entries.length c7 ∧ RowAt h A7 x.inode.entries ∧ CapLe A8 x.inode.runs.length c8 ∧ RowAt h A8 x.inode.runs := by
  have hp : 0 < xs.length := by have := (List.getElem?_eq_some_iff.1 hx).1; omega
  obtain ⟨b, off, e', f⟩ := r.2 hp
  obtain ⟨cs, hr, hc⟩ := f i x hx
  obtain ⟨A7, c7, A8, c8, e, s0, s1, s2, s3, s4⟩ := hr
  subst e
  exact ⟨b, off, A7, c7, A8, c8, e', hs.cell (hc 0 _ rfl), hs.cell (hc 1 _ rfl), hs.cell (hc 2 _ rfl), hs.cell (hc 3 _ rfl), hs.cell (hc 4 _ rfl), hs.cell (hc 5 _ rfl), hs.cell (hc 6 _ rfl), hs.cell (hc 7 _ rfl), hs.cell (hc 8 _ rfl), s0, s1, s2, s3, s4⟩

structure State where
  next : Int
  inodes : List Inode
  bads : List Int
  deriving Inhabited
def repState (h : FH) (cs : List Value) (x : State) : Prop := ∃ A1 c1 A2 c2, cs = [.int .i64 x.next, .slice A1 x.inodes.length c1, .slice A2 x.bads.length c2] ∧ CapLe A1 x.inodes.length c1 ∧ RowAt h A1 x.inodes ∧ CapLe A2 x.bads.length c2 ∧ RowAt h A2 x.bads
theorem repState.len {h : FH} {cs : List Value} {x : State} (r : repState h cs x) : cs.length = 3 := by
  obtain ⟨A1, c1, A2, c2, e, _, _, _, _⟩ := r
  rw [e]; rfl
theorem repState.mono {h h' : FH} {cs : List Value} {x : State} (hl : FLe h h') (r : repState h cs x) : repState h' cs x := by
  obtain ⟨A1, c1, A2, c2, e, s0, s1, s2, s3⟩ := r
  exact ⟨A1, c1, A2, c2, e, s0, s1.mono hl, s2, s3.mono hl⟩
theorem repState.one {h : FH} {cs : List Value} {x : State} (r : repState h cs x) : ∀ u ∈ cs, u.oneCell' = true := by
  obtain ⟨A1, c1, A2, c2, e, _, _, _, _⟩ := r
  subst e
  simp [Value.oneCell']
instance : Enc State := ⟨3, repState, repState.len, repState.mono, repState.one, by decide⟩
theorem RowAt.state {h : FH} {A : Option Addr} {xs : List State} (r : RowAt h A xs) {i : Nat} {x : State} (hx : xs[i]? = some x) {w : World} (hs : Sits h w) :
    ∃ b off A1 c1 A2 c2, A = some ⟨b, off, none⟩ ∧ w.cell? ⟨b, off + i * 3, none⟩ = some (.int .i64 x.next) ∧ w.cell? ⟨b, off + i * 3 + 1, none⟩ = some (.slice A1 x.inodes.length c1) ∧ w.cell? ⟨b, off + i * 3 + 2, none⟩ = some (.slice A2 x.bads.length c2) ∧ CapLe A1 x.inodes.length c1 ∧ RowAt h A1 x.inodes ∧ CapLe A2 x.bads.length c2 ∧ RowAt h A2 x.bads := by
  have hp : 0 < xs.length := by have := (List.getElem?_eq_some_iff.1 hx).1; omega
  obtain ⟨b, off, e', f⟩ := r.2 hp
  obtain ⟨cs, hr, hc⟩ := f i x hx
  obtain ⟨A1, c1, A2, c2, e, s0, s1, s2, s3⟩ := hr
  subst e
  exact ⟨b, off, A1, c1, A2, c2, e', hs.cell (hc 0 _ rfl), hs.cell (hc 1 _ rfl), hs.cell (hc 2 _ rfl), s0, s1, s2, s3⟩

structure Geo where
  sectors : Int
  sector : Int
  blocks : Int
  pages : Int
  page : Int
  deriving Inhabited
def repGeo (h : FH) (cs : List Value) (x : Geo) : Prop := cs = [.int .i64 x.sectors, .int .i64 x.sector, .int .i64 x.blocks, .int .i64 x.pages, .int .i64 x.page]
theorem repGeo.len {h : FH} {cs : List Value} {x : Geo} (r : repGeo h cs x) : cs.length = 5 := by
  have e : cs = [.int .i64 x.sectors, .int .i64 x.sector, .int .i64 x.blocks, .int .i64 x.pages, .int .i64 x.page] := r
  rw [e]; rfl
theorem repGeo.mono {h h' : FH} {cs : List Value} {x : Geo} (hl : FLe h h') (r : repGeo h cs x) : repGeo h' cs x := by
  have e : cs = [.int .i64 x.sectors, .int .i64 x.sector, .int .i64 x.blocks, .int .i64 x.pages, .int .i64 x.page] := r
  exact e
theorem repGeo.one {h : FH} {cs : List Value} {x : Geo} (r : repGeo h cs x) : ∀ u ∈ cs, u.oneCell' = true := by
  have e : cs = [.int .i64 x.sectors, .int .i64 x.sector, .int .i64 x.blocks, .int .i64 x.pages, .int .i64 x.page] := r
  subst e
  simp [Value.oneCell']
instance : Enc Geo := ⟨5, repGeo, repGeo.len, repGeo.mono, repGeo.one, by decide⟩
theorem RowAt.geo {h : FH} {A : Option Addr} {xs : List Geo} (r : RowAt h A xs) {i : Nat} {x : Geo} (hx : xs[i]? = some x) {w : World} (hs : Sits h w) :
    ∃ b off , A = some ⟨b, off, none⟩ ∧ w.cell? ⟨b, off + i * 5, none⟩ = some (.int .i64 x.sectors) ∧ w.cell? ⟨b, off + i * 5 + 1, none⟩ = some (.int .i64 x.sector) ∧ w.cell? ⟨b, off + i * 5 + 2, none⟩ = some (.int .i64 x.blocks) ∧ w.cell? ⟨b, off + i * 5 + 3, none⟩ = some (.int .i64 x.pages) ∧ w.cell? ⟨b, off + i * 5 + 4, none⟩ = some (.int .i64 x.page) := by
  have hp : 0 < xs.length := by have := (List.getElem?_eq_some_iff.1 hx).1; omega
  obtain ⟨b, off, e', f⟩ := r.2 hp
  obtain ⟨cs, hr, hc⟩ := f i x hx
  have e : cs = [.int .i64 x.sectors, .int .i64 x.sector, .int .i64 x.blocks, .int .i64 x.pages, .int .i64 x.page] := hr
  subst e
  exact ⟨b, off, e', hs.cell (hc 0 _ rfl), hs.cell (hc 1 _ rfl), hs.cell (hc 2 _ rfl), hs.cell (hc 3 _ rfl), hs.cell (hc 4 _ rfl)⟩

structure ROp where
  index : Int
  at_ : Int
  n : Int
  deriving Inhabited
def repROp (h : FH) (cs : List Value) (x : ROp) : Prop := cs = [.int .i64 x.index, .int .i64 x.at_, .int .i64 x.n]
theorem repROp.len {h : FH} {cs : List Value} {x : ROp} (r : repROp h cs x) : cs.length = 3 := by
  have e : cs = [.int .i64 x.index, .int .i64 x.at_, .int .i64 x.n] := r
  rw [e]; rfl
theorem repROp.mono {h h' : FH} {cs : List Value} {x : ROp} (hl : FLe h h') (r : repROp h cs x) : repROp h' cs x := by
  have e : cs = [.int .i64 x.index, .int .i64 x.at_, .int .i64 x.n] := r
  exact e
theorem repROp.one {h : FH} {cs : List Value} {x : ROp} (r : repROp h cs x) : ∀ u ∈ cs, u.oneCell' = true := by
  have e : cs = [.int .i64 x.index, .int .i64 x.at_, .int .i64 x.n] := r
  subst e
  simp [Value.oneCell']
instance : Enc ROp := ⟨3, repROp, repROp.len, repROp.mono, repROp.one, by decide⟩
theorem RowAt.rop {h : FH} {A : Option Addr} {xs : List ROp} (r : RowAt h A xs) {i : Nat} {x : ROp} (hx : xs[i]? = some x) {w : World} (hs : Sits h w) :
    ∃ b off , A = some ⟨b, off, none⟩ ∧ w.cell? ⟨b, off + i * 3, none⟩ = some (.int .i64 x.index) ∧ w.cell? ⟨b, off + i * 3 + 1, none⟩ = some (.int .i64 x.at_) ∧ w.cell? ⟨b, off + i * 3 + 2, none⟩ = some (.int .i64 x.n) := by
  have hp : 0 < xs.length := by have := (List.getElem?_eq_some_iff.1 hx).1; omega
  obtain ⟨b, off, e', f⟩ := r.2 hp
  obtain ⟨cs, hr, hc⟩ := f i x hx
  have e : cs = [.int .i64 x.index, .int .i64 x.at_, .int .i64 x.n] := hr
  subst e
  exact ⟨b, off, e', hs.cell (hc 0 _ rfl), hs.cell (hc 1 _ rfl), hs.cell (hc 2 _ rfl)⟩

structure POp where
  kind : Int
  path : ByteArray
  other : ByteArray
  n : Int
  deriving Inhabited
def repPOp (h : FH) (cs : List Value) (x : POp) : Prop := cs = [.int .i64 x.kind, .string x.path, .string x.other, .int .i64 x.n] ∧ x.path.size ≤ 9223372036854775807 ∧ x.other.size ≤ 9223372036854775807
theorem repPOp.len {h : FH} {cs : List Value} {x : POp} (r : repPOp h cs x) : cs.length = 4 := by
  obtain ⟨e, _, _⟩ := r
  rw [e]; rfl
theorem repPOp.mono {h h' : FH} {cs : List Value} {x : POp} (hl : FLe h h') (r : repPOp h cs x) : repPOp h' cs x := by
  obtain ⟨e, s0, s1⟩ := r
  exact ⟨e, s0, s1⟩
theorem repPOp.one {h : FH} {cs : List Value} {x : POp} (r : repPOp h cs x) : ∀ u ∈ cs, u.oneCell' = true := by
  obtain ⟨e, _, _⟩ := r
  subst e
  simp [Value.oneCell']
instance : Enc POp := ⟨4, repPOp, repPOp.len, repPOp.mono, repPOp.one, by decide⟩
theorem RowAt.pop {h : FH} {A : Option Addr} {xs : List POp} (r : RowAt h A xs) {i : Nat} {x : POp} (hx : xs[i]? = some x) {w : World} (hs : Sits h w) :
    ∃ b off , A = some ⟨b, off, none⟩ ∧ w.cell? ⟨b, off + i * 4, none⟩ = some (.int .i64 x.kind) ∧ w.cell? ⟨b, off + i * 4 + 1, none⟩ = some (.string x.path) ∧ w.cell? ⟨b, off + i * 4 + 2, none⟩ = some (.string x.other) ∧ w.cell? ⟨b, off + i * 4 + 3, none⟩ = some (.int .i64 x.n) ∧ x.path.size ≤ 9223372036854775807 ∧ x.other.size ≤ 9223372036854775807 := by
  have hp : 0 < xs.length := by have := (List.getElem?_eq_some_iff.1 hx).1; omega
  obtain ⟨b, off, e', f⟩ := r.2 hp
  obtain ⟨cs, hr, hc⟩ := f i x hx
  obtain ⟨e, s0, s1⟩ := hr
  subst e
  exact ⟨b, off, e', hs.cell (hc 0 _ rfl), hs.cell (hc 1 _ rfl), hs.cell (hc 2 _ rfl), hs.cell (hc 3 _ rfl), s0, s1⟩

theorem RowAt.int {h : FH} {A : Option Addr} {xs : List Int} (r : RowAt h A xs) {i : Nat} {x : Int} (hx : xs[i]? = some x) {w : World} (hs : Sits h w) : ∃ b off, A = some ⟨b, off, none⟩ ∧ w.cell? ⟨b, off + i, none⟩ = some (.int .i64 x) := by
  have hp : 0 < xs.length := by have := (List.getElem?_eq_some_iff.1 hx).1; omega
  obtain ⟨b, off, e, f⟩ := r.2 hp
  obtain ⟨cs, hr, hc⟩ := f i x hx
  have hr : cs = [.int .i64 x] := hr
  subst hr
  refine ⟨b, off, e, hs.cell ?_⟩
  have := hc 0 _ rfl
  rwa [show off + i * Enc.sz Int + 0 = off + i from by show off + i * 1 + 0 = off + i; omega] at this
theorem RowAt.str {h : FH} {A : Option Addr} {xs : List ByteArray} (r : RowAt h A xs) {i : Nat} {x : ByteArray} (hx : xs[i]? = some x) {w : World} (hs : Sits h w) : ∃ b off, A = some ⟨b, off, none⟩ ∧ w.cell? ⟨b, off + i, none⟩ = some (.string x) ∧ x.size ≤ 9223372036854775807 := by
  have hp : 0 < xs.length := by have := (List.getElem?_eq_some_iff.1 hx).1; omega
  obtain ⟨b, off, e, f⟩ := r.2 hp
  obtain ⟨cs, hr, hc⟩ := f i x hx
  obtain ⟨hr, hsz⟩ : cs = [.string x] ∧ x.size ≤ 9223372036854775807 := hr
  subst hr
  refine ⟨b, off, e, hs.cell ?_, hsz⟩
  have := hc 0 _ rfl
  rwa [show off + i * Enc.sz ByteArray + 0 = off + i from by show off + i * 1 + 0 = off + i; omega] at this

theorem list_2 {α : Type} : ∀ (l : List α), l.length = 2 → ∃ a0 a1, l = [a0, a1]
  | [a0, a1], _ => ⟨a0, a1, rfl⟩
theorem list_3 {α : Type} : ∀ (l : List α), l.length = 3 → ∃ a0 a1 a2, l = [a0, a1, a2]
  | [a0, a1, a2], _ => ⟨a0, a1, a2, rfl⟩
theorem list_4 {α : Type} : ∀ (l : List α), l.length = 4 → ∃ a0 a1 a2 a3, l = [a0, a1, a2, a3]
  | [a0, a1, a2, a3], _ => ⟨a0, a1, a2, a3, rfl⟩
theorem list_5 {α : Type} : ∀ (l : List α), l.length = 5 → ∃ a0 a1 a2 a3 a4, l = [a0, a1, a2, a3, a4]
  | [a0, a1, a2, a3, a4], _ => ⟨a0, a1, a2, a3, a4, rfl⟩
theorem list_7 {α : Type} : ∀ (l : List α), l.length = 7 → ∃ a0 a1 a2 a3 a4 a5 a6, l = [a0, a1, a2, a3, a4, a5, a6]
  | [a0, a1, a2, a3, a4, a5, a6], _ => ⟨a0, a1, a2, a3, a4, a5, a6, rfl⟩
theorem list_9 {α : Type} : ∀ (l : List α), l.length = 9 → ∃ a0 a1 a2 a3 a4 a5 a6 a7 a8, l = [a0, a1, a2, a3, a4, a5, a6, a7, a8]
  | [a0, a1, a2, a3, a4, a5, a6, a7, a8], _ => ⟨a0, a1, a2, a3, a4, a5, a6, a7, a8, rfl⟩
theorem open_int' : Opens Int Try.prog 3 := Opens.int Try.underlying3
theorem open_bool' : Opens Bool Try.prog 4 := Opens.bool Try.underlying4
theorem open_str' : Opens ByteArray Try.prog 9 := Opens.string Try.underlying9
theorem open_LInt : Opens (List Int) Try.prog 29 := Opens.slice Try.underlying29 (by kernel_rfl) open_int'
theorem open_Run : Opens Run Try.prog 46 := by
  intro H enc W sp held fuel cs d ps h
  obtain ⟨hl, fu, g⟩ := trod_fields Try.underlying46 h
  rw [show Try.prog.cellsOf 46 = 3 from by kernel_rfl] at hl
  obtain ⟨k0, k1, k2, rfl⟩ := list_3 cs hl
  obtain ⟨d0, q0, h0⟩ := g 0 _ rfl
  rw [show Try.prog.cellsOf 3 = 1 from by kernel_rfl] at h0
  obtain ⟨x0, e0⟩ := open_int' enc W sp held fu _ _ _ h0
  have e0 : [k0] = [.int .i64 x0] := e0
  obtain rfl := List.singleton_inj.1 e0
  obtain ⟨d1, q1, h1⟩ := g 1 _ rfl
  rw [show Try.prog.cellsOf 3 = 1 from by kernel_rfl] at h1
  obtain ⟨x1, e1⟩ := open_int' enc W sp held fu _ _ _ h1
  have e1 : [k1] = [.int .i64 x1] := e1
  obtain rfl := List.singleton_inj.1 e1
  obtain ⟨d2, q2, h2⟩ := g 2 _ rfl
  rw [show Try.prog.cellsOf 3 = 1 from by kernel_rfl] at h2
  obtain ⟨x2, e2⟩ := open_int' enc W sp held fu _ _ _ h2
  have e2 : [k2] = [.int .i64 x2] := e2
  obtain rfl := List.singleton_inj.1 e2
  exact ⟨⟨x0, x1, x2⟩, show repRun _ _ _ from rfl⟩
theorem open_LRun : Opens (List Run) Try.prog 35 := Opens.slice Try.underlying35 (by kernel_rfl) open_Run
theorem open_Entry : Opens Entry Try.prog 44 := by
  intro H enc W sp held fuel cs d ps h
  obtain ⟨hl, fu, g⟩ := trod_fields Try.underlying44 h
  rw [show Try.prog.cellsOf 44 = 2 from by kernel_rfl] at hl
  obtain ⟨k0, k1, rfl⟩ := list_2 cs hl
  obtain ⟨d0, q0, h0⟩ := g 0 _ rfl
  rw [show Try.prog.cellsOf 9 = 1 from by kernel_rfl] at h0
  obtain ⟨x0, e0⟩ := open_str' enc W sp held fu _ _ _ h0
  obtain ⟨e0, s0⟩ : [k0] = [.string x0] ∧ x0.size ≤ 9223372036854775807 := e0
  obtain rfl := List.singleton_inj.1 e0
  obtain ⟨d1, q1, h1⟩ := g 1 _ rfl
  rw [show Try.prog.cellsOf 3 = 1 from by kernel_rfl] at h1
  obtain ⟨x1, e1⟩ := open_int' enc W sp held fu _ _ _ h1
  have e1 : [k1] = [.int .i64 x1] := e1
  obtain rfl := List.singleton_inj.1 e1
  exact ⟨⟨x0, x1⟩, show repEntry _ _ _ from ⟨rfl, s0⟩⟩
theorem open_LEntry : Opens (List Entry) Try.prog 34 := Opens.slice Try.underlying34 (by kernel_rfl) open_Entry
theorem open_Inode : Opens Inode Try.prog 37 := by
  intro H enc W sp held fuel cs d ps h
  obtain ⟨hl, fu, g⟩ := trod_fields Try.underlying37 h
  rw [show Try.prog.cellsOf 37 = 7 from by kernel_rfl] at hl
  obtain ⟨k0, k1, k2, k3, k4, k5, k6, rfl⟩ := list_7 cs hl
  obtain ⟨d0, q0, h0⟩ := g 0 _ rfl
  rw [show Try.prog.cellsOf 3 = 1 from by kernel_rfl] at h0
  obtain ⟨x0, e0⟩ := open_int' enc W sp held fu _ _ _ h0
  have e0 : [k0] = [.int .i64 x0] := e0
  obtain rfl := List.singleton_inj.1 e0
  obtain ⟨d1, q1, h1⟩ := g 1 _ rfl
  rw [show Try.prog.cellsOf 3 = 1 from by kernel_rfl] at h1
  obtain ⟨x1, e1⟩ := open_int' enc W sp held fu _ _ _ h1
  have e1 : [k1] = [.int .i64 x1] := e1
  obtain rfl := List.singleton_inj.1 e1
  obtain ⟨d2, q2, h2⟩ := g 2 _ rfl
  rw [show Try.prog.cellsOf 3 = 1 from by kernel_rfl] at h2
  obtain ⟨x2, e2⟩ := open_int' enc W sp held fu _ _ _ h2
  have e2 : [k2] = [.int .i64 x2] := e2
  obtain rfl := List.singleton_inj.1 e2
  obtain ⟨d3, q3, h3⟩ := g 3 _ rfl
  rw [show Try.prog.cellsOf 3 = 1 from by kernel_rfl] at h3
  obtain ⟨x3, e3⟩ := open_int' enc W sp held fu _ _ _ h3
  have e3 : [k3] = [.int .i64 x3] := e3
  obtain rfl := List.singleton_inj.1 e3
  obtain ⟨d4, q4, h4⟩ := g 4 _ rfl
  rw [show Try.prog.cellsOf 9 = 1 from by kernel_rfl] at h4
  obtain ⟨x4, e4⟩ := open_str' enc W sp held fu _ _ _ h4
  obtain ⟨e4, s4⟩ : [k4] = [.string x4] ∧ x4.size ≤ 9223372036854775807 := e4
  obtain rfl := List.singleton_inj.1 e4
  obtain ⟨d5, q5, h5⟩ := g 5 _ rfl
  rw [show Try.prog.cellsOf 34 = 1 from by kernel_rfl] at h5
  obtain ⟨x5, e5⟩ := open_LEntry enc W sp held fu _ _ _ h5
  obtain ⟨A5, c5, e5, l5, r5⟩ := e5
  have e5 : [k5] = [.slice A5 x5.length c5] := e5
  obtain rfl := List.singleton_inj.1 e5
  have l5 := CapLe.opens Try.underlying34 enc W sp held fu _ _ _ _ _ h5
  obtain ⟨d6, q6, h6⟩ := g 6 _ rfl
  rw [show Try.prog.cellsOf 35 = 1 from by kernel_rfl] at h6
  obtain ⟨x6, e6⟩ := open_LRun enc W sp held fu _ _ _ h6
  obtain ⟨A6, c6, e6, l6, r6⟩ := e6
  have e6 : [k6] = [.slice A6 x6.length c6] := e6
  obtain rfl := List.singleton_inj.1 e6
  have l6 := CapLe.opens Try.underlying35 enc W sp held fu _ _ _ _ _ h6
  exact ⟨⟨x0, x1, x2, x3, x4, x5, x6⟩, show repInode _ _ _ from ⟨A5, c5, A6, c6, rfl, s4, l5, r5, l6, r6⟩⟩
theorem open_LInode : Opens (List Inode) Try.prog 28 := Opens.slice Try.underlying28 (by kernel_rfl) open_Inode
theorem open_Deed : Opens Deed Try.prog 39 := by
  intro H enc W sp held fuel cs d ps h
  obtain ⟨hl, fu, g⟩ := trod_fields Try.underlying39 h
  rw [show Try.prog.cellsOf 39 = 9 from by kernel_rfl] at hl
  obtain ⟨k0, k1, k2, k3, k4, k5, k6, k7, k8, rfl⟩ := list_9 cs hl
  obtain ⟨d0, q0, h0⟩ := g 0 _ rfl
  rw [show Try.prog.cellsOf 3 = 1 from by kernel_rfl] at h0
  obtain ⟨x0, e0⟩ := open_int' enc W sp held fu _ _ _ h0
  have e0 : [k0] = [.int .i64 x0] := e0
  obtain rfl := List.singleton_inj.1 e0
  obtain ⟨d1, q1, h1⟩ := g 1 _ rfl
  rw [show Try.prog.cellsOf 3 = 1 from by kernel_rfl] at h1
  obtain ⟨x1, e1⟩ := open_int' enc W sp held fu _ _ _ h1
  have e1 : [k1] = [.int .i64 x1] := e1
  obtain rfl := List.singleton_inj.1 e1
  obtain ⟨d2, q2, h2⟩ := g 2 _ rfl
  rw [show Try.prog.cellsOf 37 = 7 from by kernel_rfl] at h2
  obtain ⟨x2, e2⟩ := open_Inode enc W sp held fu _ _ _ h2
  obtain ⟨A7, c7, A8, c8, e2, t0, t1, t2, t3, t4⟩ := e2
  have e2 : [k2, k3, k4, k5, k6, k7, k8] = [.int .i64 x2.no, .int .i64 x2.kind, .int .i64 x2.links, .int .i64 x2.size, .string x2.target, .slice A7 x2.entries.length c7, .slice A8 x2.runs.length c8] := e2
  simp only [List.cons.injEq, and_true] at e2
  obtain ⟨rfl, rfl, rfl, rfl, rfl, rfl, rfl⟩ := e2
  exact ⟨⟨x0, x1, x2⟩, show repDeed _ _ _ from ⟨A7, c7, A8, c8, rfl, t0, t1, t2, t3, t4⟩⟩
theorem open_LDeed : Opens (List Deed) Try.prog 40 := Opens.slice Try.underlying40 (by kernel_rfl) open_Deed
theorem open_State : Opens State Try.prog 31 := by
  intro H enc W sp held fuel cs d ps h
  obtain ⟨hl, fu, g⟩ := trod_fields Try.underlying31 h
  rw [show Try.prog.cellsOf 31 = 3 from by kernel_rfl] at hl
  obtain ⟨k0, k1, k2, rfl⟩ := list_3 cs hl
  obtain ⟨d0, q0, h0⟩ := g 0 _ rfl
  rw [show Try.prog.cellsOf 3 = 1 from by kernel_rfl] at h0
  obtain ⟨x0, e0⟩ := open_int' enc W sp held fu _ _ _ h0
  have e0 : [k0] = [.int .i64 x0] := e0
  obtain rfl := List.singleton_inj.1 e0
  obtain ⟨d1, q1, h1⟩ := g 1 _ rfl
  rw [show Try.prog.cellsOf 28 = 1 from by kernel_rfl] at h1
  obtain ⟨x1, e1⟩ := open_LInode enc W sp held fu _ _ _ h1
  obtain ⟨A1, c1, e1, l1, r1⟩ := e1
  have e1 : [k1] = [.slice A1 x1.length c1] := e1
  obtain rfl := List.singleton_inj.1 e1
  have l1 := CapLe.opens Try.underlying28 enc W sp held fu _ _ _ _ _ h1
  obtain ⟨d2, q2, h2⟩ := g 2 _ rfl
  rw [show Try.prog.cellsOf 29 = 1 from by kernel_rfl] at h2
  obtain ⟨x2, e2⟩ := open_LInt enc W sp held fu _ _ _ h2
  obtain ⟨A2, c2, e2, l2, r2⟩ := e2
  have e2 : [k2] = [.slice A2 x2.length c2] := e2
  obtain rfl := List.singleton_inj.1 e2
  have l2 := CapLe.opens Try.underlying29 enc W sp held fu _ _ _ _ _ h2
  exact ⟨⟨x0, x1, x2⟩, show repState _ _ _ from ⟨A1, c1, A2, c2, rfl, l1, r1, l2, r2⟩⟩
theorem open_Geo : Opens Geo Try.prog 26 := by
  intro H enc W sp held fuel cs d ps h
  obtain ⟨hl, fu, g⟩ := trod_fields Try.underlying26 h
  rw [show Try.prog.cellsOf 26 = 5 from by kernel_rfl] at hl
  obtain ⟨k0, k1, k2, k3, k4, rfl⟩ := list_5 cs hl
  obtain ⟨d0, q0, h0⟩ := g 0 _ rfl
  rw [show Try.prog.cellsOf 3 = 1 from by kernel_rfl] at h0
  obtain ⟨x0, e0⟩ := open_int' enc W sp held fu _ _ _ h0
  have e0 : [k0] = [.int .i64 x0] := e0
  obtain rfl := List.singleton_inj.1 e0
  obtain ⟨d1, q1, h1⟩ := g 1 _ rfl
  rw [show Try.prog.cellsOf 3 = 1 from by kernel_rfl] at h1
  obtain ⟨x1, e1⟩ := open_int' enc W sp held fu _ _ _ h1
  have e1 : [k1] = [.int .i64 x1] := e1
  obtain rfl := List.singleton_inj.1 e1
  obtain ⟨d2, q2, h2⟩ := g 2 _ rfl
  rw [show Try.prog.cellsOf 3 = 1 from by kernel_rfl] at h2
  obtain ⟨x2, e2⟩ := open_int' enc W sp held fu _ _ _ h2
  have e2 : [k2] = [.int .i64 x2] := e2
  obtain rfl := List.singleton_inj.1 e2
  obtain ⟨d3, q3, h3⟩ := g 3 _ rfl
  rw [show Try.prog.cellsOf 3 = 1 from by kernel_rfl] at h3
  obtain ⟨x3, e3⟩ := open_int' enc W sp held fu _ _ _ h3
  have e3 : [k3] = [.int .i64 x3] := e3
  obtain rfl := List.singleton_inj.1 e3
  obtain ⟨d4, q4, h4⟩ := g 4 _ rfl
  rw [show Try.prog.cellsOf 3 = 1 from by kernel_rfl] at h4
  obtain ⟨x4, e4⟩ := open_int' enc W sp held fu _ _ _ h4
  have e4 : [k4] = [.int .i64 x4] := e4
  obtain rfl := List.singleton_inj.1 e4
  exact ⟨⟨x0, x1, x2, x3, x4⟩, show repGeo _ _ _ from rfl⟩
theorem open_POp : Opens POp Try.prog 59 := by
  intro H enc W sp held fuel cs d ps h
  obtain ⟨hl, fu, g⟩ := trod_fields Try.underlying59 h
  rw [show Try.prog.cellsOf 59 = 4 from by kernel_rfl] at hl
  obtain ⟨k0, k1, k2, k3, rfl⟩ := list_4 cs hl
  obtain ⟨d0, q0, h0⟩ := g 0 _ rfl
  rw [show Try.prog.cellsOf 3 = 1 from by kernel_rfl] at h0
  obtain ⟨x0, e0⟩ := open_int' enc W sp held fu _ _ _ h0
  have e0 : [k0] = [.int .i64 x0] := e0
  obtain rfl := List.singleton_inj.1 e0
  obtain ⟨d1, q1, h1⟩ := g 1 _ rfl
  rw [show Try.prog.cellsOf 9 = 1 from by kernel_rfl] at h1
  obtain ⟨x1, e1⟩ := open_str' enc W sp held fu _ _ _ h1
  obtain ⟨e1, s1⟩ : [k1] = [.string x1] ∧ x1.size ≤ 9223372036854775807 := e1
  obtain rfl := List.singleton_inj.1 e1
  obtain ⟨d2, q2, h2⟩ := g 2 _ rfl
  rw [show Try.prog.cellsOf 9 = 1 from by kernel_rfl] at h2
  obtain ⟨x2, e2⟩ := open_str' enc W sp held fu _ _ _ h2
  obtain ⟨e2, s2⟩ : [k2] = [.string x2] ∧ x2.size ≤ 9223372036854775807 := e2
  obtain rfl := List.singleton_inj.1 e2
  obtain ⟨d3, q3, h3⟩ := g 3 _ rfl
  rw [show Try.prog.cellsOf 3 = 1 from by kernel_rfl] at h3
  obtain ⟨x3, e3⟩ := open_int' enc W sp held fu _ _ _ h3
  have e3 : [k3] = [.int .i64 x3] := e3
  obtain rfl := List.singleton_inj.1 e3
  exact ⟨⟨x0, x1, x2, x3⟩, show repPOp _ _ _ from ⟨rfl, s1, s2⟩⟩
theorem open_LPOp : Opens (List POp) Try.prog 22 := Opens.slice Try.underlying22 (by kernel_rfl) open_POp
end Go.Proofs.Ytkglaofiencfdaa

namespace Go.Proofs.Ytkglaofiencfdaa
open Go.RowKit Go.Sort
open Go.ChangeMaps (setBlock heap_setBlock_same heap_setBlock_other modify_eq_set)
open Go.WideElems (findIdx_arr findIdx_born modify_last set_self)
set_option linter.unusedVariables false

/-! ### maps, key by key -/
section
variable {κ : Type} [DecidableEq κ]
/-- The entries as they lie: the key, the value, the stamp. -/
def mkE (enc : κ → Value) (e : κ × Value × Nat) : MapEntry := ⟨enc e.1, e.2.1, e.2.2⟩
def lk : List (κ × Value × Nat) → κ → Option Value
  | [], _ => none
  | e :: es, a => if a = e.1 then some e.2.1 else lk es a
def ix : List (κ × Value × Nat) → κ → Nat → Option (Nat × Value)
  | [], _, _ => none
  | e :: es, a, i => if a = e.1 then some (i, e.2.1) else ix es a (i + 1)
/-- What is asked of a key's type. -/
structure KeyT (κ : Type) [DecidableEq κ] (P : Program) (k : TypeId) (enc : κ → Value) : Prop where
  check : ∀ w em a, (Instr.checkKey em 10000 k (enc a)).run P w = .ok () w
  find : ∀ w a (kv : List (κ × Value × Nat)), (Instr.findKey k (enc a) (kv.map (mkE enc))).run P w = .ok (ix kv a 0) w
  stays : ∀ w a, (Instr.keyThatStays (enc a) (enc a)).run P w = .ok (enc a) w
theorem ix_none : ∀ {kv : List (κ × Value × Nat)} {a : κ} {i : Nat}, ix kv a i = none → lk kv a = none ∧ ∀ e ∈ kv, e.1 ≠ a
  | [], _, _, _ => ⟨rfl, fun e he => by cases he⟩
  | e :: es, a, i, h => by
    unfold ix at h
    split at h
    · cases h
    · rename_i hne
      obtain ⟨h1, h2⟩ := ix_none h
      refine ⟨by simp only [lk, if_neg hne]; exact h1, fun x hx => ?_⟩
      rcases List.mem_cons.1 hx with rfl | hx
      · exact fun e => hne e.symm
      · exact h2 x hx
theorem ix_some : ∀ {kv : List (κ × Value × Nat)} {a : κ} {i j : Nat} {v : Value}, ix kv a i = some (j, v) → lk kv a = some v ∧ i ≤ j ∧ ∃ s, kv[j - i]? = some (a, v, s)
  | [], _, _, _, _, h => by cases h
  | e :: es, a, i, j, v, h => by
    unfold ix at h
    split at h
    · rename_i he
      cases h
      refine ⟨by simp only [lk, if_pos he], Nat.le_refl _, e.2.2, by simp [he]⟩
    · rename_i hne
      obtain ⟨h1, h2, s, h3⟩ := ix_some h
      refine ⟨by simp only [lk, if_neg hne]; exact h1, by omega, s, ?_⟩
      rw [show j - i = (j - (i + 1)) + 1 from by omega]
      simpa using h3
theorem lk_append_new : ∀ {kv : List (κ × Value × Nat)} {a : κ} {v : Value} {s : Nat} (x : κ), (∀ e ∈ kv, e.1 ≠ a) → lk (kv ++ [(a, v, s)]) x = if x = a then some v else lk kv x
  | [], a, v, s, x, _ => by simp [lk]
  | e :: es, a, v, s, x, h => by
    simp only [List.cons_append, lk]
    by_cases hx : x = e.1
    · rw [if_pos hx, if_pos hx, if_neg (fun e' => h e (by simp) (by rw [← hx, e']))]
    · rw [if_neg hx, if_neg hx, lk_append_new x (fun y hy => h y (by simp [hy]))]
theorem lk_set : ∀ {kv : List (κ × Value × Nat)} {a : κ} {v u : Value} {s s' j : Nat} (x : κ), kv[j]? = some (a, v, s) → (kv.map (·.1)).Nodup → lk (kv.set j (a, u, s')) x = if x = a then some u else lk kv x
  | [], _, _, _, _, _, _, _, h, _ => by simp at h
  | e :: es, a, v, u, s, s', 0, x, h, hn => by
    simp at h
    subst h
    simp only [List.set_cons_zero, lk]
    by_cases hx : x = a
    · rw [if_pos hx, if_pos hx]
    · rw [if_neg hx, if_neg hx, if_neg hx]
  | e :: es, a, v, u, s, s', j + 1, x, h, hn => by
    simp only [List.set_cons_succ, lk]
    simp only [List.map_cons, List.nodup_cons] at hn
    have hne : e.1 ≠ a := fun h' => hn.1 (by rw [h']; exact List.mem_map.2 ⟨(a, v, s), List.mem_of_getElem? (by simpa using h), rfl⟩)
    by_cases hx : x = e.1
    · rw [if_pos hx, if_pos hx, if_neg (by rw [hx]; exact hne)]
    · rw [if_neg hx, if_neg hx]
      exact lk_set x (by simpa using h) hn.2

variable {P : Program} {k : TypeId} {enc : κ → Value}
/-- Block b is a map that has just these values. -/
def MapIs (enc : κ → Value) (w : World) (b : Nat) (f : κ → Option Value) : Prop :=
  ∃ kv clock, w.heap[b]? = some (.map (kv.map (mkE enc)).toArray clock) ∧ (kv.map (·.1)).Nodup ∧ (kv.map (·.2.2)).Nodup ∧ (∀ e ∈ kv, e.2.2 < clock) ∧ ∀ a, lk kv a = f a
theorem MapIs.made (enc : κ → Value) (w : World) : MapIs enc (w.alloc (.map #[] 0)) w.heap.size (fun _ => none) :=
  ⟨[], 0, (MapKept.heap_alloc w _).1, by simp, by simp, by simp, fun _ => rfl⟩
theorem MapIs.lt {w : World} {b : Nat} {f : κ → Option Value} (m : MapIs enc w b f) : b < w.heap.size := by
  obtain ⟨kv, clock, hb, _⟩ := m
  exact (Array.getElem?_eq_some_iff.1 hb).1
theorem MapIs.congr {w : World} {b : Nat} {f g : κ → Option Value} (m : MapIs enc w b f) (h : ∀ a, f a = g a) : MapIs enc w b g := by
  obtain ⟨kv, clock, hb, h1, h2, h3, h4⟩ := m
  exact ⟨kv, clock, hb, h1, h2, h3, fun a => (h4 a).trans (h a)⟩
theorem MapIs.of_block {w w' : World} {b : Nat} {f : κ → Option Value} (m : MapIs enc w b f) (e : w'.heap[b]? = w.heap[b]?) : MapIs enc w' b f := by
  obtain ⟨kv, clock, hb, h⟩ := m
  exact ⟨kv, clock, e.trans hb, h⟩
theorem MapIs.alloc {w : World} {b : Nat} {f : κ → Option Value} (m : MapIs enc w b f) (o : Obj) : MapIs enc (w.alloc o) b f := m.of_block (Below.heap_alloc _ _ _ m.lt)
theorem MapIs.drew {w : World} {b : Nat} {f : κ → Option Value} (m : MapIs enc w b f) : MapIs enc w.drew b f := m.of_block rfl
theorem MapIs.ext {h h1 : FH} {w w1 : World} {b : Nat} {f : κ → Option Value} (m : MapIs enc w b f) (a : Ext h w h1 w1) : MapIs enc w1 b f := m.of_block (a.below.block b m.lt)
theorem MapIs.setCell {w : World} {b : Nat} {f : κ → Option Value} (m : MapIs enc w b f) {p : Addr} (hp : b ≠ p.block) (v : Value) : MapIs enc (w.setCell p v) b f := m.of_block (Below.heap_setCell _ _ _ _ hp)

/-- A map that stays as it is. -/
def FMap (enc : κ → Value) (h : FH) (b : Nat) (f : κ → Option Value) : Prop := ∀ w, Sits h w → MapIs enc w b f
theorem FMap.mono {h h' : FH} {b : Nat} {f : κ → Option Value} (hl : FLe h h') (m : FMap enc h b f) : FMap enc h' b f := fun w hs => m w fun x o hx => hs x o (hl x o hx)
/-- From now on it stays as it is. -/
theorem MapIs.freeze {h0 h : FH} {w0 w : World} {b : Nat} {f : κ → Option Value} (m : MapIs enc w b f) (E : Ext h0 w0 h w) (hn : h b = none) (hb : w0.heap.size ≤ b) : ∃ h', Ext h0 w0 h' w ∧ FLe h h' ∧ FMap enc h' b f ∧ ∀ x, x ≠ b → h' x = h x := by
  have hlt := m.lt
  obtain ⟨o, ho⟩ : ∃ o, w.heap[b]? = some o := ⟨w.heap[b], Array.getElem?_eq_getElem hlt⟩
  exact ⟨h.add b o, E.add ho hn hb, FLe.add hn o, fun w' hs => m.of_block ((hs b o (FH.add_same h b o)).trans ho.symm), fun x hx => FH.add_other h o hx⟩

theorem MapIs.look {w : World} {b : Nat} {f : κ → Option Value} {t e : TypeId} (m : MapIs enc w b f) (K : KeyT κ P k enc) (ht : P.underlying t = some (.map k e)) {z : Value} (hz : ∀ w, (zeroValue e).run P w = .ok z w) (a : κ) :
    (Instr.lookup t (.map (some b)) (enc a) false).run P w = .ok ((f a).getD z) w := by
  obtain ⟨kv, clock, hb, h1, h2, h3, h4⟩ := m
  rw [← h4 a]
  cases hi : ix kv a 0 with
  | none =>
    obtain ⟨e1, _⟩ := ix_none hi
    simp [Instr.lookup, run_underlying ht, MapKept.run_getObj_map hb, K.check, K.find, hi, e1, hz, Result.andThen]
  | some jv =>
    obtain ⟨e1, _⟩ := ix_some hi
    simp [Instr.lookup, run_underlying ht, MapKept.run_getObj_map hb, K.check, K.find, hi, e1, Result.andThen]
theorem MapIs.lookOk {w : World} {b : Nat} {f : κ → Option Value} {t e : TypeId} (m : MapIs enc w b f) (K : KeyT κ P k enc) (ht : P.underlying t = some (.map k e)) {z : Value} (hz : ∀ w, (zeroValue e).run P w = .ok z w) (a : κ) :
    (Instr.lookup t (.map (some b)) (enc a) true).run P w = .ok (.tuple #[(f a).getD z, .bool (f a).isSome]) w := by
  obtain ⟨kv, clock, hb, h1, h2, h3, h4⟩ := m
  rw [← h4 a]
  cases hi : ix kv a 0 with
  | none =>
    obtain ⟨e1, _⟩ := ix_none hi
    simp [Instr.lookup, run_underlying ht, MapKept.run_getObj_map hb, K.check, K.find, hi, e1, hz, Result.andThen]
  | some jv =>
    obtain ⟨e1, _⟩ := ix_some hi
    simp [Instr.lookup, run_underlying ht, MapKept.run_getObj_map hb, K.check, K.find, hi, e1, Result.andThen]
theorem grownBy_setBlock (w : World) (b : Nat) {es : Array MapEntry} {c : Nat} (o' : Obj) (hb : w.heap[b]? = some (.map es c)) : w.grownBy (setBlock w b o') (some b) :=
  ⟨rfl, rfl, rfl, by simp [setBlock], fun i _ hi => heap_setBlock_other hb _ (fun e => hi (by rw [e]))⟩
/-- m[a] = v. -/
theorem MapIs.update {w : World} {b : Nat} {f : κ → Option Value} {t e : TypeId} (m : MapIs enc w b f) (K : KeyT κ P k enc) (ht : P.underlying t = some (.map k e)) (a : κ) (v : Value) :
    ∃ w', (Instr.mapUpdate t (.map (some b)) (enc a) v).run P w = .ok () w' ∧ MapIs enc w' b (fun x => if x = a then some v else f x) ∧ w.grownBy w' (some b) := by
  obtain ⟨kv, clock, hb, h1, h2, h3, h4⟩ := m
  cases hi : ix kv a 0 with
  | none =>
    obtain ⟨e1, e2⟩ := ix_none hi
    refine ⟨setBlock w b (.map ((kv.map (mkE enc)).toArray.push ⟨enc a, v, clock⟩) (clock + 1)), ?_, ⟨kv ++ [(a, v, clock)], clock + 1, ?_, ?_, ?_, ?_, fun x => ?_⟩, grownBy_setBlock w b _ hb⟩
    · simp [Instr.mapUpdate, run_underlying ht, MapKept.run_getObj_map hb, K.check, K.find, hi, MapKept.run_setObj_map _ hb, Result.andThen, setBlock]
    · rw [heap_setBlock_same hb]; simp [mkE]
    · simp only [List.map_append, List.map_cons, List.map_nil]
      exact List.nodup_append.2 ⟨h1, by simp, fun x hx y hy => by
        simp at hy; subst hy
        obtain ⟨z, hz, rfl⟩ := List.mem_map.1 hx
        exact e2 z hz⟩
    · simp only [List.map_append, List.map_cons, List.map_nil]
      exact List.nodup_append.2 ⟨h2, by simp, fun x hx y hy => by
        simp at hy; subst hy
        obtain ⟨z, hz, rfl⟩ := List.mem_map.1 hx
        have := h3 z hz
        omega⟩
    · intro x hx
      rcases List.mem_append.1 hx with hx | hx
      · have := h3 x hx; omega
      · simp at hx; subst hx; simp
    · rw [lk_append_new x e2, h4]
  | some jv =>
    obtain ⟨j, v0⟩ := jv
    obtain ⟨e1, _, s, e3⟩ := ix_some hi
    simp only [Nat.sub_zero] at e3
    have hj : (kv.map (mkE enc))[j]? = some ⟨enc a, v0, s⟩ := by rw [List.getElem?_map, e3]; rfl
    refine ⟨setBlock w b (.map ((kv.map (mkE enc)).toArray.modify j fun e => { e with key := enc a, val := v }) clock), ?_, ⟨kv.set j (a, v, s), clock, ?_, ?_, ?_, ?_, fun x => ?_⟩, grownBy_setBlock w b _ hb⟩
    · simp [Instr.mapUpdate, run_underlying ht, MapKept.run_getObj_map hb, K.check, K.find, hi, e3, mkE, K.stays, MapKept.run_setObj_map _ hb, Result.andThen, setBlock]
    · rw [heap_setBlock_same hb]
      congr 1
      congr 1
      apply Array.ext'
      rw [Array.toList_modify, modify_eq_set _ _ _ _ hj, List.map_set]
      rfl
    · rw [List.map_set, set_self _ _ _ (by rw [List.getElem?_map, e3]; rfl)]; exact h1
    · rw [List.map_set, set_self _ _ _ (by rw [List.getElem?_map, e3]; rfl)]; exact h2
    · intro x hx
      rcases List.mem_or_eq_of_mem_set hx with hx | rfl
      · exact h3 x hx
      · exact h3 (a, v0, s) (List.mem_of_getElem? e3)
    · rw [lk_set x e3 h1, h4]
/-- m[a] op= ..: the entry is there, then it is written. -/
theorem MapIs.entry {w : World} {b : Nat} {f : κ → Option Value} {t e : TypeId} (m : MapIs enc w b f) (K : KeyT κ P k enc) (ht : P.underlying t = some (.map k e)) {z : Value} (hz : ∀ w, (zeroValue e).run P w = .ok z w) (a : κ) :
    ∃ (st : Nat) (w1 : World), (Instr.mapEntry t (.map (some b)) (enc a)).run P w = .ok (.tuple #[(f a).getD z, .int .i64 st]) w1 ∧ MapIs enc w1 b (fun x => if x = a then some ((f a).getD z) else f x) ∧ w.grownBy w1 (some b) ∧
      ∀ v, ∃ w2, (Instr.entryStore t (.map (some b)) (.int .i64 st) v).run P w1 = .ok () w2 ∧ MapIs enc w2 b (fun x => if x = a then some v else f x) ∧ w.grownBy w2 (some b) := by
  obtain ⟨kv, clock, hb, h1, h2, h3, h4⟩ := m
  cases hi : ix kv a 0 with
  | none =>
    obtain ⟨e1, e2⟩ := ix_none hi
    have e1' : f a = none := by rw [← h4 a]; exact e1
    have nd1 : ∀ v : Value, ((kv ++ [(a, v, clock)]).map (·.1)).Nodup := fun v => by
      simp only [List.map_append, List.map_cons, List.map_nil]
      exact List.nodup_append.2 ⟨h1, by simp, fun x hx y hy => by
        simp at hy; subst hy
        obtain ⟨z, hz, rfl⟩ := List.mem_map.1 hx
        exact e2 z hz⟩
    have nd2 : ∀ v : Value, ((kv ++ [(a, v, clock)]).map (·.2.2)).Nodup := fun v => by
      simp only [List.map_append, List.map_cons, List.map_nil]
      exact List.nodup_append.2 ⟨h2, by simp, fun x hx y hy => by
        simp at hy; subst hy
        obtain ⟨z, hz, rfl⟩ := List.mem_map.1 hx
        have := h3 z hz
        omega⟩
    have lt : ∀ v : Value, ∀ x ∈ kv ++ [(a, v, clock)], x.2.2 < clock + 1 := fun v x hx => by
      rcases List.mem_append.1 hx with hx | hx
      · have := h3 x hx; omega
      · simp at hx; subst hx; simp
    have hb1 : (setBlock w b (.map ((kv.map (mkE enc)).toArray.push ⟨enc a, z, clock⟩) (clock + 1))).heap[b]? = some (.map ((kv ++ [(a, z, clock)]).map (mkE enc)).toArray (clock + 1)) := by
      rw [heap_setBlock_same hb]; simp [mkE]
    refine ⟨clock, setBlock w b (.map ((kv.map (mkE enc)).toArray.push ⟨enc a, z, clock⟩) (clock + 1)), ?_, ⟨kv ++ [(a, z, clock)], clock + 1, hb1, nd1 z, nd2 z, lt z, fun x => ?_⟩, grownBy_setBlock w b _ hb, fun v => ?_⟩
    · simp [Instr.mapEntry, run_underlying ht, MapKept.run_getObj_map hb, K.check, K.find, hi, hz, e1', MapKept.run_setObj_map _ hb, Result.andThen, setBlock, goInt]
    · rw [lk_append_new x e2, h4, e1']; rfl
    · have hidx : ((kv ++ [(a, z, clock)]).map (mkE enc)).toArray.findIdx? (fun e => ((e.born : Nat) : Int) == ((clock : Nat) : Int)) = some kv.length := by
        rw [findIdx_arr]
        exact findIdx_born (l := (kv ++ [(a, z, clock)]).map (mkE enc)) (j := kv.length) (e0 := ⟨enc a, z, clock⟩) (by rw [List.map_map]; exact nd2 z) (by simp [mkE])
      refine ⟨setBlock (setBlock w b (.map ((kv.map (mkE enc)).toArray.push ⟨enc a, z, clock⟩) (clock + 1))) b (.map (((kv ++ [(a, z, clock)]).map (mkE enc)).toArray.modify kv.length (fun e => { e with val := v })) (clock + 1)), ?_, ⟨kv ++ [(a, v, clock)], clock + 1, ?_, nd1 v, nd2 v, lt v, fun x => by rw [lk_append_new x e2, h4]⟩, World.grownBy.trans (grownBy_setBlock w b _ hb) (grownBy_setBlock _ b _ hb1)⟩
      · unfold Instr.entryStore
        simp only [Sem.run_bind, MapKept.run_getObj_map hb1, Result.andThen_ok, asInt, asIntOf, Sem.run_pure, hidx]
        rw [MapKept.run_setObj_map _ hb1]
        rfl
      · rw [heap_setBlock_same hb1]
        congr 1
        congr 1
        apply Array.ext'
        rw [Array.toList_modify]
        simp only [List.map_append, List.map_cons, List.map_nil]
        have := modify_last (fun e : MapEntry => { e with val := v }) (mkE enc (a, z, clock)) (kv.map (mkE enc))
        rw [List.length_map] at this
        rw [this]
        rfl
  | some jv =>
    obtain ⟨j, v0⟩ := jv
    obtain ⟨e1, _, s, e3⟩ := ix_some hi
    simp only [Nat.sub_zero] at e3
    have e1' : f a = some v0 := by rw [← h4 a]; exact e1
    have hj : (kv.map (mkE enc))[j]? = some ⟨enc a, v0, s⟩ := by rw [List.getElem?_map, e3]; rfl
    have hsame : (kv.map (mkE enc)).toArray.modify j (fun e => { e with key := enc a }) = (kv.map (mkE enc)).toArray := by
      apply Array.ext'
      rw [Array.toList_modify, modify_eq_set _ _ _ _ hj]
      exact set_self _ _ _ hj
    have hb1 : (setBlock w b (.map (kv.map (mkE enc)).toArray clock)).heap[b]? = some (.map (kv.map (mkE enc)).toArray clock) := heap_setBlock_same hb _
    refine ⟨s, setBlock w b (.map (kv.map (mkE enc)).toArray clock), ?_, ⟨kv, clock, hb1, h1, h2, h3, fun x => ?_⟩, grownBy_setBlock w b _ hb, fun v => ?_⟩
    · have hj' : (kv.map (mkE enc)).toArray[j]? = some ⟨enc a, v0, s⟩ := by simpa using hj
      unfold Instr.mapEntry
      simp only [Sem.run_bind, run_underlying ht, MapKept.run_getObj_map hb, K.check, K.find, hi, Result.andThen_ok, hj', Option.map_some, Option.getD_some, K.stays, hsame]
      rw [MapKept.run_setObj_map _ hb, e1']
      rfl
    · rw [h4]
      by_cases hx : x = a
      · subst hx; simp [e1']
      · simp only [if_neg hx]
    · have hidx : (kv.map (mkE enc)).toArray.findIdx? (fun e => ((e.born : Nat) : Int) == ((s : Nat) : Int)) = some j := by
        rw [findIdx_arr]
        exact findIdx_born (l := kv.map (mkE enc)) (j := j) (e0 := ⟨enc a, v0, s⟩) (by rw [List.map_map]; exact h2) hj
      refine ⟨setBlock (setBlock w b (.map (kv.map (mkE enc)).toArray clock)) b (.map ((kv.map (mkE enc)).toArray.modify j (fun e => { e with val := v })) clock), ?_, ⟨kv.set j (a, v, s), clock, ?_, ?_, ?_, ?_, fun x => ?_⟩, World.grownBy.trans (grownBy_setBlock w b _ hb) (grownBy_setBlock _ b _ hb1)⟩
      · unfold Instr.entryStore
        simp only [Sem.run_bind, MapKept.run_getObj_map hb1, Result.andThen_ok, asInt, asIntOf, Sem.run_pure, hidx]
        rw [MapKept.run_setObj_map _ hb1]
        rfl
      · rw [heap_setBlock_same hb1]
        congr 1
        congr 1
        apply Array.ext'
        rw [Array.toList_modify, modify_eq_set _ _ _ _ hj, List.map_set]
        rfl
      · rw [List.map_set, set_self _ _ _ (by rw [List.getElem?_map, e3]; rfl)]; exact h1
      · rw [List.map_set, set_self _ _ _ (by rw [List.getElem?_map, e3]; rfl)]; exact h2
      · intro x hx
        rcases List.mem_or_eq_of_mem_set hx with hx | rfl
        · exact h3 x hx
        · exact h3 (a, v0, s) (List.mem_of_getElem? e3)
      · rw [lk_set x e3 h1, h4]
end
end Go.Proofs.Ytkglaofiencfdaa

namespace Go.Proofs.Ytkglaofiencfdaa
open Go.RowKit Go.Sort
set_option linter.unusedVariables false

def encI (a : Int) : Value := .agg #[.int .i64 a]
def encS (a : ByteArray) : Value := .agg #[.string a]
/-- A key's search, from what '==' says. -/
theorem find_of_equal {κ : Type} [DecidableEq κ] {P : Program} {k : TypeId} {enc : κ → Value} {fs : Array Field} (hk : P.underlying k = some (.struct fs)) (hagg : ∀ a, ∃ c, enc a = .agg c)
    (heq : ∀ w a b, (Op.equal k (enc a) (enc b)).run P w = .ok (decide (a = b)) w) (w : World) (a : κ) (kv : List (κ × Value × Nat)) : (Instr.findKey k (enc a) (kv.map (mkE enc))).run P w = .ok (ix kv a 0) w := by
  have asking : ∀ (kv : List (κ × Value × Nat)) (i : Nat), (Instr.findAsking k (enc a) (kv.map (mkE enc)) i).run P w = .ok (ix kv a i) w := by
    intro kv
    induction kv with
    | nil => intro i; rfl
    | cons e es ih =>
      intro i
      simp only [List.map_cons, Instr.findAsking, Sem.run_bind, mkE, heq, Result.andThen_ok]
      by_cases h : a = e.1
      · simp [ix, h]
      · simp only [ix, if_neg h, decide_eq_true_eq]
        exact ih (i + 1)
  unfold Instr.findKey
  simp only [Sem.run_bind, run_underlying hk, Result.andThen_ok]
  cases kv with
  | nil => rfl
  | cons e es =>
    have hn : Instr.findNow (.struct fs) (enc a) ((e :: es).map (mkE enc)) 0 = none := by
      obtain ⟨c, hc⟩ := hagg a
      rw [hc]
      rfl
    rw [hn]
    exact asking (e :: es) 0
theorem bytes_toList_inj {a b : ByteArray} (h : a.toList = b.toList) : a = b := by
  rw [ByteArray.toList_eq, ByteArray.toList_eq] at h
  obtain ⟨⟨x⟩⟩ := a
  obtain ⟨⟨y⟩⟩ := b
  have h2 : x = y := h
  rw [h2]
theorem bytes_toList_beq (a b : ByteArray) : (a.toList == b.toList) = decide (a = b) := by
  by_cases h : a = b
  · subst h; simp
  · have : a.toList ≠ b.toList := fun e => h (bytes_toList_inj e)
    simp [h, this]
theorem bytes_beq (a b : ByteArray) : (a == b) = decide (a = b) := by rw [beq_toListBytes, bytes_toList_beq]
theorem stays_int (P : Program) (w : World) (a : Int) : (Instr.keyThatStays (encI a) (encI a)).run P w = .ok (encI a) w := by
  simp [Instr.keyThatStays, Instr.sameBits, encI]
theorem stays_str (P : Program) (w : World) (a : ByteArray) : (Instr.keyThatStays (encS a) (encS a)).run P w = .ok (encS a) w := by
  simp [Instr.keyThatStays, Instr.sameBits, encS, bytes_beq]
theorem check_state_key (w : World) (em : Bool) (a : Int) : (Instr.checkKey em 10000 75 (encI a)).run Try.prog w = .ok () w := by kernel_rfl
theorem equal_state_key (w : World) (a b : Int) : (Op.equal 75 (encI a) (encI b)).run Try.prog w = .ok (decide (a = b)) w := by
  by_cases h : a = b
  · subst h
    simp [Op.equal, Op.maxDepth, encI, go_sem, Try.underlying75, Try.underlying3]
  · simp [Op.equal, Op.maxDepth, encI, go_sem, h]
theorem kt_state_key : KeyT Int Try.prog 75 encI := ⟨check_state_key, find_of_equal Try.underlying75 (fun a => ⟨_, rfl⟩) equal_state_key, stays_int Try.prog⟩
theorem zero_int (w : World) : (zeroValue 3).run Try.prog w = .ok (.int .i64 0) w := by kernel_rfl
end Go.Proofs.Ytkglaofiencfdaa

namespace Go.Proofs.Ytkglaofiencfdaa
open Go.RowKit Go.Sort
set_option linter.unusedVariables false
/-- m[a] = v, for the walk. -/
theorem wpList_mapSet {κ : Type} [DecidableEq κ] {P : Program} {k : TypeId} {enc : κ → Value} (w : World) {ops : Array Oper} {rest : List Oper} {o : Oper} {a : Act} {Q : Exit → Act → World → Prop} (hg : o.guard = none) (m x v : Operand) (t e : TypeId) (hop : o.op = Op.mapUpdate t m x v)
    (K : KeyT κ P k enc) (ht : P.underlying t = some (.map k e)) (b : Nat) (f : κ → Option Value) (hm : a.eval m = .map (some b)) (M : MapIs enc w b f) (key : κ) (hx : a.eval x = enc key) (val : Value) (hv : a.eval v = val)
    (hK : ∀ w', MapIs enc w' b (fun x => if x = key then some val else f x) → w.grownBy w' (some b) → wpList P ops Q rest (a.put o.dst undef) w') : wpList P ops Q (o :: rest) a w := by
  refine wpList_plain hg fun K' hK' => ?_
  obtain ⟨w', hrun, r1, r2⟩ := M.update K ht key val
  unfold Oper.wp
  simp [execOp, hop, hm, hx, hv, hrun, Result.andThen]
  exact hK' _ _ (hK w' r1 r2)
/-- A row of the call's own is handed back. -/
def RetOwn {α : Type} [Enc α] (h : FH) (w : World) (T : TypeId) (xs : List α) (e : Ending) (w' : World) : Prop := ∃ v, e = .returned v ∧ OwnL h w' w.heap.size T v xs ∧ Ext h w h w'
/-- A map of the call's own is handed back. -/
def RetMap {κ : Type} [DecidableEq κ] (enc : κ → Value) (h : FH) (w : World) (f : κ → Option Value) (e : Ending) (w' : World) : Prop := ∃ b, e = .returned (.map (some b)) ∧ MapIs enc w' b f ∧ w.heap.size ≤ b ∧ Ext h w h w'
theorem OwnL.rebase {α : Type} [Enc α] {h : FH} {w : World} {base base' : Nat} {e : TypeId} {v : Value} {xs : List α} (o : OwnL h w base e v xs) (hb : base' ≤ base) : OwnL h w base' e v xs := by
  obtain ⟨cells, hw, r⟩ := o.own
  refine ⟨⟨cells, ⟨hw.1, ?_⟩, r⟩, o.free⟩
  rcases hw.2 with h1 | ⟨g, cap, cur, h1, h2, h3⟩
  · exact .inl h1
  · exact .inr ⟨g, cap, cur, h1, Nat.le_trans hb h2, h3⟩
end Go.Proofs.Ytkglaofiencfdaa

namespace Go.Proofs.Ytkglaofiencfdaa
open Go.RowKit Go.Sort
set_option linter.unusedVariables false
section
variable {α : Type} [Enc α]
/-- An element of a row of the call's own. -/
theorem OwnL.get {h : FH} {w : World} {base : Nat} {e : TypeId} {v : Value} {xs : List α} (o : OwnL h w base e v xs) {i : Nat} {x : α} (hx : xs[i]? = some x) :
    ∃ g cap cs, v = .slice (some ⟨g, 0, none⟩) xs.length cap ∧ base ≤ g ∧ g < w.heap.size ∧ h g = none ∧ Enc.rep h cs x ∧ (∀ j u, cs[j]? = some u → w.cell? ⟨g, i * Enc.sz α + j, none⟩ = some u) ∧ ∀ k, w.frozen? ⟨g, k, none⟩ = false := by
  obtain ⟨cells, hw, r⟩ := o.own
  have hi := (List.getElem?_eq_some_iff.1 hx).1
  rcases hw.2 with ⟨rfl, hn⟩ | ⟨g, cap, cur, rfl, hb, hg, hc, _, hcs, htake⟩
  · omega
  · obtain ⟨cs, hr, hcc⟩ := r.get hx
    refine ⟨g, cap, cs, rfl, hb, (Array.getElem?_eq_some_iff.1 hg).1, o.free g rfl, hr, fun j u hu => ?_, fun k => by simp [World.frozen?, hg]⟩
    have h1 := hcc j u hu
    rw [← htake, List.getElem?_take] at h1
    rw [cell_of_row _ g _ cur e (0, 0) hg]
    split at h1
    · simpa using h1
    · cases h1
theorem set_take {α : Type} (l : List α) (n j : Nat) (u : α) (hj : j < n) : (l.set j u).take n = (l.take n).set j u := by
  apply List.ext_getElem?
  intro i
  rw [List.getElem?_take, List.getElem?_set, List.getElem?_set, List.getElem?_take]
  by_cases h1 : i < n
  · simp only [h1, if_true, List.length_take]
    by_cases h2 : j = i
    · subst h2
      by_cases h3 : j < l.length
      · have : j < min n l.length := by omega
        simp [h3, this]
      · have : ¬ j < min n l.length := by omega
        simp [h3, this]
    · simp [h2]
  · simp only [h1, if_false]
    by_cases h2 : j = i
    · omega
    · simp [h2]
theorem Reps.put {h : FH} : ∀ {cells : List Value} {xs : List α}, Reps h cells xs → ∀ {i j : Nat} {x y : α} {u : Value}, xs[i]? = some x → j < Enc.sz α → (∀ cs, Enc.rep h cs x → Enc.rep h (cs.set j u) y) → Reps h (cells.set (i * Enc.sz α + j) u) (xs.set i y)
  | _, [], _, _, _, _, _, _, hx, _, _ => by simp at hx
  | _, a :: az, ⟨cs, rest, e, r, t⟩, 0, j, x, y, u, hx, hj, hy => by
    simp at hx; subst hx
    have hl := Enc.len r
    refine ⟨cs.set j u, rest, ?_, hy cs r, t⟩
    rw [e, Nat.zero_mul, Nat.zero_add, List.set_append, if_pos (by omega)]
  | _, a :: az, ⟨cs, rest, e, r, t⟩, i + 1, j, x, y, u, hx, hj, hy => by
    have hl := Enc.len r
    refine ⟨cs, rest.set (i * Enc.sz α + j) u, ?_, r, t.put (by simpa using hx) hj hy⟩
    rw [e, List.set_append, if_neg (by rw [hl, Nat.add_mul]; omega), hl, show (i + 1) * Enc.sz α + j - Enc.sz α = i * Enc.sz α + j from by rw [Nat.add_mul]; omega]
/-- A cell of it is written. -/
theorem OwnL.setCell {h : FH} {w : World} {base : Nat} {e : TypeId} {g n cap : Nat} {xs : List α} (o : OwnL h w base e (.slice (some ⟨g, 0, none⟩) n cap) xs) {i j : Nat} {x y : α} {u : Value} (hx : xs[i]? = some x) (hj : j < Enc.sz α) (hy : ∀ cs, Enc.rep h cs x → Enc.rep h (cs.set j u) y) :
    OwnL h (w.setCell ⟨g, i * Enc.sz α + j, none⟩ u) base e (.slice (some ⟨g, 0, none⟩) n cap) (xs.set i y) := by
  obtain ⟨cells, hw, r⟩ := o.own
  have hi := (List.getElem?_eq_some_iff.1 hx).1
  refine ⟨⟨cells.set (i * Enc.sz α + j) u, ⟨?_, ?_⟩, r.put hx hj hy⟩, o.free⟩
  · rw [List.length_set, List.length_set]; exact hw.1
  · rcases hw.2 with ⟨he, hn⟩ | ⟨g', cap', cur, he, hb, hg, hc, hm, hcs, htake⟩
    · cases he
    · cases he
      refine .inr ⟨g, cap, cur.setIfInBounds (i * Enc.sz α + j) u, by rw [List.length_set], hb, ?_, by rw [List.length_set]; exact hc, hm, by simpa using hcs, ?_⟩
      · simp only [World.setCell, Array.getElem?_modify, if_true, hg, Option.map_some, Option.isSome_none, Bool.false_eq_true, if_false]
      · have hlt : i * Enc.sz α + j < xs.length * Enc.sz α := by
          have : (i + 1) * Enc.sz α ≤ xs.length * Enc.sz α := Nat.mul_le_mul_right _ hi
          rw [Nat.add_mul] at this; omega
        rw [List.length_set, Array.toList_setIfInBounds, set_take _ _ _ _ hlt, htake]
theorem run_append_none' {P : Program} {w : World} (base : Nat) (t ty e : TypeId) (i : TypeInfo) (size : Nat) (ht : P.underlying t = some (.slice e)) (hi : P.info? e = some i)
    (v : Value) (n : Nat) (xs : List Value) (hown : w.ownsRow base e size v n xs) (c : Nat) : (Builtin.append_ #[t, t] ty #[v, .slice none 0 c]).run P w = .ok v w := by
  rcases hown.2 with ⟨rfl, rfl⟩ | ⟨g, cap, cur, rfl, _, _, hnc, _⟩
  · simp [Builtin.append_, run_underlying ht, sizeOf, typeInfo, hi, Builtin.lenOf, Builtin.firstCells]
  · simp [Builtin.append_, run_underlying ht, sizeOf, typeInfo, hi, Builtin.lenOf, Builtin.firstCells, hnc, storeCells]
/-- append(v, ys...), whatever address ys has. -/
theorem wpList_appendR {P : Program} {h : FH} {w : World} {ops : Array Oper} {rest : List Oper} {o : Oper} {a : Act} {Q : Exit → Act → World → Prop} (hgd : o.guard = none) (s x : Operand) (t : TypeId)
    (ho : o.op = .call { callee := .builtin .append, args := #[s, x], argTypes := #[t, t] }) (base : Nat) (e : TypeId) (bytes : Nat) (T : TyOk P t e (Enc.sz α) bytes) (v : Value) (xs ys : List α) (hv : a.eval s = v) (O : OwnL h w base e v xs) (hs : Sits h w)
    (A : Option Addr) (n c : Nat) (hx : a.eval x = .slice A n c) (hny : n = ys.length) (r : RowAt h A ys) (hbytes : (xs.length + ys.length) * bytes ≤ 140737488355328) (hpos : 0 < bytes) (hbase : base ≤ w.heap.size)
    (k : ∀ v' w', OwnL h w' base e v' (xs ++ ys) → w.grownBy w' v.ownBlock → (v'.ownBlock = v.ownBlock ∨ v'.ownBlock = some w.heap.size) → wpList P ops Q rest (a.put o.dst v') w') : wpList P ops Q (o :: rest) a w := by
  cases A with
  | some ad => exact wpList_appendL hgd s x t ho base e bytes T v xs ys hv O hs (some ad) n c hx hny r (by simp) hbytes hpos hbase k
  | none =>
    have hy : ys = [] := by
      cases ys with
      | nil => rfl
      | cons y ys => obtain ⟨b, off, e, _⟩ := r.2 (by simp); cases e
    subst hy
    subst hny
    obtain ⟨i, z, hi, _⟩ := T.info
    obtain ⟨cells, hw, R⟩ := O.own
    refine wpList_plain hgd fun K hK => ?_
    have hr := run_append_none' (P := P) base t o.type e i (Enc.sz α) T.und hi v xs.length cells hw c
    unfold Oper.wp execOp
    simp only [ho, resolve, invoke, builtin, Sem.run_bind, Sem.run_pure, Result.andThen_ok, List.map_toArray, List.map_cons, List.map_nil, hv, hx]
    rw [show ([] : List α).length = 0 from rfl, hr]
    exact hK _ _ (k v w (by simpa using O) ⟨rfl, rfl, rfl, Nat.le_refl _, fun _ _ _ => rfl⟩ (.inl rfl))
end
end Go.Proofs.Ytkglaofiencfdaa

namespace Go.Proofs.Ytkglaofiencfdaa
theorem ty_Int : TyOk Try.prog 29 3 (Enc.sz Int) 8 := TyOk.mk' (z := .int .i64 0) Try.underlying29 (by kernel_rfl) rfl
theorem ty_Run : TyOk Try.prog 35 46 (Enc.sz Run) 24 := TyOk.mk' (z := .agg #[.int .i64 0, .int .i64 0, .int .i64 0]) Try.underlying35 (by kernel_rfl) rfl
theorem ty_Entry : TyOk Try.prog 34 44 (Enc.sz Entry) 24 := TyOk.mk' (z := .agg #[.string ⟨#[]⟩, .int .i64 0]) Try.underlying34 (by kernel_rfl) rfl
theorem ty_Inode : TyOk Try.prog 28 37 (Enc.sz Inode) 96 := TyOk.mk' (z := .agg #[.int .i64 0, .int .i64 0, .int .i64 0, .int .i64 0, .string ⟨#[]⟩, .slice none 0 0, .slice none 0 0]) Try.underlying28 (by kernel_rfl) rfl
theorem ty_Deed : TyOk Try.prog 40 39 (Enc.sz Deed) 112 := TyOk.mk' (z := .agg #[.int .i64 0, .int .i64 0, .int .i64 0, .int .i64 0, .int .i64 0, .int .i64 0, .string ⟨#[]⟩, .slice none 0 0, .slice none 0 0]) Try.underlying40 (by kernel_rfl) rfl
end Go.Proofs.Ytkglaofiencfdaa

namespace Go.Proofs.Ytkglaofiencfdaa
open Go.RowKit Go.Sort
set_option linter.unusedVariables false
set_option maxHeartbeats 1000000 in
theorem clone_Run (xs : List Run) (A : Option Addr) (c : Nat) (hb : xs.length * 24 ≤ 140737488355328) (h : FH) (w : World) (hs : Sits h w) (r : RowAt h A xs) :
    Calls Try.prog 75 #[.slice A xs.length c] w fun e w' => RetOwn h w 46 xs e w' := by
  have q22 : ∀ (w : World) (a : Option Addr) (n c n' c' : Nat), (binOp .eql 35 (.slice a n c) (.slice none n' c')).run Try.prog w = .ok (.bool a.isNone) w := fun w a n c n' c' => Lib.run_eql_slice_nil w _ _ a n c n' c' Try.underlying35
  cases A with
  | none =>
    have hx : xs = [] := by
      cases xs with
      | nil => rfl
      | cons y ys => obtain ⟨b, off, e, _⟩ := r.2 (by simp); cases e
    subst hx
    go_enter Try.func75, Try.ntmps75
    go_wp2
    go_ret
    exact ⟨_, rfl, OwnL.nil _ _ _ _, Ext.refl hs⟩
  | some ad =>
    have O0 : OwnL h (w.alloc (.cells #[] 46)) w.heap.size 46 (.slice (some ⟨w.heap.size, 0, none⟩) 0 0) ([] : List Run) :=
      ⟨⟨[], World.ownsRow_made w #[] 0 (Nat.le_refl _) (by unfold maxLen; omega) (by simp), rfl⟩, fun g hg => by simp [Value.ownBlock] at hg; subst hg; exact hs.none (Nat.le_refl _)⟩
    have E1 := (Ext.refl hs).alloc (.cells #[] 46)
    go_enter Try.func75, Try.ntmps75
    go_wp2_with (at_builtin; refine wpList_appendR rfl _ _ 35 rfl w.heap.size 46 24 ty_Run _ [] xs rfl O0 E1.sits (some ad) _ c rfl rfl r (by simpa using hb) (by decide) (by simp) ?_)
    intro v w1 O hg _
    change OwnL _ _ _ _ _ xs at O
    have E2 := E1.grown hg (fun k hk => by simp [Value.ownBlock] at hk; subst hk; exact ⟨Nat.le_refl _, hs.none (Nat.le_refl _)⟩)
    go_wp2
    go_ret
    exact ⟨_, rfl, O, E2⟩
set_option maxHeartbeats 1000000 in
theorem clone_Entry (xs : List Entry) (A : Option Addr) (c : Nat) (hb : xs.length * 24 ≤ 140737488355328) (h : FH) (w : World) (hs : Sits h w) (r : RowAt h A xs) :
    Calls Try.prog 74 #[.slice A xs.length c] w fun e w' => RetOwn h w 44 xs e w' := by
  have q22 : ∀ (w : World) (a : Option Addr) (n c n' c' : Nat), (binOp .eql 34 (.slice a n c) (.slice none n' c')).run Try.prog w = .ok (.bool a.isNone) w := fun w a n c n' c' => Lib.run_eql_slice_nil w _ _ a n c n' c' Try.underlying34
  cases A with
  | none =>
    have hx : xs = [] := by
      cases xs with
      | nil => rfl
      | cons y ys => obtain ⟨b, off, e, _⟩ := r.2 (by simp); cases e
    subst hx
    go_enter Try.func74, Try.ntmps74
    go_wp2
    go_ret
    exact ⟨_, rfl, OwnL.nil _ _ _ _, Ext.refl hs⟩
  | some ad =>
    have O0 : OwnL h (w.alloc (.cells #[] 44)) w.heap.size 44 (.slice (some ⟨w.heap.size, 0, none⟩) 0 0) ([] : List Entry) :=
      ⟨⟨[], World.ownsRow_made w #[] 0 (Nat.le_refl _) (by unfold maxLen; omega) (by simp), rfl⟩, fun g hg => by simp [Value.ownBlock] at hg; subst hg; exact hs.none (Nat.le_refl _)⟩
    have E1 := (Ext.refl hs).alloc (.cells #[] 44)
    go_enter Try.func74, Try.ntmps74
    go_wp2_with (at_builtin; refine wpList_appendR rfl _ _ 34 rfl w.heap.size 44 24 ty_Entry _ [] xs rfl O0 E1.sits (some ad) _ c rfl rfl r (by simpa using hb) (by decide) (by simp) ?_)
    intro v w1 O hg _
    change OwnL _ _ _ _ _ xs at O
    have E2 := E1.grown hg (fun k hk => by simp [Value.ownBlock] at hk; subst hk; exact ⟨Nat.le_refl _, hs.none (Nat.le_refl _)⟩)
    go_wp2
    go_ret
    exact ⟨_, rfl, O, E2⟩
set_option maxHeartbeats 1000000 in
theorem clone_Int (xs : List Int) (A : Option Addr) (c : Nat) (hb : xs.length * 8 ≤ 140737488355328) (h : FH) (w : World) (hs : Sits h w) (r : RowAt h A xs) :
    Calls Try.prog 36 #[.slice A xs.length c] w fun e w' => RetOwn h w 3 xs e w' := by
  have q22 : ∀ (w : World) (a : Option Addr) (n c n' c' : Nat), (binOp .eql 29 (.slice a n c) (.slice none n' c')).run Try.prog w = .ok (.bool a.isNone) w := fun w a n c n' c' => Lib.run_eql_slice_nil w _ _ a n c n' c' Try.underlying29
  cases A with
  | none =>
    have hx : xs = [] := by
      cases xs with
      | nil => rfl
      | cons y ys => obtain ⟨b, off, e, _⟩ := r.2 (by simp); cases e
    subst hx
    go_enter Try.func36, Try.ntmps36
    go_wp2
    go_ret
    exact ⟨_, rfl, OwnL.nil _ _ _ _, Ext.refl hs⟩
  | some ad =>
    have O0 : OwnL h (w.alloc (.cells #[] 3)) w.heap.size 3 (.slice (some ⟨w.heap.size, 0, none⟩) 0 0) ([] : List Int) :=
      ⟨⟨[], World.ownsRow_made w #[] 0 (Nat.le_refl _) (by unfold maxLen; omega) (by simp), rfl⟩, fun g hg => by simp [Value.ownBlock] at hg; subst hg; exact hs.none (Nat.le_refl _)⟩
    have E1 := (Ext.refl hs).alloc (.cells #[] 3)
    go_enter Try.func36, Try.ntmps36
    go_wp2_with (at_builtin; refine wpList_appendR rfl _ _ 29 rfl w.heap.size 3 8 ty_Int _ [] xs rfl O0 E1.sits (some ad) _ c rfl rfl r (by simpa using hb) (by decide) (by simp) ?_)
    intro v w1 O hg _
    change OwnL _ _ _ _ _ xs at O
    have E2 := E1.grown hg (fun k hk => by simp [Value.ownBlock] at hk; subst hk; exact ⟨Nat.le_refl _, hs.none (Nat.le_refl _)⟩)
    go_wp2
    go_ret
    exact ⟨_, rfl, O, E2⟩
end Go.Proofs.Ytkglaofiencfdaa

namespace Go.Proofs.Ytkglaofiencfdaa
open Go.RowKit Go.Sort
set_option linter.unusedVariables false
theorem bytes_toList_eq (a b : ByteArray) : (a.toList = b.toList) = (a = b) := propext ⟨bytes_toList_inj, fun h => by rw [h]⟩
theorem take_eq_snoc {α : Type} {xs ys : List α} {k : Nat} {x y : α} (h : xs.take k = ys.take k) (hx : xs[k]? = some x) (hy : ys[k]? = some y) (e : x = y) : xs.take (k + 1) = ys.take (k + 1) := by
  rw [List.take_add_one, List.take_add_one, h, hx, hy, e]
theorem ne_of_at {α : Type} {xs ys : List α} {k : Nat} {x y : α} (hx : xs[k]? = some x) (hy : ys[k]? = some y) (e : x ≠ y) : xs ≠ ys := fun h => by
  rw [h, hy] at hx; cases hx; exact e rfl
set_option maxHeartbeats 1000000 in
theorem plain1_Int (x y : Int) (t : Bool) (ht : decide (x = y) = t) (h : FH) (w : World) (hs : Sits h w) :
    Calls Try.prog 77 #[.int .i64 x, .int .i64 y] w fun e w' => e = .returned (.bool t) ∧ Ext h w h w' := by
  have E0 := Ext.refl hs
  subst ht
  go_enter Try.func77, Try.ntmps77
  go_wp2
  all_goals
    go_ret
    exact ⟨ret_bool (by first | rfl | simp_all [bytes_toList_eq]), E0⟩
set_option maxHeartbeats 4000000 in
theorem same_Int (xs ys : List Int) (A B : Option Addr) (c d : Nat) (t : Bool) (ht : decide (xs = ys) = t) (h : FH) (w : World) (hs : Sits h w) (r : RowAt h A xs) (r' : RowAt h B ys) :
    Calls Try.prog 76 #[.slice A xs.length c, .slice B ys.length d, .func (.func 77) #[] #[]] w fun e w' => e = .returned (.bool t) ∧ Ext h w h w' := by
  have hl := r.1
  have hl' := r'.1
  have E0 := Ext.refl hs
  subst ht
  by_cases hlen : xs.length = ys.length
  · have HL := hid hlen
    have hb : ((xs.length : Int) != (ys.length : Int)) = false := by simp [hlen]
    clear hlen
    go_enter Try.func76, Try.ntmps76
    go_wp2_with fail
    go_loopw [7] (fun i wr => ∃ k : Nat, k ≤ xs.length ∧ i = .int .i64 k ∧ Hid (xs.take k = ys.take k) ∧ Ext h w h wr) (fun i _ => xs.length - (intOf i).toNat)
    case atStart => exact ⟨0, Nat.zero_le _, rfl, by simp [Hid], E0⟩
    case round =>
      obtain ⟨k, hk, rfl, HN, E⟩ := hrel
      by_cases hlt : k < xs.length
      · have hlt' : k < ys.length := by have := HL.out; omega
        obtain ⟨x, hx⟩ : ∃ x, xs[k]? = some x := ⟨xs[k], by simp [hlt]⟩
        obtain ⟨y, hy⟩ : ∃ y, ys[k]? = some y := ⟨ys[k], by simp [hlt']⟩
        obtain ⟨b, off, rfl, c0⟩ := r.int hx E.sits
        obtain ⟨b', off', rfl, d0⟩ := r'.int hy E.sits
        have HX := hid hx
        have HY := hid hy
        clear hx hy
        have z0 := fun d os => cell_regrown c0 d os
        have v0 := fun d os => cell_regrown d0 d os
        clear c0 d0
        obtain ⟨q, hq⟩ : ∃ q, decide (x = y) = q := ⟨_, rfl⟩
        have HQ := hid hq
        clear hq
        go_upto_region 6 with (fail)
        refine wp_region_quiet_below (by kernel_rfl) (by kernel_rfl) ?_
        repeat (go_big_quiet_step (exact quietCall (plain1_Int x y _ HQ.out h _ (Ext.quiet E.sits _ _).sits)))
        refine wpQuiet_nil ?_
        intro _ hw'
        obtain ⟨⟨dq, osq⟩, hw''⟩ := hw'
        subst hw''
        cases q
        · go_wp2
          go_ret
          exact ⟨ret_bool (decide_eq_false (ne_of_at HX.out HY.out (of_decide_eq_false HQ.out))).symm, E.trans (Ext.quiet E.sits _ _)⟩
        · go_wp2
          go_roundw
          case rel => exact ⟨k + 1, by omega, by go_num, hid (take_eq_snoc HN.out HX.out HY.out (of_decide_eq_true HQ.out)), E.trans (Ext.quiet E.sits _ _)⟩
          case measure => simp [intOf]; omega
      · have he : xs = ys := by
          have h1 := HN.out
          rwa [List.take_of_length_le (by omega), List.take_of_length_le (by have := HL.out; omega)] at h1
        have HE := hid he
        clear he
        go_wp2
        go_ret
        exact ⟨ret_bool (decide_eq_true HE.out).symm, E⟩
  · have hb : ((xs.length : Int) != (ys.length : Int)) = true := by simp; omega
    have HL := hid hlen
    clear hlen
    go_enter Try.func76, Try.ntmps76
    go_wp2
    go_ret
    exact ⟨ret_bool (decide_eq_false (fun h => HL.out (by rw [h]))).symm, E0⟩
set_option maxHeartbeats 400000 in
theorem plain_Int (xs ys : List Int) (A B : Option Addr) (c d : Nat) (t : Bool) (ht : decide (xs = ys) = t) (h : FH) (w : World) (hs : Sits h w) (r : RowAt h A xs) (r' : RowAt h B ys) :
    Calls Try.prog 43 #[.slice A xs.length c, .slice B ys.length d] w fun e w' => e = .returned (.bool t) ∧ Ext h w h w' := by
  go_enter Try.func43, Try.ntmps43
  go_wp2_with (go_at_call 76; refine (same_Int xs ys A B c d t ht h _ hs r r').mono ?_; rintro e w1 ⟨rfl, E1⟩)
  go_ret
  exact ⟨rfl, E1⟩
instance : DecidableEq Block := fun a b => by
  obtain ⟨a0, a1, a2, a3⟩ := a
  obtain ⟨b0, b1, b2, b3⟩ := b
  simp only [Block.mk.injEq]
  exact inferInstance
instance : DecidableEq Run := fun a b => by
  obtain ⟨a0, a1, a2⟩ := a
  obtain ⟨b0, b1, b2⟩ := b
  simp only [Run.mk.injEq]
  exact inferInstance
set_option maxHeartbeats 1000000 in
theorem plain1_Run (x y : Run) (t : Bool) (ht : decide (x = y) = t) (h : FH) (w : World) (hs : Sits h w) :
    Calls Try.prog 81 #[.agg #[.int .i64 x.from_, .int .i64 x.at_, .int .i64 x.count], .agg #[.int .i64 y.from_, .int .i64 y.at_, .int .i64 y.count]] w fun e w' => e = .returned (.bool t) ∧ Ext h w h w' := by
  have E0 := Ext.refl hs
  obtain ⟨a0, a1, a2⟩ := x
  obtain ⟨b0, b1, b2⟩ := y
  subst ht
  go_enter Try.func81, Try.ntmps81
  go_wp2
  all_goals
    go_ret
    exact ⟨ret_bool (by simp_all), (E0.alloc _).alloc _⟩
set_option maxHeartbeats 4000000 in
theorem same_Run (xs ys : List Run) (A B : Option Addr) (c d : Nat) (t : Bool) (ht : decide (xs = ys) = t) (h : FH) (w : World) (hs : Sits h w) (r : RowAt h A xs) (r' : RowAt h B ys) :
    Calls Try.prog 80 #[.slice A xs.length c, .slice B ys.length d, .func (.func 81) #[] #[]] w fun e w' => e = .returned (.bool t) ∧ Ext h w h w' := by
  have hl := r.1
  have hl' := r'.1
  have E0 := Ext.refl hs
  subst ht
  by_cases hlen : xs.length = ys.length
  · have HL := hid hlen
    have hb : ((xs.length : Int) != (ys.length : Int)) = false := by simp [hlen]
    clear hlen
    go_enter Try.func80, Try.ntmps80
    go_wp2_with fail
    go_loopw [7] (fun i wr => ∃ k : Nat, k ≤ xs.length ∧ i = .int .i64 k ∧ Hid (xs.take k = ys.take k) ∧ Ext h w h wr) (fun i _ => xs.length - (intOf i).toNat)
    case atStart => exact ⟨0, Nat.zero_le _, rfl, by simp [Hid], E0⟩
    case round =>
      obtain ⟨k, hk, rfl, HN, E⟩ := hrel
      by_cases hlt : k < xs.length
      · have hlt' : k < ys.length := by have := HL.out; omega
        obtain ⟨x, hx⟩ : ∃ x, xs[k]? = some x := ⟨xs[k], by simp [hlt]⟩
        obtain ⟨y, hy⟩ : ∃ y, ys[k]? = some y := ⟨ys[k], by simp [hlt']⟩
        obtain ⟨b, off, rfl, c0, c1, c2⟩ := r.run hx E.sits
        obtain ⟨b', off', rfl, d0, d1, d2⟩ := r'.run hy E.sits
        have HX := hid hx
        have HY := hid hy
        clear hx hy
        have z0 := fun d os => cell_regrown c0 d os
        have v0 := fun d os => cell_regrown d0 d os
        have z1 := fun d os => cell_regrown c1 d os
        have v1 := fun d os => cell_regrown d1 d os
        have z2 := fun d os => cell_regrown c2 d os
        have v2 := fun d os => cell_regrown d2 d os
        clear c0 c1 c2 d0 d1 d2
        obtain ⟨q, hq⟩ : ∃ q, decide (x = y) = q := ⟨_, rfl⟩
        have HQ := hid hq
        clear hq
        go_upto_region 6 with (fail)
        refine wp_region_quiet_below (by kernel_rfl) (by kernel_rfl) ?_
        repeat (go_big_quiet_step (exact quietCall (plain1_Run x y _ HQ.out h _ (Ext.quiet E.sits _ _).sits)))
        refine wpQuiet_nil ?_
        intro _ hw'
        obtain ⟨⟨dq, osq⟩, hw''⟩ := hw'
        subst hw''
        cases q
        · go_wp2
          go_ret
          exact ⟨ret_bool (decide_eq_false (ne_of_at HX.out HY.out (of_decide_eq_false HQ.out))).symm, E.trans (Ext.quiet E.sits _ _)⟩
        · go_wp2
          go_roundw
          case rel => exact ⟨k + 1, by omega, by go_num, hid (take_eq_snoc HN.out HX.out HY.out (of_decide_eq_true HQ.out)), E.trans (Ext.quiet E.sits _ _)⟩
          case measure => simp [intOf]; omega
      · have he : xs = ys := by
          have h1 := HN.out
          rwa [List.take_of_length_le (by omega), List.take_of_length_le (by have := HL.out; omega)] at h1
        have HE := hid he
        clear he
        go_wp2
        go_ret
        exact ⟨ret_bool (decide_eq_true HE.out).symm, E⟩
  · have hb : ((xs.length : Int) != (ys.length : Int)) = true := by simp; omega
    have HL := hid hlen
    clear hlen
    go_enter Try.func80, Try.ntmps80
    go_wp2
    go_ret
    exact ⟨ret_bool (decide_eq_false (fun h => HL.out (by rw [h]))).symm, E0⟩
set_option maxHeartbeats 400000 in
theorem plain_Run (xs ys : List Run) (A B : Option Addr) (c d : Nat) (t : Bool) (ht : decide (xs = ys) = t) (h : FH) (w : World) (hs : Sits h w) (r : RowAt h A xs) (r' : RowAt h B ys) :
    Calls Try.prog 45 #[.slice A xs.length c, .slice B ys.length d] w fun e w' => e = .returned (.bool t) ∧ Ext h w h w' := by
  go_enter Try.func45, Try.ntmps45
  go_wp2_with (go_at_call 80; refine (same_Run xs ys A B c d t ht h _ hs r r').mono ?_; rintro e w1 ⟨rfl, E1⟩)
  go_ret
  exact ⟨rfl, E1⟩
instance : DecidableEq Entry := fun a b => by
  obtain ⟨a0, a1⟩ := a
  obtain ⟨b0, b1⟩ := b
  simp only [Entry.mk.injEq]
  exact inferInstance
set_option maxHeartbeats 1000000 in
theorem plain1_Entry (x y : Entry) (t : Bool) (ht : decide (x = y) = t) (h : FH) (w : World) (hs : Sits h w) :
    Calls Try.prog 79 #[.agg #[.string x.name, .int .i64 x.no], .agg #[.string y.name, .int .i64 y.no]] w fun e w' => e = .returned (.bool t) ∧ Ext h w h w' := by
  have E0 := Ext.refl hs
  obtain ⟨a0, a1⟩ := x
  obtain ⟨b0, b1⟩ := y
  subst ht
  go_enter Try.func79, Try.ntmps79
  go_wp2
  all_goals
    go_ret
    exact ⟨ret_bool (by simp_all [bytes_toList_eq]), (E0.alloc _).alloc _⟩
set_option maxHeartbeats 4000000 in
theorem same_Entry (xs ys : List Entry) (A B : Option Addr) (c d : Nat) (t : Bool) (ht : decide (xs = ys) = t) (h : FH) (w : World) (hs : Sits h w) (r : RowAt h A xs) (r' : RowAt h B ys) :
    Calls Try.prog 78 #[.slice A xs.length c, .slice B ys.length d, .func (.func 79) #[] #[]] w fun e w' => e = .returned (.bool t) ∧ Ext h w h w' := by
  have hl := r.1
  have hl' := r'.1
  have E0 := Ext.refl hs
  subst ht
  by_cases hlen : xs.length = ys.length
  · have HL := hid hlen
    have hb : ((xs.length : Int) != (ys.length : Int)) = false := by simp [hlen]
    clear hlen
    go_enter Try.func78, Try.ntmps78
    go_wp2_with fail
    go_loopw [7] (fun i wr => ∃ k : Nat, k ≤ xs.length ∧ i = .int .i64 k ∧ Hid (xs.take k = ys.take k) ∧ Ext h w h wr) (fun i _ => xs.length - (intOf i).toNat)
    case atStart => exact ⟨0, Nat.zero_le _, rfl, by simp [Hid], E0⟩
    case round =>
      obtain ⟨k, hk, rfl, HN, E⟩ := hrel
      by_cases hlt : k < xs.length
      · have hlt' : k < ys.length := by have := HL.out; omega
        obtain ⟨x, hx⟩ : ∃ x, xs[k]? = some x := ⟨xs[k], by simp [hlt]⟩
        obtain ⟨y, hy⟩ : ∃ y, ys[k]? = some y := ⟨ys[k], by simp [hlt']⟩
        obtain ⟨b, off, rfl, c0, c1, _⟩ := r.entry hx E.sits
        obtain ⟨b', off', rfl, d0, d1, _⟩ := r'.entry hy E.sits
        have HX := hid hx
        have HY := hid hy
        clear hx hy
        have z0 := fun d os => cell_regrown c0 d os
        have v0 := fun d os => cell_regrown d0 d os
        have z1 := fun d os => cell_regrown c1 d os
        have v1 := fun d os => cell_regrown d1 d os
        clear c0 c1 d0 d1
        obtain ⟨q, hq⟩ : ∃ q, decide (x = y) = q := ⟨_, rfl⟩
        have HQ := hid hq
        clear hq
        go_upto_region 6 with (fail)
        refine wp_region_quiet_below (by kernel_rfl) (by kernel_rfl) ?_
        repeat (go_big_quiet_step (exact quietCall (plain1_Entry x y _ HQ.out h _ (Ext.quiet E.sits _ _).sits)))
        refine wpQuiet_nil ?_
        intro _ hw'
        obtain ⟨⟨dq, osq⟩, hw''⟩ := hw'
        subst hw''
        cases q
        · go_wp2
          go_ret
          exact ⟨ret_bool (decide_eq_false (ne_of_at HX.out HY.out (of_decide_eq_false HQ.out))).symm, E.trans (Ext.quiet E.sits _ _)⟩
        · go_wp2
          go_roundw
          case rel => exact ⟨k + 1, by omega, by go_num, hid (take_eq_snoc HN.out HX.out HY.out (of_decide_eq_true HQ.out)), E.trans (Ext.quiet E.sits _ _)⟩
          case measure => simp [intOf]; omega
      · have he : xs = ys := by
          have h1 := HN.out
          rwa [List.take_of_length_le (by omega), List.take_of_length_le (by have := HL.out; omega)] at h1
        have HE := hid he
        clear he
        go_wp2
        go_ret
        exact ⟨ret_bool (decide_eq_true HE.out).symm, E⟩
  · have hb : ((xs.length : Int) != (ys.length : Int)) = true := by simp; omega
    have HL := hid hlen
    clear hlen
    go_enter Try.func78, Try.ntmps78
    go_wp2
    go_ret
    exact ⟨ret_bool (decide_eq_false (fun h => HL.out (by rw [h]))).symm, E0⟩
set_option maxHeartbeats 400000 in
theorem plain_Entry (xs ys : List Entry) (A B : Option Addr) (c d : Nat) (t : Bool) (ht : decide (xs = ys) = t) (h : FH) (w : World) (hs : Sits h w) (r : RowAt h A xs) (r' : RowAt h B ys) :
    Calls Try.prog 44 #[.slice A xs.length c, .slice B ys.length d] w fun e w' => e = .returned (.bool t) ∧ Ext h w h w' := by
  go_enter Try.func44, Try.ntmps44
  go_wp2_with (go_at_call 78; refine (same_Entry xs ys A B c d t ht h _ hs r r').mono ?_; rintro e w1 ⟨rfl, E1⟩)
  go_ret
  exact ⟨rfl, E1⟩
end Go.Proofs.Ytkglaofiencfdaa

namespace Go.Proofs.Ytkglaofiencfdaa
open Go.RowKit Go.Sort
set_option linter.unusedVariables false
section
variable {α : Type} [Enc α]
theorem heap_setCells (g : Nat) (e : TypeId) (fr : Nat × Nat) : ∀ (vs : List Value) (o : Nat) (w : World) (cur : Array Value), w.heap[g]? = some (.cells cur e fr) →
    ∃ cur', (w.setCells g o vs).heap[g]? = some (.cells cur' e fr) ∧ cur'.size = cur.size ∧ ∀ i, i < cur.size → cur'[i]? = if o ≤ i ∧ i < o + vs.length then vs[i - o]? else cur[i]?
  | [], o, w, cur, h => ⟨cur, h, rfl, fun i hi => by rw [if_neg (by simp)]⟩
  | v :: r, o, w, cur, h => by
    obtain ⟨cur', h1, h2, h3⟩ := heap_setCells g e fr r (o + 1) (w.setCell ⟨g, o, none⟩ v) (cur.setIfInBounds o v) (by
      simp only [World.setCell, Array.getElem?_modify, if_true, h, Option.map_some, Option.isSome_none, Bool.false_eq_true, if_false])
    refine ⟨cur', h1, by simpa using h2, fun i hi => ?_⟩
    rw [h3 i (by simpa using hi)]
    by_cases h4 : i = o
    · subst h4
      rw [if_neg (by omega), if_pos (by simp)]
      simp [hi]
    · by_cases h5 : o ≤ i ∧ i < o + (v :: r).length
      · rw [if_pos h5, if_pos (by simp at h5; omega)]
        rw [show i - o = (i - (o + 1)) + 1 from by omega]
        simp
      · rw [if_neg h5, if_neg (by simp at h5; omega)]
        rw [Array.getElem?_setIfInBounds]
        rw [if_neg (fun e => h4 e.symm)]
theorem Ext.setCells {h h1 : FH} {w : World} {g : Nat} (hp : w.heap.size ≤ g) (hn : h1 g = none) : ∀ (vs : List Value) (o : Nat) (w1 : World), Ext h w h1 w1 → Ext h w h1 (w1.setCells g o vs)
  | [], _, _, a => a
  | v :: r, o, w1, a => Ext.setCells hp hn r (o + 1) _ (a.setCell (p := ⟨g, o, none⟩) hp hn v)
/-- The room behind an own row is filled, one by one. -/
theorem OwnL.push {h : FH} {w : World} {base : Nat} {e : TypeId} {g n cap : Nat} {xs : List α} (o : OwnL h w base e (.slice (some ⟨g, 0, none⟩) n cap) xs) {cs : List Value} {y : α} (hy : Enc.rep h cs y) (hlt : xs.length < cap) :
    OwnL h (w.setCells g (xs.length * Enc.sz α) cs) base e (.slice (some ⟨g, 0, none⟩) (xs.length + 1) cap) (xs ++ [y]) ∧ w.there g (xs.length * Enc.sz α) (Enc.sz α) := by
  obtain ⟨cells, hw, r⟩ := o.own
  have hl := Enc.len hy
  rcases hw.2 with ⟨he, hn⟩ | ⟨g', cap', cur, he, hb, hg, hc, hm, hcs, htake⟩
  · cases he
  · cases he
    have hsz : (xs.length + 1) * Enc.sz α ≤ cur.size := by rw [hcs]; exact Nat.mul_le_mul_right _ hlt
    rw [Nat.add_mul, Nat.one_mul] at hsz
    refine ⟨⟨⟨cells ++ cs, ⟨?_, ?_⟩, r.append (Reps.single hy)⟩, o.free⟩, fun j hj => ⟨?_, by simp [World.frozen?, hg]⟩⟩
    · rw [List.length_append, hw.1, hl, List.length_append, List.length_singleton, Nat.add_mul]; omega
    · obtain ⟨cur', h1, h2, h3⟩ := heap_setCells g e (0, 0) cs (xs.length * Enc.sz α) w cur hg
      refine .inr ⟨g, cap, cur', by rw [List.length_append]; rfl, hb, h1, by rw [List.length_append]; exact hlt, hm, by rw [h2, hcs], ?_⟩
      apply List.ext_getElem?
      intro i
      rw [List.length_append, List.length_singleton, Nat.add_mul, Nat.one_mul, List.getElem?_take]
      by_cases hi : i < xs.length * Enc.sz α + Enc.sz α
      · rw [if_pos hi, Array.getElem?_toList, h3 i (by omega)]
        by_cases hi2 : i < xs.length * Enc.sz α
        · rw [if_neg (by omega), List.getElem?_append_left (by rw [hw.1]; exact hi2), ← htake, List.getElem?_take, if_pos hi2, Array.getElem?_toList]
        · rw [if_pos (by rw [hl]; omega), List.getElem?_append_right (by rw [hw.1]; omega), hw.1]
      · rw [if_neg hi, List.getElem?_eq_none (by rw [List.length_append, hw.1, hl]; omega)]
    · rw [cell_of_row _ g _ cur e (0, 0) hg]
      rw [Array.getElem?_eq_getElem (by omega)]; rfl
/-- 'append' within the capacity of an own row. -/
theorem wpList_appendIn {P : Program} {h : FH} {w : World} {ops : Array Oper} {rest : List Oper} {o : Oper} {a : Act} {Q : Exit → Act → World → Prop} (hgd : o.guard = none) (s x : Operand) (t : TypeId)
    (ho : o.op = .call { callee := .builtin .append, args := #[s, x], argTypes := #[t, t] }) (base : Nat) (e : TypeId) (bytes : Nat) (T : TyOk P t e (Enc.sz α) bytes) (g cap : Nat) (xs ys : List α) {n0 : Nat} (hv : a.eval s = .slice (some ⟨g, 0, none⟩) n0 cap) (O : OwnL h w base e (.slice (some ⟨g, 0, none⟩) n0 cap) xs) (hn0 : n0 = xs.length) (hs : Sits h w)
    (A : Option Addr) (n c : Nat) (hx : a.eval x = .slice A n c) (hny : n = ys.length) (r : RowAt h A ys) (b1 : xs.length + ys.length ≤ cap)
    (k : ∀ w', OwnL h w' base e (.slice (some ⟨g, 0, none⟩) (n0 + n) cap) (xs ++ ys) → w.grownBy w' (some g) → wpList P ops Q rest (a.put o.dst (.slice (some ⟨g, 0, none⟩) (n0 + n) cap)) w') : wpList P ops Q (o :: rest) a w := by
  subst hny hn0
  obtain ⟨i, z, hi, hz0, hz1, hz2, hz3⟩ := T.info
  obtain ⟨cells, hw, R⟩ := O.own
  cases A with
  | none =>
    have hy : ys = [] := by
      cases ys with
      | nil => rfl
      | cons y ys => obtain ⟨b, off, e, _⟩ := r.2 (by simp); cases e
    subst hy
    refine wpList_plain hgd fun K hK => ?_
    have hr := run_append_none' (P := P) base t o.type e i (Enc.sz α) T.und hi _ xs.length cells hw c
    unfold Oper.wp execOp
    simp only [ho, resolve, invoke, builtin, Sem.run_bind, Sem.run_pure, Result.andThen_ok, List.map_toArray, List.map_cons, List.map_nil, hv, hx]
    rw [show ([] : List α).length = 0 from rfl, hr]
    exact hK _ _ (by simpa using k w (by simpa using O) ⟨rfl, rfl, rfl, Nat.le_refl _, fun _ _ _ => rfl⟩)
  | some ad =>
    obtain ⟨news, RN, hnews⟩ : ∃ news, Reps h news ys ∧ ∀ j u, news[j]? = some u → w.cell? (ad.add j) = some u := by
      by_cases hy : 0 < ys.length
      · obtain ⟨b, off, e, f⟩ := r.2 hy
        cases e
        obtain ⟨news, RN, hn⟩ := RowAt.reps (h := h) (b := b) (off := off) (xs := ys) 0 (fun i x hx => by simpa using f i x hx)
        exact ⟨news, RN, fun j u hu => by rw [show (⟨b, off, none⟩ : Addr).add j = ⟨b, off + j, none⟩ from by unfold Addr.add; split <;> simp_all]; exact hs.cell (by simpa using hn j u hu)⟩
      · have : ys = [] := List.eq_nil_of_length_eq_zero (by omega)
        subst this
        exact ⟨[], rfl, fun j u hu => by simp at hu⟩
    exact wpList_append_fits w hgd s x t ho base e i (Enc.sz α) T.und hi hz1 g xs.length cap cells hv hw ad ys.length c news hx RN.length hnews RN.one b1 (fun w' O' hg => k w' ⟨⟨_, by rw [List.length_append]; exact O', R.append RN⟩, O.free⟩ hg)
theorem RowAt.take {h : FH} {A : Option Addr} {xs ys : List α} (r : RowAt h A (xs ++ ys)) : RowAt h A xs := by
  obtain ⟨h1, h2⟩ := r
  rw [List.length_append] at h1 h2
  exact ⟨by omega, fun hp => by
    obtain ⟨b, off, e, f⟩ := h2 (by omega)
    exact ⟨b, off, e, fun i x hx => f i x (by rw [List.getElem?_append_left (List.getElem?_eq_some_iff.1 hx).1]; exact hx)⟩⟩
/-- A copy with room behind it, and something in it. -/
def RetPad (h : FH) (w : World) (T : TypeId) (xs : List α) (f : α) (e : Ending) (w' : World) : Prop :=
  ∃ g h1, e = .returned (.slice (some ⟨g, 0, none⟩) xs.length (xs.length + 3)) ∧ RowAt h1 (some ⟨g, 0, none⟩) (xs ++ List.replicate 3 f) ∧ Ext h w h1 w'
end
theorem own_zero' {w : World} {base g n m : Nat} {e : TypeId} {size : Nat} {cells : List Value} (h : w.ownsRow base e size (.slice (some ⟨g, 0, none⟩) m n) m cells) : w.ownsRow base e size (.slice (some ⟨g, 0, none⟩) 0 n) 0 [] := by
  rcases h.2 with ⟨he, _⟩ | ⟨g', cap, cur, he, hb, hg, hc, hm, hcs, ht⟩
  · cases he
  · cases he
    exact ⟨by simp, .inr ⟨g, n, cur, rfl, hb, hg, Nat.zero_le _, hm, hcs, by simp⟩⟩
/-- A row of the call's own, from now on as it is. -/
theorem OwnL.stay {α : Type} [Enc α] {h0 h : FH} {w0 w : World} {base : Nat} {e : TypeId} {v : Value} {xs : List α} (o : OwnL h w base e v xs) (E : Ext h0 w0 h w) (hb : w0.heap.size ≤ base) (hlen : xs.length ≤ 9223372036854775807) :
    ∃ h' A c, v = .slice A xs.length c ∧ RowAt h' A xs ∧ FLe h h' ∧ Ext h0 w0 h' w := by
  obtain ⟨h', A, c, hv, _, r, l, s, f⟩ := o.freeze E.sits hlen
  exact ⟨h', A, c, hv, r, l, ⟨E.le.trans l, s, E.below, fun b hb' => by
    rcases f b hb' with h3 | h3
    · exact E.fresh b h3
    · exact .inr (Nat.le_trans hb h3)⟩⟩
theorem cell_int {h : FH} {w : World} {base : Nat} {e : TypeId} {g n cap : Nat} {xs : List Int} (o : OwnL h w base e (.slice (some ⟨g, 0, none⟩) n cap) xs) {i : Nat} {x : Int} (hx : xs[i]? = some x) :
    w.cell? ⟨g, i, none⟩ = some (.int .i64 x) ∧ w.frozen? ⟨g, i, none⟩ = false ∧ h g = none ∧ base ≤ g := by
  obtain ⟨g1, cap1, cs1, hv1, hb, _, hn, hr1, hc1, hf1⟩ := o.get hx
  obtain ⟨rfl, -⟩ : g = g1 ∧ _ := by simpa using hv1
  have hr1 : cs1 = [.int .i64 x] := hr1
  subst hr1
  have := hc1 0 _ rfl
  rw [show i * Enc.sz Int + 0 = i from Nat.mul_one i] at this
  exact ⟨this, hf1 i, hn, hb⟩
theorem put_int {h : FH} {w : World} {base : Nat} {e : TypeId} {g n cap : Nat} {xs : List Int} (o : OwnL h w base e (.slice (some ⟨g, 0, none⟩) n cap) xs) {i : Nat} {x : Int} (hx : xs[i]? = some x) (y : Int) :
    OwnL h (w.setCell ⟨g, i, none⟩ (.int .i64 y)) base e (.slice (some ⟨g, 0, none⟩) n cap) (xs.set i y) := by
  have P1 := o.setCell (y := y) (j := 0) (u := .int .i64 y) hx (by decide) (fun cs hcs => by have hcs : cs = [.int .i64 x] := hcs; subst hcs; exact (rfl : _ = _))
  rwa [show i * Enc.sz Int + 0 = i from Nat.mul_one i] at P1
end Go.Proofs.Ytkglaofiencfdaa
