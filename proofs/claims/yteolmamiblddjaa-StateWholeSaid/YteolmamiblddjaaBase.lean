import Derived.WalkKit
import Derived.Maps.AppendAt
import Derived.Maps.Own
import Derived.OwnWalk
import Derived.WalkSpells
import Derived.WalkLawsBesides
import Derived.Deep.RegionHeld3
import Derived.Deep.LoopGhost
import Derived.Deep.DeepCutAuto
import Derived.Deep.QuietTactic
import Derived.BigQuiet
import Derived.Lib.QuietBelow
import Derived.KernelRfl
namespace Go.Proofs.Yteolmamiblddjaa
open Go.RowKit Go.Sort

theorem hid {p : Prop} (h : p) : Hid p := h

theorem ret_int {k : IntKind} {a b : Int} (h : a = b) : Ending.returned (.int k a) = .returned (.int k b) := by rw [h]
theorem ret_bool {a b : Bool} (h : a = b) : Ending.returned (.bool a) = .returned (.bool b) := by rw [h]
theorem ret_ib {k : IntKind} {a b : Int} {c d : Bool} (h : a = b) (h' : c = d) : Ending.returned (.tuple #[.int k a, .bool c]) = .returned (.tuple #[.int k b, .bool d]) := by rw [h, h']

/-- A part of the heap that stays as it is. -/
abbrev FH := Nat → Option Obj
def Sits (h : FH) (w : World) : Prop := ∀ b o, h b = some o → w.heap[b]? = some o
def FLe (h h' : FH) : Prop := ∀ b o, h b = some o → h' b = some o
theorem FLe.refl (h : FH) : FLe h h := fun _ _ x => x
theorem FLe.trans {a b c : FH} (h : FLe a b) (k : FLe b c) : FLe a c := fun x o y => k x o (h x o y)
def FH.cell (h : FH) (a : Addr) : Option Value :=
  match h a.block with
  | some (.cells c _ _) => if a.spot.isSome then none else c[a.off]?
  | _ => none
theorem Sits.cell {h : FH} {w : World} (hs : Sits h w) {a : Addr} {v : Value} (hc : h.cell a = some v) : w.cell? a = some v := by
  unfold FH.cell at hc
  unfold World.cell?
  cases e : h a.block with
  | none => rw [e] at hc; cases hc
  | some o => rw [e] at hc; rw [hs _ _ e]; exact hc
theorem FLe.cell {h h' : FH} (hl : FLe h h') {a : Addr} {v : Value} (hc : h.cell a = some v) : h'.cell a = some v := by
  unfold FH.cell at hc ⊢
  cases e : h a.block with
  | none => rw [e] at hc; cases hc
  | some o => rw [e] at hc; rw [hl _ _ e]; exact hc
theorem Sits.lt {h : FH} {w : World} (hs : Sits h w) {b : Nat} (hb : h b ≠ none) : b < w.heap.size := by
  cases e : h b with
  | none => exact absurd e hb
  | some o => exact (Array.getElem?_eq_some_iff.1 (hs _ _ e)).1

/-- What a call may have done: what stays, stays; it may be more. -/
structure Ext (h : FH) (w : World) (h' : FH) (w' : World) : Prop where
  le : FLe h h'
  sits : Sits h' w'
  below : Below w.heap.size w w'
  fresh : ∀ b, h' b ≠ none → h b ≠ none ∨ w.heap.size ≤ b
theorem Ext.refl {h : FH} {w : World} (hs : Sits h w) : Ext h w h w := ⟨FLe.refl h, hs, Below.refl _ _, fun _ hb => .inl hb⟩
theorem Ext.size {h h' : FH} {w w' : World} (e : Ext h w h' w') : w.heap.size ≤ w'.heap.size := e.below.size
theorem Ext.trans {h h1 h2 : FH} {w w1 w2 : World} (a : Ext h w h1 w1) (b : Ext h1 w1 h2 w2) : Ext h w h2 w2 :=
  ⟨a.le.trans b.le, b.sits, a.below.trans (b.below.mono a.size), fun k hk => by
    rcases b.fresh k hk with h3 | h3
    · exact a.fresh k h3
    · exact .inr (Nat.le_trans a.size h3)⟩
theorem Sits.alloc {h : FH} {w : World} (hs : Sits h w) (o : Obj) : Sits h (w.alloc o) := fun b x hb => by
  rw [Below.heap_alloc _ _ _ (hs.lt (by rw [hb]; simp))]; exact hs b x hb
theorem Ext.alloc {h h1 : FH} {w w1 : World} (a : Ext h w h1 w1) (o : Obj) : Ext h w h1 (w1.alloc o) :=
  ⟨a.le, a.sits.alloc o, a.below.alloc a.size o, a.fresh⟩
theorem Ext.drew {h h1 : FH} {w w1 : World} (a : Ext h w h1 w1) : Ext h w h1 w1.drew := ⟨a.le, a.sits, a.below.drew, a.fresh⟩
theorem Ext.drewN {h h1 : FH} {w w1 : World} (a : Ext h w h1 w1) (n : Nat) : Ext h w h1 (w1.drewN n) :=
  ⟨a.le, a.sits, ⟨a.below.os, a.below.tape, a.below.output, a.below.size, a.below.block⟩, a.fresh⟩
theorem Ext.setCell {h h1 : FH} {w w1 : World} (a : Ext h w h1 w1) {p : Addr} (hp : w.heap.size ≤ p.block) (hn : h1 p.block = none) (v : Value) : Ext h w h1 (w1.setCell p v) :=
  ⟨a.le, fun b o hb => by
    by_cases e : b = p.block
    · subst e; rw [hn] at hb; cases hb
    · rw [Below.heap_setCell _ _ _ _ e]; exact a.sits b o hb, a.below.setCell hp v, a.fresh⟩
theorem Ext.grown {h h1 : FH} {w w1 w2 : World} (a : Ext h w h1 w1) {row : Option Nat} (hg : w1.grownBy w2 row) (hr : ∀ k, row = some k → w.heap.size ≤ k ∧ h1 k = none) : Ext h w h1 w2 :=
  ⟨a.le, fun b o hb => by
    rw [hg.block b (a.sits.lt (by rw [hb]; simp)) (fun e => by have := (hr b e.symm).2; rw [hb] at this; cases this)]
    exact a.sits b o hb, a.below.grown hg a.size (fun k hk => (hr k hk).1), a.fresh⟩

theorem Ext.keep {h h1 : FH} {w w1 : World} (a : Ext h w h1 w1) {p : Addr} {v : Value} (hc : w.cell? p = some v) : w1.cell? p = some v :=
  (a.below.cell (World.block_lt_of_cell? w p hc)).trans hc

theorem Ext.of_below {h : FH} {w w1 : World} (hs : Sits h w) (b : Below w.heap.size w w1) : Ext h w h w1 :=
  ⟨FLe.refl h, fun k o hk => by rw [b.block k (hs.lt (by rw [hk]; simp))]; exact hs k o hk, b, fun _ x => .inl x⟩
theorem Ext.quiet {h : FH} {w : World} (hs : Sits h w) (d : Nat) (os : Array Obj) : Ext h w h (grow (redrawn w d) os) := Ext.of_below hs (below_regrown w d os)
theorem quietCall {P : Program} {f : FuncId} {args : Array Value} {w : World} {d : Nat} {os : Array Obj} {v : Value} {h h1 : FH}
    (hc : Calls P f args (grow (redrawn w d) os) fun e w' => e = .returned v ∧ Ext h (grow (redrawn w d) os) h1 w') : Calls P f args (grow (redrawn w d) os) fun e w'' => e = .returned v ∧ ∃ p : Regrown, w'' = grow (redrawn w p.d) p.os :=
  Calls.regrown_of (hc.mono fun _ _ ⟨a, b⟩ => ⟨a, b.below⟩)

/-- One block more that stays as it is. -/
def FH.add (h : FH) (g : Nat) (o : Obj) : FH := fun b => if b = g then some o else h b
theorem Sits.none {h : FH} {w : World} (hs : Sits h w) {g : Nat} (hg : w.heap.size ≤ g) : h g = none := by
  cases e : h g with
  | none => rfl
  | some o => exact absurd (hs.lt (b := g) (by rw [e]; simp)) (by omega)
theorem FLe.add {h : FH} {g : Nat} (hn : h g = none) (o : Obj) : FLe h (h.add g o) := fun b x hx => by
  unfold FH.add
  by_cases e : b = g
  · subst e; rw [hn] at hx; cases hx
  · rw [if_neg e]; exact hx
theorem Sits.add {h : FH} {w : World} (hs : Sits h w) {g : Nat} {o : Obj} (hg : w.heap[g]? = some o) : Sits (h.add g o) w := fun b x hx => by
  unfold FH.add at hx
  by_cases e : b = g
  · subst e; simp at hx; subst hx; exact hg
  · rw [if_neg e] at hx; exact hs b x hx
theorem Ext.add {h h1 : FH} {w w1 : World} (a : Ext h w h1 w1) {g : Nat} {o : Obj} (hg : w1.heap[g]? = some o) (hn : h1 g = none) (hb : w.heap.size ≤ g) : Ext h w (h1.add g o) w1 :=
  ⟨a.le.trans (FLe.add hn o), a.sits.add hg, a.below, fun b hx => by
    unfold FH.add at hx
    by_cases e : b = g
    · subst e; exact .inr hb
    · rw [if_neg e] at hx; exact a.fresh b hx⟩
theorem FH.add_same (h : FH) (g : Nat) (o : Obj) : (h.add g o) g = some o := by simp [FH.add]
theorem FH.add_other (h : FH) {g b : Nat} (o : Obj) (hne : b ≠ g) : (h.add g o) b = h b := by simp [FH.add, hne]
theorem FH.add_cell (h : FH) (g : Nat) (cs : Array Value) (t : TypeId) (fr : Nat × Nat) {j : Nat} {v : Value} (hv : cs[j]? = some v) : (h.add g (.cells cs t fr)).cell ⟨g, j, none⟩ = some v := by
  simp [FH.cell, FH.add, hv]
/-- The same, of what was there to begin with. -/
theorem Ext.back {h h1 : FH} {w w1 : World} (a : Ext h w h1 w1) : Ext h w h w1 := ⟨FLe.refl h, fun b o hb => a.sits b o (a.le b o hb), a.below, fun _ x => .inl x⟩
theorem heap_new (w : World) (o : Obj) : (w.alloc o).heap[w.heap.size]? = some o := heap_alloc_new w o
theorem keep1 {w : World} {p : Addr} {v : Value} (hc : w.cell? p = some v) (o : Obj) : (w.alloc o).cell? p = some v := by
  have hb := World.block_lt_of_cell? w p hc
  rw [← hc]
  exact World.cell?_of_block (w := w) (Below.heap_alloc _ _ _ hb)
theorem keep2 {w : World} {p : Addr} {v : Value} (hc : w.cell? p = some v) (o o' : Obj) : ((w.alloc o).alloc o').cell? p = some v := keep1 (keep1 hc o) o'
theorem keep3 {w : World} {p : Addr} {v : Value} (hc : w.cell? p = some v) (o o' o'' : Obj) : (((w.alloc o).alloc o').alloc o'').cell? p = some v := keep1 (keep2 hc o o') o''

/-- How a thing lies in cells. -/
class Enc (α : Type) where
  sz : Nat
  rep : FH → List Value → α → Prop
  len : ∀ {h cs x}, rep h cs x → cs.length = sz
  mono : ∀ {h h' cs x}, FLe h h' → rep h cs x → rep h' cs x
  one : ∀ {h cs x}, rep h cs x → ∀ u ∈ cs, u.oneCell' = true
  pos : 0 < sz
instance : Enc Int := ⟨1, fun _ cs x => cs = [.int .i64 x], fun h => by rw [h]; rfl, fun _ h => h, fun h u hu => by subst h; simp at hu; subst hu; rfl, Nat.one_pos⟩
instance : Enc Bool := ⟨1, fun _ cs x => cs = [.bool x], fun h => by rw [h]; rfl, fun _ h => h, fun h u hu => by subst h; simp at hu; subst hu; rfl, Nat.one_pos⟩
instance : Enc ByteArray := ⟨1, fun _ cs x => cs = [.string x] ∧ x.size ≤ 9223372036854775807, fun h => by rw [h.1]; rfl, fun _ h => h, fun ⟨h, _⟩ u hu => by subst h; simp at hu; subst hu; rfl, Nat.one_pos⟩

/-- A slice's elements, from its address on. -/
def RowAt {α : Type} [Enc α] (h : FH) (A : Option Addr) (xs : List α) : Prop :=
  xs.length ≤ 9223372036854775807 ∧ (0 < xs.length → ∃ b off, A = some ⟨b, off, none⟩ ∧ ∀ i x, xs[i]? = some x → ∃ cs, Enc.rep h cs x ∧ ∀ j u, cs[j]? = some u → h.cell ⟨b, off + i * Enc.sz α + j, none⟩ = some u)
theorem RowAt.mono {α : Type} [Enc α] {h h' : FH} {A : Option Addr} {xs : List α} (hl : FLe h h') (r : RowAt h A xs) : RowAt h' A xs :=
  ⟨r.1, fun hp => by
    obtain ⟨b, off, e, f⟩ := r.2 hp
    exact ⟨b, off, e, fun i x hx => by
      obtain ⟨cs, hr, hc⟩ := f i x hx
      exact ⟨cs, Enc.mono hl hr, fun j u hu => hl.cell (hc j u hu)⟩⟩⟩
theorem RowAt.nil {α : Type} [Enc α] (h : FH) (A : Option Addr) : RowAt h A ([] : List α) := ⟨by simp, fun hp => by simp at hp⟩
instance {α : Type} [Enc α] : Enc (List α) :=
  ⟨1, fun h cs xs => ∃ A c, cs = [.slice A xs.length c] ∧ xs.length ≤ c ∧ RowAt h A xs, fun ⟨_, _, e, _⟩ => by rw [e]; rfl, fun hl ⟨A, c, e, hc, r⟩ => ⟨A, c, e, hc, r.mono hl⟩,
   fun ⟨A, c, e, _⟩ u hu => by subst e; simp at hu; subst hu; rfl, Nat.one_pos⟩

/-- Elements, one behind the other, in cells. -/
def Reps {α : Type} [Enc α] (h : FH) : List Value → List α → Prop
  | cells, [] => cells = []
  | cells, x :: xs => ∃ cs rest, cells = cs ++ rest ∧ Enc.rep h cs x ∧ Reps h rest xs
section
variable {α : Type} [Enc α]
theorem Reps.mono {h h' : FH} (hl : FLe h h') : ∀ {cells : List Value} {xs : List α}, Reps h cells xs → Reps h' cells xs
  | _, [], r => r
  | _, _ :: _, ⟨cs, rest, e, r, t⟩ => ⟨cs, rest, e, Enc.mono hl r, t.mono hl⟩
theorem Reps.length {h : FH} : ∀ {cells : List Value} {xs : List α}, Reps h cells xs → cells.length = xs.length * Enc.sz α
  | _, [], r => by rw [show _ = [] from r]; simp
  | _, x :: xs, ⟨cs, rest, e, r, t⟩ => by rw [e, List.length_append, Enc.len r, t.length, List.length_cons, Nat.add_mul]; omega
theorem Reps.append {h : FH} : ∀ {c1 c2 : List Value} {xs ys : List α}, Reps h c1 xs → Reps h c2 ys → Reps h (c1 ++ c2) (xs ++ ys)
  | _, _, [], _, r, t => by rw [show _ = [] from r]; exact t
  | _, _, _ :: _, _, ⟨cs, rest, e, r, k⟩, t => ⟨cs, rest ++ _, by rw [e, List.append_assoc], r, k.append t⟩
theorem Reps.single {h : FH} {cs : List Value} {x : α} (r : Enc.rep h cs x) : Reps h cs [x] := ⟨cs, [], by simp, r, rfl⟩
theorem Reps.one {h : FH} : ∀ {cells : List Value} {xs : List α}, Reps h cells xs → ∀ u ∈ cells, u.oneCell' = true
  | _, [], r, u, hu => by rw [show _ = [] from r] at hu; cases hu
  | _, _ :: _, ⟨cs, rest, e, r, t⟩, u, hu => by
    rw [e] at hu
    rcases List.mem_append.1 hu with h1 | h1
    · exact Enc.one r u h1
    · exact t.one u h1
theorem Reps.get {h : FH} : ∀ {cells : List Value} {xs : List α}, Reps h cells xs → ∀ {i : Nat} {x : α}, xs[i]? = some x → ∃ cs, Enc.rep h cs x ∧ ∀ j u, cs[j]? = some u → cells[i * Enc.sz α + j]? = some u
  | _, [], _, _, _, hx => by simp at hx
  | _, y :: ys, ⟨cs, rest, e, r, t⟩, 0, x, hx => ⟨cs, by simp at hx; subst hx; exact r, fun j u hu => by
      rw [e, Nat.zero_mul, Nat.zero_add, List.getElem?_append_left (List.getElem?_eq_some_iff.1 hu).1]; exact hu⟩
  | _, y :: ys, ⟨cs, rest, e, r, t⟩, i + 1, x, hx => by
    obtain ⟨cs', r', f⟩ := t.get (i := i) (x := x) (by simpa using hx)
    refine ⟨cs', r', fun j u hu => ?_⟩
    have hl := Enc.len r
    rw [e, List.getElem?_append_right (by rw [hl, Nat.add_mul]; omega), hl, show (i + 1) * Enc.sz α + j - Enc.sz α = i * Enc.sz α + j from by rw [Nat.add_mul]; omega]
    exact f j u hu
theorem Reps.take {h : FH} : ∀ {cells : List Value} {xs : List α}, Reps h cells xs → ∀ (n : Nat), Reps h (cells.take (n * Enc.sz α)) (xs.take n)
  | _, [], r, n => by rw [show _ = [] from r]; simp [Reps]
  | _, _ :: _, _, 0 => by simp [Reps]
  | _, x :: xs, ⟨cs, rest, e, r, t⟩, n + 1 => by
    have hl := Enc.len r
    refine ⟨cs, rest.take (n * Enc.sz α), ?_, r, t.take n⟩
    rw [e, List.take_append, List.take_of_length_le (by rw [hl, Nat.add_mul]; omega), hl, show (n + 1) * Enc.sz α - Enc.sz α = n * Enc.sz α from by rw [Nat.add_mul]; omega]
theorem Reps.drop {h : FH} : ∀ {cells : List Value} {xs : List α}, Reps h cells xs → ∀ (n : Nat), Reps h (cells.drop (n * Enc.sz α)) (xs.drop n)
  | _, [], r, n => by rw [show _ = [] from r]; simp [Reps]
  | _, _ :: _, r, 0 => by simpa using r
  | _, x :: xs, ⟨cs, rest, e, r, t⟩, n + 1 => by
    have hl := Enc.len r
    rw [e, List.drop_append, List.drop_of_length_le (by rw [hl, Nat.add_mul]; omega), hl, show (n + 1) * Enc.sz α - Enc.sz α = n * Enc.sz α from by rw [Nat.add_mul]; omega]
    exact t.drop n
theorem Reps.set {h : FH} {cells : List Value} {xs : List α} (r : Reps h cells xs) {i : Nat} {y : α} {cs : List Value} (hi : i < xs.length) (hy : Enc.rep h cs y) :
    Reps h (cells.take (i * Enc.sz α) ++ cs ++ cells.drop ((i + 1) * Enc.sz α)) (xs.set i y) := by
  have e : xs.set i y = xs.take i ++ [y] ++ xs.drop (i + 1) := by
    rw [List.set_eq_take_append_cons_drop, if_pos hi]; simp
  rw [e]
  exact ((r.take i).append (Reps.single hy)).append (r.drop (i + 1))
/-- The cells of what is read. -/
theorem RowAt.reps {h : FH} {b off : Nat} : ∀ {xs : List α} (k : Nat), (∀ i x, xs[i]? = some x → ∃ cs, Enc.rep h cs x ∧ ∀ j u, cs[j]? = some u → h.cell ⟨b, off + (k + i) * Enc.sz α + j, none⟩ = some u) →
    ∃ cells, Reps h cells xs ∧ ∀ j u, cells[j]? = some u → h.cell ⟨b, off + k * Enc.sz α + j, none⟩ = some u
  | [], k, _ => ⟨[], rfl, fun j u hu => by simp at hu⟩
  | x :: xs, k, f => by
    obtain ⟨cs, r, hc⟩ := f 0 x rfl
    obtain ⟨rest, t, ht⟩ := RowAt.reps (xs := xs) (k + 1) (fun i y hy => by
      obtain ⟨cs', r', hc'⟩ := f (i + 1) y (by simpa using hy)
      exact ⟨cs', r', fun j u hu => by rw [show k + 1 + i = k + (i + 1) from by omega]; exact hc' j u hu⟩)
    refine ⟨cs ++ rest, ⟨cs, rest, rfl, r, t⟩, fun j u hu => ?_⟩
    have hl := Enc.len r
    by_cases hj : j < cs.length
    · rw [List.getElem?_append_left hj] at hu; simpa using hc j u hu
    · rw [List.getElem?_append_right (by omega)] at hu
      have := ht _ _ hu
      rwa [hl, show off + (k + 1) * Enc.sz α + (j - Enc.sz α) = off + k * Enc.sz α + j from by rw [Nat.add_mul]; omega] at this

theorem RowAt.of_block {h : FH} {g : Nat} {cells : Array Value} {t : TypeId} {fr : Nat × Nat} {xs : List α} (hb : h g = some (.cells cells t fr)) (r : Reps h cells.toList xs) (hl : xs.length ≤ 9223372036854775807) : RowAt h (some ⟨g, 0, none⟩) xs :=
  ⟨hl, fun _ => ⟨g, 0, rfl, fun i x hx => by
    obtain ⟨cs, hr, hc⟩ := r.get hx
    refine ⟨cs, hr, fun j u hu => ?_⟩
    simp only [FH.cell, hb, Option.isSome_none, Bool.false_eq_true, if_false, Nat.zero_add]
    simpa using hc j u hu⟩⟩
/-- A row of the call's own. -/
structure OwnL (h : FH) (w : World) (base : Nat) (e : TypeId) (v : Value) (xs : List α) : Prop where
  own : ∃ cells, w.ownsRow base e (Enc.sz α) v xs.length cells ∧ Reps h cells xs
  free : ∀ g, v.ownBlock = some g → h g = none
theorem OwnL.nil (h : FH) (w : World) (base : Nat) (e : TypeId) : OwnL h w base e (.slice none 0 0) ([] : List α) :=
  ⟨⟨[], World.ownsRow_nil w base e _, rfl⟩, fun g hg => by simp [Value.ownBlock] at hg⟩
theorem OwnL.lt {h : FH} {w : World} {base : Nat} {e : TypeId} {v : Value} {xs : List α} (o : OwnL h w base e v xs) : ∀ k, v.ownBlock = some k → base ≤ k ∧ k < w.heap.size := by
  obtain ⟨cells, hw, _⟩ := o.own
  exact hw.lt
theorem OwnL.slice {h : FH} {w : World} {base : Nat} {e : TypeId} {v : Value} {xs : List α} (o : OwnL h w base e v xs) : ∃ A c, v = .slice A xs.length c ∧ xs.length ≤ c := by
  obtain ⟨cells, hw, _⟩ := o.own
  rcases hw.2 with ⟨rfl, hn⟩ | ⟨g, cap, cur, rfl, _, _, hc, _⟩
  · exact ⟨none, 0, by rw [hn], by omega⟩
  · exact ⟨_, cap, rfl, hc⟩
/-- What is done elsewhere leaves it. -/
theorem OwnL.kept {h h' : FH} {w w' : World} {base : Nat} {e : TypeId} {v : Value} {xs : List α} (o : OwnL h w base e v xs) {row : Option Nat} (hg : w.grownBy w' row) (hne : v.ownBlock = none ∨ v.ownBlock ≠ row) (hl : FLe h h') (hf : ∀ g, v.ownBlock = some g → h' g = none) : OwnL h' w' base e v xs := by
  obtain ⟨cells, hw, r⟩ := o.own
  exact ⟨⟨cells, hw.kept hg hne, r.mono hl⟩, hf⟩
theorem OwnL.alloc {h : FH} {w : World} {base : Nat} {e : TypeId} {v : Value} {xs : List α} (o : OwnL h w base e v xs) (x : Obj) : OwnL h (w.alloc x) base e v xs :=
  o.kept (World.grownBy_alloc w x none) (by cases v.ownBlock <;> simp) (FLe.refl h) o.free
theorem OwnL.drew {h : FH} {w : World} {base : Nat} {e : TypeId} {v : Value} {xs : List α} (o : OwnL h w base e v xs) : OwnL h w.drew base e v xs :=
  o.kept (row := none) ⟨rfl, rfl, rfl, Nat.le_refl _, fun _ _ _ => rfl⟩ (by cases v.ownBlock <;> simp) (FLe.refl h) o.free
theorem grownBy_of_ext {h h1 : FH} {w w1 : World} (a : Ext h w h1 w1) (row : Option Nat) : w.grownBy w1 row := ⟨a.below.os, a.below.tape, a.below.output, a.below.size, fun i hi _ => a.below.block i hi⟩
/-- Behind a call. -/
theorem OwnL.ext {h h1 : FH} {w w1 : World} {base : Nat} {e : TypeId} {v : Value} {xs : List α} (o : OwnL h w base e v xs) (a : Ext h w h1 w1) : OwnL h1 w1 base e v xs :=
  o.kept (grownBy_of_ext a none) (by cases v.ownBlock <;> simp) a.le (fun g hg => by
    cases e : h1 g with
    | none => rfl
    | some x =>
      rcases a.fresh g (by rw [e]; simp) with h2 | h2
      · exact absurd (o.free g hg) h2
      · exact absurd (o.lt g hg).2 (by omega))
/-- From now on it stays as it is. -/
theorem OwnL.freeze {h : FH} {w : World} {base : Nat} {e : TypeId} {v : Value} {xs : List α} (o : OwnL h w base e v xs) (hs : Sits h w) (hlen : xs.length ≤ 9223372036854775807) :
    ∃ h' A c, v = .slice A xs.length c ∧ xs.length ≤ c ∧ RowAt h' A xs ∧ FLe h h' ∧ Sits h' w ∧ ∀ b, h' b ≠ none → h b ≠ none ∨ base ≤ b := by
  obtain ⟨cells, hw, r⟩ := o.own
  rcases hw.2 with ⟨rfl, hn⟩ | ⟨g, cap, cur, rfl, hb, hg, hc, _, hcs, htake⟩
  · have hx : xs = [] := List.eq_nil_of_length_eq_zero hn
    subst hx
    exact ⟨h, none, 0, rfl, Nat.le_refl _, RowAt.nil _ _, FLe.refl h, hs, fun b hb => .inl hb⟩
  · have hfree := o.free g rfl
    have hle : FLe h (fun b => if b = g then some (.cells cur e (0, 0)) else h b) := fun b x hx => by
      by_cases hbg : b = g
      · subst hbg; rw [hfree] at hx; cases hx
      · simp only [hbg, if_false]; exact hx
    refine ⟨fun b => if b = g then some (.cells cur e (0, 0)) else h b, _, cap, rfl, hc, ⟨hlen, fun _ => ⟨g, 0, rfl, fun i x hx => ?_⟩⟩, hle, fun b x hx => ?_, fun b hb' => ?_⟩
    · obtain ⟨cs, hr, hcc⟩ := r.get hx
      refine ⟨cs, Enc.mono hle hr, fun j u hu => ?_⟩
      have h1 := hcc j u hu
      have h2 := (List.getElem?_eq_some_iff.1 h1).1
      rw [← htake] at h1
      rw [List.getElem?_take] at h1
      simp only [FH.cell, if_true, Option.isSome_none, Bool.false_eq_true, if_false, Nat.zero_add]
      split at h1
      · simpa using h1
      · cases h1
    · by_cases hbg : b = g
      · subst hbg; simp at hx; subst hx; exact hg
      · simp only [hbg, if_false] at hx; exact hs b x hx
    · by_cases hbg : b = g
      · subst hbg; exact .inr hb
      · simp only [hbg, if_false] at hb'; exact .inl hb'
end
/-- A slice type, and its elements'. -/
structure TyOk (P : Program) (t e : TypeId) (size bytes : Nat) : Prop where
  und : P.underlying t = some (.slice e)
  info : ∃ i z, P.info? e = some i ∧ i.zero = some z ∧ i.size = size ∧ i.bytes = bytes ∧ z.cells.size = size
theorem TyOk.mk' {P : Program} {t e : TypeId} {z : Value} {size bytes : Nat} (hu : P.underlying t = some (.slice e)) (hi : (P.info? e).map (fun i => (i.zero, i.size, i.bytes)) = some (some z, size, bytes)) (hz : z.cells.size = size) : TyOk P t e size bytes := by
  obtain ⟨i, h1, h2, h3, h4⟩ := info_parts hi
  exact ⟨hu, i, z, h1, h2, h3, h4, hz⟩
section
variable {α : Type} [Enc α] {P : Program}
/-- append(v, ys...), v of the call's own, ys as they lie. -/
theorem run_appendL {h : FH} {w : World} {base : Nat} {t ty e : TypeId} {bytes : Nat} (T : TyOk P t e (Enc.sz α) bytes) {v : Value} {xs ys : List α} (O : OwnL h w base e v xs) (hs : Sits h w) {A : Option Addr} {c : Nat} (r : RowAt h A ys) (hn : A = none → c = 0)
    (hbytes : (xs.length + ys.length) * bytes ≤ 140737488355328) (hpos : 0 < bytes) (hbase : base ≤ w.heap.size) :
    ∃ v' w', (Builtin.append_ #[t, t] ty #[v, .slice A ys.length c]).run P w = .ok v' w' ∧ OwnL h w' base e v' (xs ++ ys) ∧ w.grownBy w' v.ownBlock ∧ (v'.ownBlock = v.ownBlock ∨ v'.ownBlock = some w.heap.size) := by
  obtain ⟨i, z, hi, hz0, hz1, hz2, hz3⟩ := T.info
  obtain ⟨cells, hw, R⟩ := O.own
  have hlen : xs.length + ys.length ≤ 140737488355328 := Nat.le_trans (Nat.le_mul_of_pos_right _ hpos) hbytes
  cases A with
  | none =>
    have hy : ys = [] := by
      cases ys with
      | nil => rfl
      | cons y ys => obtain ⟨b, off, e, _⟩ := r.2 (by simp); cases e
    subst hy
    obtain rfl := hn rfl
    exact ⟨v, w, run_append_owned_none (P := P) (w := w) base t ty e i (Enc.sz α) T.und hi v xs.length cells hw, by simpa using O, ⟨rfl, rfl, rfl, Nat.le_refl _, fun _ _ _ => rfl⟩, .inl rfl⟩
  | some ad =>
    obtain ⟨news, RN, hnews⟩ : ∃ news, Reps h news ys ∧ ∀ j u, news[j]? = some u → w.cell? (ad.add j) = some u := by
      by_cases hy : 0 < ys.length
      · obtain ⟨b, off, e, f⟩ := r.2 hy
        cases e
        obtain ⟨news, RN, hn⟩ := RowAt.reps (h := h) (b := b) (off := off) (xs := ys) 0 (fun i x hx => by simpa using f i x hx)
        exact ⟨news, RN, fun j u hu => by rw [show (⟨b, off, none⟩ : Addr).add j = ⟨b, off + j, none⟩ from by unfold Addr.add; split <;> simp_all]; exact hs.cell (by simpa using hn j u hu)⟩
      · have : ys = [] := List.eq_nil_of_length_eq_zero (by omega)
        subst this
        exact ⟨[], rfl, fun j u hu => by simp at hu⟩
    obtain ⟨v', w', h1, h2, h3, h4, h5⟩ := run_append_own_at (P := P) w base t ty e i z (Enc.sz α) bytes T.und hi hz0 hz1 hz2 hz3 Enc.pos v xs.length cells hw ad ys.length c news RN.length hnews RN.one (by unfold maxLen; omega) hbytes hbase
    refine ⟨v', w', h1, ⟨⟨_, by rw [List.length_append]; exact h2, R.append RN⟩, fun g hg => ?_⟩, h3, h5⟩
    rcases h5 with h6 | h6
    · exact O.free g (by rw [← h6]; exact hg)
    · rw [h6] at hg
      cases hg
      cases e : h w.heap.size with
      | none => rfl
      | some x => exact absurd (hs.lt (b := w.heap.size) (by rw [e]; simp)) (by omega)
theorem wpList_appendL {h : FH} {w : World} {ops : Array Oper} {rest : List Oper} {o : Oper} {a : Act} {Q : Exit → Act → World → Prop} (hgd : o.guard = none) (s x : Operand) (t : TypeId)
    (ho : o.op = .call { callee := .builtin .append, args := #[s, x], argTypes := #[t, t] }) (base : Nat) (e : TypeId) (bytes : Nat) (T : TyOk P t e (Enc.sz α) bytes) (v : Value) (xs ys : List α) (hv : a.eval s = v) (O : OwnL h w base e v xs) (hs : Sits h w)
    (A : Option Addr) (n c : Nat) (hx : a.eval x = .slice A n c) (hny : n = ys.length) (r : RowAt h A ys) (hn : A = none → c = 0) (hbytes : (xs.length + ys.length) * bytes ≤ 140737488355328) (hpos : 0 < bytes) (hbase : base ≤ w.heap.size)
    (k : ∀ v' w', OwnL h w' base e v' (xs ++ ys) → w.grownBy w' v.ownBlock → (v'.ownBlock = v.ownBlock ∨ v'.ownBlock = some w.heap.size) → wpList P ops Q rest (a.put o.dst v') w') : wpList P ops Q (o :: rest) a w := by
  refine wpList_plain hgd fun K hK => ?_
  subst hny
  obtain ⟨v', w', hr, h2, h3, h4⟩ := run_appendL (ty := o.type) T O hs r hn hbytes hpos hbase
  unfold Oper.wp execOp
  simp only [ho, resolve, invoke, builtin, Sem.run_bind, Sem.run_pure, Result.andThen_ok, List.map_toArray, List.map_cons, List.map_nil, hv, hx, hr]
  exact hK _ _ (k v' w' h2 h3 h4)
/-- append(v, y): the one element's box is the newest block. -/
theorem wpList_append1 {h : FH} {w : World} {ops : Array Oper} {rest : List Oper} {o : Oper} {a : Act} {Q : Exit → Act → World → Prop} (hgd : o.guard = none) (s x : Operand) (t : TypeId)
    (ho : o.op = .call { callee := .builtin .append, args := #[s, x], argTypes := #[t, t] }) (base : Nat) (e : TypeId) (bytes : Nat) (T : TyOk P t e (Enc.sz α) bytes) (v : Value) (xs : List α) (hv : a.eval s = v) (O : OwnL h w base e v xs) (hs : Sits h w)
    (cs : List Value) (y : α) (e' : TypeId) (hx : a.eval x = .slice (some ⟨w.heap.size, 0, none⟩) 1 1) (r : Enc.rep h cs y) (hbytes : (xs.length + 1) * bytes ≤ 140737488355328) (hpos : 0 < bytes) (hbase : base ≤ w.heap.size)
    (k : ∀ v' w', OwnL h w' base e v' (xs ++ [y]) → w.grownBy w' v.ownBlock → (v'.ownBlock = v.ownBlock ∨ ∃ b, v'.ownBlock = some b ∧ w.heap.size ≤ b) → wpList P ops Q rest (a.put o.dst v') w') : wpList P ops Q (o :: rest) a (w.alloc (.cells cs.toArray e')) := by
  refine wpList_plain hgd fun K hK => ?_
  obtain ⟨i, z, hi, hz0, hz1, hz2, hz3⟩ := T.info
  obtain ⟨cells, hw, R⟩ := (O.alloc (.cells cs.toArray e')).own
  have hlen : xs.length + 1 ≤ 140737488355328 := Nat.le_trans (Nat.le_mul_of_pos_right _ hpos) hbytes
  have RN := Reps.single r
  obtain ⟨v', w', hr, h2, h3, h4, h5⟩ := run_append_own_at (P := P) (w.alloc (.cells cs.toArray e')) base t o.type e i z (Enc.sz α) bytes T.und hi hz0 hz1 hz2 hz3 Enc.pos v xs.length cells hw ⟨w.heap.size, 0, none⟩ 1 1 cs (by rw [Enc.len r]; omega) (fun j u hu => by
      rw [show (⟨w.heap.size, 0, none⟩ : Addr).add j = ⟨w.heap.size, j, none⟩ from by unfold Addr.add; split <;> simp_all]
      rw [cell_of_row _ w.heap.size j cs.toArray e' (0, 0) (heap_alloc_new w _)]
      simpa using hu) RN.one (by unfold maxLen; omega) hbytes (by simp; omega)
  unfold Oper.wp execOp
  simp only [ho, resolve, invoke, builtin, Sem.run_bind, Sem.run_pure, Result.andThen_ok, List.map_toArray, List.map_cons, List.map_nil, hv, hx, hr]
  refine hK _ _ (k v' w' ⟨⟨_, by rw [List.length_append]; exact h2, R.append RN⟩, fun g hg => ?_⟩ (World.grownBy.trans (World.grownBy_alloc w _ _) h3) (h5.imp id (fun h6 => ⟨_, h6, by simp⟩)))
  rcases h5 with h6 | h6
  · exact O.free g (by rw [← h6]; exact hg)
  · rw [h6] at hg
    cases hg
    cases e : h (w.alloc (.cells cs.toArray e')).heap.size with
    | none => rfl
    | some x => exact absurd (hs.lt (by rw [e]; simp)) (by simp)
end

/-- All that is there. -/
def fhOf (W : World) : FH := fun b => W.heap[b]?
theorem Sits.all (W : World) : Sits (fhOf W) W := fun _ _ h => h
theorem fhOf_cell (W : World) (a : Addr) : (fhOf W).cell a = W.cell? a := rfl

/-! ### what came in -/
open Go.DataW
/-- What reads as data of a type lies as a thing of ours. -/
def Opens (α : Type) [Enc α] (P : Program) (t : TypeId) : Prop :=
  ∀ {H : Type} (enc : TypeId × Value → H) (W : World) (sp : Nat → Bool) (held : Bool) (fuel : Nat) (cs : List Value) (d : DataW H) (ps : List MemPlace), DataW.trod enc P W 0 sp held fuel t cs = some (d, ps) → ∃ x : α, Enc.rep (fhOf W) cs x
theorem Opens.int {P : Program} {t : TypeId} (ht : P.underlying t = some (.int .i64)) : Opens Int P t := fun enc W sp held fuel cs d ps h => by
  cases fuel with
  | zero => simp [DataW.trod] at h
  | succ fuel =>
    unfold DataW.trod at h
    rw [ht] at h
    split at h
    all_goals (try (simp_all; done))
    rename_i k k' n heq
    simp only [Option.some.injEq, TypeDesc.int.injEq] at heq
    subst heq
    split at h
    · rename_i hk
      obtain ⟨rfl, _⟩ := hk
      exact ⟨n, show _ = _ from rfl⟩
    · cases h
theorem Opens.bool {P : Program} {t : TypeId} (ht : P.underlying t = some .bool) : Opens Bool P t := fun enc W sp held fuel cs d ps h => by
  cases fuel with
  | zero => simp [DataW.trod] at h
  | succ fuel =>
    unfold DataW.trod at h
    rw [ht] at h
    split at h
    all_goals (try (simp_all; done))
    rename_i b _
    exact ⟨b, show _ = _ from rfl⟩
theorem Opens.string {P : Program} {t : TypeId} (ht : P.underlying t = some .string) : Opens ByteArray P t := fun enc W sp held fuel cs d ps h => by
  cases fuel with
  | zero => simp [DataW.trod] at h
  | succ fuel =>
    unfold DataW.trod at h
    rw [ht] at h
    split at h <;> simp_all
    exact ⟨_, show _ ∧ _ from ⟨rfl, by have := h.1; unfold maxLen at this; omega⟩⟩
theorem mapM_get {α β : Type} {f : α → Option β} : ∀ {l : List α} {r : List β}, l.mapM f = some r → r.length = l.length ∧ ∀ (i : Nat) (x : α), l[i]? = some x → ∃ y, f x = some y ∧ r[i]? = some y
  | [], r, h => by simp at h; subst h; simp
  | a :: l, r, h => by
    simp only [List.mapM_cons, Option.bind_eq_bind, Option.bind_eq_some_iff, Option.pure_def, Option.some.injEq] at h
    obtain ⟨y, hy, ys, hys, rfl⟩ := h
    obtain ⟨e, g⟩ := mapM_get hys
    refine ⟨by simp [e], fun i x hx => ?_⟩
    cases i with
    | zero => simp at hx; subst hx; exact ⟨y, hy, rfl⟩
    | succ i => exact g i x (by simpa using hx)
theorem cells_get {W : World} {a : Addr} {n : Nat} {cs : List Value} (h : W.cells? 0 a n = some cs) : cs.length = n ∧ ∀ j u, cs[j]? = some u → W.cell? (a.add j) = some u := by
  simp only [World.cells?, Nat.zero_le, if_true] at h
  obtain ⟨e, g⟩ := mapM_get h
  have e' : cs.length = n := by simpa using e
  refine ⟨e', fun j u hu => ?_⟩
  have hj : j < n := by have := (List.getElem?_eq_some_iff.1 hu).1; omega
  obtain ⟨y, hy, hz⟩ := g j j (by simp [hj])
  rw [hu] at hz
  rw [hy, hz]
theorem exists_list {α : Type} {p : Nat → α → Prop} : ∀ (n : Nat), (∀ i, i < n → ∃ x, p i x) → ∃ xs : List α, xs.length = n ∧ ∀ i x, xs[i]? = some x → p i x
  | 0, _ => ⟨[], rfl, fun i x h => by simp at h⟩
  | n + 1, h => by
    obtain ⟨xs, hl, hx⟩ := exists_list n (fun i hi => h i (by omega))
    obtain ⟨y, hy⟩ := h n (by omega)
    refine ⟨xs ++ [y], by simp [hl], fun i x hix => ?_⟩
    by_cases hi : i < n
    · rw [List.getElem?_append_left (by omega)] at hix; exact hx i x hix
    · rw [List.getElem?_append_right (by omega)] at hix
      have : i = n := by
        have := (List.getElem?_eq_some_iff.1 hix).1
        simp at this; omega
      subst this
      simp [hl] at hix
      subst hix
      exact hy
theorem Opens.slice {α : Type} [Enc α] {P : Program} {t e : TypeId} (ht : P.underlying t = some (.slice e)) (hc : P.cellsOf e = Enc.sz α) (he : Opens α P e) : Opens (List α) P t := fun enc W sp held fuel cs d ps h => by
  cases fuel with
  | zero => simp [DataW.trod] at h
  | succ fuel =>
    unfold DataW.trod at h
    rw [ht] at h
    split at h
    all_goals (try (simp_all; done))
    · exact ⟨[], none, 0, rfl, Nat.le_refl _, RowAt.nil _ _⟩
    · rename_i e' a len cap heq
      simp only [Option.some.injEq, TypeDesc.slice.injEq] at heq
      subst heq
      split at h
      case isFalse => cases h
      rename_i hb
      obtain ⟨elems, h1, h2⟩ := Option.bind_eq_some_iff.1 h
      obtain ⟨el, eg⟩ := mapM_get h1
      have hex : ∀ i, i < len → ∃ x : α, ∃ c, Enc.rep (fhOf W) c x ∧ W.cells? 0 (a.add (i * P.cellsOf e)) (P.cellsOf e) = some c := fun i hi => by
        obtain ⟨y, hy, _⟩ := eg i i (by simp [hi])
        obtain ⟨c, hc1, hc2⟩ := Option.bind_eq_some_iff.1 hy
        obtain ⟨x, hx⟩ := he enc W sp held fuel c y.1 y.2 hc2
        exact ⟨x, c, hx, hc1⟩
      obtain ⟨xs, hl, hx⟩ := exists_list len hex
      subst hl
      refine ⟨xs, some a, cap, rfl, hb.2.1, by have := hb.2.1; have := hb.2.2; unfold maxLen at this; omega, fun hp => ?_⟩
      have hspot : a.spot = none := by
        obtain ⟨c, hc1, hc2⟩ := hx 0 xs[0] (List.getElem?_eq_getElem hp)
        obtain ⟨g1, g2⟩ := cells_get hc2
        have hp2 := Enc.pos (α := α)
        have hc0 := g2 0 (c[0]'(by omega)) (List.getElem?_eq_getElem (by omega))
        simp only [Nat.zero_mul, Addr.add, if_true] at hc0
        exact World.cell?_spot hc0
      obtain ⟨b, off, spot⟩ := a
      simp only at hspot
      subst hspot
      refine ⟨b, off, rfl, fun i x hix => ?_⟩
      obtain ⟨c, hc1, hc2⟩ := hx i x hix
      obtain ⟨g1, g2⟩ := cells_get hc2
      refine ⟨c, hc1, fun j u hu => ?_⟩
      have := g2 j u hu
      rw [hc] at this
      rw [fhOf_cell]
      have ea : ((⟨b, off, none⟩ : Addr).add (i * Enc.sz α)).add j = ⟨b, off + i * Enc.sz α + j, none⟩ := by
        unfold Addr.add; repeat' split
        all_goals simp_all
      rwa [ea] at this
/-- A struct that reads as data: its fields, one by one. -/
theorem trod_fields {P : Program} {t : TypeId} {fs : Array Field} (ht : P.underlying t = some (.struct fs)) {H : Type} {enc : TypeId × Value → H} {W : World} {sp : Nat → Bool} {held : Bool} {fuel : Nat} {cs : List Value} {d : DataW H} {ps : List MemPlace}
    (h : DataW.trod enc P W 0 sp held fuel t cs = some (d, ps)) : cs.length = P.cellsOf t ∧ ∃ fuel', ∀ (i : Nat) f, fs.toList[i]? = some f → ∃ d ps, DataW.trod enc P W 0 sp held fuel' f.type ((cs.drop f.offset).take (P.cellsOf f.type)) = some (d, ps) := by
  cases fuel with
  | zero => simp [DataW.trod] at h
  | succ fuel =>
    unfold DataW.trod at h
    rw [ht] at h
    split at h
    all_goals (try (simp_all; done))
    rename_i fs' heq
    simp only [Option.some.injEq, TypeDesc.struct.injEq] at heq
    subst heq
    split at h
    case isFalse => cases h
    rename_i hl
    obtain ⟨xs, h1, h2⟩ := Option.map_eq_some_iff.1 h
    obtain ⟨_, g⟩ := mapM_get h1
    exact ⟨hl, fuel, fun i f hf => by
      obtain ⟨y, hy, _⟩ := g i f hf
      exact ⟨y.1, y.2, hy⟩⟩
end Go.Proofs.Yteolmamiblddjaa
