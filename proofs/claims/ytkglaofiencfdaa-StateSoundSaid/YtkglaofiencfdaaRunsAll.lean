import Derived.Test.YtkglaofiencfdaaRuns
import Derived.Test.YtkglaofiencfdaaCore
namespace Go.Proofs.Ytkglaofiencfdaa
open Go.RowKit Go.Sort
set_option linter.unusedVariables false

/-! ### Get -/
def getHit (index : Int) (x : Run) : Bool := decide (0 < x.count) && decide (x.from_ ≤ index) && decide (IntKind.u64.wrap (IntKind.u64.wrap index - IntKind.u64.wrap x.from_) < IntKind.u64.wrap x.count)
def getB (xs : List Run) (index : Int) : Option Int := (xs.find? (getHit index)).map fun x => wrap64 (x.at_ + wrap64 (index - x.from_))
theorem find_none_take {α : Type} {p : α → Bool} {xs : List α} {k : Nat} {x : α} (h : ∀ i y, i < k → xs[i]? = some y → p y = false) (hx : xs[k]? = some x) (hp : p x = true) : xs.find? p = some x := by
  have hk := (List.getElem?_eq_some_iff.1 hx)
  have e : xs = xs.take k ++ (x :: xs.drop (k + 1)) := by
    obtain ⟨h1, h2⟩ := hk
    rw [← h2, List.getElem_cons_drop, List.take_append_drop]
  rw [e, List.find?_append]
  have : (xs.take k).find? p = none := by
    rw [List.find?_eq_none]
    intro y hy
    obtain ⟨i, hi, rfl⟩ := List.mem_iff_getElem.1 hy
    have hi2 : i < k ∧ i < xs.length := by simpa [Nat.lt_min] using hi
    rw [List.getElem_take, h i _ hi2.1 (List.getElem?_eq_getElem hi2.2)]
    simp
  rw [this, List.find?_cons, hp]
  rfl
theorem find_none_all {α : Type} {p : α → Bool} {xs : List α} (h : ∀ i y, i < xs.length → xs[i]? = some y → p y = false) : xs.find? p = none := by
  rw [List.find?_eq_none]
  intro y hy
  obtain ⟨i, hi, rfl⟩ := List.mem_iff_getElem.1 hy
  rw [h i _ hi (List.getElem?_eq_getElem _)]
  simp
theorem ret_ib' {k : IntKind} {a b : Int} {c d : Bool} (h : a = b) (h' : c = d) : Ending.returned (.tuple #[.int k a, .bool c]) = .returned (.tuple #[.int k b, .bool d]) := by rw [h, h']
/-! ### places -/
def plRun (x : Run) (n : Int) (f : Int → Option Value) : Int → Option Value := fun a => if x.from_ ≤ a ∧ a < x.from_ + n then some (.int .i64 (x.at_ + (a - x.from_))) else f a
def placesF (xs : List Run) : Int → Option Value := xs.foldl (fun f x => plRun x x.count f) (fun _ => none)
theorem placesF_snoc (xs : List Run) (k : Nat) (x : Run) (hx : xs[k]? = some x) : placesF (xs.take (k + 1)) = plRun x x.count (placesF (xs.take k)) := by
  unfold placesF
  rw [List.take_add_one, hx]
  simp [List.foldl_append]
theorem plRun_zero (x : Run) (f : Int → Option Value) (a : Int) : f a = plRun x 0 f a := by
  unfold plRun
  rw [if_neg (by omega)]
theorem plRun_succ (x : Run) (j : Int) (hj : 0 ≤ j) (f : Int → Option Value) (a : Int) : (if a = x.from_ + j then some (Value.int .i64 (x.at_ + j)) else plRun x j f a) = plRun x (j + 1) f a := by
  unfold plRun
  by_cases h : a = x.from_ + j
  · rw [if_pos h, if_pos (by omega)]
    rw [show x.at_ + (a - x.from_) = x.at_ + j from by omega]
  · rw [if_neg h]
    by_cases h2 : x.from_ ≤ a ∧ a < x.from_ + j
    · rw [if_pos h2, if_pos (by omega)]
    · rw [if_neg h2, if_neg (by omega)]
end Go.Proofs.Ytkglaofiencfdaa

namespace Go.Proofs.Ytkglaofiencfdaa
open Go.RowKit Go.Sort
set_option linter.unusedVariables false
/-! ### Pages, Count -/
def pagesOf (x : Run) : List Int := (List.range x.count.toNat).map fun i => x.at_ + (i : Nat)
def pagesL (xs : List Run) : List Int := xs.flatMap pagesOf
theorem pagesL_snoc (xs : List Run) (k : Nat) (x : Run) (hx : xs[k]? = some x) : pagesL (xs.take (k + 1)) = pagesL (xs.take k) ++ pagesOf x := by
  unfold pagesL
  rw [List.take_add_one, hx]
  simp [List.flatMap_append]
theorem rightB_step {xs : List Run} (hR : rightB xs = true) {k : Nat} {y x : Run} (hy : xs[k]? = some y) (hx : xs[k + 1]? = some x) : y.from_ + y.count ≤ x.from_ ∧ goesB y x = false := by
  have := rightB_at hR (List.getElem?_eq_some_iff.1 hx).1
  simp only [okAt, Bool.and_eq_true, getD_run hx, Nat.add_sub_cancel, getD_run hy] at this
  have h2 := this.2
  simp [okPair] at h2
  exact h2
theorem pages_le {xs : List Run} (hR : rightB xs = true) : ∀ (k : Nat) (x : Run), xs[k]? = some x → ((pagesL (xs.take (k + 1))).length : Int) ≤ x.from_ + x.count
  | 0, x, hx => by
    obtain ⟨x0, x1, x2, x3, x4, x5⟩ := (ok1_iff x).1 (rightB_ok1 hR hx)
    rw [pagesL_snoc xs 0 x hx]
    simp [pagesL, pagesOf]
    omega
  | k + 1, x, hx => by
    obtain ⟨x0, x1, x2, x3, x4, x5⟩ := (ok1_iff x).1 (rightB_ok1 hR hx)
    have hlt := (List.getElem?_eq_some_iff.1 hx).1
    obtain ⟨y, hy⟩ : ∃ y, xs[k]? = some y := ⟨xs[k]'(by omega), List.getElem?_eq_getElem _⟩
    have h1 := pages_le hR k y hy
    have h2 := (rightB_step hR hy hx).1
    rw [pagesL_snoc xs (k + 1) x hx, List.length_append]
    simp [pagesOf]
    omega
theorem pages_lt {xs : List Run} (hR : rightB xs = true) (k : Nat) (x : Run) (hx : xs[k]? = some x) : ((pagesL (xs.take k)).length : Int) + x.count ≤ 64 := by
  obtain ⟨x0, x1, x2, x3, x4, x5⟩ := (ok1_iff x).1 (rightB_ok1 hR hx)
  have h1 := pages_le hR k x hx
  rw [pagesL_snoc xs k x hx, List.length_append] at h1
  simp [pagesOf] at h1
  omega
theorem pagesOf_snoc (x : Run) (j : Nat) : (List.range (j + 1)).map (fun i => x.at_ + (i : Nat)) = (List.range j).map (fun i => x.at_ + ((i : Nat) : Int)) ++ [x.at_ + (j : Int)] := by
  rw [List.range_succ, List.map_append]; rfl
def pagesR (xs : List Run) : List Int := if rightB xs then pagesL xs else []
end Go.Proofs.Ytkglaofiencfdaa

namespace Go.Proofs.Ytkglaofiencfdaa
open Go.RowKit Go.Sort
set_option linter.unusedVariables false
/-! ### Cut -/
theorem right_from {xs : List Run} (hR : rightB xs = true) : ∀ (k : Nat) (x : Run), xs[k]? = some x → (k : Int) ≤ x.from_
  | 0, x, hx => by
    obtain ⟨x0, _⟩ := (ok1_iff x).1 (rightB_ok1 hR hx)
    exact x0
  | k + 1, x, hx => by
    have hlt := (List.getElem?_eq_some_iff.1 hx).1
    obtain ⟨y, hy⟩ : ∃ y, xs[k]? = some y := ⟨xs[k]'(by omega), List.getElem?_eq_getElem _⟩
    have h1 := right_from hR k y hy
    obtain ⟨_, _, y2, _⟩ := (ok1_iff y).1 (rightB_ok1 hR hy)
    have h2 := (rightB_step hR hy hx).1
    omega
theorem right_len {xs : List Run} (hR : rightB xs = true) : xs.length ≤ 64 := by
  rcases Nat.eq_zero_or_pos xs.length with h | h
  · omega
  · obtain ⟨x, hx⟩ : ∃ x, xs[xs.length - 1]? = some x := ⟨xs[xs.length - 1]'(by omega), List.getElem?_eq_getElem _⟩
    have h1 := right_from hR _ x hx
    obtain ⟨_, _, x2, _, x4, _⟩ := (ok1_iff x).1 (rightB_ok1 hR hx)
    omega
def cut1 (n : Int) (x : Run) : List Run := if x.from_ < n then [⟨x.from_, x.at_, (if n - x.from_ < x.count then n - x.from_ else x.count)⟩] else []
def cutL (xs : List Run) (n : Int) : List Run := xs.flatMap (cut1 n)
theorem cutL_snoc (xs : List Run) (n : Int) (k : Nat) (x : Run) (hx : xs[k]? = some x) : cutL (xs.take (k + 1)) n = cutL (xs.take k) n ++ cut1 n x := by
  unfold cutL
  rw [List.take_add_one, hx]
  simp [List.flatMap_append]
theorem cutL_len (xs : List Run) (n : Int) : (cutL xs n).length ≤ xs.length := by
  unfold cutL
  induction xs with
  | nil => simp
  | cons x xs ih =>
    simp only [List.flatMap_cons, List.length_append, List.length_cons]
    have : (cut1 n x).length ≤ 1 := by unfold cut1; split <;> simp
    omega
def cutR (xs : List Run) (n : Int) : List Run := if rightB xs then cutL xs n else []
end Go.Proofs.Ytkglaofiencfdaa

namespace Go.Proofs.Ytkglaofiencfdaa
open Go.RowKit Go.Sort
set_option linter.unusedVariables false
/-! ### drawn, Set -/
def drawStep (l : List Run) (i : Int) (v : Option Int) : List Run :=
  match v with
  | none => l
  | some x => if 0 < l.length ∧ goesB (l.getD (l.length - 1) default) ⟨i, x, 1⟩ = true then l.set (l.length - 1) { l.getD (l.length - 1) default with count := wrap64 ((l.getD (l.length - 1) default).count + 1) } else l ++ [⟨i, x, 1⟩]
def drawnL (g : Int → Option Int) : Nat → List Run
  | 0 => []
  | k + 1 => drawStep (drawnL g k) k (g k)
theorem drawnL_len (g : Int → Option Int) : ∀ k, (drawnL g k).length ≤ k
  | 0 => Nat.le_refl _
  | k + 1 => by
    have ih := drawnL_len g k
    unfold drawnL drawStep
    split
    · omega
    · split
      · rw [List.length_set]; omega
      · rw [List.length_append, List.length_singleton]; omega
end Go.Proofs.Ytkglaofiencfdaa

namespace Go.Proofs.Ytkglaofiencfdaa
open Go.RowKit Go.Sort
set_option linter.unusedVariables false
theorem ret_val6 {a b : Bool} (h : a = b) : Value.bool a = .bool b := by rw [h]
def plRunG (x : Run) (f : Int → Option Int) : Int → Option Int := fun a => if x.from_ ≤ a ∧ a < x.from_ + x.count then some (x.at_ + (a - x.from_)) else f a
def placesG (xs : List Run) : Int → Option Int := xs.foldl (fun f x => plRunG x f) (fun _ => none)
theorem placesFG_go (xs : List Run) : ∀ (f : Int → Option Value) (g : Int → Option Int), (∀ a, f a = (g a).map (Value.int .i64)) → ∀ a, xs.foldl (fun f x => plRun x x.count f) f a = (xs.foldl (fun f x => plRunG x f) g a).map (Value.int .i64) := by
  induction xs with
  | nil => intro f g h a; exact h a
  | cons x xs ih =>
    intro f g h a
    simp only [List.foldl_cons]
    apply ih
    intro a
    unfold plRun plRunG
    split
    · rfl
    · exact h a
theorem placesFG (xs : List Run) (a : Int) : placesF xs a = (placesG xs a).map (Value.int .i64) := placesFG_go xs (fun _ => none) (fun _ => none) (fun _ => rfl) a
def setG (xs : List Run) (i a : Int) : Int → Option Int := fun q => if q = i then some a else placesG xs q
def setR (xs : List Run) (i a : Int) : List Run :=
  if rightB xs then (if decide (i < 0) || decide (64 ≤ i) || decide (a < 0) || decide (2147483647 < a) then xs else drawnL (setG xs i a) 64) else []
end Go.Proofs.Ytkglaofiencfdaa

/-! The plain law of package runs: what is drawn is right, and reads as its pages do. -/
namespace Go.Proofs.Ytkglaofiencfdaa
open Go.RowKit
set_option linter.unusedVariables false
/-- Is the page in the run? -/
def inRun (x : Run) (k : Int) : Prop := x.from_ ≤ k ∧ k < x.from_ + x.count
theorem getHit_iff {x : Run} (h : ok1 x = true) {k : Int} (h0 : 0 ≤ k) (h1 : k < 64) : getHit k x = true ↔ inRun x k := by
  obtain ⟨x0, x1, x2, x3, x4, x5⟩ := (ok1_iff x).1 h
  unfold getHit inRun
  simp only [Bool.and_eq_true, decide_eq_true_eq]
  rw [show IntKind.u64.wrap k = k from by rw [IntKind.wrap_u64]; omega, show IntKind.u64.wrap x.from_ = x.from_ from by rw [IntKind.wrap_u64]; omega, show IntKind.u64.wrap x.count = x.count from by rw [IntKind.wrap_u64]; omega]
  constructor
  · rintro ⟨⟨h2, h3⟩, h4⟩
    rw [IntKind.wrap_u64] at h4
    omega
  · intro h2
    refine ⟨⟨by omega, by omega⟩, ?_⟩
    rw [IntKind.wrap_u64]
    omega
theorem wrap64_in {n : Int} (h : -9223372036854775808 ≤ n) (h' : n < 9223372036854775808) : wrap64 n = n := by
  unfold wrap64
  omega
theorem getD_left {α : Type} {xs ys : List α} {i : Nat} {d : α} (h : i < xs.length) : (xs ++ ys).getD i d = xs.getD i d := by
  rw [List.getD_eq_getElem?_getD, List.getD_eq_getElem?_getD, List.getElem?_append_left h]
theorem getD_snoc {α : Type} {xs : List α} {x d : α} : (xs ++ [x]).getD xs.length d = x := by
  rw [List.getD_eq_getElem?_getD, List.getElem?_append_right (Nat.le_refl _)]; simp
theorem rightB_snoc (xs : List Run) (x : Run) : rightB (xs ++ [x]) = true ↔ rightB xs = true ∧ ok1 x = true ∧ (0 < xs.length → okPair (xs.getD (xs.length - 1) default) x = true) := by
  have e1 : ∀ i, i < xs.length → okAt (xs ++ [x]) i = okAt xs i := fun i hi => by
    unfold okAt
    rw [getD_left hi, getD_left (show i - 1 < xs.length by omega)]
  have e2 : okAt (xs ++ [x]) xs.length = (ok1 x && (xs.length == 0 || okPair (xs.getD (xs.length - 1) default) x)) := by
    unfold okAt
    rw [getD_snoc]
    by_cases h0 : xs.length = 0
    · simp [h0]
    · rw [getD_left (show xs.length - 1 < xs.length by omega)]
  constructor
  · intro h
    have h1 := rightB_at h (i := xs.length) (by simp)
    rw [e2] at h1
    simp only [Bool.and_eq_true, Bool.or_eq_true, beq_iff_eq] at h1
    refine ⟨rightB_true fun i hi => ?_, h1.1, fun hp => ?_⟩
    · rw [← e1 i hi]; exact rightB_at h (by simp; omega)
    · rcases h1.2 with h2 | h2
      · omega
      · exact h2
  · rintro ⟨h1, h2, h3⟩
    refine rightB_true fun i hi => ?_
    rw [List.length_append, List.length_singleton] at hi
    by_cases h4 : i < xs.length
    · rw [e1 i h4]; exact rightB_at h1 h4
    · obtain rfl : i = xs.length := by omega
      rw [e2, h2]
      by_cases h0 : xs.length = 0
      · simp [h0]
      · rw [h3 (by omega)]; simp
theorem getD_last {xs : List Run} {p : Run} : (xs ++ [p]).getD ((xs ++ [p]).length - 1) default = p := by
  rw [List.length_append, List.length_singleton, Nat.add_sub_cancel]; exact getD_snoc
theorem okPair_iff {p x : Run} : okPair p x = true ↔ p.from_ + p.count ≤ x.from_ ∧ goesB p x = false := by simp [okPair]
/-- From the end on. -/
theorem snocRec {P : List Run → Prop} (h0 : P []) (h1 : ∀ xs x, P xs → P (xs ++ [x])) (xs : List Run) : P xs := by
  have : ∀ (n : Nat) (xs : List Run), xs.length = n → P xs := by
    intro n
    induction n with
    | zero => intro xs h; rw [List.eq_nil_of_length_eq_zero h]; exact h0
    | succ n ih =>
      intro xs h
      have hne : xs ≠ [] := by intro e; rw [e] at h; simp at h
      rw [← List.dropLast_concat_getLast hne]
      exact h1 _ _ (ih _ (by simp [h]))
  exact this _ xs rfl
theorem right_ends (xs : List Run) : ∀ x, rightB (xs ++ [x]) = true → ∀ y ∈ xs, y.from_ + y.count ≤ x.from_ := by
  induction xs using snocRec with
  | h0 => intro x _ y hy; cases hy
  | h1 xs p ih =>
    intro x h y hy
    obtain ⟨h1, h2, h3⟩ := (rightB_snoc _ _).1 h
    have h4 := h3 (by simp)
    rw [getD_last, okPair_iff] at h4
    rcases List.mem_append.1 hy with hy | hy
    · have h5 := ih p h1 y hy
      obtain ⟨_, h6, _⟩ := (rightB_snoc _ _).1 h1
      obtain ⟨_, _, x2, _⟩ := (ok1_iff p).1 h6
      omega
    · simp at hy; subst hy; exact h4.1
theorem getB_snoc (xs : List Run) (x : Run) (hx : ok1 x = true) {q : Int} (h0 : 0 ≤ q) (h1 : q < 64) :
    getB (xs ++ [x]) q = (getB xs q).or (if x.from_ ≤ q ∧ q < x.from_ + x.count then some (x.at_ + (q - x.from_)) else none) := by
  obtain ⟨x0, x1, x2, x3, x4, x5⟩ := (ok1_iff x).1 hx
  unfold getB
  rw [List.find?_append]
  cases hf : xs.find? (getHit q) with
  | some y => simp
  | none =>
    by_cases hh : getHit q x = true
    · have hi' : x.from_ ≤ q ∧ q < x.from_ + x.count := (getHit_iff hx h0 h1).1 hh
      rw [if_pos hi']
      rw [List.find?_cons, hh]
      simp only [Option.none_or, Option.map_some, Option.map_none]
      rw [wrap64_in (n := q - x.from_) (by omega) (by omega), wrap64_in (by omega) (by omega)]
    · have hi : ¬ (x.from_ ≤ q ∧ q < x.from_ + x.count) := fun hi => hh ((getHit_iff hx h0 h1).2 hi)
      rw [if_neg hi, List.find?_cons]
      simp [hh]
theorem getB_none_end (xs : List Run) {q : Int} (h0 : 0 ≤ q) (h1 : q < 64) : rightB xs = true → (∀ y ∈ xs, y.from_ + y.count ≤ q) → getB xs q = none := by
  induction xs using snocRec with
  | h0 => intro _ _; rfl
  | h1 xs p ih =>
    intro h hy
    obtain ⟨h2, h3, _⟩ := (rightB_snoc _ _).1 h
    have h5 := hy p (by simp)
    rw [getB_snoc xs p h3 h0 h1, ih h2 (fun y hm => hy y (by simp [hm])), if_neg (by omega)]
    rfl
/-! ### cutting -/
theorem cutL_snoc' (xs : List Run) (x : Run) (n : Int) : cutL (xs ++ [x]) n = cutL xs n ++ cut1 n x := by
  unfold cutL; simp [List.flatMap_append]
theorem cutL_all (xs : List Run) (n : Int) : rightB xs = true → (∀ y ∈ xs, y.from_ + y.count ≤ n) → cutL xs n = xs := by
  induction xs using snocRec with
  | h0 => intro _ _; rfl
  | h1 xs p ih =>
    intro h hy
    obtain ⟨h2, h3, _⟩ := (rightB_snoc _ _).1 h
    obtain ⟨_, _, x2, _⟩ := (ok1_iff p).1 h3
    have h5 := hy p (by simp)
    rw [cutL_snoc', ih h2 (fun y hm => hy y (by simp [hm]))]
    unfold cut1
    rw [if_pos (by omega)]
    by_cases h6 : n - p.from_ < p.count
    · omega
    · rw [if_neg h6]
theorem cut_right (xs : List Run) (n : Int) : rightB xs = true → rightB (cutL xs n) = true ∧ ∀ q : Int, 0 ≤ q → q < 64 → getB (cutL xs n) q = if q < n then getB xs q else none := by
  induction xs using snocRec with
  | h0 => intro _; exact ⟨rfl, fun q _ _ => by split <;> rfl⟩
  | h1 xs p ih =>
    intro h
    obtain ⟨h2, h3, h4⟩ := (rightB_snoc _ _).1 h
    have hok := (ok1_iff p).1 h3
    obtain ⟨x0, x1, x2, x3, x4, x5⟩ := hok
    obtain ⟨i1, i2⟩ := ih h2
    rw [cutL_snoc']
    unfold cut1
    by_cases hfn : p.from_ < n
    · rw [if_pos hfn]
      have hall := cutL_all xs n h2 (fun y hy => by have := right_ends xs p h y hy; omega)
      rw [hall]
      have hok' : ok1 ⟨p.from_, p.at_, if n - p.from_ < p.count then n - p.from_ else p.count⟩ = true := (ok1_iff _).2 (by
        simp only
        split <;> omega)
      refine ⟨(rightB_snoc _ _).2 ⟨h2, hok', fun hp => ?_⟩, fun q q0 q1 => ?_⟩
      · have h5 := okPair_iff.1 (h4 hp)
        exact okPair_iff.2 h5
      · rw [getB_snoc _ _ hok' q0 q1, getB_snoc _ _ h3 q0 q1]
        simp only
        by_cases hq : q < n
        · rw [if_pos hq]
          congr 1
          by_cases h6 : n - p.from_ < p.count
          · simp only [if_pos h6]
            by_cases h7 : p.from_ ≤ q
            · rw [if_pos (by omega), if_pos (by omega)]
            · rw [if_neg (by omega), if_neg (by omega)]
          · simp only [if_neg h6]
        · rw [if_neg hq]
          rw [getB_none_end xs q0 q1 h2 (fun y hy => by have := right_ends xs p h y hy; omega)]
          by_cases h6 : n - p.from_ < p.count
          · simp only [if_pos h6]
            rw [if_neg (by omega)]
            rfl
          · simp only [if_neg h6]
            rw [if_neg (by omega)]
            rfl
    · rw [if_neg hfn, List.append_nil]
      refine ⟨i1, fun q q0 q1 => ?_⟩
      rw [i2 q q0 q1, getB_snoc _ _ h3 q0 q1]
      by_cases hq : q < n
      · rw [if_pos hq, if_pos hq, if_neg (by omega)]
        simp
      · rw [if_neg hq, if_neg hq]
/-! ### places -/
theorem placesG_snoc (xs : List Run) (x : Run) (q : Int) : placesG (xs ++ [x]) q = if x.from_ ≤ q ∧ q < x.from_ + x.count then some (x.at_ + (q - x.from_)) else placesG xs q := by
  unfold placesG
  rw [List.foldl_append]
  rfl
theorem placesG_get (xs : List Run) {q : Int} (h0 : 0 ≤ q) (h1 : q < 64) : rightB xs = true → placesG xs q = getB xs q := by
  induction xs using snocRec with
  | h0 => intro _; rfl
  | h1 xs p ih =>
    intro h
    obtain ⟨h2, h3, h4⟩ := (rightB_snoc _ _).1 h
    rw [placesG_snoc, getB_snoc _ _ h3 h0 h1, ih h2]
    by_cases hi : p.from_ ≤ q ∧ q < p.from_ + p.count
    · rw [if_pos hi, if_pos hi, getB_none_end xs h0 h1 h2 (fun y hy => by have := right_ends xs p h y hy; omega)]
      rfl
    · rw [if_neg hi, if_neg hi]
      simp
/-! ### drawing -/
theorem drawStep_nil (i : Int) (v : Int) : drawStep [] i (some v) = [⟨i, v, 1⟩] := rfl
theorem drawStep_snoc (l : List Run) (p : Run) (i : Int) (v : Int) : drawStep (l ++ [p]) i (some v) = if goesB p ⟨i, v, 1⟩ = true then l ++ [{ p with count := wrap64 (p.count + 1) }] else l ++ [p] ++ [⟨i, v, 1⟩] := by
  show (if 0 < (l ++ [p]).length ∧ goesB ((l ++ [p]).getD ((l ++ [p]).length - 1) default) ⟨i, v, 1⟩ = true then (l ++ [p]).set ((l ++ [p]).length - 1) { (l ++ [p]).getD ((l ++ [p]).length - 1) default with count := wrap64 (((l ++ [p]).getD ((l ++ [p]).length - 1) default).count + 1) } else l ++ [p] ++ [⟨i, v, 1⟩]) = _
  rw [getD_last]
  have hl : (l ++ [p]).length - 1 = l.length := by simp
  rw [hl]
  by_cases h : goesB p ⟨i, v, 1⟩ = true
  · rw [if_pos ⟨by simp, h⟩, if_pos h, List.set_append_right _ _ (Nat.le_refl _), Nat.sub_self]
    rfl
  · rw [if_neg (fun e => h e.2), if_neg h]
theorem goesB_iff {p : Run} (hp : ok1 p = true) {i v c : Int} : goesB p ⟨i, v, c⟩ = true ↔ i = p.from_ + p.count ∧ v = p.at_ + p.count := by
  obtain ⟨x0, x1, x2, x3, x4, x5⟩ := (ok1_iff p).1 hp
  unfold goesB
  rw [wrap64_in (by omega) (by omega), wrap64_in (by omega) (by omega)]
  simp
theorem nil_or_snoc (l : List Run) : l = [] ∨ ∃ l0 p, l = l0 ++ [p] := by
  rcases Nat.eq_zero_or_pos l.length with h | h
  · exact .inl (List.eq_nil_of_length_eq_zero h)
  · have hne : l ≠ [] := by intro e; rw [e] at h; simp at h
    exact .inr ⟨_, _, (List.dropLast_concat_getLast hne).symm⟩
/-- What is drawn is right, and reads as its pages do. -/
theorem drawn_right (g : Int → Option Int) (hg : ∀ (q v : Int), 0 ≤ q → q < 64 → g q = some v → 0 ≤ v ∧ v ≤ 2147483647) : ∀ k : Nat, k ≤ 64 →
    rightB (drawnL g k) = true ∧ (∀ y ∈ drawnL g k, y.from_ + y.count ≤ k) ∧ ∀ q : Int, 0 ≤ q → q < 64 → getB (drawnL g k) q = if q < k then g q else none
  | 0, _ => by
    refine ⟨rfl, fun y hy => ?_, fun q h0 _ => ?_⟩
    · have : y ∈ ([] : List Run) := hy
      cases this
    · rw [if_neg (by omega)]; rfl
  | k + 1, hk => by
    obtain ⟨i1, i2, i3⟩ := drawn_right g hg k (by omega)
    show rightB (drawStep (drawnL g k) k (g k)) = true ∧ (∀ y ∈ drawStep (drawnL g k) k (g k), y.from_ + y.count ≤ ((k + 1 : Nat) : Int)) ∧ ∀ q : Int, 0 ≤ q → q < 64 → getB (drawStep (drawnL g k) k (g k)) q = if q < ((k + 1 : Nat) : Int) then g q else none
    generalize drawnL g k = l at *
    cases hv : g (k : Int) with
    | none =>
      refine ⟨i1, fun y hy => by have := i2 y hy; omega, fun q h0 h1 => ?_⟩
      show getB l q = _
      rw [i3 q h0 h1]
      by_cases h : q < (k : Int)
      · rw [if_pos h, if_pos (by omega)]
      · rw [if_neg h]
        by_cases h2 : q = (k : Int)
        · subst h2; rw [if_pos (by omega), hv]
        · rw [if_neg (by omega)]
    | some v =>
      obtain ⟨v0, v1⟩ := hg k v (by omega) (by omega) hv
      have hx : ok1 ⟨k, v, 1⟩ = true := (ok1_iff _).2 (by simp only; omega)
      have app : (0 < l.length → okPair (l.getD (l.length - 1) default) ⟨k, v, 1⟩ = true) → rightB (l ++ [⟨k, v, 1⟩]) = true ∧ (∀ y ∈ l ++ [(⟨k, v, 1⟩ : Run)], y.from_ + y.count ≤ ((k + 1 : Nat) : Int)) ∧ ∀ q : Int, 0 ≤ q → q < 64 → getB (l ++ [⟨k, v, 1⟩]) q = if q < ((k + 1 : Nat) : Int) then g q else none := fun hp => by
        refine ⟨(rightB_snoc _ _).2 ⟨i1, hx, hp⟩, fun y hy => ?_, fun q h0 h1 => ?_⟩
        · rcases List.mem_append.1 hy with hy | hy
          · have := i2 y hy; omega
          · simp at hy; subst hy; simp only; omega
        · rw [getB_snoc _ _ hx h0 h1, i3 q h0 h1]
          simp only
          by_cases h : q < (k : Int)
          · rw [if_pos h, if_pos (show q < ((k + 1 : Nat) : Int) by omega), if_neg (by omega)]
            simp
          · rw [if_neg h]
            by_cases h2 : q = (k : Int)
            · subst h2
              rw [if_pos (by omega), if_pos (by omega), hv]
              simp
            · rw [if_neg (by omega), if_neg (by omega)]
              rfl
      rcases nil_or_snoc l with rfl | ⟨l0, p, rfl⟩
      · exact app (fun h => by simp at h)
      · obtain ⟨j1, j2, j3⟩ := (rightB_snoc _ _).1 i1
        have hpe := i2 p (by simp)
        obtain ⟨x0, x1, x2, x3, x4, x5⟩ := (ok1_iff p).1 j2
        rw [drawStep_snoc]
        by_cases hgo : goesB p ⟨k, v, 1⟩ = true
        · rw [if_pos hgo]
          obtain ⟨e1, e2⟩ := (goesB_iff j2).1 hgo
          rw [wrap64_in (by omega) (by omega)]
          have hp' : ok1 { p with count := p.count + 1 } = true := (ok1_iff _).2 (by simp only; omega)
          refine ⟨(rightB_snoc _ _).2 ⟨j1, hp', fun hp => okPair_iff.2 (okPair_iff.1 (j3 hp))⟩, fun y hy => ?_, fun q h0 h1 => ?_⟩
          · rcases List.mem_append.1 hy with hy | hy
            · have := i2 y (by simp [hy]); omega
            · simp at hy; subst hy; simp only; omega
          · have i4 := i3 q h0 h1
            rw [getB_snoc _ _ j2 h0 h1] at i4
            rw [getB_snoc _ _ hp' h0 h1]
            simp only
            by_cases h : q < (k : Int)
            · rw [if_pos h] at i4
              rw [if_pos (show q < ((k + 1 : Nat) : Int) by omega), ← i4]
              congr 1
              by_cases h7 : p.from_ ≤ q
              · rw [if_pos (by omega), if_pos (by omega)]
              · rw [if_neg (by omega), if_neg (by omega)]
            · rw [getB_none_end l0 h0 h1 j1 (fun y hy => by have := i2 y (by simp [hy]); omega)]
              by_cases h2 : q = (k : Int)
              · subst h2
                rw [if_pos (by omega), if_pos (by omega), hv]
                show some _ = some _
                congr 1
                omega
              · rw [if_neg (by omega), if_neg (by omega)]
                rfl
        · rw [if_neg hgo]
          exact app (fun _ => by rw [getD_last]; exact okPair_iff.2 ⟨hpe, by simpa using hgo⟩)
theorem cutL_zero (xs : List Run) : rightB xs = true → cutL xs 0 = [] := by
  induction xs using snocRec with
  | h0 => intro _; rfl
  | h1 xs p ih =>
    intro h
    obtain ⟨h2, h3, _⟩ := (rightB_snoc _ _).1 h
    obtain ⟨x0, _⟩ := (ok1_iff p).1 h3
    rw [cutL_snoc', ih h2]
    unfold cut1
    rw [if_neg (by omega)]
    rfl
theorem cut_step (xs : List Run) (k : Nat) (hk : k < 64) : rightB xs = true → cutL xs ((k + 1 : Nat) : Int) = drawStep (cutL xs k) k (getB xs k) := by
  induction xs using snocRec with
  | h0 => intro _; rfl
  | h1 xs p ih =>
    intro h
    obtain ⟨h2, h3, h4⟩ := (rightB_snoc _ _).1 h
    obtain ⟨x0, x1, x2, x3, x4, x5⟩ := (ok1_iff p).1 h3
    rw [cutL_snoc', cutL_snoc', getB_snoc _ _ h3 (by omega) (by omega)]
    by_cases hgt : (k : Int) < p.from_
    · have e1 : cut1 ((k + 1 : Nat) : Int) p = [] := by unfold cut1; rw [if_neg (by omega)]
      have e2 : cut1 (k : Int) p = [] := by unfold cut1; rw [if_neg (by omega)]
      rw [e1, e2, List.append_nil, List.append_nil, if_neg (by omega), ih h2]
      simp
    · have hends := right_ends xs p h
      have a1 := cutL_all xs ((k + 1 : Nat) : Int) h2 (fun y hy => by have := hends y hy; omega)
      have a2 := cutL_all xs (k : Int) h2 (fun y hy => by have := hends y hy; omega)
      have a3 := getB_none_end xs (q := (k : Int)) (by omega) (by omega) h2 (fun y hy => by have := hends y hy; omega)
      rw [a1, a2, a3, Option.none_or]
      by_cases heq : p.from_ = (k : Int)
      · have e1 : cut1 ((k + 1 : Nat) : Int) p = [⟨p.from_, p.at_, 1⟩] := by
          unfold cut1
          rw [if_pos (by omega)]
          by_cases h6 : ((k + 1 : Nat) : Int) - p.from_ < p.count
          · rw [if_pos h6, show ((k + 1 : Nat) : Int) - p.from_ = 1 from by omega]
          · rw [if_neg h6, show p.count = 1 from by omega]
        have e2 : cut1 (k : Int) p = [] := by unfold cut1; rw [if_neg (by omega)]
        rw [e1, e2, List.append_nil, if_pos (by omega), show p.at_ + ((k : Int) - p.from_) = p.at_ from by omega]
        rcases nil_or_snoc xs with rfl | ⟨l0, r, rfl⟩
        · rw [drawStep_nil, heq]; rfl
        · have h5 := h4 (by simp)
          rw [getD_last, okPair_iff] at h5
          have h6 : goesB r ⟨k, p.at_, 1⟩ = false := by
            have h7 := h5.2
            unfold goesB at h7 ⊢
            simp only at h7 ⊢
            rw [← heq]; exact h7
          rw [drawStep_snoc, h6, heq]
          rfl
      · have e2 : cut1 (k : Int) p = [⟨p.from_, p.at_, if (k : Int) - p.from_ < p.count then (k : Int) - p.from_ else p.count⟩] := by unfold cut1; rw [if_pos (by omega)]
        have e1 : cut1 ((k + 1 : Nat) : Int) p = [⟨p.from_, p.at_, if ((k + 1 : Nat) : Int) - p.from_ < p.count then ((k + 1 : Nat) : Int) - p.from_ else p.count⟩] := by unfold cut1; rw [if_pos (by omega)]
        rw [e1, e2]
        by_cases hin : (k : Int) < p.from_ + p.count
        · rw [if_pos (show p.from_ ≤ (k : Int) ∧ (k : Int) < p.from_ + p.count from by omega), drawStep_snoc, if_pos (show (k : Int) - p.from_ < p.count from by omega)]
          have hok' : ok1 ⟨p.from_, p.at_, (k : Int) - p.from_⟩ = true := (ok1_iff _).2 (by simp only; omega)
          rw [if_pos ((goesB_iff (i := (k : Int)) (v := p.at_ + ((k : Int) - p.from_)) (c := 1) hok').2 ⟨by simp only; omega, rfl⟩)]
          simp only
          rw [wrap64_in (n := (k : Int) - p.from_ + 1) (by omega) (by omega)]
          congr 3
          split <;> omega
        · rw [if_neg (by omega), if_neg (by omega), if_neg (by omega)]
          rfl
theorem drawn_get (xs : List Run) (hR : rightB xs = true) : ∀ k : Nat, k ≤ 64 → drawnL (getB xs) k = cutL xs k
  | 0, _ => (cutL_zero xs hR).symm
  | k + 1, hk => by
    show drawStep (drawnL (getB xs) k) k (getB xs k) = _
    rw [drawn_get xs hR k (by omega), cut_step xs k (by omega) hR]
theorem drawn_all (xs : List Run) (hR : rightB xs = true) : drawnL (getB xs) 64 = xs := by
  rw [drawn_get xs hR 64 (Nat.le_refl _)]
  refine cutL_all xs _ hR (fun y hy => ?_)
  obtain ⟨i, hi, rfl⟩ := List.mem_iff_getElem.1 hy
  obtain ⟨_, _, _, _, x4, _⟩ := (ok1_iff _).1 (rightB_ok1 hR (List.getElem?_eq_getElem hi))
  show _ ≤ (64 : Int)
  omega
/-- Right runs that read alike are alike. -/
theorem right_same {xs ys : List Run} (hx : rightB xs = true) (hy : rightB ys = true) (h : ∀ q : Int, 0 ≤ q → q < 64 → getB xs q = getB ys q) : xs = ys := by
  have go : ∀ k : Nat, k ≤ 64 → drawnL (getB xs) k = drawnL (getB ys) k := by
    intro k
    induction k with
    | zero => intro _; rfl
    | succ k ih =>
      intro hk
      show drawStep (drawnL (getB xs) k) k (getB xs k) = drawStep (drawnL (getB ys) k) k (getB ys k)
      rw [ih (by omega), h k (by omega) (by omega)]
  rw [← drawn_all xs hx, ← drawn_all ys hy]
  exact go 64 (Nat.le_refl _)
theorem getB_bound (xs : List Run) {q v : Int} (h0 : 0 ≤ q) (h1 : q < 64) : rightB xs = true → getB xs q = some v → 0 ≤ v ∧ v ≤ 2147483647 := by
  induction xs using snocRec with
  | h0 => intro _ h; cases h
  | h1 xs p ih =>
    intro h hv
    obtain ⟨h2, h3, _⟩ := (rightB_snoc _ _).1 h
    obtain ⟨x0, x1, x2, x3, x4, x5⟩ := (ok1_iff p).1 h3
    rw [getB_snoc _ _ h3 h0 h1] at hv
    cases hx : getB xs q with
    | some u => rw [hx] at hv; simp at hv; subst hv; exact ih h2 hx
    | none =>
      rw [hx, Option.none_or] at hv
      split at hv
      · simp at hv; omega
      · cases hv
/-- What Set makes of right runs. -/
theorem set_right (xs : List Run) (hR : rightB xs = true) {i a : Int} (i0 : 0 ≤ i) (i1 : i < 64) (a0 : 0 ≤ a) (a1 : a ≤ 2147483647) :
    rightB (setR xs i a) = true ∧ ∀ q : Int, 0 ≤ q → q < 64 → getB (setR xs i a) q = if q = i then some a else getB xs q := by
  have e : setR xs i a = drawnL (setG xs i a) 64 := by
    unfold setR
    rw [if_pos hR, if_neg (by simp; omega)]
  have hg : ∀ q : Int, 0 ≤ q → q < 64 → setG xs i a q = if q = i then some a else getB xs q := fun q h0 h1 => by
    unfold setG
    rw [placesG_get xs h0 h1 hR]
  obtain ⟨r1, _, r3⟩ := drawn_right (setG xs i a) (fun q v h0 h1 hv => by
    rw [hg q h0 h1] at hv
    split at hv
    · simp at hv; omega
    · exact getB_bound xs h0 h1 hR hv) 64 (Nat.le_refl _)
  rw [e]
  exact ⟨r1, fun q h0 h1 => by rw [r3 q h0 h1, if_pos (show q < ((64 : Nat) : Int) by omega), hg q h0 h1]⟩
/-! ### how many -/
def cntG (g : Int → Option Int) : Nat → Nat
  | 0 => 0
  | k + 1 => cntG g k + if (g k).isSome then 1 else 0
def startB (g : Int → Option Int) (k : Nat) : Bool := match g k with
  | none => false
  | some v => k == 0 || !(g ((k : Int) - 1) == some (v - 1))
def startsG (g : Int → Option Int) : Nat → Nat
  | 0 => 0
  | k + 1 => startsG g k + if startB g k then 1 else 0
theorem pagesL_snoc' (xs : List Run) (x : Run) : (pagesL (xs ++ [x])).length = (pagesL xs).length + x.count.toNat := by
  unfold pagesL; simp [List.flatMap_append, pagesOf]
theorem right_cnt (xs : List Run) (hR : rightB xs = true) : ∀ k : Nat, k ≤ 64 → (pagesL (cutL xs k)).length = cntG (getB xs) k
  | 0, _ => by
    have := cutL_zero xs hR
    show (pagesL (cutL xs 0)).length = 0
    rw [this]; rfl
  | k + 1, hk => by
    have ih := right_cnt xs hR k (by omega)
    have hc := (cut_right xs k hR).1
    rw [cut_step xs k (by omega) hR]
    show _ = cntG (getB xs) k + if (getB xs k).isSome then 1 else 0
    rw [← ih]
    generalize cutL xs (k : Int) = l at *
    cases hv : getB xs (k : Int) with
    | none => rfl
    | some v =>
      rcases nil_or_snoc l with rfl | ⟨l0, p, rfl⟩
      · rfl
      · obtain ⟨_, j2, _⟩ := (rightB_snoc _ _).1 hc
        obtain ⟨x0, x1, x2, x3, x4, x5⟩ := (ok1_iff p).1 j2
        rw [drawStep_snoc]
        split
        · rw [pagesL_snoc', pagesL_snoc']
          simp only
          rw [wrap64_in (by omega) (by omega)]
          simp only [Option.isSome_some, if_true]
          omega
        · rw [pagesL_snoc']
          rfl
end Go.Proofs.Ytkglaofiencfdaa

/-! How many runs there are, told page by page. -/
namespace Go.Proofs.Ytkglaofiencfdaa
open Go.RowKit
set_option linter.unusedVariables false
theorem cut_ends {xs : List Run} {n : Int} {y : Run} (hy : y ∈ cutL xs n) : y.from_ + y.count ≤ n := by
  unfold cutL at hy
  obtain ⟨x, hx, hy⟩ := List.mem_flatMap.1 hy
  unfold cut1 at hy
  split at hy
  · simp at hy; subst hy; simp only; split <;> omega
  · cases hy
theorem right_starts (xs : List Run) (hR : rightB xs = true) : ∀ k : Nat, k ≤ 64 → (cutL xs k).length = startsG (getB xs) k
  | 0, _ => by
    have := cutL_zero xs hR
    show (cutL xs 0).length = 0
    rw [this]; rfl
  | k + 1, hk => by
    have ih := right_starts xs hR k (by omega)
    obtain ⟨hc, hg⟩ := cut_right xs k hR
    have he : ∀ y ∈ cutL xs (k : Int), y.from_ + y.count ≤ (k : Int) := fun y hy => cut_ends hy
    rw [cut_step xs k (by omega) hR]
    show _ = startsG (getB xs) k + if startB (getB xs) k then 1 else 0
    rw [← ih]
    have hg1 : 0 < k → getB (cutL xs (k : Int)) ((k : Int) - 1) = getB xs ((k : Int) - 1) := fun h0 => by
      rw [hg _ (by omega) (by omega), if_pos (by omega)]
    generalize cutL xs (k : Int) = l at *
    cases hv : getB xs (k : Int) with
    | none => simp [startB, hv, drawStep]
    | some v =>
      rcases nil_or_snoc l with rfl | ⟨l0, p, rfl⟩
      · have hs : startB (getB xs) k = true := by
          unfold startB
          rw [hv]
          by_cases h0 : k = 0
          · simp [h0]
          · have h1 := hg1 (by omega)
            have h2 : getB ([] : List Run) ((k : Int) - 1) = none := rfl
            rw [h2] at h1
            simp [← h1]
        rw [hs]; rfl
      · obtain ⟨j1, j2, _⟩ := (rightB_snoc _ _).1 hc
        obtain ⟨x0, x1, x2, x3, x4, x5⟩ := (ok1_iff p).1 j2
        have hpe := he p (by simp)
        have h0 : 0 < k := by omega
        have h1 := hg1 h0
        have hends := right_ends l0 p hc
        rw [drawStep_snoc]
        by_cases hgo : goesB p ⟨k, v, 1⟩ = true
        · rw [if_pos hgo]
          obtain ⟨e1, e2⟩ := (goesB_iff j2).1 hgo
          rw [getB_snoc _ _ j2 (by omega) (by omega), getB_none_end l0 (by omega) (by omega) j1 (fun y hy => by have := hends y hy; omega), if_pos (by omega), Option.none_or] at h1
          have hs : startB (getB xs) k = false := by
            unfold startB
            rw [hv, ← h1]
            have : p.at_ + ((k : Int) - 1 - p.from_) = v - 1 := by omega
            simp [this]
            omega
          rw [hs]; simp
        · rw [if_neg hgo]
          have hs : startB (getB xs) k = true := by
            unfold startB
            rw [hv, ← h1]
            by_cases h2 : p.from_ + p.count = (k : Int)
            · rw [getB_snoc _ _ j2 (by omega) (by omega), getB_none_end l0 (by omega) (by omega) j1 (fun y hy => by have := hends y hy; omega), if_pos (by omega), Option.none_or]
              have h3 : ¬ (p.at_ + ((k : Int) - 1 - p.from_) = v - 1) := fun h => hgo ((goesB_iff j2).2 ⟨by omega, by omega⟩)
              simp [h3]
            · rw [getB_none_end (l0 ++ [p]) (by omega) (by omega) hc (fun y hy => by
                rcases List.mem_append.1 hy with hy | hy
                · have := hends y hy; omega
                · simp at hy; subst hy; omega)]
              simp
          rw [hs]; simp
theorem right_all {xs : List Run} (hR : rightB xs = true) : cutL xs ((64 : Nat) : Int) = xs :=
  cutL_all xs _ hR (fun y hy => by
    obtain ⟨i, hi, rfl⟩ := List.mem_iff_getElem.1 hy
    obtain ⟨_, _, _, _, x4, _⟩ := (ok1_iff _).1 (rightB_ok1 hR (List.getElem?_eq_getElem hi))
    show _ ≤ (64 : Int)
    omega)
/-- So many runs, and so many pages. -/
theorem right_told {xs : List Run} (hR : rightB xs = true) : xs.length = startsG (getB xs) 64 ∧ (pagesR xs).length = cntG (getB xs) 64 := by
  have h1 := right_starts xs hR 64 (Nat.le_refl _)
  have h2 := right_cnt xs hR 64 (Nat.le_refl _)
  rw [right_all hR] at h1 h2
  refine ⟨h1, ?_⟩
  unfold pagesR
  rw [if_pos hR, h2]
end Go.Proofs.Ytkglaofiencfdaa
