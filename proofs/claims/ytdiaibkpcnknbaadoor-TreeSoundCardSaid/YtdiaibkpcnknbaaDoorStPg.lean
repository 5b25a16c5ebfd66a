import Derived.Test.YtdiaibkpcnknbaaDoorStSo
import Derived.Test.YtdiaibkpcnknbaaDoorCore
namespace Go.Proofs.YtdiaibkpcnknbaaDoor
open Go.RowKit Go.Sort
set_option linter.unusedVariables false
/-! ### places -/
def runP (u : Run) (n : Nat) : List Int := (List.range n).map fun i => u.at_ + ((i : Nat) : Int)
def runsP (us : List Run) : List Int := us.flatMap fun u => runP u u.count.toNat
def placesL (xs : List Inode) : List Int := xs.flatMap fun x => runsP x.runs
def okPl (lim : Int) (ps : List Int) : Bool := decide ps.Nodup && ps.all fun p => decide (p < lim)
def memM (ps : List Int) : Int → Option Value := fun a => if a ∈ ps then some (.int .i64 1) else none
theorem okPl_pre {lim : Int} {ps qs : List Int} (h : okPl lim ps = false) : okPl lim (ps ++ qs) = false := by
  cases e : okPl lim (ps ++ qs) with
  | false => rfl
  | true =>
    unfold okPl at e h
    simp only [Bool.and_eq_true, decide_eq_true_eq, List.all_append] at e
    rw [decide_eq_true (List.nodup_append.1 e.1).1, e.2.1] at h
    cases h
theorem okPl_snoc {lim : Int} {ps : List Int} {p : Int} (h : okPl lim ps = true) : okPl lim (ps ++ [p]) = (decide (p < lim) && decide (p ∉ ps)) := by
  unfold okPl at h ⊢
  simp only [Bool.and_eq_true, decide_eq_true_eq] at h
  rw [List.all_append, h.2, Bool.true_and, Bool.and_comm, Bool.eq_iff_iff]
  simp only [List.all_cons, List.all_nil, Bool.and_true, Bool.and_eq_true, decide_eq_true_eq]
  constructor
  · rintro ⟨a, b⟩
    exact ⟨a, fun hm => (List.nodup_append.1 b).2.2 p hm p (by simp) rfl⟩
  · rintro ⟨a, b⟩
    exact ⟨a, List.nodup_append.2 ⟨h.1, by simp, fun x hx y hy => by simp at hy; subst hy; exact fun e => b (e ▸ hx)⟩⟩
theorem memM_snoc (ps : List Int) (p a : Int) : memM (ps ++ [p]) a = if a = p then some (.int .i64 1) else memM ps a := by
  unfold memM
  by_cases h : a = p
  · simp [h]
  · simp [h]
theorem runP_snoc (u : Run) (n : Nat) : runP u (n + 1) = runP u n ++ [u.at_ + ((n : Nat) : Int)] := by
  unfold runP; rw [List.range_succ, List.map_append]; rfl
theorem runsP_snoc {us : List Run} {k : Nat} {u : Run} (h : us[k]? = some u) : runsP (us.take (k + 1)) = runsP (us.take k) ++ runP u u.count.toNat := by
  unfold runsP; rw [take_snoc h, List.flatMap_append]; simp
theorem placesL_snoc {xs : List Inode} {k : Nat} {x : Inode} (h : xs[k]? = some x) : placesL (xs.take (k + 1)) = placesL (xs.take k) ++ runsP x.runs := by
  unfold placesL; rw [take_snoc h, List.flatMap_append]; simp
theorem runP_cut (u : Run) {n m : Nat} (h : n ≤ m) : ∃ qs, runP u m = runP u n ++ qs := by
  unfold runP
  refine ⟨(List.range' n (m - n)).map fun i => u.at_ + ((i : Nat) : Int), ?_⟩
  rw [← List.map_append, List.range_eq_range', List.range_eq_range']
  congr 1
  have := List.range'_append (s := 0) (m := n) (n := m - n) (step := 1)
  simp only [Nat.one_mul, Nat.zero_add] at this
  rw [this]
  congr 1
  omega
/-- What is done so far is the head of all. -/
theorem places_head {xs : List Inode} {k : Nat} {x : Inode} (hx : xs[k]? = some x) {j : Nat} {u : Run} (hu : x.runs[j]? = some u) {n : Nat} (hn : n ≤ u.count.toNat) : ∃ qs, placesL xs = placesL (xs.take k) ++ runsP (x.runs.take j) ++ runP u n ++ qs := by
  have e1 : xs = xs.take k ++ [x] ++ xs.drop (k + 1) := by rw [← take_snoc hx, List.take_append_drop]
  have e2 : x.runs = x.runs.take j ++ [u] ++ x.runs.drop (j + 1) := by rw [← take_snoc hu, List.take_append_drop]
  obtain ⟨q, e3⟩ := runP_cut u hn
  have h1 : placesL xs = placesL (xs.take k) ++ runsP x.runs ++ placesL (xs.drop (k + 1)) := by
    conv => lhs; rw [e1]
    unfold placesL; simp
  have h2 : runsP x.runs = runsP (x.runs.take j) ++ runP u u.count.toNat ++ runsP (x.runs.drop (j + 1)) := by
    conv => lhs; rw [e2]
    unfold runsP; simp
  refine ⟨q ++ runsP (x.runs.drop (j + 1)) ++ placesL (xs.drop (k + 1)), ?_⟩
  rw [h1, h2, e3]; simp
def fineRuns (us : List Run) : Prop := ∀ u ∈ us, 0 ≤ u.at_ ∧ 0 ≤ u.count ∧ u.count ≤ 100 ∧ u.at_ + u.count ≤ 2147483648
end Go.Proofs.YtdiaibkpcnknbaaDoor
