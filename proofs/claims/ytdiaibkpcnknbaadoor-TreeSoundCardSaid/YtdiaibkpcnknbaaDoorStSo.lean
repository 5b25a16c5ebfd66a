import Derived.Test.YtdiaibkpcnknbaaDoorStB
import Derived.Test.YtdiaibkpcnknbaaDoorInoAll
namespace Go.Proofs.YtdiaibkpcnknbaaDoor
open Go.RowKit Go.Sort
set_option linter.unusedVariables false
def inB (v lo hi : Int) : Bool := decide (lo ≤ v) && decide (v ≤ hi)
def evB (v : Int) : Bool := v.tmod 2 == 0
def geoB (g : Geo) : Bool := evB g.sectors && inB g.sectors 2 16 && inB g.sector 256 4096 && inB g.blocks 4 64 && inB g.pages 2 32 && inB g.page 16 256
theorem evB_emod (v : Int) : (v % 2 == 0) = evB v := by
  unfold evB
  rw [Bool.eq_iff_iff]
  simp only [beq_iff_eq]
  constructor
  · intro h; exact Int.tmod_eq_zero_of_dvd (Int.dvd_of_emod_eq_zero h)
  · intro h; exact Int.emod_eq_zero_of_dvd (Int.dvd_of_tmod_eq_zero h)
/-! ### numbers that rise -/
def okR (nx : Int) (xs : List Inode) (i : Nat) : Bool := rightI (xs.getD i default) && decide ((xs.getD i default).no < nx) && (i == 0 || decide ((xs.getD (i - 1) default).no < (xs.getD i default).no))
def okZ (bl : Int) (xs : List Int) (i : Nat) : Bool := decide (0 ≤ xs.getD i default) && decide (xs.getD i default < bl) && (i == 0 || decide (xs.getD (i - 1) default < xs.getD i default))
def allR (nx : Int) (xs : List Inode) : Bool := (List.range xs.length).all (okR nx xs)
def allZ (bl : Int) (xs : List Int) : Bool := (List.range xs.length).all (okZ bl xs)
def riseB (s : State) (g : Geo) : Bool := allR s.next s.inodes && allZ g.blocks s.bads && decide ((s.inodes.length : Int) ≤ 200) && decide (s.next ≤ 2147483647)
theorem riseB_z {s : State} {g : Geo} (h : allZ g.blocks s.bads = false) : riseB s g = false := by unfold riseB; rw [h]; simp
theorem range_all {p : Nat → Bool} {n : Nat} (h : ∀ i, i < n → p i = true) : (List.range n).all p = true := by
  rw [List.all_eq_true]; intro i hi; exact h i (by simpa using hi)
theorem range_not {p : Nat → Bool} {n i : Nat} (hi : i < n) (h : p i = false) : (List.range n).all p = false := by
  rw [List.all_eq_false]; exact ⟨i, by simpa using hi, by simp [h]⟩
theorem getD_of {α : Type} [Inhabited α] {xs : List α} {i : Nat} {x : α} (h : xs[i]? = some x) : xs.getD i default = x := by rw [List.getD_eq_getElem?_getD, h]; rfl
theorem okR_a {nx : Int} {xs : List Inode} {k : Nat} {x : Inode} (hx : xs[k]? = some x) (h : rightI x = false) : okR nx xs k = false := by simp only [okR, getD_of hx, h]; rfl
theorem okR_b {nx : Int} {xs : List Inode} {k : Nat} {x : Inode} (hx : xs[k]? = some x) (h : nx ≤ x.no) : okR nx xs k = false := by
  have : decide (x.no < nx) = false := by simp; omega
  simp only [okR, getD_of hx, this, Bool.and_false, Bool.false_and]
theorem okR_c {nx : Int} {xs : List Inode} {x : Inode} (hx : xs[0]? = some x) (h : rightI x = true) (h1 : x.no < nx) : okR nx xs 0 = true := by
  have : decide (x.no < nx) = true := by simpa using h1
  simp only [okR, getD_of hx, h, this]; rfl
theorem okR_d {nx : Int} {xs : List Inode} {m : Nat} {x y : Inode} (hx : xs[m + 1]? = some x) (hy : xs[m]? = some y) (h : rightI x = true) (h1 : x.no < nx) : okR nx xs (m + 1) = decide (y.no < x.no) := by
  have : decide (x.no < nx) = true := by simpa using h1
  simp only [okR, getD_of hx, Nat.add_sub_cancel, getD_of hy, h, this]; simp
theorem okZ_at {bl : Int} {xs : List Int} {m : Nat} {x y : Int} (hx : xs[m + 1]? = some x) (hy : xs[m]? = some y) : okZ bl xs (m + 1) = (decide (0 ≤ x) && decide (x < bl) && decide (y < x)) := by
  simp only [okZ, getD_of hx, Nat.add_sub_cancel, getD_of hy]; simp
theorem okZ_0 {bl : Int} {xs : List Int} {x : Int} (hx : xs[0]? = some x) : okZ bl xs 0 = (decide (0 ≤ x) && decide (x < bl)) := by
  simp only [okZ, getD_of hx]; simp
end Go.Proofs.YtdiaibkpcnknbaaDoor
