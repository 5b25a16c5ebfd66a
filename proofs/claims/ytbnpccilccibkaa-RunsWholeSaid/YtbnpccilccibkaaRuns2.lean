import Derived.Test.YtbnpccilccibkaaRuns
import Derived.Test.YtbnpccilccibkaaClone
namespace Go.Proofs.Ytbnpccilccibkaa
open Go.RowKit Go.Sort
set_option linter.unusedVariables false

/-! ### Get -/
def getHit (index : Int) (x : Run) : Bool := decide (0 < x.count) && decide (x.from_ ≤ index) && decide (IntKind.u64.wrap (IntKind.u64.wrap index - IntKind.u64.wrap x.from_) < IntKind.u64.wrap x.count)
def getB (xs : List Run) (index : Int) : Option Int := (xs.find? (getHit index)).map fun x => wrap64 (x.at_ + wrap64 (index - x.from_))
theorem find_none_take {α : Type} {p : α → Bool} {xs : List α} {k : Nat} {x : α} (h : ∀ i y, i < k → xs[i]? = some y → p y = false) (hx : xs[k]? = some x) (hp : p x = true) : xs.find? p = some x := by
  have hk := (List.getElem?_eq_some_iff.1 hx)
  have e : xs = xs.take k ++ (x :: xs.drop (k + 1)) := by
    obtain ⟨h1, h2⟩ := hk
    rw [← h2, List.getElem_cons_drop, List.take_append_drop]
  rw [e, List.find?_append]
  have : (xs.take k).find? p = none := by
    rw [List.find?_eq_none]
    intro y hy
    obtain ⟨i, hi, rfl⟩ := List.mem_iff_getElem.1 hy
    have hi2 : i < k ∧ i < xs.length := by simpa [Nat.lt_min] using hi
    rw [List.getElem_take, h i _ hi2.1 (List.getElem?_eq_getElem hi2.2)]
    simp
  rw [this, List.find?_cons, hp]
  rfl
theorem find_none_all {α : Type} {p : α → Bool} {xs : List α} (h : ∀ i y, i < xs.length → xs[i]? = some y → p y = false) : xs.find? p = none := by
  rw [List.find?_eq_none]
  intro y hy
  obtain ⟨i, hi, rfl⟩ := List.mem_iff_getElem.1 hy
  rw [h i _ hi (List.getElem?_eq_getElem _)]
  simp
theorem ret_ib' {k : IntKind} {a b : Int} {c d : Bool} (h : a = b) (h' : c = d) : Ending.returned (.tuple #[.int k a, .bool c]) = .returned (.tuple #[.int k b, .bool d]) := by rw [h, h']
set_option maxHeartbeats 4000000 in
theorem runs_Get (xs : List Run) (A : Option Addr) (c : Nat) (index : Int) (h : FH) (w : World) (hs : Sits h w) (r : RowAt h A xs) :
    Calls Try.prog 15 #[.slice A xs.length c, .int .i64 index] w fun e w' => e = .returned (.tuple #[.int .i64 ((getB xs index).getD 0), .bool (getB xs index).isSome]) ∧ Ext h w h w' := by
  have hl := r.1
  go_enter Try.func15, Try.ntmps15
  go_wp2
  go_loopw [10] (fun i wr => ∃ k : Nat, k ≤ xs.length ∧ i = .int .i64 k ∧ Hid (∀ i y, i < k → xs[i]? = some y → getHit index y = false) ∧ Ext h w h wr) (fun i _ => xs.length - (intOf i).toNat)
  case atStart => exact ⟨0, Nat.zero_le _, rfl, hid (fun i y hi => by omega), Ext.refl hs⟩
  case round =>
    obtain ⟨k, hk, rfl, HN, E⟩ := hrel
    by_cases hlt : k < xs.length
    · obtain ⟨x, hx⟩ : ∃ x, xs[k]? = some x := ⟨xs[k], by simp [hlt]⟩
      obtain ⟨b, off, rfl, c0, c1, c2⟩ := r.run hx E.sits
      have HX := hid hx
      clear hx
      have step : getHit index x = false → Hid (∀ i y, i < k + 1 → xs[i]? = some y → getHit index y = false) := fun hf i y hi hy => by
        by_cases hik : i = k
        · subst hik; rw [HX.out] at hy; cases hy; exact hf
        · exact HN.out i y (by omega) hy
      have STEP := hid step
      clear step
      by_cases h1 : 0 < x.count
      · by_cases h2 : x.from_ ≤ index
        · by_cases h3 : IntKind.u64.wrap (IntKind.u64.wrap index - IntKind.u64.wrap x.from_) < IntKind.u64.wrap x.count
          · have HG := hid (show getB xs index = some (wrap64 (x.at_ + wrap64 (index - x.from_))) by
              unfold getB; rw [find_none_take HN.out HX.out (by simp [getHit, h1, h2, h3])]; rfl)
            go_wp2
            go_ret2
            exact ⟨ret_ib' (by rw [HG.out]; rfl) (by rw [HG.out]; rfl), E.alloc _⟩
          · have HG := hid (show getHit index x = false by simp only [getHit]; simp [h3])
            go_wp2
            go_roundw
            case rel => exact ⟨k + 1, by omega, by go_num, STEP.out HG.out, E.alloc _⟩
            case measure => simp [intOf]; omega
        · have HG := hid (show getHit index x = false by simp [getHit, h2])
          go_wp2
          go_roundw
          case rel => exact ⟨k + 1, by omega, by go_num, STEP.out HG.out, E.alloc _⟩
          case measure => simp [intOf]; omega
      · have HG := hid (show getHit index x = false by simp [getHit, h1])
        go_wp2
        go_roundw
        case rel => exact ⟨k + 1, by omega, by go_num, STEP.out HG.out, E.alloc _⟩
        case measure => simp [intOf]; omega
    · have HG := hid (show getB xs index = none by unfold getB; rw [find_none_all (fun i y hi => HN.out i y (by omega))]; rfl)
      go_wp2
      go_ret2
      exact ⟨ret_ib' (by rw [HG.out]; rfl) (by rw [HG.out]; rfl), E⟩

/-! ### places -/
def plRun (x : Run) (n : Int) (f : Int → Option Value) : Int → Option Value := fun a => if x.from_ ≤ a ∧ a < x.from_ + n then some (.int .i64 (x.at_ + (a - x.from_))) else f a
def placesF (xs : List Run) : Int → Option Value := xs.foldl (fun f x => plRun x x.count f) (fun _ => none)
theorem placesF_snoc (xs : List Run) (k : Nat) (x : Run) (hx : xs[k]? = some x) : placesF (xs.take (k + 1)) = plRun x x.count (placesF (xs.take k)) := by
  unfold placesF
  rw [List.take_add_one, hx]
  simp [List.foldl_append]
theorem plRun_zero (x : Run) (f : Int → Option Value) (a : Int) : f a = plRun x 0 f a := by
  unfold plRun
  rw [if_neg (by omega)]
theorem plRun_succ (x : Run) (j : Int) (hj : 0 ≤ j) (f : Int → Option Value) (a : Int) : (if a = x.from_ + j then some (Value.int .i64 (x.at_ + j)) else plRun x j f a) = plRun x (j + 1) f a := by
  unfold plRun
  by_cases h : a = x.from_ + j
  · rw [if_pos h, if_pos (by omega)]
    rw [show x.at_ + (a - x.from_) = x.at_ + j from by omega]
  · rw [if_neg h]
    by_cases h2 : x.from_ ≤ a ∧ a < x.from_ + j
    · rw [if_pos h2, if_pos (by omega)]
    · rw [if_neg h2, if_neg (by omega)]
set_option maxHeartbeats 4000000 in
theorem runs_places (xs : List Run) (A : Option Addr) (c : Nat) (hR : rightB xs = true) (h : FH) (w : World) (hs : Sits h w) (r : RowAt h A xs) :
    Calls Try.prog 25 #[.slice A xs.length c] w fun e w' => RetMap encI h w (placesF xs) e w' := by
  have hl := r.1
  have hmm := @run_makeMap Try.prog
  have HR := hid hR
  have HN1 := hid (hs.none (g := w.heap.size) (Nat.le_refl _))
  clear hR
  go_enter Try.func25, Try.ntmps25
  go_wp2
  go_loopw [6, 10, 16] (fun s6 i s16 wr => ∃ k : Nat, k ≤ xs.length ∧ i = .int .i64 k ∧ MapIs encI wr w.heap.size (placesF (xs.take k)) ∧ Ext h w h wr) (fun _ i _ _ => xs.length - (intOf i).toNat)
  case atStart => exact ⟨0, Nat.zero_le _, rfl, MapIs.made encI w, (Ext.refl hs).alloc _⟩
  case round =>
    obtain ⟨k, hk, rfl, M, E⟩ := hrel
    by_cases hlt : k < xs.length
    · obtain ⟨x, hx⟩ : ∃ x, xs[k]? = some x := ⟨xs[k], by simp [hlt]⟩
      obtain ⟨b, off, rfl, c0, c1, c2⟩ := r.run hx E.sits
      have HX := hid hx
      obtain ⟨x0, x1, x2, x3, x4, x5⟩ := (ok1_iff x).1 (rightB_ok1 HR.out hx)
      have HS := hid (placesF_snoc xs k x hx)
      clear hx
      have M2 := (M.alloc (.cells #[.int .i64 x.from_, .int .i64 x.at_, .int .i64 x.count] 38)).congr (plRun_zero x _)
      have E2 := E.alloc (.cells #[.int .i64 x.from_, .int .i64 x.at_, .int .i64 x.count] 38)
      have z0 : (wr.alloc (.cells #[.int .i64 x.from_, .int .i64 x.at_, .int .i64 x.count] 38)).cell? ⟨wr.heap.size, 0, none⟩ = some (.int .i64 x.from_) := by go_simp
      have z1 : (wr.alloc (.cells #[.int .i64 x.from_, .int .i64 x.at_, .int .i64 x.count] 38)).cell? ⟨wr.heap.size, 1, none⟩ = some (.int .i64 x.at_) := by go_simp
      have z2 : (wr.alloc (.cells #[.int .i64 x.from_, .int .i64 x.at_, .int .i64 x.count] 38)).cell? ⟨wr.heap.size, 2, none⟩ = some (.int .i64 x.count) := by go_simp
      have hne : w.heap.size ≠ wr.heap.size := by have := M.lt; omega
      have HNE := hid hne
      generalize hW : (wr.alloc (.cells #[.int .i64 x.from_, .int .i64 x.at_, .int .i64 x.count] 38)) = W2 at M2 E2 z0 z1 z2
      have HW := hid hW
      clear hW
      go_wp2_with fail
      rw [HW.out]
      generalize hg : wr.heap.size = g at *
      clear hg HW M E c0 c1 c2
      go_loopw [6, 16] (fun s6 j wi => ∃ jn : Nat, (jn : Int) ≤ x.count ∧ j = .int .i64 jn ∧ MapIs encI wi w.heap.size (plRun x jn (placesF (xs.take k))) ∧ Ext h w h wi ∧ wi.cell? ⟨g, 0, none⟩ = some (.int .i64 x.from_) ∧ wi.cell? ⟨g, 1, none⟩ = some (.int .i64 x.at_)) (fun _ j _ => (x.count - intOf j).toNat)
      case atStart => exact ⟨0, by omega, rfl, M2, E2, z0, z1⟩
      case round =>
        obtain ⟨jn, hj, rfl, M, E, y0, y1⟩ := hrel
        by_cases hlt2 : (jn : Int) < x.count
        · have hst := fun a => plRun_succ x jn (by omega) (placesF (xs.take k)) a
          have HST := hid hst
          clear hst
          go_wp2_with (at_mapUpdate; refine wpList_mapSet _ rfl _ _ _ 57 3 rfl kt_runs_page Try.underlying57 w.heap.size _ rfl M (x.from_ + jn) rfl (.int .i64 (x.at_ + jn)) rfl ?_; intro w1 M1 hg1)
          go_roundw
          case rel => exact ⟨jn + 1, by omega, by go_num, M1.congr (by intro a; have := HST.out a; simpa using this), E.grown hg1 (fun j hj => by cases hj; exact ⟨Nat.le_refl _, HN1.out⟩), hg1.cell y0 (by simp; exact fun e => HNE.out e.symm), hg1.cell y1 (by simp; exact fun e => HNE.out e.symm)⟩
          case measure => simp [intOf]; omega
        · have hje : (jn : Int) = x.count := by omega
          have M3 : MapIs encI wr w.heap.size (placesF (xs.take (k + 1))) := M.congr (by intro a; rw [hje]; exact (congrFun HS.out a).symm)
          go_wp2
          go_roundw
          case rel => exact ⟨k + 1, by omega, by go_num, M3, E⟩
          case measure => simp [intOf]; omega
    · obtain rfl : k = xs.length := by omega
      rw [List.take_length] at M
      go_wp2
      go_ret
      exact ⟨_, rfl, M, Nat.le_refl _, E⟩
end Go.Proofs.Ytbnpccilccibkaa
