import Derived.Test.YtcnbnehammbncaaDoorCore
import Derived.Test.YtcnbnehammbncaaDoorRefParts
namespace Go.Proofs.YtcnbnehammbncaaDoor
open Go.RowKit Go.Sort
set_option linter.unusedVariables false
end Go.Proofs.YtcnbnehammbncaaDoor

namespace Go.Proofs.YtcnbnehammbncaaDoor
open Go.RowKit Go.Sort
set_option linter.unusedVariables false
/-! ### the laws of layer 10: awake -/
theorem str_row2 {h : FH} {g : Nat} {a b : ByteArray} {t : TypeId} (hb : h g = some (.cells #[.string a, .string b] t (0, 0))) (ha : a.size ≤ 9223372036854775807) (hb2 : b.size ≤ 9223372036854775807) : RowAt h (some ⟨g, 0, none⟩) [a, b] :=
  RowAt.of_block hb ⟨[.string a], [.string b], rfl, ⟨rfl, ha⟩, [.string b], [], rfl, ⟨rfl, hb2⟩, rfl⟩ (by simp)
end Go.Proofs.YtcnbnehammbncaaDoor

/- The walk of the law NameTells: it returns true, and writes nothing that was there. -/
namespace Go.Proofs.YtcnbnehammbncaaDoor
open Go.RowKit Go.Sort
set_option linter.unusedVariables false
theorem ways_len (s : ByteArray) : (waysXs s).length ≤ 401 ∧ (partsXs s).length ≤ 401 := by
  have key : ∀ ks, partsP s = some ks → ks.length ≤ 401 := fun ks h => by
    unfold partsP at h
    split at h
    · cases h
    · have h1 := keepB_len h
      have h2 := splitB_len s
      have h3 := List.count_le_length (a := (47 : UInt8)) (l := s.data.toList)
      rw [Array.length_toList] at h3
      have h4 : s.data.size = s.size := rfl
      omega
  unfold waysXs waysP partsXs
  cases hp : partsP s with
  | none =>
    refine ⟨?_, by simp⟩
    split <;> simp
  | some ks =>
    have := key ks hp
    refine ⟨?_, by simpa using this⟩
    split
    · simpa using this
    · simp
end Go.Proofs.YtcnbnehammbncaaDoor

/- The walk of the law NameDots: it returns true, and writes nothing that was there. -/
namespace Go.Proofs.YtcnbnehammbncaaDoor
open Go.RowKit Go.Sort
set_option linter.unusedVariables false
/-! ### texts that are put together -/
theorem splitL_app : ∀ (l r : List UInt8), splitL (l ++ 47 :: r) = splitL l ++ splitL r
  | [], r => by rw [List.nil_append, splitL_cons, if_pos rfl]; rfl
  | c :: cs, r => by
    have ih := splitL_app cs r
    rw [List.cons_append, splitL_cons, splitL_cons, ih]
    split
    · rfl
    · cases h : splitL cs with
      | nil => exact absurd h (splitL_ne cs)
      | cons x xs => rfl
theorem splitB_app (s : ByteArray) (r : List UInt8) : splitB (s ++ ⟨(47 :: r).toArray⟩) = splitB s ++ (splitL r).map fun l => ⟨l.toArray⟩ := by
  unfold splitB
  have : (s ++ (⟨(47 :: r).toArray⟩ : ByteArray)).data.toList = s.data.toList ++ 47 :: r := by simp
  rw [this, splitL_app, List.map_append]
/-- One part more. -/
theorem keep_more {s : ByteArray} {ks : List ByteArray} (h : keepB (splitB s) = some ks) (r : List UInt8) {js : List ByteArray} (hr : keepB ((splitL r).map fun l => (⟨l.toArray⟩ : ByteArray)) = some js) : keepB (splitB (s ++ ⟨(47 :: r).toArray⟩)) = some (ks ++ js) := by
  rw [splitB_app, keepB_app, h, hr]; rfl
theorem keep_none {s : ByteArray} {ks : List ByteArray} (h : keepB (splitB s) = some ks) (r : List UInt8) (hr : keepB ((splitL r).map fun l => (⟨l.toArray⟩ : ByteArray)) = none) : keepB (splitB (s ++ ⟨(47 :: r).toArray⟩)) = none := by
  rw [splitB_app, keepB_app, h, hr]; rfl
theorem ways_of {s : ByteArray} {ks : List ByteArray} (h1 : 1 ≤ s.size) (h2 : s.size ≤ 400) (ht : topB s = true) (h : keepB (splitB s) = some ks) : waysXs s = ks ∧ waysCode s = 0 := by
  have hp : partsP s = some ks := by unfold partsP; rw [if_neg (by omega)]; exact h
  unfold waysXs waysCode waysP
  rw [if_pos ht, hp]
  exact ⟨rfl, rfl⟩
theorem ways_bad {s : ByteArray} (h : keepB (splitB s) = none) : waysCode s = 17 := by
  have hp : partsP s = none := by unfold partsP; split <;> first | rfl | exact h
  unfold waysCode waysP
  rw [hp]
  split <;> rfl
theorem top_app (s t : ByteArray) (h : topB s = true) : topB (s ++ t) = true := by
  unfold topB at h ⊢
  have : (s ++ t).data.toList = s.data.toList ++ t.data.toList := by simp
  rw [this]
  cases hl : s.data.toList with
  | nil => rw [hl] at h; cases h
  | cons c cs => rw [hl] at h; exact h
def xxB (k : Nat) : ByteArray := ⟨(List.replicate k (120 : UInt8)).toArray⟩
theorem xxB_next (k : Nat) : xxB k ++ ⟨#[120]⟩ = xxB (k + 1) := by
  apply ByteArray.ext
  apply Array.toList_inj.1
  simp [xxB, List.replicate_succ']
theorem xxB_ok : ∀ k, k < 35 → 30 ≤ k → (keepB ((splitL (List.replicate k (120 : UInt8))).map fun l => (⟨l.toArray⟩ : ByteArray))).isSome = decide (k ≤ 32) := by decide +kernel
theorem slash_xx (k : Nat) : (⟨#[47]⟩ : ByteArray) ++ xxB k = ⟨(47 :: List.replicate k (120 : UInt8)).toArray⟩ := by
  apply ByteArray.ext
  apply Array.toList_inj.1
  simp [xxB]
/-- What a text so far means, behind "/" and behind "/a". -/
def Dots (s : ByteArray) (ws : List ByteArray) : Prop := keepB (splitB ((⟨#[47]⟩ : ByteArray) ++ s)) = some ws ∧ keepB (splitB ((⟨#[47, 97]⟩ : ByteArray) ++ s)) = some (⟨#[97]⟩ :: ws)
theorem Dots.start : Dots ⟨#[]⟩ [] := ⟨by decide +kernel, by decide +kernel⟩
theorem Dots.more {s : ByteArray} {ws : List ByteArray} (h : Dots s ws) (r : List UInt8) {js : List ByteArray} (hr : keepB ((splitL r).map fun l => (⟨l.toArray⟩ : ByteArray)) = some js) : Dots (s ++ ⟨(47 :: r).toArray⟩) (ws ++ js) := by
  refine ⟨?_, ?_⟩
  · rw [← ByteArray.append_assoc]; exact keep_more h.1 r hr
  · rw [← ByteArray.append_assoc]; exact keep_more h.2 r hr
theorem way_code0 (s : ByteArray) (hsz : s.size ≤ 9223372036854775807) (co : Int) (hc : waysCode s = co) (h : FH) (w : World) (hs : Sits h w) :
    Calls Tryd.prog 29 #[.string s] w fun e w' => ∃ A n c, e = .returned (.tuple #[.slice A n c, .int .i64 co]) ∧ Ext h w h w' := by
  refine (name_Split s hsz h w hs).mono ?_
  rintro e w' ⟨v, rfl, O, E⟩
  obtain ⟨A, c, rfl, _⟩ := O.slice
  exact ⟨_, _, _, by rw [hc], E⟩
end Go.Proofs.YtcnbnehammbncaaDoor

/- The walk of the law NameJoins: it returns true, and writes nothing that was there. -/
namespace Go.Proofs.YtcnbnehammbncaaDoor
open Go.RowKit Go.Sort
set_option linter.unusedVariables false
/-! ### ways that are joined from names: the plain law -/
def slB (k : Nat) : ByteArray := ⟨(List.replicate k (47 : UInt8)).toArray⟩
theorem slB_next (k : Nat) : slB k ++ ⟨#[47]⟩ = slB (k + 1) := by
  apply ByteArray.ext
  apply Array.toList_inj.1
  simp [slB, List.replicate_succ']
theorem slB_size (k : Nat) : (slB k).size = k := by simp [slB, ByteArray.size]
def goodB (x : ByteArray) : Bool := nameB x || x.toList == [46, 46]
theorem good_facts {x : ByteArray} (h : goodB x = true) : (∀ c ∈ x.data.toList, c ≠ 47) ∧ 1 ≤ x.size ∧ x.size ≤ 32 ∧ skipB x = false ∧ badB x = false := by
  unfold goodB at h
  rw [Bool.or_eq_true] at h
  rcases h with h | h
  · unfold nameB at h
    simp only [Bool.and_eq_true, decide_eq_true_eq, Bool.not_eq_true'] at h
    obtain ⟨⟨⟨⟨h1, h2⟩, h3⟩, h4⟩, h5⟩ := h
    refine ⟨fun c hc e => ?_, by omega, by omega, ?_, ?_⟩
    · have := List.all_eq_true.1 h1 c hc
      subst e
      revert this; decide
    · unfold skipB
      rw [h4, empty_iff, Bool.or_false]
      exact decide_eq_false (by omega)
    · unfold badB
      rw [h5]
      have : nameB x = true := by
        unfold nameB
        simp only [Bool.and_eq_true, decide_eq_true_eq, Bool.not_eq_true']
        exact ⟨⟨⟨⟨h1, h2⟩, h3⟩, h4⟩, h5⟩
      rw [this]; rfl
  · rw [beq_iff_eq] at h
    have hd : x = ⟨#[46, 46]⟩ := by
      rw [ByteArray.toList_eq] at h
      apply ByteArray.ext
      apply Array.toList_inj.1
      exact h
    subst hd
    exact ⟨by decide, by decide, by decide, by decide +kernel, by decide +kernel⟩
theorem split_slashes : ∀ (k : Nat) (r : List UInt8), keepB ((splitL (List.replicate k 47 ++ r)).map fun l => (⟨l.toArray⟩ : ByteArray)) = keepB ((splitL r).map fun l => ⟨l.toArray⟩)
  | 0, r => rfl
  | k + 1, r => by
    rw [List.replicate_succ, List.cons_append, splitL_cons, if_pos rfl, List.map_cons, keepB_cons, if_pos (by decide +kernel)]
    exact split_slashes k r
theorem keep_one {x : ByteArray} (h : goodB x = true) : keepB ((splitL x.data.toList).map fun l => (⟨l.toArray⟩ : ByteArray)) = some [x] := by
  obtain ⟨h1, _, _, h4, h5⟩ := good_facts h
  rw [splitL_none _ h1]
  show keepB [x] = _
  rw [keepB_cons, if_neg (by rw [h4]; decide), if_neg (by rw [h5]; decide)]; rfl
/-- What a joined text means so far. -/
def Joins (j : Nat) (s : ByteArray) (ws : List ByteArray) : Prop := (s = ⟨#[]⟩ ∧ ws = []) ∨ ∃ r : List UInt8, s = ⟨(List.replicate (j + 1) 47 ++ r).toArray⟩ ∧ (∃ c cs, r = c :: cs ∧ c ≠ 47) ∧ keepB ((splitL r).map fun l => ⟨l.toArray⟩) = some ws
theorem Joins.more {j : Nat} {s : ByteArray} {ws : List ByteArray} (h : Joins j s ws) {x : ByteArray} (hx : goodB x = true) : Joins j ((s ++ slB (j + 1)) ++ x) (ws ++ [x]) := by
  obtain ⟨h1, h2, _, _, _⟩ := good_facts hx
  rcases h with ⟨rfl, rfl⟩ | ⟨r, rfl, ⟨c, cs, rfl, hc⟩, hk⟩
  · refine .inr ⟨x.data.toList, ?_, ?_, ?_⟩
    · apply ByteArray.ext
      apply Array.toList_inj.1
      simp [slB]
    · cases hl : x.data.toList with
      | nil =>
        have : x.data.toList.length = x.size := Array.length_toList ..
        rw [hl] at this
        simp at this; omega
      | cons c cs => exact ⟨c, cs, rfl, h1 c (by rw [hl]; simp)⟩
    · rw [List.nil_append]; exact keep_one hx
  · refine .inr ⟨(c :: cs) ++ 47 :: (List.replicate j 47 ++ x.data.toList), ?_, ⟨c, _, rfl, hc⟩, ?_⟩
    · apply ByteArray.ext
      apply Array.toList_inj.1
      simp [slB, List.replicate_succ]
    · rw [splitL_app, List.map_append, keepB_app, hk, split_slashes, keep_one hx]; rfl
theorem Joins.split {j : Nat} {s : ByteArray} {ws : List ByteArray} (h : Joins j s ws) (h1 : 1 ≤ s.size) : topB s = true ∧ keepB (splitB s) = some ws ∧ topB (s.extract (j + 1) s.size) = false ∧ 1 ≤ (s.extract (j + 1) s.size).size ∧ keepB (splitB (s.extract (j + 1) s.size)) = some ws := by
  rcases h with ⟨rfl, rfl⟩ | ⟨r, rfl, ⟨c, cs, rfl, hc⟩, hk⟩
  · exact absurd h1 (by decide)
  · have hd : (ByteArray.extract ⟨(List.replicate (j + 1) 47 ++ c :: cs).toArray⟩ (j + 1) (⟨(List.replicate (j + 1) (47 : UInt8) ++ c :: cs).toArray⟩ : ByteArray).size) = ⟨(c :: cs).toArray⟩ := by
      apply ByteArray.ext
      apply Array.toList_inj.1
      simp [ByteArray.size]
    rw [hd]
    refine ⟨?_, ?_, ?_, by simp [ByteArray.size], hk⟩
    · unfold topB; simp [List.replicate_succ]
    · show keepB ((splitL (List.replicate (j + 1) 47 ++ c :: cs)).map fun l => (⟨l.toArray⟩ : ByteArray)) = _
      rw [split_slashes]; exact hk
    · unfold topB
      simpa using hc
theorem Joins.tail {s : ByteArray} {ws : List ByteArray} (h : keepB (splitB s) = some ws) : keepB (splitB (s ++ ⟨#[47, 46, 47]⟩)) = some ws := by
  have := keep_more h [46, 47] (js := []) (by decide +kernel)
  rwa [List.append_nil] at this
theorem parts_of {s : ByteArray} {ws : List ByteArray} (h1 : 1 ≤ s.size) (h2 : s.size ≤ 400) (h : keepB (splitB s) = some ws) : partsXs s = ws ∧ partsTop s = topB s ∧ partsCode s = 0 := parts_some (show partsP s = some ws by unfold partsP; rw [if_neg (by omega)]; exact h)
end Go.Proofs.YtcnbnehammbncaaDoor
