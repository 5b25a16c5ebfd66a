import Derived.Test.YtkglaofiencfdaaStB
namespace Go.Proofs.Ytkglaofiencfdaa
open Go.RowKit Go.Sort
set_option linter.unusedVariables false
/-! ### numbers that rise -/
def riseI (xs : List Inode) : Prop := (xs.map (·.no)).Pairwise (· < ·)
def riseZ (xs : List Int) : Prop := xs.Pairwise (· < ·)
theorem pw_ins {l : List Int} {p : Nat} {a : Int} (h : l.Pairwise (· < ·)) (h1 : ∀ x ∈ l.take p, x < a) (h2 : ∀ x ∈ l.drop p, a < x) : (l.take p ++ [a] ++ l.drop p).Pairwise (· < ·) := by
  rw [List.append_assoc, List.pairwise_append]
  refine ⟨h.sublist (List.take_sublist _ _), ?_, ?_⟩
  · rw [List.singleton_append, List.pairwise_cons]
    exact ⟨h2, h.sublist (List.drop_sublist _ _)⟩
  · intro x hx y hy
    have hxa := h1 x hx
    simp only [List.singleton_append, List.mem_cons] at hy
    rcases hy with rfl | hy
    · exact hxa
    · have := h2 y hy; omega
theorem pw_get {l : List Int} (h : l.Pairwise (· < ·)) {i j : Nat} {x y : Int} (hi : l[i]? = some x) (hj : l[j]? = some y) (hij : i < j) : x < y := by
  obtain ⟨a, rfl⟩ := List.getElem?_eq_some_iff.1 hi
  obtain ⟨b, rfl⟩ := List.getElem?_eq_some_iff.1 hj
  exact List.pairwise_iff_getElem.1 h i j a b hij
/-- Where the first greater one stands. -/
theorem pos_lt {xs : List Inode} {no : Int} (hn : ∀ y ∈ xs, y.no ≠ no) : ∀ x ∈ (xs.map (·.no)).take (posI xs no), x < no := fun x hx => by
  unfold posI at hx
  cases e : xs.findIdx? (gtI no) with
  | none =>
    rw [e] at hx
    have hx' := List.mem_of_mem_take hx
    obtain ⟨y, hy, rfl⟩ := List.mem_map.1 hx'
    have h1 := List.findIdx?_eq_none_iff.1 e y hy
    have h2 := hn y hy
    unfold gtI at h1
    simp at h1
    omega
  | some i =>
    rw [e] at hx
    obtain ⟨hi, hp, hb⟩ := List.findIdx?_eq_some_iff_getElem.1 e
    simp only [Option.getD_some] at hx
    obtain ⟨m, hm, rfl⟩ := List.mem_iff_getElem.1 hx
    rw [List.length_take] at hm
    rw [List.getElem_take, List.getElem_map]
    have h1 := hb m (by omega)
    have h2 := hn (xs[m]'(by omega)) (List.getElem_mem _)
    unfold gtI at h1
    simp at h1
    omega
theorem pos_gt {xs : List Inode} {no : Int} (hr : riseI xs) : ∀ x ∈ (xs.map (·.no)).drop (posI xs no), no < x := fun x hx => by
  unfold posI at hx
  cases e : xs.findIdx? (gtI no) with
  | none =>
    rw [e, Option.getD_none, List.drop_of_length_le (by simp)] at hx
    cases hx
  | some i =>
    rw [e] at hx
    obtain ⟨hi, hp, hb⟩ := List.findIdx?_eq_some_iff_getElem.1 e
    simp only [Option.getD_some] at hx
    obtain ⟨m, hm, rfl⟩ := List.mem_iff_getElem.1 hx
    rw [List.getElem_drop, List.getElem_map]
    have h0 : no < (xs[i]).no := by unfold gtI at hp; simpa using hp
    rw [List.length_drop, List.length_map] at hm
    by_cases e : m = 0
    · subst e; simpa using h0
    · have := pw_get hr (i := i) (j := i + m) (x := (xs[i]).no) (y := (xs[i + m]'(by omega)).no) (by rw [List.getElem?_map, List.getElem?_eq_getElem hi]; rfl) (by rw [List.getElem?_map, List.getElem?_eq_getElem (by omega)]; rfl) (by omega)
      omega
theorem idx_none_ne {xs : List Inode} {j : Int} (h : xs.findIdx? (isI j) = none) : ∀ y ∈ xs, y.no ≠ j := fun y hy e => by
  have := List.findIdx?_eq_none_iff.1 h y hy
  unfold isI at this
  simp [e] at this
theorem putI_rise {xs : List Inode} {x : Inode} (h : riseI xs) : riseI (putI xs x) := by
  unfold putI
  cases e : xs.findIdx? (isI x.no) with
  | some i =>
    obtain ⟨hi, hp, _⟩ := List.findIdx?_eq_some_iff_getElem.1 e
    unfold riseI at h ⊢
    have hn : (xs[i]).no = x.no := by unfold isI at hp; simpa using hp
    have : ((xs.set i x).map (·.no)) = xs.map (·.no) := by
      rw [List.map_set]
      apply List.ext_getElem?
      intro m
      rw [List.getElem?_set]
      split
      · rename_i hm
        subst hm
        rw [if_pos (by simpa using hi), List.getElem?_map, List.getElem?_eq_getElem hi]
        simp [hn]
      · rfl
    show ((xs.set i x).map (·.no)).Pairwise _
    rw [this]; exact h
  | none =>
    show ((xs.take (posI xs x.no) ++ [x] ++ xs.drop (posI xs x.no)).map (·.no)).Pairwise _
    rw [List.map_append, List.map_append, List.map_take, List.map_drop]
    exact pw_ins h (pos_lt (idx_none_ne e)) (pos_gt h)
theorem badZ_rise {xs : List Int} {a : Int} (h : riseZ xs) : riseZ (badZ xs a) := by
  unfold badZ
  split
  · exact h
  · rename_i hn
    have hne : ∀ y ∈ xs, y ≠ a := fun y hy e => hn (by rw [List.any_eq_true]; exact ⟨y, hy, by unfold eqZ; simp [e]⟩)
    refine pw_ins h (fun x hx => ?_) (fun x hx => ?_)
    · unfold posZ at hx
      cases e : xs.findIdx? (gtZ a) with
      | none =>
        rw [e] at hx
        have hx' := List.mem_of_mem_take hx
        have h1 := List.findIdx?_eq_none_iff.1 e x hx'
        have h2 := hne x hx'
        unfold gtZ at h1
        simp at h1
        omega
      | some i =>
        rw [e] at hx
        obtain ⟨hi, hp, hb⟩ := List.findIdx?_eq_some_iff_getElem.1 e
        simp only [Option.getD_some] at hx
        obtain ⟨m, hm, rfl⟩ := List.mem_iff_getElem.1 hx
        rw [List.length_take] at hm
        rw [List.getElem_take]
        have h1 := hb m (by omega)
        have h2 := hne (xs[m]'(by omega)) (List.getElem_mem _)
        unfold gtZ at h1
        simp at h1
        omega
    · unfold posZ at hx
      cases e : xs.findIdx? (gtZ a) with
      | none =>
        rw [e] at hx
        simp at hx
      | some i =>
        rw [e] at hx
        obtain ⟨hi, hp, hb⟩ := List.findIdx?_eq_some_iff_getElem.1 e
        simp only [Option.getD_some] at hx
        obtain ⟨m, hm, rfl⟩ := List.mem_iff_getElem.1 hx
        rw [List.getElem_drop]
        have h0 : a < xs[i] := by unfold gtZ at hp; simpa using hp
        rw [List.length_drop] at hm
        by_cases e : m = 0
        · subst e; simpa using h0
        · have := pw_get h (i := i) (j := i + m) (x := xs[i]) (y := xs[i + m]'(by omega)) (List.getElem?_eq_getElem hi) (List.getElem?_eq_getElem (by omega)) (by omega)
          omega
end Go.Proofs.Ytkglaofiencfdaa
