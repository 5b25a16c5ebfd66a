import Derived.Test.YteolmamiblddjaaStWh
import Derived.Test.YteolmamiblddjaaStLaw
namespace Go.Proofs.Yteolmamiblddjaa
set_option linter.unusedVariables false
/-! ### what deeds make of a state, plainly -/
def riseI (xs : List Inode) : Prop := (xs.map (·.no)).Pairwise (· < ·)
def riseZ (xs : List Int) : Prop := xs.Pairwise (· < ·)
theorem pw_ins {l : List Int} {p : Nat} {a : Int} (h : l.Pairwise (· < ·)) (h1 : ∀ x ∈ l.take p, x < a) (h2 : ∀ x ∈ l.drop p, a < x) : (l.take p ++ [a] ++ l.drop p).Pairwise (· < ·) := by
  rw [List.append_assoc, List.pairwise_append]
  refine ⟨h.sublist (List.take_sublist _ _), ?_, ?_⟩
  · rw [List.singleton_append, List.pairwise_cons]
    exact ⟨h2, h.sublist (List.drop_sublist _ _)⟩
  · intro x hx y hy
    have hxa := h1 x hx
    simp only [List.singleton_append, List.mem_cons] at hy
    rcases hy with rfl | hy
    · exact hxa
    · have := h2 y hy; omega
theorem pw_get {l : List Int} (h : l.Pairwise (· < ·)) {i j : Nat} {x y : Int} (hi : l[i]? = some x) (hj : l[j]? = some y) (hij : i < j) : x < y := by
  obtain ⟨a, rfl⟩ := List.getElem?_eq_some_iff.1 hi
  obtain ⟨b, rfl⟩ := List.getElem?_eq_some_iff.1 hj
  exact List.pairwise_iff_getElem.1 h i j a b hij
/-- Where the first greater one stands. -/
theorem pos_lt {xs : List Inode} {no : Int} (hn : ∀ y ∈ xs, y.no ≠ no) : ∀ x ∈ (xs.map (·.no)).take (posI xs no), x < no := fun x hx => by
  unfold posI at hx
  cases e : xs.findIdx? (gtI no) with
  | none =>
    rw [e] at hx
    have hx' := List.mem_of_mem_take hx
    obtain ⟨y, hy, rfl⟩ := List.mem_map.1 hx'
    have h1 := List.findIdx?_eq_none_iff.1 e y hy
    have h2 := hn y hy
    unfold gtI at h1
    simp at h1
    omega
  | some i =>
    rw [e] at hx
    obtain ⟨hi, hp, hb⟩ := List.findIdx?_eq_some_iff_getElem.1 e
    simp only [Option.getD_some] at hx
    obtain ⟨m, hm, rfl⟩ := List.mem_iff_getElem.1 hx
    rw [List.length_take] at hm
    rw [List.getElem_take, List.getElem_map]
    have h1 := hb m (by omega)
    have h2 := hn (xs[m]'(by omega)) (List.getElem_mem _)
    unfold gtI at h1
    simp at h1
    omega
theorem pos_gt {xs : List Inode} {no : Int} (hr : riseI xs) : ∀ x ∈ (xs.map (·.no)).drop (posI xs no), no < x := fun x hx => by
  unfold posI at hx
  cases e : xs.findIdx? (gtI no) with
  | none =>
    rw [e, Option.getD_none, List.drop_of_length_le (by simp)] at hx
    cases hx
  | some i =>
    rw [e] at hx
    obtain ⟨hi, hp, hb⟩ := List.findIdx?_eq_some_iff_getElem.1 e
    simp only [Option.getD_some] at hx
    obtain ⟨m, hm, rfl⟩ := List.mem_iff_getElem.1 hx
    rw [List.getElem_drop, List.getElem_map]
    have h0 : no < (xs[i]).no := by unfold gtI at hp; simpa using hp
    rw [List.length_drop, List.length_map] at hm
    by_cases e : m = 0
    · subst e; simpa using h0
    · have := pw_get hr (i := i) (j := i + m) (x := (xs[i]).no) (y := (xs[i + m]'(by omega)).no) (by rw [List.getElem?_map, List.getElem?_eq_getElem hi]; rfl) (by rw [List.getElem?_map, List.getElem?_eq_getElem (by omega)]; rfl) (by omega)
      omega
theorem idx_none_ne {xs : List Inode} {j : Int} (h : xs.findIdx? (isI j) = none) : ∀ y ∈ xs, y.no ≠ j := fun y hy e => by
  have := List.findIdx?_eq_none_iff.1 h y hy
  unfold isI at this
  simp [e] at this
theorem putI_rise {xs : List Inode} {x : Inode} (h : riseI xs) : riseI (putI xs x) := by
  unfold putI
  cases e : xs.findIdx? (isI x.no) with
  | some i =>
    obtain ⟨hi, hp, _⟩ := List.findIdx?_eq_some_iff_getElem.1 e
    unfold riseI at h ⊢
    have hn : (xs[i]).no = x.no := by unfold isI at hp; simpa using hp
    have : ((xs.set i x).map (·.no)) = xs.map (·.no) := by
      rw [List.map_set]
      apply List.ext_getElem?
      intro m
      rw [List.getElem?_set]
      split
      · rename_i hm
        subst hm
        rw [if_pos (by simpa using hi), List.getElem?_map, List.getElem?_eq_getElem hi]
        simp [hn]
      · rfl
    show ((xs.set i x).map (·.no)).Pairwise _
    rw [this]; exact h
  | none =>
    show ((xs.take (posI xs x.no) ++ [x] ++ xs.drop (posI xs x.no)).map (·.no)).Pairwise _
    rw [List.map_append, List.map_append, List.map_take, List.map_drop]
    exact pw_ins h (pos_lt (idx_none_ne e)) (pos_gt h)
theorem badZ_rise {xs : List Int} {a : Int} (h : riseZ xs) : riseZ (badZ xs a) := by
  unfold badZ
  split
  · exact h
  · rename_i hn
    have hne : ∀ y ∈ xs, y ≠ a := fun y hy e => hn (by rw [List.any_eq_true]; exact ⟨y, hy, by unfold eqZ; simp [e]⟩)
    refine pw_ins h (fun x hx => ?_) (fun x hx => ?_)
    · unfold posZ at hx
      cases e : xs.findIdx? (gtZ a) with
      | none =>
        rw [e] at hx
        have hx' := List.mem_of_mem_take hx
        have h1 := List.findIdx?_eq_none_iff.1 e x hx'
        have h2 := hne x hx'
        unfold gtZ at h1
        simp at h1
        omega
      | some i =>
        rw [e] at hx
        obtain ⟨hi, hp, hb⟩ := List.findIdx?_eq_some_iff_getElem.1 e
        simp only [Option.getD_some] at hx
        obtain ⟨m, hm, rfl⟩ := List.mem_iff_getElem.1 hx
        rw [List.length_take] at hm
        rw [List.getElem_take]
        have h1 := hb m (by omega)
        have h2 := hne (xs[m]'(by omega)) (List.getElem_mem _)
        unfold gtZ at h1
        simp at h1
        omega
    · unfold posZ at hx
      cases e : xs.findIdx? (gtZ a) with
      | none =>
        rw [e] at hx
        simp at hx
      | some i =>
        rw [e] at hx
        obtain ⟨hi, hp, hb⟩ := List.findIdx?_eq_some_iff_getElem.1 e
        simp only [Option.getD_some] at hx
        obtain ⟨m, hm, rfl⟩ := List.mem_iff_getElem.1 hx
        rw [List.getElem_drop]
        have h0 : a < xs[i] := by unfold gtZ at hp; simpa using hp
        rw [List.length_drop] at hm
        by_cases e : m = 0
        · subst e; simpa using h0
        · have := pw_get h (i := i) (j := i + m) (x := xs[i]) (y := xs[i + m]'(by omega)) (List.getElem?_eq_getElem hi) (List.getElem?_eq_getElem (by omega)) (by omega)
          omega
structure InvW (s : State) : Prop where
  ri : riseI s.inodes
  rb : riseZ s.bads
  fit : ∀ x ∈ s.inodes, fitI x
theorem InvW.new : InvW newS := ⟨by simp [riseI, newS], by simp [riseZ, newS], fun y hy => by
  have : y = newI 1 2 ⟨#[]⟩ := by simpa [newS] using hy
  subst this; exact ⟨Nat.zero_le _, Nat.zero_le _⟩⟩
theorem InvW.nil (n : Int) : InvW ⟨n, [], []⟩ := ⟨by simp [riseI], by simp [riseZ], fun y hy => by cases hy⟩
theorem putI_in {xs : List Inode} {x y : Inode} (h : y ∈ putI xs x) : y ∈ xs ∨ y = x := by
  unfold putI at h
  split at h
  · exact (List.mem_or_eq_of_mem_set h)
  · simp only [List.mem_append, List.mem_singleton] at h
    rcases h with (h | h) | h
    · exact .inl (List.mem_of_mem_take h)
    · exact .inr h
    · exact .inl (List.mem_of_mem_drop h)
theorem InvW.step {s : State} (I : InvW s) {d : Deed} (hd : fitI d.inode) : InvW (applyD s d) := by
  unfold applyD
  repeat' split
  · exact ⟨I.ri, I.rb, I.fit⟩
  · exact ⟨putI_rise I.ri, I.rb, fun y hy => by
      rcases putI_in hy with h | h
      · exact I.fit y h
      · rw [h]; exact hd⟩
  · exact ⟨I.ri.sublist (List.filter_sublist.map _), I.rb, fun y hy => I.fit y (List.mem_filter.1 hy).1⟩
  · exact ⟨I.ri, badZ_rise I.rb, I.fit⟩
  · exact I
theorem InvW.all : ∀ (ds : List Deed) (s : State), InvW s → (∀ d ∈ ds, fitI d.inode) → InvW (applyS s ds)
  | [], s, I, _ => I
  | d :: ds, s, I, h => InvW.all ds (applyD s d) (I.step (h d (by simp))) (fun e he => h e (by simp [he]))
theorem applyS_app (s : State) (a b : List Deed) : applyS s (a ++ b) = applyS (applyS s a) b := by unfold applyS; rw [List.foldl_append]
theorem putI_end {xs : List Inode} {x : Inode} (h : ∀ y ∈ xs, y.no < x.no) : putI xs x = xs ++ [x] := by
  have h1 : xs.findIdx? (isI x.no) = none := List.findIdx?_eq_none_iff.2 fun y hy => by have := h y hy; unfold isI; simp; omega
  have h2 : xs.findIdx? (gtI x.no) = none := List.findIdx?_eq_none_iff.2 fun y hy => by have := h y hy; unfold gtI; simp; omega
  unfold putI posI
  rw [h1, h2]
  simp
theorem badZ_end {xs : List Int} {a : Int} (h : ∀ y ∈ xs, y < a) : badZ xs a = xs ++ [a] := by
  have h1 : xs.any (eqZ a) = false := List.any_eq_false.2 fun y hy => by have := h y hy; unfold eqZ; simp; omega
  have h2 : xs.findIdx? (gtZ a) = none := List.findIdx?_eq_none_iff.2 fun y hy => by have := h y hy; unfold gtZ; simp; omega
  unfold badZ posZ
  rw [h1, h2]
  simp
theorem puts_all : ∀ (ys xs : List Inode) (n : Int) (b : List Int), riseI (xs ++ ys) → applyS ⟨n, xs, b⟩ (ys.map fun x => (⟨2, 0, x⟩ : Deed)) = ⟨n, xs ++ ys, b⟩
  | [], xs, n, b, _ => by simp [applyS]
  | y :: ys, xs, n, b, h => by
    have h' := h
    unfold riseI at h'
    rw [List.map_append, List.map_cons, List.pairwise_append] at h'
    have : putI xs y = xs ++ [y] := putI_end fun z hz => h'.2.2 z.no (List.mem_map.2 ⟨z, hz, rfl⟩) y.no (by simp)
    show applyS (applyD ⟨n, xs, b⟩ ⟨2, 0, y⟩) _ = _
    rw [show applyD ⟨n, xs, b⟩ ⟨2, 0, y⟩ = ⟨n, xs ++ [y], b⟩ by unfold applyD; simp [this], puts_all ys (xs ++ [y]) n b (by simpa using h)]
    simp
theorem bads_all : ∀ (ys xs : List Int) (n : Int) (l : List Inode), riseZ (xs ++ ys) → applyS ⟨n, l, xs⟩ (ys.map fun x => (⟨4, x, zeroI⟩ : Deed)) = ⟨n, l, xs ++ ys⟩
  | [], xs, n, l, _ => by simp [applyS]
  | y :: ys, xs, n, l, h => by
    have h' := h
    unfold riseZ at h'
    rw [List.pairwise_append] at h'
    have : badZ xs y = xs ++ [y] := badZ_end fun z hz => h'.2.2 z hz y (by simp)
    show applyS (applyD ⟨n, l, xs⟩ ⟨4, y, zeroI⟩) _ = _
    rw [show applyD ⟨n, l, xs⟩ ⟨4, y, zeroI⟩ = ⟨n, l, xs ++ [y]⟩ by unfold applyD; simp [this], bads_all ys (xs ++ [y]) n l (by simpa using h)]
    simp
theorem whole_back {s : State} (I : InvW s) : applyS ⟨0, [], []⟩ (wholeL s) = s := by
  unfold wholeL
  rw [applyS_app, applyS_app, show applyS ⟨0, [], []⟩ [⟨1, s.next, zeroI⟩] = ⟨s.next, [], []⟩ from rfl, puts_all s.inodes [] s.next [] I.ri, bads_all s.bads [] s.next _ I.rb]
  rfl
theorem wholeL_fit {s : State} (h : ∀ x ∈ s.inodes, fitI x) : ∀ d ∈ wholeL s, fitI d.inode := fun d hd => by
  unfold wholeL at hd
  simp only [List.mem_append, List.mem_singleton, List.mem_map] at hd
  rcases hd with (rfl | ⟨x, hx, rfl⟩) | ⟨n, _, rfl⟩
  · exact ⟨Nat.zero_le _, Nat.zero_le _⟩
  · exact h x hx
  · exact ⟨Nat.zero_le _, Nat.zero_le _⟩
theorem wholeL_len (s : State) : (wholeL s).length = 1 + s.inodes.length + s.bads.length := by unfold wholeL; simp; omega
end Go.Proofs.Yteolmamiblddjaa
