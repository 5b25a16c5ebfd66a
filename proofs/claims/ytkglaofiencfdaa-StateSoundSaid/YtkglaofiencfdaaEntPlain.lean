import Derived.Test.YtkglaofiencfdaaRefAdd
import Derived.Sort.Walk0
namespace Go.Proofs.Ytkglaofiencfdaa
open Go.RowKit Go.Sort
set_option linter.unusedVariables false
/-! ### the plain law of entries -/
def ltE (a b : Entry) : Prop := a.name.toList < b.name.toList
theorem u8_tri (a b : UInt8) (h : ¬ a < b) (h' : ¬ b < a) : a = b := by
  rw [UInt8.lt_iff_toNat_lt] at h h'
  exact UInt8.toNat_inj.1 (by omega)
theorem lex_tri : ∀ (a b : List UInt8), ¬ a < b → ¬ b < a → a = b
  | [], [], _, _ => rfl
  | [], _ :: _, h, _ => absurd (List.nil_lt_cons _ _) h
  | _ :: _, [], _, h => absurd (List.nil_lt_cons _ _) h
  | x :: xs, y :: ys, h, h' => by
    rw [List.cons_lt_cons_iff] at h h'
    have e : x = y := u8_tri x y (fun k => h (.inl k)) (fun k => h' (.inl k))
    subst e
    rw [lex_tri xs ys (fun k => h (.inr ⟨rfl, k⟩)) (fun k => h' (.inr ⟨rfl, k⟩))]
theorem lex_irr (a : List UInt8) : ¬ a < a := List.lt_irrefl a
theorem lex_trans {a b c : List UInt8} (h : a < b) (h' : b < c) : a < c := List.lt_trans h h'
theorem leB_iff (a b : ByteArray) : leB a b = true ↔ ¬ b.toList < a.toList := by
  unfold leB
  rw [bytesLess_eq, Bool.or_eq_true, decide_eq_true_iff, beq_iff_eq]
  constructor
  · rintro (h | h) k
    · exact lex_irr _ (lex_trans h k)
    · rw [h] at k; exact lex_irr _ k
  · intro h
    by_cases k : a.toList < b.toList
    · exact .inl k
    · exact .inr (lex_tri _ _ k h)
theorem leB_false_iff (a b : ByteArray) : leB a b = false ↔ b.toList < a.toList := by
  have := leB_iff a b
  cases h : leB a b with
  | false => simp only [true_iff]; rw [h] at this; simp at this; exact this
  | true => simp only [Bool.true_eq_false, false_iff]; exact this.1 h
theorem ltE_trans {a b c : Entry} (h : ltE a b) (h' : ltE b c) : ltE a c := lex_trans h h'
theorem pair_of_next {l : List Entry} (h : ∀ i a b, l[i]? = some a → l[i + 1]? = some b → ltE a b) : l.Pairwise ltE := by
  induction l with
  | nil => exact List.Pairwise.nil
  | cons x xs ih =>
    have ih' := ih (fun i a b ha hb => h (i + 1) a b (by simpa using ha) (by simpa using hb))
    refine List.Pairwise.cons ?_ ih'
    cases xs with
    | nil => intro a ha; cases ha
    | cons y ys =>
      have hxy := h 0 x y rfl rfl
      intro a ha
      rcases List.mem_cons.1 ha with rfl | ha
      · exact hxy
      · exact ltE_trans hxy ((List.pairwise_cons.1 ih').1 a ha)
/-- Right entries: each may be, names rise, they are not too many. -/
theorem rightE_iff (xs : List Entry) : rightE xs = true ↔ (∀ x ∈ xs, okEnt x = true) ∧ xs.Pairwise ltE ∧ xs.length ≤ 100 := by
  constructor
  · intro h
    refine ⟨fun x hx => ?_, pair_of_next fun i a b ha hb => ?_, rightE_len h⟩
    · obtain ⟨i, hi, rfl⟩ := List.mem_iff_getElem.1 hx
      have := rightE_at h hi
      unfold okEAt at this
      rw [Bool.and_eq_true, getD_ent (List.getElem?_eq_getElem hi)] at this
      exact this.1
    · have := rightE_at h (List.getElem?_eq_some_iff.1 hb).1
      unfold okEAt at this
      rw [Bool.and_eq_true, getD_ent hb, Nat.add_sub_cancel, getD_ent ha] at this
      have h2 := this.2
      simp only [Nat.add_eq_zero_iff, Nat.one_ne_zero, and_false, beq_iff_eq, Bool.or_eq_true, false_or, Bool.not_eq_true'] at h2
      exact (leB_false_iff _ _).1 h2
  · rintro ⟨h1, h2, h3⟩
    rw [rightE_true, decide_eq_true h3]
    intro i hi
    obtain ⟨x, hx⟩ : ∃ x, xs[i]? = some x := ⟨_, List.getElem?_eq_getElem hi⟩
    unfold okEAt
    rw [Bool.and_eq_true, getD_ent hx]
    refine ⟨h1 x (List.mem_of_getElem? hx), ?_⟩
    cases i with
    | zero => rfl
    | succ i =>
      obtain ⟨y, hy⟩ : ∃ y, xs[i]? = some y := ⟨_, List.getElem?_eq_getElem (by omega)⟩
      rw [Nat.add_sub_cancel, getD_ent hy, Bool.or_eq_true]
      right
      rw [(leB_false_iff _ _).2 ?_]; rfl
      have := List.pairwise_iff_getElem.1 h2 i (i + 1) (by omega) hi (by omega)
      rw [List.getElem?_eq_getElem (by omega)] at hx hy
      cases hx; cases hy; exact this
theorem posE_split (xs : List Entry) (s : ByteArray) : xs.take (posE xs s) = xs.takeWhile (fun x => leB x.name s) ∧ xs.drop (posE xs s) = xs.dropWhile (fun x => leB x.name s) := by
  unfold posE
  induction xs with
  | nil => simp
  | cons x xs ih =>
    rw [List.takeWhile_cons, List.dropWhile_cons]
    split
    · simpa using ih
    · simp
theorem mem_takeW {xs : List Entry} {p : Entry → Bool} {x : Entry} (h : x ∈ xs.takeWhile p) : p x = true ∧ x ∈ xs := by
  induction xs with
  | nil => cases h
  | cons y ys ih =>
    rw [List.takeWhile_cons] at h
    split at h
    · rcases List.mem_cons.1 h with rfl | h
      · exact ⟨by assumption, by simp⟩
      · exact ⟨(ih h).1, by simp [(ih h).2]⟩
    · cases h
theorem mem_dropW {xs : List Entry} (hp : xs.Pairwise ltE) {s : ByteArray} {x : Entry} (h : x ∈ xs.dropWhile (fun x => leB x.name s)) : s.toList < x.name.toList := by
  induction xs with
  | nil => cases h
  | cons y ys ih =>
    rw [List.dropWhile_cons] at h
    obtain ⟨p1, p2⟩ := List.pairwise_cons.1 hp
    split at h
    · exact ih p2 h
    · rename_i hy
      have hy' : s.toList < y.name.toList := (leB_false_iff _ _).1 (by simpa using hy)
      rcases List.mem_cons.1 h with rfl | h
      · exact hy'
      · exact lex_trans hy' (p1 x h)
theorem findE_none {xs : List Entry} {s : ByteArray} (h : findE xs s = none) : ∀ x ∈ xs, x.name ≠ s := fun x hx he => by
  unfold findE at h
  rw [Option.map_eq_none_iff, List.find?_eq_none] at h
  exact h x hx (decide_eq_true he)
theorem findE_none_of {xs : List Entry} {s : ByteArray} (h : ∀ x ∈ xs, x.name ≠ s) : findE xs s = none := by
  unfold findE
  rw [Option.map_eq_none_iff, List.find?_eq_none]
  intro x hx
  simp only [isE, decide_eq_true_eq]
  exact h x hx
theorem insE_eq (xs : List Entry) (e : Entry) : insE xs e = xs.takeWhile (fun x => leB x.name e.name) ++ e :: xs.dropWhile (fun x => leB x.name e.name) := by
  unfold insE
  rw [(posE_split xs e.name).1, (posE_split xs e.name).2]; simp
theorem insE_len (xs : List Entry) (e : Entry) : (insE xs e).length = xs.length + 1 := by
  have := congrArg List.length (List.takeWhile_append_dropWhile (p := fun x => leB x.name e.name) (l := xs))
  rw [List.length_append] at this
  rw [insE_eq, List.length_append, List.length_cons]; omega
theorem insE_perm (xs : List Entry) (e : Entry) : (insE xs e).Perm (e :: xs) := by
  rw [insE_eq]
  refine List.perm_middle.trans ?_
  rw [List.takeWhile_append_dropWhile]
theorem insE_sorted {xs : List Entry} (hp : xs.Pairwise ltE) {e : Entry} (hn : findE xs e.name = none) : (insE xs e).Pairwise ltE := by
  have hp' := hp
  rw [← List.takeWhile_append_dropWhile (p := fun x => leB x.name e.name) (l := xs), List.pairwise_append] at hp'
  obtain ⟨p1, p2, p3⟩ := hp'
  rw [insE_eq, List.pairwise_append]
  have hb : ∀ x ∈ xs.takeWhile (fun x => leB x.name e.name), ltE x e := fun x hx => by
    obtain ⟨k1, k2⟩ := mem_takeW hx
    have k3 := (leB_iff _ _).1 k1
    by_cases k4 : x.name.toList < e.name.toList
    · exact k4
    · exact absurd (bytes_toList_inj (lex_tri _ _ k4 k3)) (findE_none hn x k2)
  refine ⟨p1, List.pairwise_cons.2 ⟨fun x hx => mem_dropW hp hx, p2⟩, fun a ha b hb' => ?_⟩
  rcases List.mem_cons.1 hb' with rfl | h
  · exact hb a ha
  · exact p3 a ha b h
theorem insE_right {xs : List Entry} (hr : rightE xs = true) {e : Entry} (hn : findE xs e.name = none) (h1 : nameB e.name = true) (h2 : 0 < e.no) (h3 : xs.length < 100) : rightE (insE xs e) = true := by
  obtain ⟨r1, r2, r3⟩ := (rightE_iff xs).1 hr
  refine (rightE_iff _).2 ⟨fun x hx => ?_, insE_sorted r2 hn, by rw [insE_len]; omega⟩
  rcases List.mem_cons.1 ((insE_perm xs e).mem_iff.1 hx) with rfl | h
  · unfold okEnt; rw [h1, decide_eq_true h2]; rfl
  · exact r1 x h
theorem findE_insE {xs : List Entry} {e : Entry} (hn : findE xs e.name = none) : findE (insE xs e) e.name = some e.no := by
  unfold findE
  rw [insE_eq, List.find?_append, List.find?_eq_none.2 (fun x hx => by
    simp only [isE, decide_eq_true_eq]
    exact findE_none hn x (mem_takeW hx).2), Option.none_or, List.find?_cons_of_pos (by simp [isE])]
  rfl
/-- Rising lists of the same things are the same. -/
theorem sorted_eq {xs ys : List Entry} (h1 : xs.Pairwise ltE) (h2 : ys.Pairwise ltE) (h : xs.Perm ys) : xs = ys :=
  h.eq_of_pairwise (le := ltE) (fun a b _ _ k1 k2 => absurd (lex_trans k1 k2) (lex_irr _)) h1 h2
theorem findIdx_of_find {xs : List Entry} {s : ByteArray} (h : (findE xs s).isSome = true) : ∃ i x, xs.findIdx? (isE s) = some i ∧ xs[i]? = some x ∧ x.name = s ∧ findE xs s = some x.no := by
  cases hf : xs.findIdx? (isE s) with
  | none =>
    unfold findE at h
    rw [List.findIdx?_eq_none_iff] at hf
    rw [List.find?_eq_none.2 (fun x hx => by rw [hf x hx]; simp)] at h
    cases h
  | some i =>
    obtain ⟨h1, h2, h3⟩ := List.findIdx?_eq_some_iff_getElem.1 hf
    refine ⟨i, xs[i], rfl, List.getElem?_eq_getElem h1, by simpa [isE] using h2, ?_⟩
    unfold findE
    rw [find_hit (k := i) (fun j y hj hy => ?_) (List.getElem?_eq_getElem h1) h2]; rfl
    have := h3 j hj
    rw [List.getElem?_eq_getElem (by omega)] at hy
    cases hy
    simpa using this
theorem remE_at {xs : List Entry} {s : ByteArray} {i : Nat} (h : xs.findIdx? (isE s) = some i) : remE xs s = xs.eraseIdx i := by
  unfold remE; rw [h]; simp only []; rw [List.eraseIdx_eq_take_drop_succ]
theorem remE_right {xs : List Entry} (hr : rightE xs = true) {s : ByteArray} (h : (findE xs s).isSome = true) : rightE (remE xs s) = true ∧ (remE xs s).length + 1 = xs.length ∧ findE (remE xs s) s = none := by
  obtain ⟨i, x, h1, h2, h3, h4⟩ := findIdx_of_find h
  obtain ⟨r1, r2, r3⟩ := (rightE_iff xs).1 hr
  have hi := (List.getElem?_eq_some_iff.1 h2).1
  rw [remE_at h1]
  have hlen : (xs.eraseIdx i).length + 1 = xs.length := by rw [List.length_eraseIdx, if_pos hi]; omega
  have sub := List.eraseIdx_sublist xs i
  refine ⟨(rightE_iff _).2 ⟨fun y hy => r1 y (sub.mem hy), r2.sublist sub, by omega⟩, hlen, findE_none_of fun y hy he => ?_⟩
  rw [List.eraseIdx_eq_take_drop_succ] at hy
  have hs := r2
  rw [← List.take_append_drop i xs, List.pairwise_append] at hs
  obtain ⟨s1, s2, s3⟩ := hs
  obtain ⟨hi', hx⟩ := List.getElem?_eq_some_iff.1 h2
  rw [List.drop_eq_getElem_cons hi, hx] at s2 s3
  rcases List.mem_append.1 hy with h5 | h5
  · have := s3 y h5 x (by simp)
    unfold ltE at this
    rw [he, h3] at this
    exact lex_irr _ this
  · have := (List.pairwise_cons.1 s2).1 y h5
    unfold ltE at this
    rw [he, h3] at this
    exact lex_irr _ this
/-- What is taken away and added again. -/
theorem rem_ins {xs : List Entry} (hr : rightE xs = true) {i : Nat} {e : Entry} (h : xs[i]? = some e) : remE xs e.name = xs.eraseIdx i ∧ insE (remE xs e.name) e = xs := by
  obtain ⟨r1, r2, r3⟩ := (rightE_iff xs).1 hr
  have hi := (List.getElem?_eq_some_iff.1 h).1
  have hf : xs.findIdx? (isE e.name) = some i := by
    refine findIdx_hit (fun j y hj hy => ?_) h (by simp [isE])
    simp only [isE, decide_eq_false_iff_not]
    intro he
    have := List.pairwise_iff_getElem.1 r2 j i (by omega) hi hj
    obtain ⟨_, q1⟩ := List.getElem?_eq_some_iff.1 h
    obtain ⟨_, q2⟩ := List.getElem?_eq_some_iff.1 hy
    rw [q1, q2] at this
    unfold ltE at this
    rw [he] at this
    exact lex_irr _ this
  refine ⟨remE_at hf, ?_⟩
  have hsome : (findE xs e.name).isSome = true := by
    cases hq : findE xs e.name with
    | some _ => rfl
    | none => exact absurd rfl (findE_none hq e (List.mem_of_getElem? h))
  obtain ⟨k1, k2, k3⟩ := remE_right hr hsome
  refine sorted_eq (insE_sorted ((rightE_iff _).1 k1).2.1 k3) r2 ((insE_perm _ _).trans ?_)
  rw [remE_at hf, List.eraseIdx_eq_take_drop_succ]
  obtain ⟨hi', hx⟩ := List.getElem?_eq_some_iff.1 h
  have : xs = xs.take i ++ e :: xs.drop (i + 1) := by
    rw [← hx, ← List.drop_eq_getElem_cons hi', List.take_append_drop]
  conv => rhs; rw [this]
  exact List.perm_middle.symm
/-- One behind all others. -/
theorem insE_last {xs : List Entry} {e : Entry} (h : ∀ x ∈ xs, ltE x e) : insE xs e = xs ++ [e] ∧ findE xs e.name = none := by
  have hall : ∀ x ∈ xs, leB x.name e.name = true := fun x hx => (leB_iff _ _).2 fun k => lex_irr _ (lex_trans (h x hx) k)
  refine ⟨?_, findE_none_of fun x hx he => ?_⟩
  · have hd : xs.dropWhile (fun x => leB x.name e.name) = [] := by
      clear h
      induction xs with
      | nil => rfl
      | cons x xs ih =>
        rw [List.dropWhile_cons, if_pos (hall x (by simp))]
        exact ih (fun y hy => hall y (by simp [hy]))
    have ht := List.takeWhile_append_dropWhile (p := fun x => leB x.name e.name) (l := xs)
    rw [hd, List.append_nil] at ht
    rw [insE_eq, hd, ht]
  · have := h x hx
    unfold ltE at this
    rw [he] at this
    exact lex_irr _ this
end Go.Proofs.Ytkglaofiencfdaa
