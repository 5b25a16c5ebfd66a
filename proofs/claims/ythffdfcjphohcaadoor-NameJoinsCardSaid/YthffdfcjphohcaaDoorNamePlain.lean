import Derived.Test.YthffdfcjphohcaaDoorRefName
import Derived.Lib.Bytealg
namespace Go.Proofs.YthffdfcjphohcaaDoor
open Go.RowKit Go.Sort
set_option linter.unusedVariables false
/-! ### ways by their names: the plain law -/
/-- The parts of a text, between the slashes. -/
def splitL : List UInt8 → List (List UInt8)
  | [] => [[]]
  | c :: cs => if c = 47 then [] :: splitL cs else match splitL cs with
    | [] => [[c]]
    | x :: xs => (c :: x) :: xs
theorem splitL_cons (c : UInt8) (cs : List UInt8) : splitL (c :: cs) = if c = 47 then [] :: splitL cs else match splitL cs with
    | [] => [[c]]
    | x :: xs => (c :: x) :: xs := rfl
theorem splitL_ne (l : List UInt8) : splitL l ≠ [] := by
  cases l with
  | nil => simp [splitL]
  | cons c cs =>
    unfold splitL
    split
    · simp
    · split <;> simp
theorem splitL_none : ∀ (l : List UInt8), (∀ c ∈ l, c ≠ 47) → splitL l = [l]
  | [], _ => rfl
  | c :: cs, h => by
    have ih := splitL_none cs (fun x hx => h x (by simp [hx]))
    unfold splitL
    rw [if_neg (h c (by simp)), ih]
theorem splitL_at : ∀ (p r : List UInt8), (∀ c ∈ p, c ≠ 47) → splitL (p ++ 47 :: r) = p :: splitL r
  | [], r, _ => by rw [List.nil_append, splitL_cons, if_pos rfl]
  | c :: cs, r, h => by
    have ih := splitL_at cs r (fun x hx => h x (by simp [hx]))
    rw [List.cons_append, splitL_cons, if_neg (h c (by simp)), ih]
theorem splitL_len : ∀ (l : List UInt8), (splitL l).length = l.count 47 + 1
  | [] => rfl
  | c :: cs => by
    have ih := splitL_len cs
    unfold splitL
    by_cases h : c = 47
    · rw [if_pos h, List.length_cons, ih, List.count_cons]; simp [h]
    · rw [if_neg h, List.count_cons]
      have : (c == 47) = false := by simpa using h
      rw [this]
      split
      · rename_i e; exact absurd e (splitL_ne cs)
      · rename_i x xs e; rw [e] at ih; simpa using ih
def splitB (s : ByteArray) : List ByteArray := (splitL s.data.toList).map fun l => ⟨l.toArray⟩
theorem splitB_len (s : ByteArray) : (splitB s).length = s.data.toList.count 47 + 1 := by simp [splitB, splitL_len]
/-- What is kept of the parts; none: one of them may not be. -/
def skipB (x : ByteArray) : Bool := x.toList.isEmpty || x.toList == [46]
def badB (x : ByteArray) : Bool := !(x.toList == [46, 46]) && !nameB x
def keepB : List ByteArray → Option (List ByteArray)
  | [] => some []
  | x :: xs => if skipB x = true then keepB xs else if badB x = true then none else (keepB xs).map (x :: ·)
theorem keepB_cons (x : ByteArray) (xs : List ByteArray) : keepB (x :: xs) = if skipB x = true then keepB xs else if badB x = true then none else (keepB xs).map (x :: ·) := rfl
theorem keepB_app : ∀ (xs ys : List ByteArray), keepB (xs ++ ys) = (keepB xs).bind fun a => (keepB ys).map (a ++ ·)
  | [], ys => by simp [keepB]
  | x :: xs, ys => by
    have ih := keepB_app xs ys
    rw [List.cons_append, keepB_cons, keepB_cons]
    split
    · exact ih
    · split
      · rfl
      · rw [ih]
        cases keepB xs with
        | none => rfl
        | some a =>
          cases keepB ys with
          | none => rfl
          | some b => rfl
theorem keepB_skip {xs ks : List ByteArray} {x : ByteArray} (h : keepB xs = some ks) (hx : skipB x = true) : keepB (xs ++ [x]) = some ks := by
  rw [keepB_app, h]
  show (keepB [x]).map (ks ++ ·) = _
  rw [keepB_cons, if_pos hx]
  simp [keepB]
theorem keepB_keep {xs ks : List ByteArray} {x : ByteArray} (h : keepB xs = some ks) (hx : skipB x = false) (hb : badB x = false) : keepB (xs ++ [x]) = some (ks ++ [x]) := by
  rw [keepB_app, h]
  show (keepB [x]).map (ks ++ ·) = _
  rw [keepB_cons, if_neg (by rw [hx]; decide), if_neg (by rw [hb]; decide)]
  simp [keepB]
theorem keepB_bad {xs ys ks : List ByteArray} {x : ByteArray} (h : keepB xs = some ks) (hx : skipB x = false) (hb : badB x = true) : keepB (xs ++ x :: ys) = none := by
  rw [keepB_app, h]
  show (keepB (x :: ys)).map (ks ++ ·) = _
  rw [keepB_cons, if_neg (by rw [hx]; decide), if_pos hb]; rfl
theorem keepB_none_mem : ∀ {xs : List ByteArray} {x : ByteArray}, x ∈ xs → skipB x = false → badB x = true → keepB xs = none
  | y :: ys, x, h, hx, hb => by
    rw [keepB_cons]
    rcases List.mem_cons.1 h with rfl | h
    · rw [if_neg (by rw [hx]; decide), if_pos hb]
    · have ih := keepB_none_mem h hx hb
      split
      · exact ih
      · split
        · rfl
        · rw [ih]; rfl
theorem keepB_len : ∀ {xs ks : List ByteArray}, keepB xs = some ks → ks.length ≤ xs.length
  | [], ks, h => by unfold keepB at h; cases h; simp
  | x :: xs, ks, h => by
    rw [keepB_cons] at h
    split at h
    · have := keepB_len h; simp; omega
    · split at h
      · cases h
      · obtain ⟨a, ha, rfl⟩ := Option.map_eq_some_iff.1 h
        have := keepB_len ha
        simp; omega
/-- The parts of a way; none: it is none. -/
def partsP (s : ByteArray) : Option (List ByteArray) := if s.size < 1 ∨ 400 < s.size then none else keepB (splitB s)
def topB (s : ByteArray) : Bool := s.data.toList.head? == some 47
theorem mem_split_byte : ∀ (l : List UInt8) (c : UInt8), c ∈ l → c ≠ 47 → ∃ x ∈ splitL l, c ∈ x
  | [], c, h, _ => by cases h
  | d :: ds, c, h, hc => by
    unfold splitL
    by_cases hd : d = 47
    · rw [if_pos hd]
      rcases List.mem_cons.1 h with rfl | h
      · exact absurd hd hc
      · obtain ⟨x, hx, hcx⟩ := mem_split_byte ds c h hc
        exact ⟨x, by simp [hx], hcx⟩
    · rw [if_neg hd]
      split
      · rename_i e; exact absurd e (splitL_ne ds)
      · rename_i x xs e
        rcases List.mem_cons.1 h with rfl | h
        · exact ⟨_, List.mem_cons_self .., by simp⟩
        · obtain ⟨y, hy, hcy⟩ := mem_split_byte ds c h hc
          rw [e] at hy
          rcases List.mem_cons.1 hy with rfl | hy
          · exact ⟨_, List.mem_cons_self .., by simp [hcy]⟩
          · exact ⟨y, by simp [hy], hcy⟩
/-- A part with a byte 0 is no name. -/
theorem zero_bad {x : List UInt8} (h : (0 : UInt8) ∈ x) : skipB ⟨x.toArray⟩ = false ∧ badB ⟨x.toArray⟩ = true := by
  have hl : (⟨x.toArray⟩ : ByteArray).toList = x := by rw [ByteArray.toList_eq]
  have hn : nameB ⟨x.toArray⟩ = false := by
    unfold nameB bytesOk
    have : (⟨x.toArray⟩ : ByteArray).data.toList.all okByte = false := by
      rw [List.all_eq_false]
      exact ⟨0, by simpa using h, by decide⟩
    rw [this]; rfl
  unfold skipB badB
  rw [hl, hn]
  refine ⟨?_, ?_⟩
  · cases x with
    | nil => cases h
    | cons a az =>
      rw [List.isEmpty_cons, Bool.false_or, beq_eq_false_iff_ne]
      rintro e
      rw [e] at h
      revert h; decide
  · have : (x == [46, 46]) = false := by
      rw [beq_eq_false_iff_ne]
      rintro rfl
      revert h; decide
    rw [this]; rfl
theorem parts_zero {s : ByteArray} (h : (0 : UInt8) ∈ s.data.toList) : keepB (splitB s) = none := by
  obtain ⟨x, hx, h0⟩ := mem_split_byte s.data.toList 0 h (by decide)
  obtain ⟨h1, h2⟩ := zero_bad h0
  exact keepB_none_mem (List.mem_map.2 ⟨x, hx, rfl⟩) h1 h2
end Go.Proofs.YthffdfcjphohcaaDoor
