import Derived.Test.YtdiaibkpcnknbaaDoorPartsAll
namespace Go.Proofs.YtdiaibkpcnknbaaDoor
open Go.RowKit Go.Sort
set_option linter.unusedVariables false
/-! ### the reference's Parts, Split; name.Split -/
def mkB (l : List UInt8) : ByteArray := ⟨l.toArray⟩
theorem splitB_map (s : ByteArray) : splitB s = (splitL s.data.toList).map mkB := rfl
theorem extract_mk {s : ByteArray} {f k : Nat} (hk : k ≤ s.size) : s.extract f k = mkB ((s.data.toList.drop f).take (k - f)) := by
  obtain ⟨⟨l⟩⟩ := s
  apply ByteArray.ext
  rw [ByteArray.data_extract]
  apply Array.toList_inj.1
  simp [mkB]
/-- So far: the parts that are done, and where the next one begins. -/
def St (L : List UInt8) (k f : Nat) (ps : List ByteArray) : Prop :=
  (k ≤ L.length → f ≤ k ∧ (splitL L).map mkB = ps ++ (splitL (L.drop f)).map mkB ∧ ∀ c ∈ (L.drop f).take (k - f), c ≠ 47) ∧ (k = L.length + 1 → (splitL L).map mkB = ps)
theorem St.start (L : List UInt8) : St L 0 0 [] := ⟨fun _ => ⟨Nat.le_refl _, by simp, by simp⟩, fun h => by omega⟩
theorem St.next {L : List UInt8} {k f : Nat} {ps : List ByteArray} (h : St L k f ps) {c : UInt8} (hc : L[k]? = some c) (hn : c ≠ 47) : St L (k + 1) f ps := by
  have hk := (List.getElem?_eq_some_iff.1 hc).1
  obtain ⟨h1, h2, h3⟩ := h.1 (by omega)
  refine ⟨fun _ => ⟨by omega, h2, fun d hd => ?_⟩, fun e => by omega⟩
  rw [show k + 1 - f = (k - f) + 1 by omega, List.take_add_one, List.getElem?_drop, show f + (k - f) = k by omega, hc] at hd
  rcases List.mem_append.1 hd with hd | hd
  · exact h3 d hd
  · simp at hd; subst hd; exact hn
theorem St.part {L : List UInt8} {k f : Nat} {ps : List ByteArray} (h : St L k f ps) (hc : L[k]? = some 47) : St L (k + 1) (k + 1) (ps ++ [mkB ((L.drop f).take (k - f))]) ∧ ∃ ys, (splitL L).map mkB = ps ++ mkB ((L.drop f).take (k - f)) :: ys := by
  obtain ⟨hk, he⟩ := List.getElem?_eq_some_iff.1 hc
  obtain ⟨h1, h2, h3⟩ := h.1 (by omega)
  have e : L.drop f = (L.drop f).take (k - f) ++ 47 :: L.drop (k + 1) := by
    conv => lhs; rw [← List.take_append_drop (k - f) (L.drop f)]
    rw [List.drop_drop, show f + (k - f) = k by omega, List.drop_eq_getElem_cons hk, he]
  have hs : splitL (L.drop f) = (L.drop f).take (k - f) :: splitL (L.drop (k + 1)) := by
    conv => lhs; rw [e]
    exact splitL_at _ _ h3
  have h4 : (splitL L).map mkB = ps ++ mkB ((L.drop f).take (k - f)) :: (splitL (L.drop (k + 1))).map mkB := by rw [h2, hs]; rfl
  exact ⟨⟨fun _ => ⟨Nat.le_refl _, by rw [h4]; simp, by simp⟩, fun e => by omega⟩, _, h4⟩
theorem St.last {L : List UInt8} {f : Nat} {ps : List ByteArray} (h : St L L.length f ps) : St L (L.length + 1) (L.length + 1) (ps ++ [mkB ((L.drop f).take (L.length - f))]) ∧ ∃ ys, (splitL L).map mkB = ps ++ mkB ((L.drop f).take (L.length - f)) :: ys := by
  obtain ⟨h1, h2, h3⟩ := h.1 (Nat.le_refl _)
  have e : (L.drop f).take (L.length - f) = L.drop f := List.take_of_length_le (by simp)
  rw [e] at h3 ⊢
  have h4 : (splitL L).map mkB = ps ++ [mkB (L.drop f)] := by rw [h2, splitL_none _ h3]; rfl
  exact ⟨⟨fun hk => by omega, fun _ => h4⟩, [], h4⟩
/-- A way from the root by its names. -/
def waysP (s : ByteArray) : Option (List ByteArray) := if topB s = true then partsP s else none
def waysXs (s : ByteArray) : List ByteArray := (waysP s).getD []
def waysCode (s : ByteArray) : Int := if (waysP s).isSome = true then 0 else 17
theorem ways_parts (s : ByteArray) : (partsCode s = 17 ∧ waysXs s = [] ∧ waysCode s = 17) ∨ (partsCode s = 0 ∧ partsTop s = false ∧ waysXs s = [] ∧ waysCode s = 17) ∨ (partsCode s = 0 ∧ partsTop s = true ∧ waysXs s = partsXs s ∧ waysCode s = 0) := by
  unfold waysXs waysCode waysP
  cases hp : partsP s with
  | none =>
    obtain ⟨p1, p2, p3⟩ := parts_none hp
    left
    refine ⟨p3, ?_, ?_⟩ <;> (split <;> rfl)
  | some ks =>
    obtain ⟨p1, p2, p3⟩ := parts_some hp
    right
    rw [p1, p2]
    cases topB s with
    | false => exact .inl ⟨p3, rfl, rfl, rfl⟩
    | true => exact .inr ⟨p3, rfl, rfl, rfl⟩
set_option maxHeartbeats 2000000 in
theorem name_Split (s : ByteArray) (hsz : s.size ≤ 9223372036854775807) (h : FH) (w : World) (hs : Sits h w) :
    Calls Tryd.prog 44 #[.string s] w fun e w' => RetTup h w 9 (waysXs s) (waysCode s) e w' := by
  have K := hid (name_Parts s hsz h w hs)
  rcases ways_parts s with ⟨q1, q2, q3⟩ | ⟨q1, q2, q3, q4⟩ | ⟨q1, q2, q3, q4⟩
  · have Q := hid (And.intro q2 q3)
    have K := K.out
    rw [q1] at K
    have K := hid K
    clear q1 q2 q3
    go_enter Tryd.func44, Tryd.ntmps44
    go_wp2_with fail
    refine K.out.mono ?_
    rintro e w1 ⟨v, rfl, O, E⟩
    go_wp2_with fail
    go_ret2
    exact ⟨.slice none 0 0, by rw [Q.out.2]; rfl, by rw [Q.out.1]; exact OwnL.nil _ _ _ _, E⟩
  · have Q := hid (And.intro q3 q4)
    have K := K.out
    rw [q1, q2] at K
    have K := hid K
    clear q1 q2 q3 q4
    go_enter Tryd.func44, Tryd.ntmps44
    go_wp2_with fail
    refine K.out.mono ?_
    rintro e w1 ⟨v, rfl, O, E⟩
    go_wp2_with fail
    go_ret2
    exact ⟨.slice none 0 0, by rw [Q.out.2]; rfl, by rw [Q.out.1]; exact OwnL.nil _ _ _ _, E⟩
  · have Q := hid (And.intro q3 q4)
    have K := K.out
    rw [q1, q2] at K
    have K := hid K
    clear q1 q2 q3 q4
    go_enter Tryd.func44, Tryd.ntmps44
    go_wp2_with fail
    refine K.out.mono ?_
    rintro e w1 ⟨v, rfl, O, E⟩
    have O := hid O
    go_wp2_with fail
    go_ret2
    exact ⟨v, by rw [Q.out.2]; rfl, by rw [Q.out.1]; exact O.out, E⟩
end Go.Proofs.YtdiaibkpcnknbaaDoor
