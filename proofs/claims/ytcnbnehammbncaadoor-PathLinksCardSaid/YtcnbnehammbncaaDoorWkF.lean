import Derived.Test.YtcnbnehammbncaaDoorRStep
namespace Go.Proofs.YtcnbnehammbncaaDoor
open Go.RowKit Go.Sort
set_option linter.unusedVariables false
/-- Names, one by one: where that ends, and why not. -/
def walkF : Nat → List Inode → Wk → List ByteArray → Bool → Int × Int
  | 0, _, _, _, _ => (0, 99)
  | n + 1, xs, st, [], f => (st.at_, 0)
  | n + 1, xs, st, a :: names, f =>
    let r := stepW xs st a (f || decide (0 < names.length))
    if r.2.2 = 0 then walkF n xs r.1 (r.2.1 ++ names) f else (0, r.2.2)
def mW (st : Wk) (n : Nat) : Nat := (8 - st.loops).toNat * 402 + n
def st0 : Wk := ⟨[1], 1, 0⟩
def walkP (xs : List Inode) (names : List ByteArray) (f : Bool) : Int × Int := walkF (8 * 402 + names.length + 1) xs st0 names f
/-- What a step keeps. -/
theorem follW_meas {st st' : Wk} {y : Inode} {no : Int} {f : Bool} {l : List ByteArray} (h : follW st y no f = (st', l, 0)) (h1 : 1 ≤ st.kept.length) (h0 : 0 ≤ st.loops) (h8 : st.loops ≤ 8) (n : Nat) :
    0 ≤ st'.loops ∧ st'.loops ≤ 8 ∧ 1 ≤ st'.kept.length ∧ st'.kept.length ≤ st.kept.length + 1 ∧ mW st' (l.length + n) < mW st (n + 1) := by
  unfold follW at h
  split at h
  · split at h
    · simp at h
    · split at h
      · rename_i hc; simp only [Prod.mk.injEq] at h; exact absurd h.2.2 hc
      · rename_i h7 _
        have hp := (ways_lenW y.target).2
        simp only [Prod.mk.injEq] at h
        obtain ⟨e1, e2, _⟩ := h
        subst e2
        have hm : (8 - (st.loops + 1)).toNat * 402 + ((partsXs y.target).length + n) < (8 - st.loops).toNat * 402 + (n + 1) := by omega
        split at e1
        · subst e1; exact ⟨by simp only; omega, by simp only; omega, by simp, by simp, hm⟩
        · subst e1; exact ⟨by simp only; omega, by simp only; omega, h1, by simp, hm⟩
  · simp only [Prod.mk.injEq] at h
    obtain ⟨rfl, rfl, _⟩ := h
    refine ⟨h0, h8, ?_, ?_, by unfold mW; simp⟩
    · simp only; split
      · simp
      · exact h1
    · simp only; split
      · simp
      · omega
theorem stepW_meas {xs : List Inode} {st st' : Wk} {a : ByteArray} {f : Bool} {l : List ByteArray} (h : stepW xs st a f = (st', l, 0)) (h1 : 1 ≤ st.kept.length) (h0 : 0 ≤ st.loops) (h8 : st.loops ≤ 8) (n : Nat) :
    0 ≤ st'.loops ∧ st'.loops ≤ 8 ∧ 1 ≤ st'.kept.length ∧ st'.kept.length ≤ st.kept.length + 1 ∧ mW st' (l.length + n) < mW st (n + 1) := by
  unfold stepW at h
  split at h
  · simp at h
  · split at h
    · split at h
      · simp only [Prod.mk.injEq] at h
        obtain ⟨rfl, rfl, _⟩ := h
        have hb := backK_len st.kept h1
        exact ⟨h0, h8, hb.1, by simp only; omega, by unfold mW; simp⟩
      · split at h
        · simp at h
        · split at h
          · simp at h
          · exact follW_meas h h1 h0 h8 n
    · simp at h
theorem walkF_cons {n : Nat} {xs : List Inode} {st st' : Wk} {a : ByteArray} {names l : List ByteArray} {f : Bool} {code : Int} (h : stepW xs st a (f || decide (0 < names.length)) = (st', l, code)) : walkF (n + 1) xs st (a :: names) f = if code = 0 then walkF n xs st' (l ++ names) f else (0, code) := by
  simp only [walkF, h]
/-- More rounds than are needed change nothing. -/
theorem walkF_more {xs : List Inode} {f : Bool} (n : Nat) : ∀ (m : Nat) (st : Wk) (names : List ByteArray), 1 ≤ st.kept.length → 0 ≤ st.loops → st.loops ≤ 8 → mW st names.length < n → mW st names.length < m → walkF n xs st names f = walkF m xs st names f := by
  induction n with
  | zero => intro m st names _ _ _ h _; exact absurd h (Nat.not_lt_zero _)
  | succ n ih =>
    intro m st names h1 h0 h8 hn hm
    cases m with
    | zero => exact absurd hm (Nat.not_lt_zero _)
    | succ m =>
      cases names with
      | nil => simp only [walkF]
      | cons a names =>
        obtain ⟨⟨st', l, code⟩, hr⟩ : ∃ r, stepW xs st a (f || decide (0 < names.length)) = r := ⟨_, rfl⟩
        rw [walkF_cons hr, walkF_cons hr]
        by_cases hc : code = 0
        · subst hc
          obtain ⟨g0, g8, g1, _, gm⟩ := stepW_meas hr h1 h0 h8 names.length
          rw [if_pos rfl, if_pos rfl]
          rw [List.length_cons] at hn hm
          exact ih m st' (l ++ names) g1 g0 g8 (by rw [List.length_append]; omega) (by rw [List.length_append]; omega)
        · rw [if_neg hc, if_neg hc]
theorem RowAt.drop1S {α : Type} [Enc α] {h : FH} {A : Option Addr} {x : α} {xs : List α} (r : RowAt h A (x :: xs)) (c : Nat) (hlc : (x :: xs).length ≤ c) : RowAt h (if c = 1 then A else A.map (fun x : Addr => (⟨x.block, x.off + Enc.sz α, none⟩ : Addr))) xs := by
  have q := r.dropS 1 c (by simp) hlc
  rw [Nat.one_mul] at q
  obtain ⟨b, off, rfl, _⟩ := r.2 (by simp)
  have hp : ¬ Enc.sz α = 0 := by have := Enc.pos (α := α); omega
  simpa [Addr.add, hp] using q
set_option maxRecDepth 100000 in
theorem RowAt.ixStr {h : FH} {A : Option Addr} {xs : List ByteArray} (r : RowAt h A xs) {k : Nat} {x : ByteArray} (hx : xs[k]? = some x) {w : World} (hs : Sits h w) (c : Nat) (i : Int) (hi : i = (k : Int)) :
    ∃ b off, (∀ w', (Instr.indexAt 30 (.slice A xs.length c) (.int .i64 i)).run Tryd.prog w' = .ok (.pointer (some ⟨b, off + k, none⟩)) w') ∧ h.cell ⟨b, off + k, none⟩ = some (.string x) ∧ x.size ≤ 9223372036854775807 := by
  subst hi
  have hlt := (List.getElem?_eq_some_iff.1 hx).1
  obtain ⟨b, off, rfl, f⟩ := r.2 (by omega)
  obtain ⟨cs, hr, hc⟩ := f k x hx
  obtain ⟨rfl, hsz⟩ : cs = [.string x] ∧ x.size ≤ 9223372036854775807 := hr
  refine ⟨b, off, fun w' => ?_, ?_, hsz⟩
  · rw [run_indexAt_slice (h := Tryd.underlying30), if_pos (by omega)]
    rw [show (sizeOf (Tryd.prog.elem 30)).run Tryd.prog w' = .ok 1 w' from by kernel_rfl]
    simp [Result.andThen, Addr.add]
  · have := hc 0 _ rfl
    rwa [show off + k * Enc.sz ByteArray + 0 = off + k from by show off + k * 1 + 0 = off + k; omega] at this
end Go.Proofs.YtcnbnehammbncaaDoor
