import Derived.Test.YtkglaofiencfdaaNameF
import Derived.Lib.Bytealg
import Derived.Test.YtkglaofiencfdaaApp
import Derived.Test.YtkglaofiencfdaaCore
import Derived.Lib.Strings
import Derived.Lib.Walk
namespace Go.Proofs.Ytkglaofiencfdaa
open Go.RowKit Go.Sort
set_option linter.unusedVariables false
/-! ### ways by their names: the plain law -/
/-- The parts of a text, between the slashes. -/
def splitL : List UInt8 → List (List UInt8)
  | [] => [[]]
  | c :: cs => if c = 47 then [] :: splitL cs else match splitL cs with
    | [] => [[c]]
    | x :: xs => (c :: x) :: xs
theorem splitL_cons (c : UInt8) (cs : List UInt8) : splitL (c :: cs) = if c = 47 then [] :: splitL cs else match splitL cs with
    | [] => [[c]]
    | x :: xs => (c :: x) :: xs := rfl
theorem splitL_ne (l : List UInt8) : splitL l ≠ [] := by
  cases l with
  | nil => simp [splitL]
  | cons c cs =>
    unfold splitL
    split
    · simp
    · split <;> simp
theorem splitL_none : ∀ (l : List UInt8), (∀ c ∈ l, c ≠ 47) → splitL l = [l]
  | [], _ => rfl
  | c :: cs, h => by
    have ih := splitL_none cs (fun x hx => h x (by simp [hx]))
    unfold splitL
    rw [if_neg (h c (by simp)), ih]
theorem splitL_at : ∀ (p r : List UInt8), (∀ c ∈ p, c ≠ 47) → splitL (p ++ 47 :: r) = p :: splitL r
  | [], r, _ => by rw [List.nil_append, splitL_cons, if_pos rfl]
  | c :: cs, r, h => by
    have ih := splitL_at cs r (fun x hx => h x (by simp [hx]))
    rw [List.cons_append, splitL_cons, if_neg (h c (by simp)), ih]
theorem splitL_len : ∀ (l : List UInt8), (splitL l).length = l.count 47 + 1
  | [] => rfl
  | c :: cs => by
    have ih := splitL_len cs
    unfold splitL
    by_cases h : c = 47
    · rw [if_pos h, List.length_cons, ih, List.count_cons]; simp [h]
    · rw [if_neg h, List.count_cons]
      have : (c == 47) = false := by simpa using h
      rw [this]
      split
      · rename_i e; exact absurd e (splitL_ne cs)
      · rename_i x xs e; rw [e] at ih; simpa using ih
def splitB (s : ByteArray) : List ByteArray := (splitL s.data.toList).map fun l => ⟨l.toArray⟩
theorem splitB_len (s : ByteArray) : (splitB s).length = s.data.toList.count 47 + 1 := by simp [splitB, splitL_len]
/-- What is kept of the parts; none: one of them may not be. -/
def skipB (x : ByteArray) : Bool := x.toList.isEmpty || x.toList == [46]
def badB (x : ByteArray) : Bool := !(x.toList == [46, 46]) && !nameB x
def keepB : List ByteArray → Option (List ByteArray)
  | [] => some []
  | x :: xs => if skipB x = true then keepB xs else if badB x = true then none else (keepB xs).map (x :: ·)
theorem keepB_cons (x : ByteArray) (xs : List ByteArray) : keepB (x :: xs) = if skipB x = true then keepB xs else if badB x = true then none else (keepB xs).map (x :: ·) := rfl
theorem keepB_app : ∀ (xs ys : List ByteArray), keepB (xs ++ ys) = (keepB xs).bind fun a => (keepB ys).map (a ++ ·)
  | [], ys => by simp [keepB]
  | x :: xs, ys => by
    have ih := keepB_app xs ys
    rw [List.cons_append, keepB_cons, keepB_cons]
    split
    · exact ih
    · split
      · rfl
      · rw [ih]
        cases keepB xs with
        | none => rfl
        | some a =>
          cases keepB ys with
          | none => rfl
          | some b => rfl
theorem keepB_skip {xs ks : List ByteArray} {x : ByteArray} (h : keepB xs = some ks) (hx : skipB x = true) : keepB (xs ++ [x]) = some ks := by
  rw [keepB_app, h]
  show (keepB [x]).map (ks ++ ·) = _
  rw [keepB_cons, if_pos hx]
  simp [keepB]
theorem keepB_keep {xs ks : List ByteArray} {x : ByteArray} (h : keepB xs = some ks) (hx : skipB x = false) (hb : badB x = false) : keepB (xs ++ [x]) = some (ks ++ [x]) := by
  rw [keepB_app, h]
  show (keepB [x]).map (ks ++ ·) = _
  rw [keepB_cons, if_neg (by rw [hx]; decide), if_neg (by rw [hb]; decide)]
  simp [keepB]
theorem keepB_bad {xs ys ks : List ByteArray} {x : ByteArray} (h : keepB xs = some ks) (hx : skipB x = false) (hb : badB x = true) : keepB (xs ++ x :: ys) = none := by
  rw [keepB_app, h]
  show (keepB (x :: ys)).map (ks ++ ·) = _
  rw [keepB_cons, if_neg (by rw [hx]; decide), if_pos hb]; rfl
theorem keepB_none_mem : ∀ {xs : List ByteArray} {x : ByteArray}, x ∈ xs → skipB x = false → badB x = true → keepB xs = none
  | y :: ys, x, h, hx, hb => by
    rw [keepB_cons]
    rcases List.mem_cons.1 h with rfl | h
    · rw [if_neg (by rw [hx]; decide), if_pos hb]
    · have ih := keepB_none_mem h hx hb
      split
      · exact ih
      · split
        · rfl
        · rw [ih]; rfl
theorem keepB_len : ∀ {xs ks : List ByteArray}, keepB xs = some ks → ks.length ≤ xs.length
  | [], ks, h => by unfold keepB at h; cases h; simp
  | x :: xs, ks, h => by
    rw [keepB_cons] at h
    split at h
    · have := keepB_len h; simp; omega
    · split at h
      · cases h
      · obtain ⟨a, ha, rfl⟩ := Option.map_eq_some_iff.1 h
        have := keepB_len ha
        simp; omega
/-- The parts of a way; none: it is none. -/
def partsP (s : ByteArray) : Option (List ByteArray) := if s.size < 1 ∨ 400 < s.size then none else keepB (splitB s)
def topB (s : ByteArray) : Bool := s.data.toList.head? == some 47
theorem mem_split_byte : ∀ (l : List UInt8) (c : UInt8), c ∈ l → c ≠ 47 → ∃ x ∈ splitL l, c ∈ x
  | [], c, h, _ => by cases h
  | d :: ds, c, h, hc => by
    unfold splitL
    by_cases hd : d = 47
    · rw [if_pos hd]
      rcases List.mem_cons.1 h with rfl | h
      · exact absurd hd hc
      · obtain ⟨x, hx, hcx⟩ := mem_split_byte ds c h hc
        exact ⟨x, by simp [hx], hcx⟩
    · rw [if_neg hd]
      split
      · rename_i e; exact absurd e (splitL_ne ds)
      · rename_i x xs e
        rcases List.mem_cons.1 h with rfl | h
        · exact ⟨_, List.mem_cons_self .., by simp⟩
        · obtain ⟨y, hy, hcy⟩ := mem_split_byte ds c h hc
          rw [e] at hy
          rcases List.mem_cons.1 hy with rfl | hy
          · exact ⟨_, List.mem_cons_self .., by simp [hcy]⟩
          · exact ⟨y, by simp [hy], hcy⟩
/-- A part with a byte 0 is no name. -/
theorem zero_bad {x : List UInt8} (h : (0 : UInt8) ∈ x) : skipB ⟨x.toArray⟩ = false ∧ badB ⟨x.toArray⟩ = true := by
  have hl : (⟨x.toArray⟩ : ByteArray).toList = x := by rw [ByteArray.toList_eq]
  have hn : nameB ⟨x.toArray⟩ = false := by
    unfold nameB bytesOk
    have : (⟨x.toArray⟩ : ByteArray).data.toList.all okByte = false := by
      rw [List.all_eq_false]
      exact ⟨0, by simpa using h, by decide⟩
    rw [this]; rfl
  unfold skipB badB
  rw [hl, hn]
  refine ⟨?_, ?_⟩
  · cases x with
    | nil => cases h
    | cons a az =>
      rw [List.isEmpty_cons, Bool.false_or, beq_eq_false_iff_ne]
      rintro e
      rw [e] at h
      revert h; decide
  · have : (x == [46, 46]) = false := by
      rw [beq_eq_false_iff_ne]
      rintro rfl
      revert h; decide
    rw [this]; rfl
theorem parts_zero {s : ByteArray} (h : (0 : UInt8) ∈ s.data.toList) : keepB (splitB s) = none := by
  obtain ⟨x, hx, h0⟩ := mem_split_byte s.data.toList 0 h (by decide)
  obtain ⟨h1, h2⟩ := zero_bad h0
  exact keepB_none_mem (List.mem_map.2 ⟨x, hx, rfl⟩) h1 h2
end Go.Proofs.Ytkglaofiencfdaa

namespace Go.Proofs.Ytkglaofiencfdaa
open Go.RowKit Go.Sort
set_option linter.unusedVariables false
/-! ### strings.Count, Index at one byte; strings.Split at "/" -/
theorem extern_index47 (s : ByteArray) (w : World) : (callFunc 119 #[.string s, .int .u8 47]).run Try.prog w = .ok (.value (.int .i64 (Lib.indexByte s.data.toList 47))) w := by
  rw [run_callFunc_extern (P := Try.prog) (f := 119) (e := Extern.BytealgIndexByte.indexByte) Try.func119 (by kernel_rfl) (by kernel_rfl) (by kernel_rfl) (by kernel_rfl), run_indexByte_string, ← Lib.firstIdx_eq]
  rfl
theorem index_slash (w : World) : (Instr.index 9 (.string ⟨#[47]⟩) (.int .i64 0)).run Try.prog w = .ok (.int .u8 47) w := index_str (P := Try.prog) 9 Try.underlying9 (s := ⟨#[47]⟩) (n := 0) (c := 47) rfl .i64 w
/-! ### genSplit -/
theorem index_parts : ∀ (l : List UInt8), 0 < l.count 47 → ∃ p r, l = p ++ 47 :: r ∧ (∀ c ∈ p, c ≠ 47) ∧ Lib.indexByte l 47 = (p.length : Int)
  | [], h => by simp at h
  | c :: cs, h => by
    by_cases hc : c = 47
    · subst hc
      exact ⟨[], cs, rfl, by simp, by simp [Lib.indexByte]⟩
    · have hb : (c == 47) = false := by simpa using hc
      rw [List.count_cons, hb] at h
      obtain ⟨p, r, h1, h2, h3⟩ := index_parts cs (by simpa using h)
      refine ⟨c :: p, r, by rw [h1]; rfl, fun x hx => ?_, ?_⟩
      · rcases List.mem_cons.1 hx with rfl | hx
        · exact hc
        · exact h2 x hx
      · unfold Lib.indexByte
        rw [hb, h3]
        have : ((p.length : Int) == -1) = false := by rw [beq_eq_false_iff_ne]; omega
        rw [this]
        simp
theorem cut_at {t : ByteArray} {p r : List UInt8} (h : t.data.toList = p ++ 47 :: r) : t.extract 0 p.length = ⟨p.toArray⟩ ∧ t.extract (p.length + 1) t.size = ⟨r.toArray⟩ ∧ t.size = p.length + 1 + r.length := by
  obtain ⟨⟨l⟩⟩ := t
  have h : l = p ++ 47 :: r := h
  subst h
  refine ⟨?_, ?_, ?_⟩
  · apply ByteArray.ext
    rw [ByteArray.data_extract]
    apply Array.toList_inj.1
    simp
  · apply ByteArray.ext
    rw [ByteArray.data_extract]
    apply Array.toList_inj.1
    simp [ByteArray.size]
    exact List.take_of_length_le (by omega)
  · simp [ByteArray.size]; omega
theorem splitB_at {t : ByteArray} {p r : List UInt8} (h : t.data.toList = p ++ 47 :: r) (hp : ∀ c ∈ p, c ≠ 47) : splitB t = ⟨p.toArray⟩ :: splitB ⟨r.toArray⟩ := by
  unfold splitB
  rw [h, splitL_at p r hp]; rfl
theorem splitB_last {t : ByteArray} (h : t.data.toList.count 47 = 0) : splitB t = [t] := by
  unfold splitB
  rw [splitL_none _ (fun c hc e => by subst e; exact absurd (List.count_pos_iff.2 hc) (by omega))]
  simp
end Go.Proofs.Ytkglaofiencfdaa

namespace Go.Proofs.Ytkglaofiencfdaa
open Go.RowKit Go.Sort Go.DataW
set_option linter.unusedVariables false
/-- A pair that stays as it is. -/
theorem RetTup.stay {α : Type} [Enc α] {h : FH} {w : World} {T : TypeId} {xs : List α} {code : Int} {e : Ending} {w' : World} (R : RetTup h w T xs code e w') (hlen : xs.length ≤ 9223372036854775807) :
    ∃ A c h1, e = .returned (.tuple #[.slice A xs.length c, .int .i64 code]) ∧ xs.length ≤ c ∧ RowAt h1 A xs ∧ Ext h w h1 w' := by
  obtain ⟨v, rfl, O, E⟩ := R
  obtain ⟨A, c, hv, hc⟩ := O.slice
  obtain ⟨h1, A1, c1, hv1, r, l, E1⟩ := O.stay E (Nat.le_refl _) hlen
  subst hv
  simp only [Value.slice.injEq, true_and] at hv1
  obtain ⟨rfl, rfl⟩ := hv1
  exact ⟨A, c, h1, rfl, hc, r, E1⟩
theorem open_LStr : Opens (List ByteArray) Try.prog 95 := Opens.slice Try.underlying95 (by kernel_rfl) open_str'
end Go.Proofs.Ytkglaofiencfdaa

namespace Go.Proofs.Ytkglaofiencfdaa
open Go.RowKit Go.Sort
set_option linter.unusedVariables false
/-! ### name.Parts, name.Split -/
theorem ty_Str : TyOk Try.prog 95 9 (Enc.sz ByteArray) 16 := TyOk.mk' (z := .string ⟨#[]⟩) Try.underlying95 (by kernel_rfl) rfl
def RetTri {α : Type} [Enc α] (h : FH) (w : World) (T : TypeId) (xs : List α) (top : Bool) (code : Int) (e : Ending) (w' : World) : Prop := ∃ v, e = .returned (.tuple #[v, .bool top, .int .i64 code]) ∧ OwnL h w' w.heap.size T v xs ∧ Ext h w h w'
def partsXs (s : ByteArray) : List ByteArray := (partsP s).getD []
def partsTop (s : ByteArray) : Bool := (partsP s).isSome && topB s
def partsCode (s : ByteArray) : Int := if (partsP s).isSome = true then 0 else 17
theorem parts_none {s : ByteArray} (h : partsP s = none) : partsXs s = [] ∧ partsTop s = false ∧ partsCode s = 17 := by
  unfold partsXs partsTop partsCode; rw [h]; exact ⟨rfl, rfl, rfl⟩
theorem parts_some {s : ByteArray} {ks : List ByteArray} (h : partsP s = some ks) : partsXs s = ks ∧ partsTop s = topB s ∧ partsCode s = 0 := by
  unfold partsXs partsTop partsCode; rw [h]; exact ⟨rfl, rfl, rfl⟩
theorem indexByte_none : ∀ (l : List UInt8) (c : UInt8), c ∉ l → Lib.indexByte l c = -1
  | [], _, _ => rfl
  | b :: l, c, h => by
    unfold Lib.indexByte
    have hb : (b == c) = false := by rw [beq_eq_false_iff_ne]; intro e; exact h (by simp [e])
    rw [hb, indexByte_none l c (fun e => h (by simp [e]))]; rfl
theorem indexByte_some : ∀ (l : List UInt8) (c : UInt8), c ∈ l → 0 ≤ Lib.indexByte l c
  | [], _, h => by cases h
  | b :: l, c, h => by
    unfold Lib.indexByte
    by_cases hb : (b == c) = true
    · rw [if_pos hb]; decide
    · rw [if_neg hb]
      have hc : c ∈ l := by
        rcases List.mem_cons.1 h with rfl | h
        · simp at hb
        · exact h
      have ih := indexByte_some l c hc
      have : (Lib.indexByte l c == -1) = false := by rw [beq_eq_false_iff_ne]; omega
      rw [this]
      simp; omega
theorem extern_index0 (s : ByteArray) (w : World) : (callFunc 119 #[.string s, .int .u8 0]).run Try.prog w = .ok (.value (.int .i64 (Lib.indexByte s.data.toList 0))) w := by
  rw [run_callFunc_extern (P := Try.prog) (f := 119) (e := Extern.BytealgIndexByte.indexByte) Try.func119 (by kernel_rfl) (by kernel_rfl) (by kernel_rfl) (by kernel_rfl), run_indexByte_string, ← Lib.firstIdx_eq]
  rfl
theorem strings_Index0 (s : ByteArray) (v : Int) (hv : Lib.indexByte s.data.toList 0 = v) (h : FH) (w : World) (hs : Sits h w) :
    Calls Try.prog 110 #[.string s, .int .u8 0] w fun e w' => e = .returned (.int .i64 v) ∧ Ext h w h w' := by
  have hx := fun w => extern_index0 s w
  rw [hv] at hx
  go_enter Try.func110, Try.ntmps110
  go_wp2
  go_ret
  exact ⟨rfl, Ext.refl hs⟩
theorem empty_iff (s : ByteArray) : s.toList.isEmpty = decide (s.size < 1) := by
  rw [ByteArray.toList_eq]
  obtain ⟨⟨l⟩⟩ := s
  cases l <;> simp [ByteArray.size]
theorem RetOwn.stay {α : Type} [Enc α] {h : FH} {w : World} {T : TypeId} {xs : List α} {e : Ending} {w' : World} (R : RetOwn h w T xs e w') (hlen : xs.length ≤ 9223372036854775807) :
    ∃ A c h1, e = .returned (.slice A xs.length c) ∧ xs.length ≤ c ∧ RowAt h1 A xs ∧ Ext h w h1 w' := by
  obtain ⟨v, rfl, O, E⟩ := R
  obtain ⟨A, c, hv, hc⟩ := O.slice
  obtain ⟨h1, A1, c1, hv1, r, l, E1⟩ := O.stay E (Nat.le_refl _) hlen
  subst hv
  simp only [Value.slice.injEq, true_and] at hv1
  obtain ⟨rfl, rfl⟩ := hv1
  exact ⟨A, c, h1, rfl, hc, r, E1⟩
theorem Reps.str_any {h h' : FH} : ∀ {cells : List Value} {xs : List ByteArray}, Reps h cells xs → Reps h' cells xs
  | _, [], r => r
  | _, _ :: _, ⟨cs, rest, e, r, t⟩ => ⟨cs, rest, e, r, t.str_any⟩
theorem OwnL.back_str {h h2 : FH} {w : World} {base : Nat} {e : TypeId} {v : Value} {xs : List ByteArray} (o : OwnL h2 w base e v xs) (l : FLe h h2) : OwnL h w base e v xs := by
  obtain ⟨c, a, b⟩ := o.own
  refine ⟨⟨c, a, b.str_any⟩, fun g hg => ?_⟩
  cases e : h g with
  | none => rfl
  | some x => have := l _ _ e; rw [o.free g hg] at this; cases this
theorem byte0 {s : ByteArray} (h : 1 ≤ s.size) : ∃ c, s.data[0]? = some c ∧ topB s = (c == 47) := by
  obtain ⟨⟨l⟩⟩ := s
  cases l with
  | nil => simp [ByteArray.size] at h
  | cons c cs => exact ⟨c, rfl, by unfold topB; simp⟩
theorem byte_eq (c : UInt8) : ((c.toNat : Int) == 47) = (c == 47) := by
  rw [Bool.eq_iff_iff, beq_iff_eq, beq_iff_eq, ← UInt8.toNat_inj]
  show (c.toNat : Int) = 47 ↔ c.toNat = 47
  omega
theorem RetTri.stay {α : Type} [Enc α] {h : FH} {w : World} {T : TypeId} {xs : List α} {top : Bool} {code : Int} {e : Ending} {w' : World} (R : RetTri h w T xs top code e w') (hlen : xs.length ≤ 9223372036854775807) :
    ∃ A c h1, e = .returned (.tuple #[.slice A xs.length c, .bool top, .int .i64 code]) ∧ xs.length ≤ c ∧ RowAt h1 A xs ∧ Ext h w h1 w' := by
  obtain ⟨v, rfl, O, E⟩ := R
  obtain ⟨A, c, hv, hc⟩ := O.slice
  obtain ⟨h1, A1, c1, hv1, r, l, E1⟩ := O.stay E (Nat.le_refl _) hlen
  subst hv
  simp only [Value.slice.injEq, true_and] at hv1
  obtain ⟨rfl, rfl⟩ := hv1
  exact ⟨A, c, h1, rfl, hc, r, E1⟩
end Go.Proofs.Ytkglaofiencfdaa
