import Derived.Test.YtdiaibkpcnknbaaDoorNameF
import Derived.Lib.Bytealg
import Derived.Test.YtdiaibkpcnknbaaDoorApp
import Derived.Test.YtdiaibkpcnknbaaDoorCore
import Derived.Lib.Strings
import Derived.Lib.Walk
namespace Go.Proofs.YtdiaibkpcnknbaaDoor
open Go.RowKit Go.Sort
set_option linter.unusedVariables false
/-! ### ways by their names: the plain law -/
/-- The parts of a text, between the slashes. -/
def splitL : List UInt8 → List (List UInt8)
  | [] => [[]]
  | c :: cs => if c = 47 then [] :: splitL cs else match splitL cs with
    | [] => [[c]]
    | x :: xs => (c :: x) :: xs
theorem splitL_cons (c : UInt8) (cs : List UInt8) : splitL (c :: cs) = if c = 47 then [] :: splitL cs else match splitL cs with
    | [] => [[c]]
    | x :: xs => (c :: x) :: xs := rfl
theorem splitL_ne (l : List UInt8) : splitL l ≠ [] := by
  cases l with
  | nil => simp [splitL]
  | cons c cs =>
    unfold splitL
    split
    · simp
    · split <;> simp
theorem splitL_none : ∀ (l : List UInt8), (∀ c ∈ l, c ≠ 47) → splitL l = [l]
  | [], _ => rfl
  | c :: cs, h => by
    have ih := splitL_none cs (fun x hx => h x (by simp [hx]))
    unfold splitL
    rw [if_neg (h c (by simp)), ih]
theorem splitL_at : ∀ (p r : List UInt8), (∀ c ∈ p, c ≠ 47) → splitL (p ++ 47 :: r) = p :: splitL r
  | [], r, _ => by rw [List.nil_append, splitL_cons, if_pos rfl]
  | c :: cs, r, h => by
    have ih := splitL_at cs r (fun x hx => h x (by simp [hx]))
    rw [List.cons_append, splitL_cons, if_neg (h c (by simp)), ih]
theorem splitL_len : ∀ (l : List UInt8), (splitL l).length = l.count 47 + 1
  | [] => rfl
  | c :: cs => by
    have ih := splitL_len cs
    unfold splitL
    by_cases h : c = 47
    · rw [if_pos h, List.length_cons, ih, List.count_cons]; simp [h]
    · rw [if_neg h, List.count_cons]
      have : (c == 47) = false := by simpa using h
      rw [this]
      split
      · rename_i e; exact absurd e (splitL_ne cs)
      · rename_i x xs e; rw [e] at ih; simpa using ih
def splitB (s : ByteArray) : List ByteArray := (splitL s.data.toList).map fun l => ⟨l.toArray⟩
theorem splitB_len (s : ByteArray) : (splitB s).length = s.data.toList.count 47 + 1 := by simp [splitB, splitL_len]
/-- What is kept of the parts; none: one of them may not be. -/
def skipB (x : ByteArray) : Bool := x.toList.isEmpty || x.toList == [46]
def badB (x : ByteArray) : Bool := !(x.toList == [46, 46]) && !nameB x
def keepB : List ByteArray → Option (List ByteArray)
  | [] => some []
  | x :: xs => if skipB x = true then keepB xs else if badB x = true then none else (keepB xs).map (x :: ·)
theorem keepB_cons (x : ByteArray) (xs : List ByteArray) : keepB (x :: xs) = if skipB x = true then keepB xs else if badB x = true then none else (keepB xs).map (x :: ·) := rfl
theorem keepB_app : ∀ (xs ys : List ByteArray), keepB (xs ++ ys) = (keepB xs).bind fun a => (keepB ys).map (a ++ ·)
  | [], ys => by simp [keepB]
  | x :: xs, ys => by
    have ih := keepB_app xs ys
    rw [List.cons_append, keepB_cons, keepB_cons]
    split
    · exact ih
    · split
      · rfl
      · rw [ih]
        cases keepB xs with
        | none => rfl
        | some a =>
          cases keepB ys with
          | none => rfl
          | some b => rfl
theorem keepB_skip {xs ks : List ByteArray} {x : ByteArray} (h : keepB xs = some ks) (hx : skipB x = true) : keepB (xs ++ [x]) = some ks := by
  rw [keepB_app, h]
  show (keepB [x]).map (ks ++ ·) = _
  rw [keepB_cons, if_pos hx]
  simp [keepB]
theorem keepB_keep {xs ks : List ByteArray} {x : ByteArray} (h : keepB xs = some ks) (hx : skipB x = false) (hb : badB x = false) : keepB (xs ++ [x]) = some (ks ++ [x]) := by
  rw [keepB_app, h]
  show (keepB [x]).map (ks ++ ·) = _
  rw [keepB_cons, if_neg (by rw [hx]; decide), if_neg (by rw [hb]; decide)]
  simp [keepB]
theorem keepB_bad {xs ys ks : List ByteArray} {x : ByteArray} (h : keepB xs = some ks) (hx : skipB x = false) (hb : badB x = true) : keepB (xs ++ x :: ys) = none := by
  rw [keepB_app, h]
  show (keepB (x :: ys)).map (ks ++ ·) = _
  rw [keepB_cons, if_neg (by rw [hx]; decide), if_pos hb]; rfl
theorem keepB_none_mem : ∀ {xs : List ByteArray} {x : ByteArray}, x ∈ xs → skipB x = false → badB x = true → keepB xs = none
  | y :: ys, x, h, hx, hb => by
    rw [keepB_cons]
    rcases List.mem_cons.1 h with rfl | h
    · rw [if_neg (by rw [hx]; decide), if_pos hb]
    · have ih := keepB_none_mem h hx hb
      split
      · exact ih
      · split
        · rfl
        · rw [ih]; rfl
theorem keepB_len : ∀ {xs ks : List ByteArray}, keepB xs = some ks → ks.length ≤ xs.length
  | [], ks, h => by unfold keepB at h; cases h; simp
  | x :: xs, ks, h => by
    rw [keepB_cons] at h
    split at h
    · have := keepB_len h; simp; omega
    · split at h
      · cases h
      · obtain ⟨a, ha, rfl⟩ := Option.map_eq_some_iff.1 h
        have := keepB_len ha
        simp; omega
/-- The parts of a way; none: it is none. -/
def partsP (s : ByteArray) : Option (List ByteArray) := if s.size < 1 ∨ 400 < s.size then none else keepB (splitB s)
def topB (s : ByteArray) : Bool := s.data.toList.head? == some 47
theorem mem_split_byte : ∀ (l : List UInt8) (c : UInt8), c ∈ l → c ≠ 47 → ∃ x ∈ splitL l, c ∈ x
  | [], c, h, _ => by cases h
  | d :: ds, c, h, hc => by
    unfold splitL
    by_cases hd : d = 47
    · rw [if_pos hd]
      rcases List.mem_cons.1 h with rfl | h
      · exact absurd hd hc
      · obtain ⟨x, hx, hcx⟩ := mem_split_byte ds c h hc
        exact ⟨x, by simp [hx], hcx⟩
    · rw [if_neg hd]
      split
      · rename_i e; exact absurd e (splitL_ne ds)
      · rename_i x xs e
        rcases List.mem_cons.1 h with rfl | h
        · exact ⟨_, List.mem_cons_self .., by simp⟩
        · obtain ⟨y, hy, hcy⟩ := mem_split_byte ds c h hc
          rw [e] at hy
          rcases List.mem_cons.1 hy with rfl | hy
          · exact ⟨_, List.mem_cons_self .., by simp [hcy]⟩
          · exact ⟨y, by simp [hy], hcy⟩
/-- A part with a byte 0 is no name. -/
theorem zero_bad {x : List UInt8} (h : (0 : UInt8) ∈ x) : skipB ⟨x.toArray⟩ = false ∧ badB ⟨x.toArray⟩ = true := by
  have hl : (⟨x.toArray⟩ : ByteArray).toList = x := by rw [ByteArray.toList_eq]
  have hn : nameB ⟨x.toArray⟩ = false := by
    unfold nameB bytesOk
    have : (⟨x.toArray⟩ : ByteArray).data.toList.all okByte = false := by
      rw [List.all_eq_false]
      exact ⟨0, by simpa using h, by decide⟩
    rw [this]; rfl
  unfold skipB badB
  rw [hl, hn]
  refine ⟨?_, ?_⟩
  · cases x with
    | nil => cases h
    | cons a az =>
      rw [List.isEmpty_cons, Bool.false_or, beq_eq_false_iff_ne]
      rintro e
      rw [e] at h
      revert h; decide
  · have : (x == [46, 46]) = false := by
      rw [beq_eq_false_iff_ne]
      rintro rfl
      revert h; decide
    rw [this]; rfl
theorem parts_zero {s : ByteArray} (h : (0 : UInt8) ∈ s.data.toList) : keepB (splitB s) = none := by
  obtain ⟨x, hx, h0⟩ := mem_split_byte s.data.toList 0 h (by decide)
  obtain ⟨h1, h2⟩ := zero_bad h0
  exact keepB_none_mem (List.mem_map.2 ⟨x, hx, rfl⟩) h1 h2
end Go.Proofs.YtdiaibkpcnknbaaDoor

namespace Go.Proofs.YtdiaibkpcnknbaaDoor
open Go.RowKit Go.Sort
set_option linter.unusedVariables false
/-! ### strings.Count, Index at one byte; strings.Split at "/" -/
theorem extern_count (s : ByteArray) (w : World) : (callFunc 87 #[.string s, .int .u8 47]).run Tryd.prog w = .ok (.value (.int .i64 (s.data.toList.count 47 : Nat))) w := by
  rw [run_callFunc_extern Tryd.func87 (by kernel_rfl) (by kernel_rfl) (by kernel_rfl) (e := Extern.BytealgCount.count) (by kernel_rfl), Lib.run_countString]
  rfl
theorem extern_index47 (s : ByteArray) (w : World) : (callFunc 75 #[.string s, .int .u8 47]).run Tryd.prog w = .ok (.value (.int .i64 (Lib.indexByte s.data.toList 47))) w := by
  rw [run_callFunc_extern (P := Tryd.prog) (f := 75) (e := Extern.BytealgIndexByte.indexByte) Tryd.func75 (by kernel_rfl) (by kernel_rfl) (by kernel_rfl) (by kernel_rfl), run_indexByte_string, ← Lib.firstIdx_eq]
  rfl
theorem index_slash (w : World) : (Instr.index 9 (.string ⟨#[47]⟩) (.int .i64 0)).run Tryd.prog w = .ok (.int .u8 47) w := index_str (P := Tryd.prog) 9 Tryd.underlying9 (s := ⟨#[47]⟩) (n := 0) (c := 47) rfl .i64 w
set_option maxHeartbeats 1000000 in
set_option maxRecDepth 100000 in
theorem strings_Count47 (s : ByteArray) (n : Nat) (hn : s.data.toList.count 47 = n) (h : FH) (w : World) (hs : Sits h w) :
    Calls Tryd.prog 82 #[.string s, .string ⟨#[47]⟩] w fun e w' => e = .returned (.int .i64 n) ∧ Ext h w h w' := by
  have hi := index_slash
  have hx := fun w => extern_count s w
  rw [hn] at hx
  go_enter Tryd.func82, Tryd.ntmps82
  go_wp2
  go_ret
  exact ⟨rfl, Ext.refl hs⟩
set_option maxHeartbeats 1000000 in
set_option maxRecDepth 100000 in
theorem strings_Index47 (s : ByteArray) (v : Int) (hv : Lib.indexByte s.data.toList 47 = v) (h : FH) (w : World) (hs : Sits h w) :
    Calls Tryd.prog 83 #[.string s, .string ⟨#[47]⟩] w fun e w' => e = .returned (.int .i64 v) ∧ Ext h w h w' := by
  have hi := index_slash
  have hx := fun w => extern_index47 s w
  rw [hv] at hx
  have HV := hid hv
  clear hv
  cases hq : ([47] == s.toList) with
  | true =>
    have HQ := hid hq
    have hv0 := hid (show v = 0 by
      rw [← HV.out, ← ByteArray.toList_eq, ← beq_iff_eq.1 HQ.out]; rfl)
    go_enter Tryd.func83, Tryd.ntmps83
    go_wp2
    all_goals
      go_ret
      exact ⟨by rw [hv0.out]; rfl, Ext.refl hs⟩
  | false =>
    go_enter Tryd.func83, Tryd.ntmps83
    go_wp2
    all_goals
      go_ret
      exact ⟨rfl, Ext.refl hs⟩
/-! ### genSplit -/
theorem index_parts : ∀ (l : List UInt8), 0 < l.count 47 → ∃ p r, l = p ++ 47 :: r ∧ (∀ c ∈ p, c ≠ 47) ∧ Lib.indexByte l 47 = (p.length : Int)
  | [], h => by simp at h
  | c :: cs, h => by
    by_cases hc : c = 47
    · subst hc
      exact ⟨[], cs, rfl, by simp, by simp [Lib.indexByte]⟩
    · have hb : (c == 47) = false := by simpa using hc
      rw [List.count_cons, hb] at h
      obtain ⟨p, r, h1, h2, h3⟩ := index_parts cs (by simpa using h)
      refine ⟨c :: p, r, by rw [h1]; rfl, fun x hx => ?_, ?_⟩
      · rcases List.mem_cons.1 hx with rfl | hx
        · exact hc
        · exact h2 x hx
      · unfold Lib.indexByte
        rw [hb, h3]
        have : ((p.length : Int) == -1) = false := by rw [beq_eq_false_iff_ne]; omega
        rw [this]
        simp
theorem cut_at {t : ByteArray} {p r : List UInt8} (h : t.data.toList = p ++ 47 :: r) : t.extract 0 p.length = ⟨p.toArray⟩ ∧ t.extract (p.length + 1) t.size = ⟨r.toArray⟩ ∧ t.size = p.length + 1 + r.length := by
  obtain ⟨⟨l⟩⟩ := t
  have h : l = p ++ 47 :: r := h
  subst h
  refine ⟨?_, ?_, ?_⟩
  · apply ByteArray.ext
    rw [ByteArray.data_extract]
    apply Array.toList_inj.1
    simp
  · apply ByteArray.ext
    rw [ByteArray.data_extract]
    apply Array.toList_inj.1
    simp [ByteArray.size]
    exact List.take_of_length_le (by omega)
  · simp [ByteArray.size]; omega
theorem splitB_at {t : ByteArray} {p r : List UInt8} (h : t.data.toList = p ++ 47 :: r) (hp : ∀ c ∈ p, c ≠ 47) : splitB t = ⟨p.toArray⟩ :: splitB ⟨r.toArray⟩ := by
  unfold splitB
  rw [h, splitL_at p r hp]; rfl
theorem splitB_last {t : ByteArray} (h : t.data.toList.count 47 = 0) : splitB t = [t] := by
  unfold splitB
  rw [splitL_none _ (fun c hc e => by subst e; exact absurd (List.count_pos_iff.2 hc) (by omega))]
  simp
set_option maxHeartbeats 4000000 in
set_option maxRecDepth 100000 in
theorem strings_genSplit (s : ByteArray) (hsz : s.size ≤ 1000) (h : FH) (w : World) (hs : Sits h w) :
    Calls Tryd.prog 74 #[.string s, .string ⟨#[47]⟩, .int .i64 0, .int .i64 (-1)] w fun e w' => RetOwn h w 9 (splitB s) e w' := by
  obtain ⟨n, hn⟩ : ∃ n, s.data.toList.count 47 = n := ⟨_, rfl⟩
  have hns : n ≤ s.size := by have := List.count_le_length (a := (47 : UInt8)) (l := s.data.toList); rw [hn, Array.length_toList] at this; exact this
  have KC := hid (strings_Count47 s n hn h w hs)
  have HN := hid hn
  clear hn
  obtain ⟨i, hi, hz0, hz1, hz2⟩ := info_parts (P := Tryd.prog) (e := 9) (z := .string ⟨#[]⟩) (size := Enc.sz ByteArray) (bytes := 16) (by kernel_rfl)
  have HI := hid hi
  clear hi
  have hmin := fun ts t (w : World) => show (Builtin.min_ ts t #[.int .i64 ((n : Int) + 1), .int .i64 ((s.size : Int) + 1)]).run Tryd.prog w = .ok (.int .i64 ((n : Int) + 1)) w by rw [run_min_int2, if_neg (by omega)]
  go_enter Tryd.func74, Tryd.ntmps74
  go_wp2_with fail
  refine KC.out.mono ?_
  rintro e w0 ⟨rfl, E0⟩
  have HW := hid (E0.sits.none (g := w0.heap.size) (Nat.le_refl _))
  have hw0 := E0.size
  go_wp2_with (at_make; refine wpList_make_full _ rfl _ _ 79 rfl w0.heap.size 9 i _ _ Tryd.underlying79 HI.out hz0 hz1 _ _ _ _ (n + 1) rfl rfl rfl rfl (by rw [hz2]; omega) (by unfold maxLen; omega) (Nat.le_refl _) ?_)
  intro w1 O1 hg1
  have E1 := E0.grown hg1 (fun k hk => by cases hk)
  have O2 : OwnL h w1 w0.heap.size 9 (.slice (some ⟨w0.heap.size, 0, none⟩) 0 (n + 1)) ([] : List ByteArray) := ⟨⟨[], own_zero' O1, rfl⟩, fun g hg => by simp [Value.ownBlock] at hg; subst hg; exact HW.out⟩
  clear O1 hg1 KC
  go_wp2_with fail
  go_loopw [0, 10, 11] (fun sv iv mv wr => ∃ (k : Nat) (t : ByteArray) (xs : List ByteArray), sv = .string t ∧ iv = .int .i64 k ∧ k ≤ n ∧ t.size ≤ s.size ∧ xs.length = k ∧ Hid (t.data.toList.count 47 = n - k) ∧ Hid (splitB s = xs ++ splitB t) ∧ OwnL h wr w0.heap.size 9 (.slice (some ⟨w0.heap.size, 0, none⟩) k (n + 1)) xs ∧ Ext h w h wr) (fun _ iv _ _ => n - (intOf iv).toNat)
  case atStart => exact ⟨0, s, [], rfl, rfl, Nat.zero_le _, Nat.le_refl _, rfl, hid (by rw [HN.out]; rfl), hid rfl, O2, E1⟩
  case round =>
    obtain ⟨k, t, xs, rfl, rfl, hk, hts, hxk, HT, HS, O, E⟩ := hrel
    by_cases hlt : k < n
    · obtain ⟨p, r, h1, h2, h3⟩ := index_parts t.data.toList (by rw [HT.out]; omega)
      obtain ⟨c1, c2, c3⟩ := cut_at h1
      have hp2 : p.length ≤ t.size := by omega
      have hcnt := hid (show (⟨r.toArray⟩ : ByteArray).data.toList.count 47 = n - (k + 1) by
        have hc := HT.out
        rw [h1, List.count_append, List.count_eq_zero.2 (fun hm => h2 _ hm rfl), List.count_cons] at hc
        simp at hc ⊢
        omega)
      have HS2 := hid (show splitB s = (xs ++ [⟨p.toArray⟩]) ++ splitB ⟨r.toArray⟩ by rw [HS.out, splitB_at h1 h2]; simp)
      have hrs : (⟨r.toArray⟩ : ByteArray).size ≤ s.size := by
        have : (⟨r.toArray⟩ : ByteArray).size = r.length := by simp [ByteArray.size]
        omega
      have hps : (⟨p.toArray⟩ : ByteArray).size ≤ 9223372036854775807 := by
        have : (⟨p.toArray⟩ : ByteArray).size = p.length := by simp [ByteArray.size]
        omega
      have KI := hid (strings_Index47 t (p.length : Int) h3 h wr E.sits)
      have P := O.push (y := (⟨p.toArray⟩ : ByteArray)) (cs := [.string ⟨p.toArray⟩]) ⟨rfl, hps⟩ (by omega)
      rw [hxk] at P
      obtain ⟨O4, T4⟩ := P
      have C1 := hid c1
      have C2 := hid c2
      have i4 : (p.length : Int) + 1 ≤ (t.size : Int) := by omega
      clear h1 h2 h3 c1 c2 c3 O4 T4
      go_wp2_with fail
      refine KI.out.mono ?_
      rintro e w2 ⟨rfl, E2'⟩
      have E2 := E.trans E2'
      have O' := O.ext E2'
      have P := O'.push (y := (⟨p.toArray⟩ : ByteArray)) (cs := [.string ⟨p.toArray⟩]) ⟨rfl, hps⟩ (by omega)
      rw [hxk] at P
      obtain ⟨O4, T4⟩ := P
      have E4 := Ext.setCells (Nat.le_trans hw0 (Nat.le_refl _)) HW.out [.string ⟨p.toArray⟩] (k * Enc.sz ByteArray) _ E2
      rw [show k * Enc.sz ByteArray = k from Nat.mul_one k] at O4 T4 E4
      obtain ⟨u, hu⟩ := Option.isSome_iff_exists.1 (T4 0 Enc.pos).1
      have hf := (T4 0 Enc.pos).2
      rw [Nat.add_zero] at hu hf
      have O5 := hid O4
      have i0 : (0 : Int) ≤ (k : Int) := by omega
      have i1 : (k : Int) < (n : Int) + 1 := by omega
      clear O4 T4 O O'
      go_wp2_with fail
      go_roundw
      case rel => exact ⟨k + 1, ⟨r.toArray⟩, xs ++ [⟨p.toArray⟩], by rw [C2.out], by go_num, by omega, hrs, by simp [hxk], hcnt, HS2, by rw [C1.out]; exact O5.out, by rw [C1.out]; exact E4⟩
      case measure => simp [intOf]; omega
    · obtain rfl : k = n := by omega
      have HL := hid (show splitB s = xs ++ [t] by rw [HS.out, splitB_last (by rw [HT.out]; omega)])
      have P := O.push (y := t) (cs := [.string t]) ⟨rfl, by omega⟩ (by omega)
      rw [hxk] at P
      obtain ⟨O4, T4⟩ := P
      have E4 := Ext.setCells (Nat.le_trans hw0 (Nat.le_refl _)) HW.out [.string t] (k * Enc.sz ByteArray) _ E
      rw [show k * Enc.sz ByteArray = k from Nat.mul_one k] at O4 T4 E4
      obtain ⟨u, hu⟩ := Option.isSome_iff_exists.1 (T4 0 Enc.pos).1
      have hf := (T4 0 Enc.pos).2
      rw [Nat.add_zero] at hu hf
      have O5 := hid (O4.rebase hw0)
      have i0 : (0 : Int) ≤ (k : Int) := by omega
      have i1 : (k : Int) < (k : Int) + 1 := by omega
      clear O4 T4 O HN
      go_wp2_with fail
      go_ret
      exact ⟨_, rfl, by rw [HL.out]; exact O5.out, E4⟩
theorem strings_Split (s : ByteArray) (hsz : s.size ≤ 1000) (h : FH) (w : World) (hs : Sits h w) :
    Calls Tryd.prog 60 #[.string s, .string ⟨#[47]⟩] w fun e w' => RetOwn h w 9 (splitB s) e w' := by
  have K := hid (strings_genSplit s hsz h w hs)
  go_enter Tryd.func60, Tryd.ntmps60
  go_wp2_with fail
  refine K.out.mono ?_
  rintro e w1 ⟨v, rfl, O, E⟩
  go_wp2_with fail
  go_ret
  exact ⟨v, rfl, O, E⟩
end Go.Proofs.YtdiaibkpcnknbaaDoor

namespace Go.Proofs.YtdiaibkpcnknbaaDoor
open Go.RowKit Go.Sort Go.DataW
set_option linter.unusedVariables false
/-- A pair that stays as it is. -/
theorem RetTup.stay {α : Type} [Enc α] {h : FH} {w : World} {T : TypeId} {xs : List α} {code : Int} {e : Ending} {w' : World} (R : RetTup h w T xs code e w') (hlen : xs.length ≤ 9223372036854775807) :
    ∃ A c h1, e = .returned (.tuple #[.slice A xs.length c, .int .i64 code]) ∧ xs.length ≤ c ∧ RowAt h1 A xs ∧ Ext h w h1 w' := by
  obtain ⟨v, rfl, O, E⟩ := R
  obtain ⟨A, c, hv, hc⟩ := O.slice
  obtain ⟨h1, A1, c1, hv1, r, l, E1⟩ := O.stay E (Nat.le_refl _) hlen
  subst hv
  simp only [Value.slice.injEq, true_and] at hv1
  obtain ⟨rfl, rfl⟩ := hv1
  exact ⟨A, c, h1, rfl, hc, r, E1⟩
theorem open_LStr : Opens (List ByteArray) Tryd.prog 79 := Opens.slice Tryd.underlying79 (by kernel_rfl) open_str'
end Go.Proofs.YtdiaibkpcnknbaaDoor

namespace Go.Proofs.YtdiaibkpcnknbaaDoor
open Go.RowKit Go.Sort
set_option linter.unusedVariables false
/-! ### name.Parts, name.Split -/
theorem ty_Str : TyOk Tryd.prog 79 9 (Enc.sz ByteArray) 16 := TyOk.mk' (z := .string ⟨#[]⟩) Tryd.underlying79 (by kernel_rfl) rfl
def RetTri {α : Type} [Enc α] (h : FH) (w : World) (T : TypeId) (xs : List α) (top : Bool) (code : Int) (e : Ending) (w' : World) : Prop := ∃ v, e = .returned (.tuple #[v, .bool top, .int .i64 code]) ∧ OwnL h w' w.heap.size T v xs ∧ Ext h w h w'
def partsXs (s : ByteArray) : List ByteArray := (partsP s).getD []
def partsTop (s : ByteArray) : Bool := (partsP s).isSome && topB s
def partsCode (s : ByteArray) : Int := if (partsP s).isSome = true then 0 else 17
theorem parts_none {s : ByteArray} (h : partsP s = none) : partsXs s = [] ∧ partsTop s = false ∧ partsCode s = 17 := by
  unfold partsXs partsTop partsCode; rw [h]; exact ⟨rfl, rfl, rfl⟩
theorem parts_some {s : ByteArray} {ks : List ByteArray} (h : partsP s = some ks) : partsXs s = ks ∧ partsTop s = topB s ∧ partsCode s = 0 := by
  unfold partsXs partsTop partsCode; rw [h]; exact ⟨rfl, rfl, rfl⟩
theorem indexByte_none : ∀ (l : List UInt8) (c : UInt8), c ∉ l → Lib.indexByte l c = -1
  | [], _, _ => rfl
  | b :: l, c, h => by
    unfold Lib.indexByte
    have hb : (b == c) = false := by rw [beq_eq_false_iff_ne]; intro e; exact h (by simp [e])
    rw [hb, indexByte_none l c (fun e => h (by simp [e]))]; rfl
theorem indexByte_some : ∀ (l : List UInt8) (c : UInt8), c ∈ l → 0 ≤ Lib.indexByte l c
  | [], _, h => by cases h
  | b :: l, c, h => by
    unfold Lib.indexByte
    by_cases hb : (b == c) = true
    · rw [if_pos hb]; decide
    · rw [if_neg hb]
      have hc : c ∈ l := by
        rcases List.mem_cons.1 h with rfl | h
        · simp at hb
        · exact h
      have ih := indexByte_some l c hc
      have : (Lib.indexByte l c == -1) = false := by rw [beq_eq_false_iff_ne]; omega
      rw [this]
      simp; omega
theorem extern_index0 (s : ByteArray) (w : World) : (callFunc 75 #[.string s, .int .u8 0]).run Tryd.prog w = .ok (.value (.int .i64 (Lib.indexByte s.data.toList 0))) w := by
  rw [run_callFunc_extern (P := Tryd.prog) (f := 75) (e := Extern.BytealgIndexByte.indexByte) Tryd.func75 (by kernel_rfl) (by kernel_rfl) (by kernel_rfl) (by kernel_rfl), run_indexByte_string, ← Lib.firstIdx_eq]
  rfl
theorem strings_Index0 (s : ByteArray) (v : Int) (hv : Lib.indexByte s.data.toList 0 = v) (h : FH) (w : World) (hs : Sits h w) :
    Calls Tryd.prog 37 #[.string s, .int .u8 0] w fun e w' => e = .returned (.int .i64 v) ∧ Ext h w h w' := by
  have hx := fun w => extern_index0 s w
  rw [hv] at hx
  go_enter Tryd.func37, Tryd.ntmps37
  go_wp2
  go_ret
  exact ⟨rfl, Ext.refl hs⟩
theorem empty_iff (s : ByteArray) : s.toList.isEmpty = decide (s.size < 1) := by
  rw [ByteArray.toList_eq]
  obtain ⟨⟨l⟩⟩ := s
  cases l <;> simp [ByteArray.size]
theorem RetOwn.stay {α : Type} [Enc α] {h : FH} {w : World} {T : TypeId} {xs : List α} {e : Ending} {w' : World} (R : RetOwn h w T xs e w') (hlen : xs.length ≤ 9223372036854775807) :
    ∃ A c h1, e = .returned (.slice A xs.length c) ∧ xs.length ≤ c ∧ RowAt h1 A xs ∧ Ext h w h1 w' := by
  obtain ⟨v, rfl, O, E⟩ := R
  obtain ⟨A, c, hv, hc⟩ := O.slice
  obtain ⟨h1, A1, c1, hv1, r, l, E1⟩ := O.stay E (Nat.le_refl _) hlen
  subst hv
  simp only [Value.slice.injEq, true_and] at hv1
  obtain ⟨rfl, rfl⟩ := hv1
  exact ⟨A, c, h1, rfl, hc, r, E1⟩
theorem Reps.str_any {h h' : FH} : ∀ {cells : List Value} {xs : List ByteArray}, Reps h cells xs → Reps h' cells xs
  | _, [], r => r
  | _, _ :: _, ⟨cs, rest, e, r, t⟩ => ⟨cs, rest, e, r, t.str_any⟩
theorem OwnL.back_str {h h2 : FH} {w : World} {base : Nat} {e : TypeId} {v : Value} {xs : List ByteArray} (o : OwnL h2 w base e v xs) (l : FLe h h2) : OwnL h w base e v xs := by
  obtain ⟨c, a, b⟩ := o.own
  refine ⟨⟨c, a, b.str_any⟩, fun g hg => ?_⟩
  cases e : h g with
  | none => rfl
  | some x => have := l _ _ e; rw [o.free g hg] at this; cases this
theorem byte0 {s : ByteArray} (h : 1 ≤ s.size) : ∃ c, s.data[0]? = some c ∧ topB s = (c == 47) := by
  obtain ⟨⟨l⟩⟩ := s
  cases l with
  | nil => simp [ByteArray.size] at h
  | cons c cs => exact ⟨c, rfl, by unfold topB; simp⟩
theorem byte_eq (c : UInt8) : ((c.toNat : Int) == 47) = (c == 47) := by
  rw [Bool.eq_iff_iff, beq_iff_eq, beq_iff_eq, ← UInt8.toNat_inj]
  show (c.toNat : Int) = 47 ↔ c.toNat = 47
  omega
set_option maxHeartbeats 4000000 in
set_option maxRecDepth 100000 in
theorem name_Parts (s : ByteArray) (hsz : s.size ≤ 9223372036854775807) (h : FH) (w : World) (hs : Sits h w) :
    Calls Tryd.prog 36 #[.string s] w fun e w' => RetTri h w 9 (partsXs s) (partsTop s) (partsCode s) e w' := by
  have he := empty_iff s
  by_cases h0 : s.size < 1
  · obtain ⟨p1, p2, p3⟩ := parts_none (show partsP s = none by unfold partsP; rw [if_pos (.inl h0)])
    have he : s.toList.isEmpty = true := by rw [he]; simpa using h0
    have P := hid (And.intro p1 (And.intro p2 p3))
    clear p1 p2 p3
    go_enter Tryd.func36, Tryd.ntmps36
    go_wp2_with fail
    go_ret3
    exact ⟨.slice none 0 0, by rw [P.out.2.1, P.out.2.2]; rfl, by rw [P.out.1]; exact OwnL.nil _ _ _ _, Ext.refl hs⟩
  · have he : s.toList.isEmpty = false := by rw [he]; simpa using h0
    by_cases h1 : 400 < s.size
    · obtain ⟨p1, p2, p3⟩ := parts_none (show partsP s = none by unfold partsP; rw [if_pos (.inr h1)])
      have P := hid (And.intro p1 (And.intro p2 p3))
      clear p1 p2 p3
      go_enter Tryd.func36, Tryd.ntmps36
      go_wp2_with fail
      go_ret3
      exact ⟨.slice none 0 0, by rw [P.out.2.1, P.out.2.2]; rfl, by rw [P.out.1]; exact OwnL.nil _ _ _ _, Ext.refl hs⟩
    · by_cases hz : (0 : UInt8) ∈ s.data.toList
      · obtain ⟨p1, p2, p3⟩ := parts_none (show partsP s = none by unfold partsP; rw [if_neg (by omega)]; exact parts_zero hz)
        have P := hid (And.intro p1 (And.intro p2 p3))
        have hv := indexByte_some _ _ hz
        obtain ⟨v, hv2⟩ : ∃ v, Lib.indexByte s.data.toList 0 = v := ⟨_, rfl⟩
        rw [hv2] at hv
        have K := hid (strings_Index0 s v hv2 h w hs)
        clear p1 p2 p3 hz hv2
        go_enter Tryd.func36, Tryd.ntmps36
        go_wp2_with fail
        refine K.out.mono ?_
        rintro e w1 ⟨rfl, E1⟩
        go_wp2_with fail
        go_ret3
        exact ⟨.slice none 0 0, by rw [P.out.2.1, P.out.2.2]; rfl, by rw [P.out.1]; exact OwnL.nil _ _ _ _, E1⟩
      · have K := hid (strings_Index0 s (-1) (indexByte_none _ _ hz) h w hs)
        have KS := hid (fun w hs => strings_Split s (by omega) h w hs)
        have HP := hid (show partsP s = keepB (splitB s) by unfold partsP; rw [if_neg (by omega)])
        have hlen := splitB_len s
        have hcnt : s.data.toList.count 47 ≤ s.size := by have := List.count_le_length (a := (47 : UInt8)) (l := s.data.toList); rw [Array.length_toList] at this; exact this
        have hlen2 : (splitB s).length ≤ 401 := by omega
        clear hlen hcnt hz
        go_enter Tryd.func36, Tryd.ntmps36
        go_wp2_with fail
        refine K.out.mono ?_
        rintro e w1 ⟨rfl, E1⟩
        go_wp2_with fail
        refine (KS.out _ E1.sits).mono ?_
        rintro e w2 R
        obtain ⟨A2, c2, h2, rfl, hc2, r2, F2⟩ := R.stay (by omega)
        have E2 := E1.trans F2
        clear R K KS F2
        generalize splitB s = xs at *
        go_wp2_with fail
        go_loopw [5, 23] (fun lv iv wr => ∃ (k : Nat) (ks : List ByteArray), k ≤ xs.length ∧ iv = .int .i64 k ∧ Hid (keepB (xs.take k) = some ks) ∧ OwnL h2 wr w.heap.size 9 lv ks ∧ Ext h w h2 wr) (fun _ iv _ => xs.length - (intOf iv).toNat)
        case atStart => exact ⟨0, [], Nat.zero_le _, rfl, hid rfl, OwnL.nil _ _ _ _, E2⟩
        case round =>
          obtain ⟨k, ks, hk, rfl, HK, O, E⟩ := hrel
          by_cases hlt : k < xs.length
          · obtain ⟨x, hx⟩ : ∃ x, xs[k]? = some x := ⟨xs[k], by simp [hlt]⟩
            obtain ⟨b, off, rfl, c0, hxs⟩ := r2.str hx E.sits
            have htk := hid (show xs.take (k + 1) = xs.take k ++ [x] by rw [List.take_add_one, hx]; rfl)
            have hdk := hid (show xs = xs.take k ++ x :: xs.drop (k + 1) by
              obtain ⟨hk', hx'⟩ := List.getElem?_eq_some_iff.1 hx
              rw [← hx', ← List.drop_eq_getElem_cons hk', List.take_append_drop])
            have hkl := keepB_len HK.out
            rw [List.length_take] at hkl
            obtain ⟨b1, hb1⟩ : ∃ b, x.toList.isEmpty = b := ⟨_, rfl⟩
            obtain ⟨b2, hb2⟩ : ∃ b, (x.toList == [46]) = b := ⟨_, rfl⟩
            obtain ⟨b3, hb3⟩ : ∃ b, (x.toList == [46, 46]) = b := ⟨_, rfl⟩
            obtain ⟨b4, hb4⟩ : ∃ b, nameB x = b := ⟨_, rfl⟩
            have HSK := hid (show skipB x = (b1 || b2) by unfold skipB; rw [hb1, hb2])
            have HBD := hid (show badB x = (!b3 && !b4) by unfold badB; rw [hb3, hb4])
            have KN := hid (fun w hs => name_Right x hxs b4 hb4 h2 w hs)
            clear hx hb4
            cases b1
            · cases b2
              · cases b3
                · cases b4
                  · obtain ⟨p1, p2, p3⟩ := parts_none (show partsP s = none by rw [HP.out, hdk.out]; exact keepB_bad HK.out HSK.out HBD.out)
                    have P := hid (And.intro p1 (And.intro p2 p3))
                    clear p1 p2 p3 O
                    go_wp2_with fail
                    refine (KN.out _ E.sits).mono ?_
                    rintro e w3 ⟨rfl, F3⟩
                    have E3 := E.trans F3
                    go_wp2_with fail
                    go_ret3
                    exact ⟨.slice none 0 0, by rw [P.out.2.1, P.out.2.2]; rfl, by rw [P.out.1]; exact OwnL.nil _ _ _ _, E3.back⟩
                  · have HK2 := hid (show keepB (xs.take (k + 1)) = some (ks ++ [x]) by rw [htk.out]; exact keepB_keep HK.out HSK.out HBD.out)
                    go_wp2_with fail
                    refine (KN.out _ E.sits).mono ?_
                    rintro e w3 ⟨rfl, F3⟩
                    have E3 := E.trans F3
                    have O3 := O.ext F3
                    have c3 := F3.keep c0
                    clear F3 E O c0
                    go_wp2_with (at_builtin; refine wpList_append1 rfl _ _ 79 rfl w.heap.size 9 16 ty_Str _ _ rfl O3 E3.sits [.string x] x _ rfl ⟨rfl, hxs⟩ (by omega) (by decide) E3.size ?_)
                    intro v1 w4 O4 hg1 _
                    have E4 := E3.grown hg1 (fun k hk => ⟨(O3.lt k hk).1, O3.free k hk⟩)
                    have O5 := hid O4
                    clear O4 hg1 O3
                    go_wp2_with fail
                    go_roundw
                    case rel => exact ⟨k + 1, _, by omega, by go_num, HK2, O5.out, E4⟩
                    case measure => simp [intOf]; omega
                · have HK2 := hid (show keepB (xs.take (k + 1)) = some (ks ++ [x]) by rw [htk.out]; exact keepB_keep HK.out HSK.out HBD.out)
                  go_wp2_with (at_builtin; refine wpList_append1 rfl _ _ 79 rfl w.heap.size 9 16 ty_Str _ _ rfl O E.sits [.string x] x _ rfl ⟨rfl, hxs⟩ (by omega) (by decide) E.size ?_)
                  intro v1 w4 O4 hg1 _
                  have E4 := E.grown hg1 (fun k hk => ⟨(O.lt k hk).1, O.free k hk⟩)
                  have O5 := hid O4
                  clear O4 hg1 O
                  go_wp2_with fail
                  go_roundw
                  case rel => exact ⟨k + 1, _, by omega, by go_num, HK2, O5.out, E4⟩
                  case measure => simp [intOf]; omega
              · have HK2 := hid (show keepB (xs.take (k + 1)) = some ks by rw [htk.out]; exact keepB_skip HK.out HSK.out)
                have O5 := hid O
                clear O
                go_wp2_with fail
                go_roundw
                case rel => exact ⟨k + 1, _, by omega, by go_num, HK2, O5.out, E⟩
                case measure => simp [intOf]; omega
            · have HK2 := hid (show keepB (xs.take (k + 1)) = some ks by rw [htk.out]; exact keepB_skip HK.out HSK.out)
              have O5 := hid O
              clear O
              go_wp2_with fail
              go_roundw
              case rel => exact ⟨k + 1, _, by omega, by go_num, HK2, O5.out, E⟩
              case measure => simp [intOf]; omega
          · obtain rfl : k = xs.length := by omega
            obtain ⟨p1, p2, p3⟩ := parts_some (show partsP s = some ks by rw [HP.out, ← List.take_length (l := xs)]; exact HK.out)
            obtain ⟨c, hc, ht⟩ := byte0 (s := s) (by omega)
            have hi : ∀ w, (Instr.index 9 (.string s) (.int .i64 0)).run Tryd.prog w = .ok (.int .u8 c.toNat) w := fun w => index_str (P := Tryd.prog) 9 Tryd.underlying9 (n := 0) hc .i64 w
            rw [ht, ← byte_eq] at p2
            have P := hid (And.intro p1 (And.intro p2 p3))
            have O5 := hid (O.back_str E2.le)
            have Ed := E.drew
            clear hc ht p1 p2 p3 O
            go_wp2_with fail
            go_region
            all_goals
              go_wp2_with fail
              go_ret3
              exact ⟨_, by rw [P.out.2.1, P.out.2.2]; rfl, by rw [P.out.1]; exact O5.out.drew, Ed.back⟩
theorem RetTri.stay {α : Type} [Enc α] {h : FH} {w : World} {T : TypeId} {xs : List α} {top : Bool} {code : Int} {e : Ending} {w' : World} (R : RetTri h w T xs top code e w') (hlen : xs.length ≤ 9223372036854775807) :
    ∃ A c h1, e = .returned (.tuple #[.slice A xs.length c, .bool top, .int .i64 code]) ∧ xs.length ≤ c ∧ RowAt h1 A xs ∧ Ext h w h1 w' := by
  obtain ⟨v, rfl, O, E⟩ := R
  obtain ⟨A, c, hv, hc⟩ := O.slice
  obtain ⟨h1, A1, c1, hv1, r, l, E1⟩ := O.stay E (Nat.le_refl _) hlen
  subst hv
  simp only [Value.slice.injEq, true_and] at hv1
  obtain ⟨rfl, rfl⟩ := hv1
  exact ⟨A, c, h1, rfl, hc, r, E1⟩
end Go.Proofs.YtdiaibkpcnknbaaDoor
