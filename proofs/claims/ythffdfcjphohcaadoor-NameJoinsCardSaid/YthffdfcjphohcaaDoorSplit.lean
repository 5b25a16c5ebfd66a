import Derived.Test.YthffdfcjphohcaaDoorNamePlain
import Derived.Test.YthffdfcjphohcaaDoorApp
import Derived.Test.YthffdfcjphohcaaDoorMapOps
import Derived.Lib.Strings
import Derived.Lib.Walk
namespace Go.Proofs.YthffdfcjphohcaaDoor
open Go.RowKit Go.Sort
set_option linter.unusedVariables false
/-! ### strings.Count, Index at one byte; strings.Split at "/" -/
theorem extern_count (s : ByteArray) (w : World) : (callFunc 29 #[.string s, .int .u8 47]).run Tryd.prog w = .ok (.value (.int .i64 (s.data.toList.count 47 : Nat))) w := by
  rw [run_callFunc_extern Tryd.func29 (by kernel_rfl) (by kernel_rfl) (by kernel_rfl) (e := Extern.BytealgCount.count) (by kernel_rfl), Lib.run_countString]
  rfl
theorem extern_index47 (s : ByteArray) (w : World) : (callFunc 23 #[.string s, .int .u8 47]).run Tryd.prog w = .ok (.value (.int .i64 (Lib.indexByte s.data.toList 47))) w := by
  rw [run_callFunc_extern (P := Tryd.prog) (f := 23) (e := Extern.BytealgIndexByte.indexByte) Tryd.func23 (by kernel_rfl) (by kernel_rfl) (by kernel_rfl) (by kernel_rfl), run_indexByte_string, ← Lib.firstIdx_eq]
  rfl
theorem index_slash (w : World) : (Instr.index 9 (.string ⟨#[47]⟩) (.int .i64 0)).run Tryd.prog w = .ok (.int .u8 47) w := index_str (P := Tryd.prog) 9 Tryd.underlying9 (s := ⟨#[47]⟩) (n := 0) (c := 47) rfl .i64 w
set_option maxHeartbeats 1000000 in
set_option maxRecDepth 100000 in
theorem strings_Count47 (s : ByteArray) (n : Nat) (hn : s.data.toList.count 47 = n) (h : FH) (w : World) (hs : Sits h w) :
    Calls Tryd.prog 25 #[.string s, .string ⟨#[47]⟩] w fun e w' => e = .returned (.int .i64 n) ∧ Ext h w h w' := by
  have hi := index_slash
  have hx := fun w => extern_count s w
  rw [hn] at hx
  go_enter Tryd.func25, Tryd.ntmps25
  go_wp2
  go_ret
  exact ⟨rfl, Ext.refl hs⟩
set_option maxHeartbeats 1000000 in
set_option maxRecDepth 100000 in
theorem strings_Index47 (s : ByteArray) (v : Int) (hv : Lib.indexByte s.data.toList 47 = v) (h : FH) (w : World) (hs : Sits h w) :
    Calls Tryd.prog 26 #[.string s, .string ⟨#[47]⟩] w fun e w' => e = .returned (.int .i64 v) ∧ Ext h w h w' := by
  have hi := index_slash
  have hx := fun w => extern_index47 s w
  rw [hv] at hx
  have HV := hid hv
  clear hv
  cases hq : ([47] == s.toList) with
  | true =>
    have HQ := hid hq
    have hv0 := hid (show v = 0 by
      rw [← HV.out, ← ByteArray.toList_eq, ← beq_iff_eq.1 HQ.out]; rfl)
    go_enter Tryd.func26, Tryd.ntmps26
    go_wp2
    all_goals
      go_ret
      exact ⟨by rw [hv0.out]; rfl, Ext.refl hs⟩
  | false =>
    go_enter Tryd.func26, Tryd.ntmps26
    go_wp2
    all_goals
      go_ret
      exact ⟨rfl, Ext.refl hs⟩
/-! ### genSplit -/
theorem index_parts : ∀ (l : List UInt8), 0 < l.count 47 → ∃ p r, l = p ++ 47 :: r ∧ (∀ c ∈ p, c ≠ 47) ∧ Lib.indexByte l 47 = (p.length : Int)
  | [], h => by simp at h
  | c :: cs, h => by
    by_cases hc : c = 47
    · subst hc
      exact ⟨[], cs, rfl, by simp, by simp [Lib.indexByte]⟩
    · have hb : (c == 47) = false := by simpa using hc
      rw [List.count_cons, hb] at h
      obtain ⟨p, r, h1, h2, h3⟩ := index_parts cs (by simpa using h)
      refine ⟨c :: p, r, by rw [h1]; rfl, fun x hx => ?_, ?_⟩
      · rcases List.mem_cons.1 hx with rfl | hx
        · exact hc
        · exact h2 x hx
      · unfold Lib.indexByte
        rw [hb, h3]
        have : ((p.length : Int) == -1) = false := by rw [beq_eq_false_iff_ne]; omega
        rw [this]
        simp
theorem cut_at {t : ByteArray} {p r : List UInt8} (h : t.data.toList = p ++ 47 :: r) : t.extract 0 p.length = ⟨p.toArray⟩ ∧ t.extract (p.length + 1) t.size = ⟨r.toArray⟩ ∧ t.size = p.length + 1 + r.length := by
  obtain ⟨⟨l⟩⟩ := t
  have h : l = p ++ 47 :: r := h
  subst h
  refine ⟨?_, ?_, ?_⟩
  · apply ByteArray.ext
    rw [ByteArray.data_extract]
    apply Array.toList_inj.1
    simp
  · apply ByteArray.ext
    rw [ByteArray.data_extract]
    apply Array.toList_inj.1
    simp [ByteArray.size]
    exact List.take_of_length_le (by omega)
  · simp [ByteArray.size]; omega
theorem splitB_at {t : ByteArray} {p r : List UInt8} (h : t.data.toList = p ++ 47 :: r) (hp : ∀ c ∈ p, c ≠ 47) : splitB t = ⟨p.toArray⟩ :: splitB ⟨r.toArray⟩ := by
  unfold splitB
  rw [h, splitL_at p r hp]; rfl
theorem splitB_last {t : ByteArray} (h : t.data.toList.count 47 = 0) : splitB t = [t] := by
  unfold splitB
  rw [splitL_none _ (fun c hc e => by subst e; exact absurd (List.count_pos_iff.2 hc) (by omega))]
  simp
set_option maxHeartbeats 4000000 in
set_option maxRecDepth 100000 in
theorem strings_genSplit (s : ByteArray) (hsz : s.size ≤ 1000) (h : FH) (w : World) (hs : Sits h w) :
    Calls Tryd.prog 22 #[.string s, .string ⟨#[47]⟩, .int .i64 0, .int .i64 (-1)] w fun e w' => RetOwn h w 9 (splitB s) e w' := by
  obtain ⟨n, hn⟩ : ∃ n, s.data.toList.count 47 = n := ⟨_, rfl⟩
  have hns : n ≤ s.size := by have := List.count_le_length (a := (47 : UInt8)) (l := s.data.toList); rw [hn, Array.length_toList] at this; exact this
  have KC := hid (strings_Count47 s n hn h w hs)
  have HN := hid hn
  clear hn
  obtain ⟨i, hi, hz0, hz1, hz2⟩ := info_parts (P := Tryd.prog) (e := 9) (z := .string ⟨#[]⟩) (size := Enc.sz ByteArray) (bytes := 16) (by kernel_rfl)
  have HI := hid hi
  clear hi
  have hmin := fun ts t (w : World) => show (Builtin.min_ ts t #[.int .i64 ((n : Int) + 1), .int .i64 ((s.size : Int) + 1)]).run Tryd.prog w = .ok (.int .i64 ((n : Int) + 1)) w by rw [run_min_int2, if_neg (by omega)]
  go_enter Tryd.func22, Tryd.ntmps22
  go_wp2_with fail
  refine KC.out.mono ?_
  rintro e w0 ⟨rfl, E0⟩
  have HW := hid (E0.sits.none (g := w0.heap.size) (Nat.le_refl _))
  have hw0 := E0.size
  go_wp2_with (at_make; refine wpList_make_full _ rfl _ _ 23 rfl w0.heap.size 9 i _ _ Tryd.underlying23 HI.out hz0 hz1 _ _ _ _ (n + 1) rfl rfl rfl rfl (by rw [hz2]; omega) (by unfold maxLen; omega) (Nat.le_refl _) ?_)
  intro w1 O1 hg1
  have E1 := E0.grown hg1 (fun k hk => by cases hk)
  have O2 : OwnL h w1 w0.heap.size 9 (.slice (some ⟨w0.heap.size, 0, none⟩) 0 (n + 1)) ([] : List ByteArray) := ⟨⟨[], own_zero' O1, rfl⟩, fun g hg => by simp [Value.ownBlock] at hg; subst hg; exact HW.out⟩
  clear O1 hg1 KC
  go_wp2_with fail
  go_loopw [0, 10, 11] (fun sv iv mv wr => ∃ (k : Nat) (t : ByteArray) (xs : List ByteArray), sv = .string t ∧ iv = .int .i64 k ∧ k ≤ n ∧ t.size ≤ s.size ∧ xs.length = k ∧ Hid (t.data.toList.count 47 = n - k) ∧ Hid (splitB s = xs ++ splitB t) ∧ OwnL h wr w0.heap.size 9 (.slice (some ⟨w0.heap.size, 0, none⟩) k (n + 1)) xs ∧ Ext h w h wr) (fun _ iv _ _ => n - (intOf iv).toNat)
  case atStart => exact ⟨0, s, [], rfl, rfl, Nat.zero_le _, Nat.le_refl _, rfl, hid (by rw [HN.out]; rfl), hid rfl, O2, E1⟩
  case round =>
    obtain ⟨k, t, xs, rfl, rfl, hk, hts, hxk, HT, HS, O, E⟩ := hrel
    by_cases hlt : k < n
    · obtain ⟨p, r, h1, h2, h3⟩ := index_parts t.data.toList (by rw [HT.out]; omega)
      obtain ⟨c1, c2, c3⟩ := cut_at h1
      have hp2 : p.length ≤ t.size := by omega
      have hcnt := hid (show (⟨r.toArray⟩ : ByteArray).data.toList.count 47 = n - (k + 1) by
        have hc := HT.out
        rw [h1, List.count_append, List.count_eq_zero.2 (fun hm => h2 _ hm rfl), List.count_cons] at hc
        simp at hc ⊢
        omega)
      have HS2 := hid (show splitB s = (xs ++ [⟨p.toArray⟩]) ++ splitB ⟨r.toArray⟩ by rw [HS.out, splitB_at h1 h2]; simp)
      have hrs : (⟨r.toArray⟩ : ByteArray).size ≤ s.size := by
        have : (⟨r.toArray⟩ : ByteArray).size = r.length := by simp [ByteArray.size]
        omega
      have hps : (⟨p.toArray⟩ : ByteArray).size ≤ 9223372036854775807 := by
        have : (⟨p.toArray⟩ : ByteArray).size = p.length := by simp [ByteArray.size]
        omega
      have KI := hid (strings_Index47 t (p.length : Int) h3 h wr E.sits)
      have P := O.push (y := (⟨p.toArray⟩ : ByteArray)) (cs := [.string ⟨p.toArray⟩]) ⟨rfl, hps⟩ (by omega)
      rw [hxk] at P
      obtain ⟨O4, T4⟩ := P
      have C1 := hid c1
      have C2 := hid c2
      have i4 : (p.length : Int) + 1 ≤ (t.size : Int) := by omega
      clear h1 h2 h3 c1 c2 c3 O4 T4
      go_wp2_with fail
      refine KI.out.mono ?_
      rintro e w2 ⟨rfl, E2'⟩
      have E2 := E.trans E2'
      have O' := O.ext E2'
      have P := O'.push (y := (⟨p.toArray⟩ : ByteArray)) (cs := [.string ⟨p.toArray⟩]) ⟨rfl, hps⟩ (by omega)
      rw [hxk] at P
      obtain ⟨O4, T4⟩ := P
      have E4 := Ext.setCells (Nat.le_trans hw0 (Nat.le_refl _)) HW.out [.string ⟨p.toArray⟩] (k * Enc.sz ByteArray) _ E2
      rw [show k * Enc.sz ByteArray = k from Nat.mul_one k] at O4 T4 E4
      obtain ⟨u, hu⟩ := Option.isSome_iff_exists.1 (T4 0 Enc.pos).1
      have hf := (T4 0 Enc.pos).2
      rw [Nat.add_zero] at hu hf
      have O5 := hid O4
      have i0 : (0 : Int) ≤ (k : Int) := by omega
      have i1 : (k : Int) < (n : Int) + 1 := by omega
      clear O4 T4 O O'
      go_wp2_with fail
      go_roundw
      case rel => exact ⟨k + 1, ⟨r.toArray⟩, xs ++ [⟨p.toArray⟩], by rw [C2.out], by go_num, by omega, hrs, by simp [hxk], hcnt, HS2, by rw [C1.out]; exact O5.out, by rw [C1.out]; exact E4⟩
      case measure => simp [intOf]; omega
    · obtain rfl : k = n := by omega
      have HL := hid (show splitB s = xs ++ [t] by rw [HS.out, splitB_last (by rw [HT.out]; omega)])
      have P := O.push (y := t) (cs := [.string t]) ⟨rfl, by omega⟩ (by omega)
      rw [hxk] at P
      obtain ⟨O4, T4⟩ := P
      have E4 := Ext.setCells (Nat.le_trans hw0 (Nat.le_refl _)) HW.out [.string t] (k * Enc.sz ByteArray) _ E
      rw [show k * Enc.sz ByteArray = k from Nat.mul_one k] at O4 T4 E4
      obtain ⟨u, hu⟩ := Option.isSome_iff_exists.1 (T4 0 Enc.pos).1
      have hf := (T4 0 Enc.pos).2
      rw [Nat.add_zero] at hu hf
      have O5 := hid (O4.rebase hw0)
      have i0 : (0 : Int) ≤ (k : Int) := by omega
      have i1 : (k : Int) < (k : Int) + 1 := by omega
      clear O4 T4 O HN
      go_wp2_with fail
      go_ret
      exact ⟨_, rfl, by rw [HL.out]; exact O5.out, E4⟩
theorem strings_Split (s : ByteArray) (hsz : s.size ≤ 1000) (h : FH) (w : World) (hs : Sits h w) :
    Calls Tryd.prog 17 #[.string s, .string ⟨#[47]⟩] w fun e w' => RetOwn h w 9 (splitB s) e w' := by
  have K := hid (strings_genSplit s hsz h w hs)
  go_enter Tryd.func17, Tryd.ntmps17
  go_wp2_with fail
  refine K.out.mono ?_
  rintro e w1 ⟨v, rfl, O, E⟩
  go_wp2_with fail
  go_ret
  exact ⟨v, rfl, O, E⟩
end Go.Proofs.YthffdfcjphohcaaDoor
