import Derived.Test.YthffdfcjphohcaaDoorSplit
import Derived.Test.YthffdfcjphohcaaDoorCap
namespace Go.Proofs.YthffdfcjphohcaaDoor
open Go.RowKit Go.Sort
set_option linter.unusedVariables false
/-! ### name.Parts, name.Split -/
theorem ty_Str : TyOk Tryd.prog 23 9 (Enc.sz ByteArray) 16 := TyOk.mk' (z := .string ⟨#[]⟩) Tryd.underlying23 (by kernel_rfl) rfl
def RetTri {α : Type} [Enc α] (h : FH) (w : World) (T : TypeId) (xs : List α) (top : Bool) (code : Int) (e : Ending) (w' : World) : Prop := ∃ v, e = .returned (.tuple #[v, .bool top, .int .i64 code]) ∧ OwnL h w' w.heap.size T v xs ∧ Ext h w h w'
def partsXs (s : ByteArray) : List ByteArray := (partsP s).getD []
def partsTop (s : ByteArray) : Bool := (partsP s).isSome && topB s
def partsCode (s : ByteArray) : Int := if (partsP s).isSome = true then 0 else 17
theorem parts_none {s : ByteArray} (h : partsP s = none) : partsXs s = [] ∧ partsTop s = false ∧ partsCode s = 17 := by
  unfold partsXs partsTop partsCode; rw [h]; exact ⟨rfl, rfl, rfl⟩
theorem parts_some {s : ByteArray} {ks : List ByteArray} (h : partsP s = some ks) : partsXs s = ks ∧ partsTop s = topB s ∧ partsCode s = 0 := by
  unfold partsXs partsTop partsCode; rw [h]; exact ⟨rfl, rfl, rfl⟩
theorem indexByte_none : ∀ (l : List UInt8) (c : UInt8), c ∉ l → Lib.indexByte l c = -1
  | [], _, _ => rfl
  | b :: l, c, h => by
    unfold Lib.indexByte
    have hb : (b == c) = false := by rw [beq_eq_false_iff_ne]; intro e; exact h (by simp [e])
    rw [hb, indexByte_none l c (fun e => h (by simp [e]))]; rfl
theorem indexByte_some : ∀ (l : List UInt8) (c : UInt8), c ∈ l → 0 ≤ Lib.indexByte l c
  | [], _, h => by cases h
  | b :: l, c, h => by
    unfold Lib.indexByte
    by_cases hb : (b == c) = true
    · rw [if_pos hb]; decide
    · rw [if_neg hb]
      have hc : c ∈ l := by
        rcases List.mem_cons.1 h with rfl | h
        · simp at hb
        · exact h
      have ih := indexByte_some l c hc
      have : (Lib.indexByte l c == -1) = false := by rw [beq_eq_false_iff_ne]; omega
      rw [this]
      simp; omega
theorem extern_index0 (s : ByteArray) (w : World) : (callFunc 23 #[.string s, .int .u8 0]).run Tryd.prog w = .ok (.value (.int .i64 (Lib.indexByte s.data.toList 0))) w := by
  rw [run_callFunc_extern (P := Tryd.prog) (f := 23) (e := Extern.BytealgIndexByte.indexByte) Tryd.func23 (by kernel_rfl) (by kernel_rfl) (by kernel_rfl) (by kernel_rfl), run_indexByte_string, ← Lib.firstIdx_eq]
  rfl
theorem strings_Index0 (s : ByteArray) (v : Int) (hv : Lib.indexByte s.data.toList 0 = v) (h : FH) (w : World) (hs : Sits h w) :
    Calls Tryd.prog 16 #[.string s, .int .u8 0] w fun e w' => e = .returned (.int .i64 v) ∧ Ext h w h w' := by
  have hx := fun w => extern_index0 s w
  rw [hv] at hx
  go_enter Tryd.func16, Tryd.ntmps16
  go_wp2
  go_ret
  exact ⟨rfl, Ext.refl hs⟩
theorem empty_iff (s : ByteArray) : s.toList.isEmpty = decide (s.size < 1) := by
  rw [ByteArray.toList_eq]
  obtain ⟨⟨l⟩⟩ := s
  cases l <;> simp [ByteArray.size]
theorem RetOwn.stay {α : Type} [Enc α] {h : FH} {w : World} {T : TypeId} {xs : List α} {e : Ending} {w' : World} (R : RetOwn h w T xs e w') (hlen : xs.length ≤ 9223372036854775807) :
    ∃ A c h1, e = .returned (.slice A xs.length c) ∧ xs.length ≤ c ∧ RowAt h1 A xs ∧ Ext h w h1 w' := by
  obtain ⟨v, rfl, O, E⟩ := R
  obtain ⟨A, c, hv, hc⟩ := O.slice
  obtain ⟨h1, A1, c1, hv1, r, l, E1⟩ := O.stay E (Nat.le_refl _) hlen
  subst hv
  simp only [Value.slice.injEq, true_and] at hv1
  obtain ⟨rfl, rfl⟩ := hv1
  exact ⟨A, c, h1, rfl, hc, r, E1⟩
theorem Reps.str_any {h h' : FH} : ∀ {cells : List Value} {xs : List ByteArray}, Reps h cells xs → Reps h' cells xs
  | _, [], r => r
  | _, _ :: _, ⟨cs, rest, e, r, t⟩ => ⟨cs, rest, e, r, t.str_any⟩
theorem OwnL.back_str {h h2 : FH} {w : World} {base : Nat} {e : TypeId} {v : Value} {xs : List ByteArray} (o : OwnL h2 w base e v xs) (l : FLe h h2) : OwnL h w base e v xs := by
  obtain ⟨c, a, b⟩ := o.own
  refine ⟨⟨c, a, b.str_any⟩, fun g hg => ?_⟩
  cases e : h g with
  | none => rfl
  | some x => have := l _ _ e; rw [o.free g hg] at this; cases this
theorem byte0 {s : ByteArray} (h : 1 ≤ s.size) : ∃ c, s.data[0]? = some c ∧ topB s = (c == 47) := by
  obtain ⟨⟨l⟩⟩ := s
  cases l with
  | nil => simp [ByteArray.size] at h
  | cons c cs => exact ⟨c, rfl, by unfold topB; simp⟩
theorem byte_eq (c : UInt8) : ((c.toNat : Int) == 47) = (c == 47) := by
  rw [Bool.eq_iff_iff, beq_iff_eq, beq_iff_eq, ← UInt8.toNat_inj]
  show (c.toNat : Int) = 47 ↔ c.toNat = 47
  omega
set_option maxHeartbeats 4000000 in
set_option maxRecDepth 100000 in
theorem name_Parts (s : ByteArray) (hsz : s.size ≤ 9223372036854775807) (h : FH) (w : World) (hs : Sits h w) :
    Calls Tryd.prog 11 #[.string s] w fun e w' => RetTri h w 9 (partsXs s) (partsTop s) (partsCode s) e w' := by
  have he := empty_iff s
  by_cases h0 : s.size < 1
  · obtain ⟨p1, p2, p3⟩ := parts_none (show partsP s = none by unfold partsP; rw [if_pos (.inl h0)])
    have he : s.toList.isEmpty = true := by rw [he]; simpa using h0
    have P := hid (And.intro p1 (And.intro p2 p3))
    clear p1 p2 p3
    go_enter Tryd.func11, Tryd.ntmps11
    go_wp2_with fail
    go_ret3
    exact ⟨.slice none 0 0, by rw [P.out.2.1, P.out.2.2]; rfl, by rw [P.out.1]; exact OwnL.nil _ _ _ _, Ext.refl hs⟩
  · have he : s.toList.isEmpty = false := by rw [he]; simpa using h0
    by_cases h1 : 400 < s.size
    · obtain ⟨p1, p2, p3⟩ := parts_none (show partsP s = none by unfold partsP; rw [if_pos (.inr h1)])
      have P := hid (And.intro p1 (And.intro p2 p3))
      clear p1 p2 p3
      go_enter Tryd.func11, Tryd.ntmps11
      go_wp2_with fail
      go_ret3
      exact ⟨.slice none 0 0, by rw [P.out.2.1, P.out.2.2]; rfl, by rw [P.out.1]; exact OwnL.nil _ _ _ _, Ext.refl hs⟩
    · by_cases hz : (0 : UInt8) ∈ s.data.toList
      · obtain ⟨p1, p2, p3⟩ := parts_none (show partsP s = none by unfold partsP; rw [if_neg (by omega)]; exact parts_zero hz)
        have P := hid (And.intro p1 (And.intro p2 p3))
        have hv := indexByte_some _ _ hz
        obtain ⟨v, hv2⟩ : ∃ v, Lib.indexByte s.data.toList 0 = v := ⟨_, rfl⟩
        rw [hv2] at hv
        have K := hid (strings_Index0 s v hv2 h w hs)
        clear p1 p2 p3 hz hv2
        go_enter Tryd.func11, Tryd.ntmps11
        go_wp2_with fail
        refine K.out.mono ?_
        rintro e w1 ⟨rfl, E1⟩
        go_wp2_with fail
        go_ret3
        exact ⟨.slice none 0 0, by rw [P.out.2.1, P.out.2.2]; rfl, by rw [P.out.1]; exact OwnL.nil _ _ _ _, E1⟩
      · have K := hid (strings_Index0 s (-1) (indexByte_none _ _ hz) h w hs)
        have KS := hid (fun w hs => strings_Split s (by omega) h w hs)
        have HP := hid (show partsP s = keepB (splitB s) by unfold partsP; rw [if_neg (by omega)])
        have hlen := splitB_len s
        have hcnt : s.data.toList.count 47 ≤ s.size := by have := List.count_le_length (a := (47 : UInt8)) (l := s.data.toList); rw [Array.length_toList] at this; exact this
        have hlen2 : (splitB s).length ≤ 401 := by omega
        clear hlen hcnt hz
        go_enter Tryd.func11, Tryd.ntmps11
        go_wp2_with fail
        refine K.out.mono ?_
        rintro e w1 ⟨rfl, E1⟩
        go_wp2_with fail
        refine (KS.out _ E1.sits).mono ?_
        rintro e w2 R
        obtain ⟨A2, c2, h2, rfl, hc2, r2, F2⟩ := R.stay (by omega)
        have E2 := E1.trans F2
        clear R K KS F2
        generalize splitB s = xs at *
        go_wp2_with fail
        go_loopw [5, 23] (fun lv iv wr => ∃ (k : Nat) (ks : List ByteArray), k ≤ xs.length ∧ iv = .int .i64 k ∧ Hid (keepB (xs.take k) = some ks) ∧ OwnL h2 wr w.heap.size 9 lv ks ∧ Ext h w h2 wr) (fun _ iv _ => xs.length - (intOf iv).toNat)
        case atStart => exact ⟨0, [], Nat.zero_le _, rfl, hid rfl, OwnL.nil _ _ _ _, E2⟩
        case round =>
          obtain ⟨k, ks, hk, rfl, HK, O, E⟩ := hrel
          by_cases hlt : k < xs.length
          · obtain ⟨x, hx⟩ : ∃ x, xs[k]? = some x := ⟨xs[k], by simp [hlt]⟩
            obtain ⟨b, off, rfl, c0, hxs⟩ := r2.str hx E.sits
            have htk := hid (show xs.take (k + 1) = xs.take k ++ [x] by rw [List.take_add_one, hx]; rfl)
            have hdk := hid (show xs = xs.take k ++ x :: xs.drop (k + 1) by
              obtain ⟨hk', hx'⟩ := List.getElem?_eq_some_iff.1 hx
              rw [← hx', ← List.drop_eq_getElem_cons hk', List.take_append_drop])
            have hkl := keepB_len HK.out
            rw [List.length_take] at hkl
            obtain ⟨b1, hb1⟩ : ∃ b, x.toList.isEmpty = b := ⟨_, rfl⟩
            obtain ⟨b2, hb2⟩ : ∃ b, (x.toList == [46]) = b := ⟨_, rfl⟩
            obtain ⟨b3, hb3⟩ : ∃ b, (x.toList == [46, 46]) = b := ⟨_, rfl⟩
            obtain ⟨b4, hb4⟩ : ∃ b, nameB x = b := ⟨_, rfl⟩
            have HSK := hid (show skipB x = (b1 || b2) by unfold skipB; rw [hb1, hb2])
            have HBD := hid (show badB x = (!b3 && !b4) by unfold badB; rw [hb3, hb4])
            have KN := hid (fun w hs => name_Right x hxs b4 hb4 h2 w hs)
            clear hx hb4
            cases b1
            · cases b2
              · cases b3
                · cases b4
                  · obtain ⟨p1, p2, p3⟩ := parts_none (show partsP s = none by rw [HP.out, hdk.out]; exact keepB_bad HK.out HSK.out HBD.out)
                    have P := hid (And.intro p1 (And.intro p2 p3))
                    clear p1 p2 p3 O
                    go_wp2_with fail
                    refine (KN.out _ E.sits).mono ?_
                    rintro e w3 ⟨rfl, F3⟩
                    have E3 := E.trans F3
                    go_wp2_with fail
                    go_ret3
                    exact ⟨.slice none 0 0, by rw [P.out.2.1, P.out.2.2]; rfl, by rw [P.out.1]; exact OwnL.nil _ _ _ _, E3.back⟩
                  · have HK2 := hid (show keepB (xs.take (k + 1)) = some (ks ++ [x]) by rw [htk.out]; exact keepB_keep HK.out HSK.out HBD.out)
                    go_wp2_with fail
                    refine (KN.out _ E.sits).mono ?_
                    rintro e w3 ⟨rfl, F3⟩
                    have E3 := E.trans F3
                    have O3 := O.ext F3
                    have c3 := F3.keep c0
                    clear F3 E O c0
                    go_wp2_with (at_builtin; refine wpList_append1 rfl _ _ 23 rfl w.heap.size 9 16 ty_Str _ _ rfl O3 E3.sits [.string x] x _ rfl ⟨rfl, hxs⟩ (by omega) (by decide) E3.size ?_)
                    intro v1 w4 O4 hg1 _
                    have E4 := E3.grown hg1 (fun k hk => ⟨(O3.lt k hk).1, O3.free k hk⟩)
                    have O5 := hid O4
                    clear O4 hg1 O3
                    go_wp2_with fail
                    go_roundw
                    case rel => exact ⟨k + 1, _, by omega, by go_num, HK2, O5.out, E4⟩
                    case measure => simp [intOf]; omega
                · have HK2 := hid (show keepB (xs.take (k + 1)) = some (ks ++ [x]) by rw [htk.out]; exact keepB_keep HK.out HSK.out HBD.out)
                  go_wp2_with (at_builtin; refine wpList_append1 rfl _ _ 23 rfl w.heap.size 9 16 ty_Str _ _ rfl O E.sits [.string x] x _ rfl ⟨rfl, hxs⟩ (by omega) (by decide) E.size ?_)
                  intro v1 w4 O4 hg1 _
                  have E4 := E.grown hg1 (fun k hk => ⟨(O.lt k hk).1, O.free k hk⟩)
                  have O5 := hid O4
                  clear O4 hg1 O
                  go_wp2_with fail
                  go_roundw
                  case rel => exact ⟨k + 1, _, by omega, by go_num, HK2, O5.out, E4⟩
                  case measure => simp [intOf]; omega
              · have HK2 := hid (show keepB (xs.take (k + 1)) = some ks by rw [htk.out]; exact keepB_skip HK.out HSK.out)
                have O5 := hid O
                clear O
                go_wp2_with fail
                go_roundw
                case rel => exact ⟨k + 1, _, by omega, by go_num, HK2, O5.out, E⟩
                case measure => simp [intOf]; omega
            · have HK2 := hid (show keepB (xs.take (k + 1)) = some ks by rw [htk.out]; exact keepB_skip HK.out HSK.out)
              have O5 := hid O
              clear O
              go_wp2_with fail
              go_roundw
              case rel => exact ⟨k + 1, _, by omega, by go_num, HK2, O5.out, E⟩
              case measure => simp [intOf]; omega
          · obtain rfl : k = xs.length := by omega
            obtain ⟨p1, p2, p3⟩ := parts_some (show partsP s = some ks by rw [HP.out, ← List.take_length (l := xs)]; exact HK.out)
            obtain ⟨c, hc, ht⟩ := byte0 (s := s) (by omega)
            have hi : ∀ w, (Instr.index 9 (.string s) (.int .i64 0)).run Tryd.prog w = .ok (.int .u8 c.toNat) w := fun w => index_str (P := Tryd.prog) 9 Tryd.underlying9 (n := 0) hc .i64 w
            rw [ht, ← byte_eq] at p2
            have P := hid (And.intro p1 (And.intro p2 p3))
            have O5 := hid (O.back_str E2.le)
            have Ed := E.drew
            clear hc ht p1 p2 p3 O
            go_wp2_with fail
            go_region
            all_goals
              go_wp2_with fail
              go_ret3
              exact ⟨_, by rw [P.out.2.1, P.out.2.2]; rfl, by rw [P.out.1]; exact O5.out.drew, Ed.back⟩
theorem RetTri.stay {α : Type} [Enc α] {h : FH} {w : World} {T : TypeId} {xs : List α} {top : Bool} {code : Int} {e : Ending} {w' : World} (R : RetTri h w T xs top code e w') (hlen : xs.length ≤ 9223372036854775807) :
    ∃ A c h1, e = .returned (.tuple #[.slice A xs.length c, .bool top, .int .i64 code]) ∧ xs.length ≤ c ∧ RowAt h1 A xs ∧ Ext h w h1 w' := by
  obtain ⟨v, rfl, O, E⟩ := R
  obtain ⟨A, c, hv, hc⟩ := O.slice
  obtain ⟨h1, A1, c1, hv1, r, l, E1⟩ := O.stay E (Nat.le_refl _) hlen
  subst hv
  simp only [Value.slice.injEq, true_and] at hv1
  obtain ⟨rfl, rfl⟩ := hv1
  exact ⟨A, c, h1, rfl, hc, r, E1⟩
end Go.Proofs.YthffdfcjphohcaaDoor
