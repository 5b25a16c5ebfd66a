import Derived.Test.YtkglaofiencfdaaPartsAll
namespace Go.Proofs.Ytkglaofiencfdaa
open Go.RowKit Go.Sort
set_option linter.unusedVariables false
/-! ### the reference's Parts, Split; name.Split -/
def mkB (l : List UInt8) : ByteArray := ⟨l.toArray⟩
theorem splitB_map (s : ByteArray) : splitB s = (splitL s.data.toList).map mkB := rfl
theorem extract_mk {s : ByteArray} {f k : Nat} (hk : k ≤ s.size) : s.extract f k = mkB ((s.data.toList.drop f).take (k - f)) := by
  obtain ⟨⟨l⟩⟩ := s
  apply ByteArray.ext
  rw [ByteArray.data_extract]
  apply Array.toList_inj.1
  simp [mkB]
/-- So far: the parts that are done, and where the next one begins. -/
def St (L : List UInt8) (k f : Nat) (ps : List ByteArray) : Prop :=
  (k ≤ L.length → f ≤ k ∧ (splitL L).map mkB = ps ++ (splitL (L.drop f)).map mkB ∧ ∀ c ∈ (L.drop f).take (k - f), c ≠ 47) ∧ (k = L.length + 1 → (splitL L).map mkB = ps)
theorem St.start (L : List UInt8) : St L 0 0 [] := ⟨fun _ => ⟨Nat.le_refl _, by simp, by simp⟩, fun h => by omega⟩
theorem St.next {L : List UInt8} {k f : Nat} {ps : List ByteArray} (h : St L k f ps) {c : UInt8} (hc : L[k]? = some c) (hn : c ≠ 47) : St L (k + 1) f ps := by
  have hk := (List.getElem?_eq_some_iff.1 hc).1
  obtain ⟨h1, h2, h3⟩ := h.1 (by omega)
  refine ⟨fun _ => ⟨by omega, h2, fun d hd => ?_⟩, fun e => by omega⟩
  rw [show k + 1 - f = (k - f) + 1 by omega, List.take_add_one, List.getElem?_drop, show f + (k - f) = k by omega, hc] at hd
  rcases List.mem_append.1 hd with hd | hd
  · exact h3 d hd
  · simp at hd; subst hd; exact hn
theorem St.part {L : List UInt8} {k f : Nat} {ps : List ByteArray} (h : St L k f ps) (hc : L[k]? = some 47) : St L (k + 1) (k + 1) (ps ++ [mkB ((L.drop f).take (k - f))]) ∧ ∃ ys, (splitL L).map mkB = ps ++ mkB ((L.drop f).take (k - f)) :: ys := by
  obtain ⟨hk, he⟩ := List.getElem?_eq_some_iff.1 hc
  obtain ⟨h1, h2, h3⟩ := h.1 (by omega)
  have e : L.drop f = (L.drop f).take (k - f) ++ 47 :: L.drop (k + 1) := by
    conv => lhs; rw [← List.take_append_drop (k - f) (L.drop f)]
    rw [List.drop_drop, show f + (k - f) = k by omega, List.drop_eq_getElem_cons hk, he]
  have hs : splitL (L.drop f) = (L.drop f).take (k - f) :: splitL (L.drop (k + 1)) := by
    conv => lhs; rw [e]
    exact splitL_at _ _ h3
  have h4 : (splitL L).map mkB = ps ++ mkB ((L.drop f).take (k - f)) :: (splitL (L.drop (k + 1))).map mkB := by rw [h2, hs]; rfl
  exact ⟨⟨fun _ => ⟨Nat.le_refl _, by rw [h4]; simp, by simp⟩, fun e => by omega⟩, _, h4⟩
theorem St.last {L : List UInt8} {f : Nat} {ps : List ByteArray} (h : St L L.length f ps) : St L (L.length + 1) (L.length + 1) (ps ++ [mkB ((L.drop f).take (L.length - f))]) ∧ ∃ ys, (splitL L).map mkB = ps ++ mkB ((L.drop f).take (L.length - f)) :: ys := by
  obtain ⟨h1, h2, h3⟩ := h.1 (Nat.le_refl _)
  have e : (L.drop f).take (L.length - f) = L.drop f := List.take_of_length_le (by simp)
  rw [e] at h3 ⊢
  have h4 : (splitL L).map mkB = ps ++ [mkB (L.drop f)] := by rw [h2, splitL_none _ h3]; rfl
  exact ⟨⟨fun hk => by omega, fun _ => h4⟩, [], h4⟩
set_option maxHeartbeats 8000000 in
set_option maxRecDepth 100000 in
theorem ref_Parts (s : ByteArray) (hsz : s.size ≤ 9223372036854775807) (h : FH) (w : World) (hs : Sits h w) :
    Calls Try.prog 87 #[.string s] w fun e w' => RetTri h w 9 (partsXs s) (partsTop s) (partsCode s) e w' := by
  by_cases h0 : s.size < 1
  · obtain ⟨p1, p2, p3⟩ := parts_none (show partsP s = none by unfold partsP; rw [if_pos (.inl h0)])
    have P := hid (And.intro p1 (And.intro p2 p3))
    clear p1 p2 p3
    have d0 : decide ((s.size : Int) < 1) = true := by simp; omega
    go_enter Try.func87, Try.ntmps87
    go_wp2_with fail
    go_ret3
    exact ⟨.slice none 0 0, by rw [P.out.2.1, P.out.2.2]; rfl, by rw [P.out.1]; exact OwnL.nil _ _ _ _, Ext.refl hs⟩
  · have d0 : decide ((s.size : Int) < 1) = false := by simp; omega
    by_cases h1 : 400 < s.size
    · obtain ⟨p1, p2, p3⟩ := parts_none (show partsP s = none by unfold partsP; rw [if_pos (.inr h1)])
      have P := hid (And.intro p1 (And.intro p2 p3))
      clear p1 p2 p3
      go_enter Try.func87, Try.ntmps87
      go_wp2_with fail
      go_ret3
      exact ⟨.slice none 0 0, by rw [P.out.2.1, P.out.2.2]; rfl, by rw [P.out.1]; exact OwnL.nil _ _ _ _, Ext.refl hs⟩
    · have HP := hid (show partsP s = keepB ((splitL s.data.toList).map mkB) by unfold partsP; rw [if_neg (by omega)]; rfl)
      have hlen : s.data.toList.length = s.size := Array.length_toList
      have HLN := hid hlen
      clear hlen d0
      have hs400 : s.size ≤ 400 := by omega
      have hs1 : 1 ≤ s.size := by omega
      go_enter Try.func87, Try.ntmps87
      go_wp2_with fail
      go_loopw [5, 6, 7] (fun lv fv iv wr => ∃ (k f : Nat) (ps ks : List ByteArray), k ≤ s.size + 1 ∧ f ≤ k ∧ ps.length ≤ k ∧ iv = .int .i64 k ∧ fv = .int .i64 f ∧ Hid (keepB ps = some ks) ∧ Hid (St s.data.toList k f ps) ∧ OwnL h wr w.heap.size 9 lv ks ∧ Ext h w h wr) (fun _ _ iv _ => 402 - (intOf iv).toNat)
      case atStart => exact ⟨0, 0, [], [], Nat.zero_le _, Nat.le_refl _, Nat.le_refl _, rfl, rfl, hid rfl, hid (St.start _), OwnL.nil _ _ _ _, Ext.refl hs⟩
      case round =>
        obtain ⟨k, f, ps, ks, hk, hfk, hpk, rfl, rfl, HK, HS, O, E⟩ := hrel
        have hkl := keepB_len HK.out
        by_cases hle : k ≤ s.size
        · by_cases hlt : k < s.size
          · obtain ⟨c, hc⟩ : ∃ c, s.data[k]? = some c := ⟨s.data[k]'hlt, Array.getElem?_eq_getElem _⟩
            have hi : ∀ w, (Instr.index 9 (.string s) (.int .i64 k)).run Try.prog w = .ok (.int .u8 c.toNat) w := fun w => index_str (P := Try.prog) 9 Try.underlying9 hc .i64 w
            have hcL : s.data.toList[k]? = some c := by simpa using hc
            by_cases hq : c = 47
            · subst hq
              obtain ⟨HS2, ys, hys⟩ := HS.out.part hcL
              have HS2 := hid HS2
              have hx := extract_mk (s := s) (f := f) (k := k) hle
              rw [← hx] at HS2 hys
              have HY := hid hys
              have hi : ∀ w, (Instr.index 9 (.string s) (.int .i64 k)).run Try.prog w = .ok (.int .u8 47) w := hi
              have x1 : (f : Int) ≤ (k : Int) := by omega
              have x2 : (k : Int) ≤ (s.size : Int) := by omega
              have x3 : (0 : Int) ≤ (f : Int) := by omega
              clear hc hcL hx hys
              obtain ⟨x, hxx⟩ : ∃ x, x = s.extract f k := ⟨_, rfl⟩
              have hxs : x.size ≤ 9223372036854775807 := by rw [hxx, ByteArray.size_extract]; omega
              obtain ⟨b1, hb1⟩ : ∃ b, (s.extract f k).toList.isEmpty = b := ⟨_, rfl⟩
              obtain ⟨b2, hb2⟩ : ∃ b, ((s.extract f k).toList == [46]) = b := ⟨_, rfl⟩
              obtain ⟨b3, hb3⟩ : ∃ b, ((s.extract f k).toList == [46, 46]) = b := ⟨_, rfl⟩
              obtain ⟨b4, hb4⟩ : ∃ b, nameB x = b := ⟨_, rfl⟩
              have HSK := hid (show skipB x = (b1 || b2) by unfold skipB; rw [hxx, hb1, hb2])
              have HBD := hid (show badB x = (!b3 && !b4) by unfold badB; rw [hb4, hxx, hb3])
              have KN := hid (fun w hs => ref_RightName x hxs b4 hb4 h w hs)
              rw [← hxx] at HS2 HY
              rw [hxx] at KN
              have HX := hid hxx
              clear hb4 hxx
              cases b1
              · cases b2
                · cases b3
                  · cases b4
                    · obtain ⟨p1, p2, p3⟩ := parts_none (show partsP s = none by rw [HP.out, HY.out]; exact keepB_bad HK.out HSK.out HBD.out)
                      have P := hid (And.intro p1 (And.intro p2 p3))
                      clear p1 p2 p3 O
                      go_wp2_with fail
                      refine (KN.out _ E.sits).mono ?_
                      rintro e w3 ⟨rfl, F3⟩
                      have E3 := E.trans F3
                      go_wp2_with fail
                      go_ret3
                      exact ⟨.slice none 0 0, by rw [P.out.2.1, P.out.2.2]; rfl, by rw [P.out.1]; exact OwnL.nil _ _ _ _, E3⟩
                    · have HK2 := hid (keepB_keep HK.out HSK.out HBD.out)
                      go_wp2_with fail
                      refine (KN.out _ E.sits).mono ?_
                      rintro e w3 ⟨rfl, F3⟩
                      have E3 := E.trans F3
                      have O3 := O.ext F3
                      clear F3 E O
                      go_wp2_with (at_builtin; refine wpList_append1 rfl _ _ 95 rfl w.heap.size 9 16 ty_Str _ _ rfl O3 E3.sits [.string (s.extract f k)] (s.extract f k) _ rfl ⟨rfl, by rw [← HX.out]; exact hxs⟩ (by omega) (by decide) E3.size ?_)
                      intro v1 w4 O4 hg1 _
                      have E4 := E3.grown hg1 (fun k hk => ⟨(O3.lt k hk).1, O3.free k hk⟩)
                      rw [← HX.out] at O4
                      have O5 := hid O4
                      clear O4 hg1 O3
                      go_wp2_with fail
                      go_roundw
                      case rel => exact ⟨k + 1, k + 1, ps ++ [x], _, by omega, by omega, by simp; omega, by go_num, by go_num, HK2, HS2, O5.out, E4⟩
                      case measure => simp [intOf]; omega
                  · have HK2 := hid (keepB_keep HK.out HSK.out HBD.out)
                    go_wp2_with (at_builtin; refine wpList_append1 rfl _ _ 95 rfl w.heap.size 9 16 ty_Str _ _ rfl O E.sits [.string (s.extract f k)] (s.extract f k) _ rfl ⟨rfl, by rw [← HX.out]; exact hxs⟩ (by omega) (by decide) E.size ?_)
                    intro v1 w4 O4 hg1 _
                    have E4 := E.grown hg1 (fun k hk => ⟨(O.lt k hk).1, O.free k hk⟩)
                    rw [← HX.out] at O4
                    have O5 := hid O4
                    clear O4 hg1 O
                    go_wp2_with fail
                    go_roundw
                    case rel => exact ⟨k + 1, k + 1, ps ++ [x], _, by omega, by omega, by simp; omega, by go_num, by go_num, HK2, HS2, O5.out, E4⟩
                    case measure => simp [intOf]; omega
                · have HK2 := hid (keepB_skip HK.out HSK.out)
                  have O5 := hid O
                  clear O
                  go_wp2_with fail
                  go_roundw
                  case rel => exact ⟨k + 1, k + 1, ps ++ [x], ks, by omega, by omega, by simp; omega, by go_num, by go_num, HK2, HS2, O5.out, E⟩
                  case measure => simp [intOf]; omega
              · have HK2 := hid (keepB_skip HK.out HSK.out)
                have O5 := hid O
                clear O
                go_wp2_with fail
                go_roundw
                case rel => exact ⟨k + 1, k + 1, ps ++ [x], ks, by omega, by omega, by simp; omega, by go_num, by go_num, HK2, HS2, O5.out, E⟩
                case measure => simp [intOf]; omega
            · obtain ⟨g1, g2⟩ : ((c.toNat : Int) == 47) = false ∧ ((c.toNat : Int) != 47) = true := by
                have := byte_eq c
                rw [show (c == 47) = false by simpa using hq] at this
                exact ⟨this, by rw [bne, this]; rfl⟩
              have HS2 := hid (HS.out.next hcL hq)
              have O5 := hid O
              clear hc hcL hq O
              go_wp2_with fail
              go_roundw
              case rel => exact ⟨k + 1, f, ps, ks, by omega, by omega, by omega, by go_num, rfl, HK, HS2, O5.out, E⟩
              case measure => simp [intOf]; omega
          · obtain rfl : k = s.size := by omega
            obtain ⟨HS2, ys, hys⟩ := St.last (show St s.data.toList s.data.toList.length f ps by rw [HLN.out]; exact HS.out)
            rw [HLN.out] at HS2 hys
            have HS2 := hid HS2
            have hx := extract_mk (s := s) (f := f) (k := s.size) hle
            rw [← hx] at HS2 hys
            have HY := hid hys
            have x1 : (f : Int) ≤ (s.size : Int) := by omega
            have x2 : (s.size : Int) ≤ (s.size : Int) := by omega
            have x3 : (0 : Int) ≤ (f : Int) := by omega
            clear hx hys
            obtain ⟨x, hxx⟩ : ∃ x, x = s.extract f s.size := ⟨_, rfl⟩
            have hxs : x.size ≤ 9223372036854775807 := by rw [hxx, ByteArray.size_extract]; omega
            obtain ⟨b1, hb1⟩ : ∃ b, (s.extract f s.size).toList.isEmpty = b := ⟨_, rfl⟩
            obtain ⟨b2, hb2⟩ : ∃ b, ((s.extract f s.size).toList == [46]) = b := ⟨_, rfl⟩
            obtain ⟨b3, hb3⟩ : ∃ b, ((s.extract f s.size).toList == [46, 46]) = b := ⟨_, rfl⟩
            obtain ⟨b4, hb4⟩ : ∃ b, nameB x = b := ⟨_, rfl⟩
            have HSK := hid (show skipB x = (b1 || b2) by unfold skipB; rw [hxx, hb1, hb2])
            have HBD := hid (show badB x = (!b3 && !b4) by unfold badB; rw [hb4, hxx, hb3])
            have KN := hid (fun w hs => ref_RightName x hxs b4 hb4 h w hs)
            rw [← hxx] at HS2 HY
            rw [hxx] at KN
            have HX := hid hxx
            clear hb4 hxx
            cases b1
            · cases b2
              · cases b3
                · cases b4
                  · obtain ⟨p1, p2, p3⟩ := parts_none (show partsP s = none by rw [HP.out, HY.out]; exact keepB_bad HK.out HSK.out HBD.out)
                    have P := hid (And.intro p1 (And.intro p2 p3))
                    clear p1 p2 p3 O
                    go_wp2_with fail
                    refine (KN.out _ E.sits).mono ?_
                    rintro e w3 ⟨rfl, F3⟩
                    have E3 := E.trans F3
                    go_wp2_with fail
                    go_ret3
                    exact ⟨.slice none 0 0, by rw [P.out.2.1, P.out.2.2]; rfl, by rw [P.out.1]; exact OwnL.nil _ _ _ _, E3⟩
                  · have HK2 := hid (keepB_keep HK.out HSK.out HBD.out)
                    go_wp2_with fail
                    refine (KN.out _ E.sits).mono ?_
                    rintro e w3 ⟨rfl, F3⟩
                    have E3 := E.trans F3
                    have O3 := O.ext F3
                    clear F3 E O
                    go_wp2_with (at_builtin; refine wpList_append1 rfl _ _ 95 rfl w.heap.size 9 16 ty_Str _ _ rfl O3 E3.sits [.string (s.extract f s.size)] (s.extract f s.size) _ rfl ⟨rfl, by rw [← HX.out]; exact hxs⟩ (by omega) (by decide) E3.size ?_)
                    intro v1 w4 O4 hg1 _
                    have E4 := E3.grown hg1 (fun k hk => ⟨(O3.lt k hk).1, O3.free k hk⟩)
                    rw [← HX.out] at O4
                    have O5 := hid O4
                    clear O4 hg1 O3
                    go_wp2_with fail
                    go_roundw
                    case rel => exact ⟨s.size + 1, s.size + 1, ps ++ [x], _, by omega, by omega, by simp; omega, by go_num, by go_num, HK2, HS2, O5.out, E4⟩
                    case measure => simp [intOf]; omega
                · have HK2 := hid (keepB_keep HK.out HSK.out HBD.out)
                  go_wp2_with (at_builtin; refine wpList_append1 rfl _ _ 95 rfl w.heap.size 9 16 ty_Str _ _ rfl O E.sits [.string (s.extract f s.size)] (s.extract f s.size) _ rfl ⟨rfl, by rw [← HX.out]; exact hxs⟩ (by omega) (by decide) E.size ?_)
                  intro v1 w4 O4 hg1 _
                  have E4 := E.grown hg1 (fun k hk => ⟨(O.lt k hk).1, O.free k hk⟩)
                  rw [← HX.out] at O4
                  have O5 := hid O4
                  clear O4 hg1 O
                  go_wp2_with fail
                  go_roundw
                  case rel => exact ⟨s.size + 1, s.size + 1, ps ++ [x], _, by omega, by omega, by simp; omega, by go_num, by go_num, HK2, HS2, O5.out, E4⟩
                  case measure => simp [intOf]; omega
              · have HK2 := hid (keepB_skip HK.out HSK.out)
                have O5 := hid O
                clear O
                go_wp2_with fail
                go_roundw
                case rel => exact ⟨s.size + 1, s.size + 1, ps ++ [x], ks, by omega, by omega, by simp; omega, by go_num, by go_num, HK2, HS2, O5.out, E⟩
                case measure => simp [intOf]; omega
            · have HK2 := hid (keepB_skip HK.out HSK.out)
              have O5 := hid O
              clear O
              go_wp2_with fail
              go_roundw
              case rel => exact ⟨s.size + 1, s.size + 1, ps ++ [x], ks, by omega, by omega, by simp; omega, by go_num, by go_num, HK2, HS2, O5.out, E⟩
              case measure => simp [intOf]; omega
        · obtain rfl : k = s.size + 1 := by omega
          obtain ⟨p1, p2, p3⟩ := parts_some (show partsP s = some ks by rw [HP.out, HS.out.2 (by rw [HLN.out])]; exact HK.out)
          obtain ⟨c, hc, ht⟩ := byte0 (s := s) hs1
          have hi : ∀ w, (Instr.index 9 (.string s) (.int .i64 0)).run Try.prog w = .ok (.int .u8 c.toNat) w := fun w => index_str (P := Try.prog) 9 Try.underlying9 (n := 0) hc .i64 w
          rw [ht, ← byte_eq] at p2
          have P := hid (And.intro p1 (And.intro p2 p3))
          have O5 := hid O
          have Ed := E.drew
          clear hc ht p1 p2 p3 O hle
          go_wp2_with fail
          go_region
          all_goals
            go_wp2_with fail
            go_ret3
            exact ⟨_, by rw [P.out.2.1, P.out.2.2]; rfl, by rw [P.out.1]; exact O5.out.drew, Ed⟩
/-- A way from the root by its names. -/
def waysP (s : ByteArray) : Option (List ByteArray) := if topB s = true then partsP s else none
def waysXs (s : ByteArray) : List ByteArray := (waysP s).getD []
def waysCode (s : ByteArray) : Int := if (waysP s).isSome = true then 0 else 17
theorem ways_parts (s : ByteArray) : (partsCode s = 17 ∧ waysXs s = [] ∧ waysCode s = 17) ∨ (partsCode s = 0 ∧ partsTop s = false ∧ waysXs s = [] ∧ waysCode s = 17) ∨ (partsCode s = 0 ∧ partsTop s = true ∧ waysXs s = partsXs s ∧ waysCode s = 0) := by
  unfold waysXs waysCode waysP
  cases hp : partsP s with
  | none =>
    obtain ⟨p1, p2, p3⟩ := parts_none hp
    left
    refine ⟨p3, ?_, ?_⟩ <;> (split <;> rfl)
  | some ks =>
    obtain ⟨p1, p2, p3⟩ := parts_some hp
    right
    rw [p1, p2]
    cases topB s with
    | false => exact .inl ⟨p3, rfl, rfl, rfl⟩
    | true => exact .inr ⟨p3, rfl, rfl, rfl⟩
set_option maxHeartbeats 2000000 in
theorem ref_Split (s : ByteArray) (hsz : s.size ≤ 9223372036854775807) (h : FH) (w : World) (hs : Sits h w) :
    Calls Try.prog 57 #[.string s] w fun e w' => RetTup h w 9 (waysXs s) (waysCode s) e w' := by
  have K := hid (ref_Parts s hsz h w hs)
  rcases ways_parts s with ⟨q1, q2, q3⟩ | ⟨q1, q2, q3, q4⟩ | ⟨q1, q2, q3, q4⟩
  · have Q := hid (And.intro q2 q3)
    have K := K.out
    rw [q1] at K
    have K := hid K
    clear q1 q2 q3
    go_enter Try.func57, Try.ntmps57
    go_wp2_with fail
    refine K.out.mono ?_
    rintro e w1 ⟨v, rfl, O, E⟩
    go_wp2_with fail
    go_ret2
    exact ⟨.slice none 0 0, by rw [Q.out.2]; rfl, by rw [Q.out.1]; exact OwnL.nil _ _ _ _, E⟩
  · have Q := hid (And.intro q3 q4)
    have K := K.out
    rw [q1, q2] at K
    have K := hid K
    clear q1 q2 q3 q4
    go_enter Try.func57, Try.ntmps57
    go_wp2_with fail
    refine K.out.mono ?_
    rintro e w1 ⟨v, rfl, O, E⟩
    go_wp2_with fail
    go_ret2
    exact ⟨.slice none 0 0, by rw [Q.out.2]; rfl, by rw [Q.out.1]; exact OwnL.nil _ _ _ _, E⟩
  · have Q := hid (And.intro q3 q4)
    have K := K.out
    rw [q1, q2] at K
    have K := hid K
    clear q1 q2 q3 q4
    go_enter Try.func57, Try.ntmps57
    go_wp2_with fail
    refine K.out.mono ?_
    rintro e w1 ⟨v, rfl, O, E⟩
    have O := hid O
    go_wp2_with fail
    go_ret2
    exact ⟨v, by rw [Q.out.2]; rfl, by rw [Q.out.1]; exact O.out, E⟩
end Go.Proofs.Ytkglaofiencfdaa
