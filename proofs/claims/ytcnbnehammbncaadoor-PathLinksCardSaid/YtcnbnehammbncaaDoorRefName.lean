import Derived.Test.YtcnbnehammbncaaDoorName
namespace Go.Proofs.YtcnbnehammbncaaDoor
open Go.RowKit Go.Sort
set_option linter.unusedVariables false
theorem okByte_false {c : UInt8} (h : okByte c = false) : c.toNat = 0 ∨ c.toNat = 47 := by
  unfold okByte at h
  simp at h
  by_cases h0 : c = 0
  · subst h0; exact .inl rfl
  · have := h h0; subst this; exact .inr rfl
theorem okByte_true {c : UInt8} (h : okByte c = true) : ((c.toNat : Int) == 0) = false ∧ ((c.toNat : Int) == 47) = false := by
  unfold okByte at h
  simp at h
  obtain ⟨h0, h1⟩ := h
  refine ⟨?_, ?_⟩
  · simp
    intro e
    exact h0 (UInt8.toNat_inj.1 (by simpa using e))
  · simp
    intro e
    exact h1 (UInt8.toNat_inj.1 (by show c.toNat = 47; omega))
set_option maxHeartbeats 2000000 in
theorem ref_RightName (s : ByteArray) (hsz : s.size ≤ 9223372036854775807) (t : Bool) (ht : nameB s = t) (h : FH) (w : World) (hs : Sits h w) :
    Calls Tryd.prog 24 #[.string s] w fun e w' => e = .returned (.bool t) ∧ Ext h w h w' := by
  have HT := hid ht
  have E2 := Ext.refl hs
  clear ht
  go_enter Tryd.func24, Tryd.ntmps24
  go_wp2_with fail
  go_loop [3] (fun i => ∃ k : Nat, k ≤ s.size ∧ i = .int .i64 k ∧ Hid ((s.data.toList.take k).all okByte = true)) (fun i => s.size - (intOf i).toNat)
  case atStart => exact ⟨0, Nat.zero_le _, rfl, rfl⟩
  case round =>
    obtain ⟨k, hk, rfl, HN⟩ := hrel
    by_cases hlt : k < s.size
    · obtain ⟨c, hc⟩ : ∃ c, s.data[k]? = some c := ⟨s.data[k]'hlt, Array.getElem?_eq_getElem _⟩
      have HCH := hid hc
      have hidx := fun w => index_str 9 Tryd.underlying9 hc .i64 w
      have hc0 : (0 : Int) ≤ c.toNat := by omega
      have HST := hid (take_all_step HN.out hc)
      clear hc
      obtain ⟨q, hq⟩ : ∃ q, okByte c = q := ⟨_, rfl⟩
      have HQ := hid hq
      cases q
      · have HF := hid (show nameB s = false from nameB_bad HCH.out HQ.out)
        rcases okByte_false hq with e | e
        · rw [e] at hidx
          clear hq e
          go_wp2
          go_ret
          exact ⟨ret_bool (by rw [← HT.out, HF.out]), E2⟩
        · rw [e] at hidx
          clear hq e
          go_wp2
          go_ret
          exact ⟨ret_bool (by rw [← HT.out, HF.out]), E2⟩
      · obtain ⟨e0, e1⟩ := okByte_true hq
        clear hq
        go_wp2
        go_round
        case rel => exact ⟨k + 1, by omega, by go_num, HST.out HQ.out⟩
        case measure => simp [intOf]; omega
    · obtain rfl : k = s.size := by omega
      have HB2 := hid (show bytesOk s = true by have h1 := HN.out; rwa [List.take_of_length_le (by simp)] at h1)
      go_wp2
      all_goals
        go_ret
        exact ⟨ret_bool (by rw [← HT.out]; unfold nameB; rw [HB2.out]; simp [*] <;> omega), E2⟩
end Go.Proofs.YtcnbnehammbncaaDoor
