import Derived.Test.YtmljcjjhakhjaaaDoorEntMap
import Derived.Test.YtmljcjjhakhjaaaDoorRefAdd
import Derived.Test.YtmljcjjhakhjaaaDoorCore
namespace Go.Proofs.YtmljcjjhakhjaaaDoor
open Go.RowKit Go.Sort
set_option linter.unusedVariables false
/-! ### entries.Add: the closure, slices.IndexFunc -/
theorem not_leB (a b : ByteArray) : (!Op.bytesLess a.toList b.toList && !(a.toList == b.toList)) = !leB a b := by unfold leB; rw [Bool.not_or]
set_option maxHeartbeats 1000000 in
theorem entries_Add1 (x : Entry) (s : ByteArray) (t : Bool) (ht : (!leB x.name s) = t) (h : FH) (p : Nat) (hp : h.cell ⟨p, 0, none⟩ = some (.string s)) (w : World) (hs : Sits h w) :
    Calls Tryd.prog 51 #[.agg #[.string x.name, .int .i64 x.no], .pointer (some ⟨p, 0, none⟩)] w fun e w' => e = .returned (.bool t) ∧ Ext h w h w' := by
  have E0 := Ext.refl hs
  have c0 := hs.cell hp
  have k0 := keep1 c0 (.cells #[.string x.name, .int .i64 x.no] 67)
  have HT := hid ((not_leB x.name s).trans ht)
  clear ht
  go_enter Tryd.func51, Tryd.ntmps51
  go_wp2
  go_ret
  exact ⟨ret_bool (by rw [← HT.out]), E0.alloc _⟩
def ixGt (xs : List Entry) (s : ByteArray) : Int := if posE xs s < xs.length then posE xs s else -1
set_option maxHeartbeats 2000000 in
theorem index_gt (xs : List Entry) (A : Option Addr) (c : Nat) (s : ByteArray) (h : FH) (p : Nat) (hp : h.cell ⟨p, 0, none⟩ = some (.string s)) (w : World) (hs : Sits h w) (r : RowAt h A xs) :
    Calls Tryd.prog 50 #[.slice A xs.length c, .func (.func 51) #[] #[.pointer (some ⟨p, 0, none⟩)]] w fun e w' => e = .returned (.int .i64 (ixGt xs s)) ∧ Ext h w h w' := by
  have hl := r.1
  have HP := hid hp
  clear hp
  go_enter Tryd.func50, Tryd.ntmps50
  go_wp2_with fail
  go_loopw [5, 8] (fun s5 i wr => ∃ k : Nat, k ≤ xs.length ∧ i = .int .i64 k ∧ Hid (∀ i y, i < k → xs[i]? = some y → leB y.name s = true) ∧ Ext h w h wr) (fun _ i _ => xs.length - (intOf i).toNat)
  case atStart => exact ⟨0, Nat.zero_le _, rfl, hid (fun i y hi => by omega), Ext.refl hs⟩
  case round =>
    obtain ⟨k, hk, rfl, HN, E⟩ := hrel
    by_cases hlt : k < xs.length
    · obtain ⟨x, hx⟩ : ∃ x, xs[k]? = some x := ⟨xs[k], by simp [hlt]⟩
      obtain ⟨b, off, rfl, c0, c1, hxs⟩ := r.entry hx E.sits
      have HX := hid hx
      clear hx
      obtain ⟨q, hq⟩ : ∃ q, leB x.name s = q := ⟨_, rfl⟩
      have HQ := hid hq
      clear hq
      cases q
      · have HI := hid (show ixGt xs s = (k : Int) by
          unfold ixGt
          rw [posE_at (by omega) HN.out (fun y hy => by rw [HX.out] at hy; cases hy; exact HQ.out), if_pos hlt])
        have K := hid (entries_Add1 x s true (by rw [HQ.out]; rfl) h p HP.out wr E.sits)
        go_wp2_with (go_at_call 51; refine K.out.mono ?_; rintro e w1 ⟨rfl, E1⟩)
        go_ret
        exact ⟨by rw [HI.out]; rfl, E.trans E1⟩
      · have HN2 := hid (show ∀ i y, i < k + 1 → xs[i]? = some y → leB y.name s = true from fun i y hi hy => by
          by_cases hik : i = k
          · subst hik; rw [HX.out] at hy; cases hy; exact HQ.out
          · exact HN.out i y (by omega) hy)
        have K := hid (entries_Add1 x s false (by rw [HQ.out]; rfl) h p HP.out wr E.sits)
        go_wp2_with (go_at_call 51; refine K.out.mono ?_; rintro e w1 ⟨rfl, E1⟩)
        go_roundw
        case rel => exact ⟨k + 1, by omega, by go_num, HN2, E.trans E1⟩
        case measure => simp [intOf]; omega
    · have HI := hid (show ixGt xs s = -1 by
        unfold ixGt
        rw [posE_at (k := xs.length) (Nat.le_refl _) (fun i y hi => HN.out i y (by omega)) (fun y hy => by rw [List.getElem?_eq_none (Nat.le_refl _)] at hy; cases hy), if_neg (by omega)])
      go_wp2_with fail
      go_ret
      exact ⟨by rw [HI.out]; rfl, E⟩
end Go.Proofs.YtmljcjjhakhjaaaDoor
