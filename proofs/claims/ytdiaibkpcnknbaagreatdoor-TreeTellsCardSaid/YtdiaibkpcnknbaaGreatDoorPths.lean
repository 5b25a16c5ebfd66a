import Derived.Test.YtdiaibkpcnknbaaGreatDoorGrw
namespace Go.Proofs.YtdiaibkpcnknbaaGreatDoor
open Go.RowKit Go.Sort
set_option linter.unusedVariables false
theorem OwnL.lit {α : Type} [Enc α] {h : FH} {w : World} (hs : Sits h w) (e : TypeId) (cur : Array Value) (xs : List α) (hr : Reps h cur.toList xs) (hl : xs.length ≤ 1000) : OwnL h (w.alloc (.cells cur e)) w.heap.size e (.slice (some ⟨w.heap.size, 0, none⟩) xs.length xs.length) xs :=
  ⟨⟨cur.toList, ⟨hr.length, .inr ⟨w.heap.size, xs.length, cur, rfl, Nat.le_refl _, heap_alloc_new w _, Nat.le_refl _, by unfold maxLen; omega, by rw [← hr.length, Array.length_toList], by rw [← hr.length, List.take_length]⟩⟩, hr⟩, fun g hg => by simp [Value.ownBlock] at hg; subst hg; exact hs.none (Nat.le_refl _)⟩
theorem reps_strs (h : FH) : ∀ {xs : List ByteArray}, (∀ x ∈ xs, x.size ≤ 9223372036854775807) → Reps h (xs.map Value.string) xs
  | [], _ => rfl
  | x :: xs, hx => ⟨[.string x], xs.map Value.string, rfl, ⟨rfl, hx x (by simp)⟩, reps_strs h fun y hy => hx y (by simp [hy])⟩
def pathsP : List ByteArray := [⟨#[47, 97]⟩, ⟨#[47, 98]⟩, ⟨#[47, 100]⟩, ⟨#[47, 100, 47, 97]⟩, ⟨#[47, 100, 47, 98]⟩, ⟨#[47, 100, 47, 101]⟩, ⟨#[47, 108]⟩, ⟨#[47]⟩, ⟨#[47, 100, 47, 101, 47, 102]⟩, ⟨#[47, 97, 47, 120]⟩, ⟨#[47, 100, 47, 46, 46, 47, 97]⟩, ⟨#[47, 108, 47, 98]⟩, ⟨#[47, 47, 100, 47, 47, 46]⟩, ⟨#[47, 122, 122]⟩]
theorem paths_small : ∀ x ∈ pathsP, x.size ≤ 20 := by decide +kernel
def pathP (s : ByteArray) (k : Int) : ByteArray := if 0 ≤ k ∧ 0 < s.size then s else pathsP.getD (modP k 14).toNat ⟨#[]⟩
set_option maxHeartbeats 2000000 in
set_option maxRecDepth 100000 in
theorem play_Paths (h : FH) (w : World) (hs : Sits h w) : Calls Tryz.prog 8 #[] w fun e w' => RetOwn h w 9 pathsP e w' := by
  go_enter Tryz.func8, Tryz.ntmps8
  go_wp2
  go_ret
  exact ⟨_, rfl, OwnL.lit hs 9 #[.string ⟨#[47, 97]⟩, .string ⟨#[47, 98]⟩, .string ⟨#[47, 100]⟩, .string ⟨#[47, 100, 47, 97]⟩, .string ⟨#[47, 100, 47, 98]⟩, .string ⟨#[47, 100, 47, 101]⟩, .string ⟨#[47, 108]⟩, .string ⟨#[47]⟩, .string ⟨#[47, 100, 47, 101, 47, 102]⟩, .string ⟨#[47, 97, 47, 120]⟩, .string ⟨#[47, 100, 47, 46, 46, 47, 97]⟩, .string ⟨#[47, 108, 47, 98]⟩, .string ⟨#[47, 47, 100, 47, 47, 46]⟩, .string ⟨#[47, 122, 122]⟩] pathsP (reps_strs h (xs := pathsP) fun x hx => Nat.le_trans (paths_small x hx) (by decide)) (by decide), (Ext.refl hs).alloc _⟩
set_option maxHeartbeats 4000000 in
set_option maxRecDepth 100000 in
theorem play_Path (s : ByteArray) (k : Int) (hsz : s.size ≤ 9223372036854775807) (h : FH) (w : World) (hs : Sits h w) : Calls Tryz.prog 13 #[.string s, .int .i64 k] w fun e w' => e = .returned (.string (pathP s k)) ∧ Ext h w h w' := by
  have KP := hid (play_Paths h w hs)
  have HSZ := hid hsz
  go_enter Tryz.func13, Tryz.ntmps13
  go_upto_region 2 with (go_at_call 8; refine KP.out.mono ?_; rintro e w1 ⟨v, rfl, O1, F1⟩; have O1 := hid O1; have F1 := hid F1)
  obtain ⟨h1, A, c, rfl, R1, -, E1, -⟩ := O1.out.stayX F1.out (Nat.le_refl _) (by decide)
  have E1 := hid E1
  by_cases hk : 0 ≤ k
  · by_cases hz : 0 < s.size
    · have HQ := hid (show pathP s k = s from if_pos ⟨hk, hz⟩)
      have hz' : (0 : Int) < (s.size : Int) := by omega
      go_wp2_with fail
      go_ret
      exact ⟨by rw [HQ.out]; rfl, F1.out⟩
    · have HQ := hid (show pathP s k = pathsP.getD (modP k 14).toNat ⟨#[]⟩ from if_neg (fun h => hz h.2))
      have hz' : ¬ (0 : Int) < (s.size : Int) := by omega
      obtain ⟨m, hm⟩ : ∃ m, modP k 14 = m := ⟨_, rfl⟩
      have hr := modP_range k (n := 14) (by decide)
      have KM := hid (play_mod14 k h1 w1 E1.out.sits)
      rw [hm] at KM hr
      rw [hm] at HQ
      obtain ⟨j, rfl⟩ : ∃ j : Nat, m = j := ⟨m.toNat, by omega⟩
      have hj : j < pathsP.length := by show j < 14; omega
      obtain ⟨x, hx⟩ : ∃ x, pathsP[j]? = some x := ⟨_, List.getElem?_eq_getElem hj⟩
      have HX := hid (show pathP s k = x by rw [HQ.out, Int.toNat_natCast, List.getD_eq_getElem?_getD, hx]; rfl)
      obtain ⟨b, off, hix, d0, _⟩ := R1.ixStr hx E1.out.sits c (j : Int) rfl
      have d0 := hid d0
      clear hm hr hj hx R1 HQ KP O1 F1
      go_wp2_with (go_at_call 26; refine KM.out.mono ?_; rintro e w2 ⟨rfl, F2⟩; have E2 := hid (E1.out.trans F2); have d2 := E2.out.sits.cell d0.out)
      go_ret
      exact ⟨by rw [HX.out]; rfl, E2.out.back⟩
  · have HQ := hid (show pathP s k = pathsP.getD (modP k 14).toNat ⟨#[]⟩ from if_neg (fun h => hk h.1))
    obtain ⟨m, hm⟩ : ∃ m, modP k 14 = m := ⟨_, rfl⟩
    have hr := modP_range k (n := 14) (by decide)
    have KM := hid (play_mod14 k h1 w1 E1.out.sits)
    rw [hm] at KM hr
    rw [hm] at HQ
    obtain ⟨j, rfl⟩ : ∃ j : Nat, m = j := ⟨m.toNat, by omega⟩
    have hj : j < pathsP.length := by show j < 14; omega
    obtain ⟨x, hx⟩ : ∃ x, pathsP[j]? = some x := ⟨_, List.getElem?_eq_getElem hj⟩
    have HX := hid (show pathP s k = x by rw [HQ.out, Int.toNat_natCast, List.getD_eq_getElem?_getD, hx]; rfl)
    obtain ⟨b, off, hix, d0, _⟩ := R1.ixStr hx E1.out.sits c (j : Int) rfl
    have d0 := hid d0
    clear hm hr hj hx R1 HQ KP O1 F1
    go_wp2_with (go_at_call 26; refine KM.out.mono ?_; rintro e w2 ⟨rfl, F2⟩; have E2 := hid (E1.out.trans F2); have d2 := E2.out.sits.cell d0.out)
    go_ret
    exact ⟨by rw [HX.out]; rfl, E2.out.back⟩

end Go.Proofs.YtdiaibkpcnknbaaGreatDoor
