import Derived.Test.YtmljcjjhakhjaaaDoorDel2
namespace Go.Proofs.YtmljcjjhakhjaaaDoor
open Go.RowKit Go.Sort
set_option linter.unusedVariables false
/-! ### entries.Remove -/
theorem delete_a {h : FH} {w W0 : World} (E0 : Ext h w h W0) (xs : List Entry) (i : Nat) (hi : i < xs.length) (hbig : xs.length ≤ 1000) (v : Value) (base : Nat) (hb : w.heap.size ≤ base) (O : OwnL h W0 base 67 v xs) :
    Calls Tryd.prog 82 #[v, .int .i64 i, .int .i64 ((i : Int) + 1)] W0 fun e' w' => ∃ v', e' = .returned v' ∧ OwnL h w' w.heap.size 67 v' (xs.take i ++ xs.drop (i + 1)) ∧ Ext h w h w' := by
  refine (delete_Entry xs i hi hbig h W0 base v O).mono ?_
  rintro e' w' ⟨v', rfl, O3, G⟩
  exact ⟨v', rfl, O3.rebase hb, E0.grown G (fun k hk => ⟨Nat.le_trans hb (O.lt k hk).1, O.free k hk⟩)⟩
set_option maxHeartbeats 4000000 in
theorem entries_Remove (xs : List Entry) (A : Option Addr) (c : Nat) (hbig : xs.length ≤ 1000) (s : ByteArray) (hsz : s.size ≤ 9223372036854775807) (h : FH) (w : World) (hs : Sits h w) (r : RowAt h A xs) :
    Calls Tryd.prog 62 #[.slice A xs.length c, .string s] w fun e w' => RetTup h w 67 (remE xs s) (remC xs s) e w' := by
  have hl := r.1
  have KP := hid (entries_places xs A c h w hs r)
  go_enter Tryd.func62, Tryd.ntmps62
  go_wp2_with fail
  refine KP.out.mono ?_
  rintro e w1 ⟨b, rfl, M, hb, E1⟩
  have hlook := M.lookOk kt_entries_key Tryd.underlying115 zero_int s
  cases hf : firstIx xs 0 s with
  | none =>
    have hp : placesE xs 0 s = none := by unfold placesE; rw [List.drop_zero, hf]; rfl
    rw [hp] at hlook
    have HF := hid (show remE xs s = [] by unfold remE; rw [(firstIx_none hf).2])
    have HC := hid (show remC xs s = 11 by unfold remC; rw [(firstIx_none hf).1]; rfl)
    simp only [Option.getD_none, Option.isSome_none, encS] at hlook
    clear hf hp M
    go_wp2_with fail
    go_ret2
    exact ⟨.slice none 0 0, by rw [HC.out]; rfl, by rw [HF.out]; exact OwnL.nil _ _ _ _, E1⟩
  | some j =>
    obtain ⟨_, y, hy, hF, hI⟩ := firstIx_some hf
    rw [Nat.sub_zero] at hy hI
    have hp : placesE xs 0 s = some (.int .i64 (j : Nat)) := by unfold placesE; rw [List.drop_zero, hf]; rfl
    rw [hp] at hlook
    have HF := hid (show remE xs s = xs.take j ++ xs.drop (j + 1) by unfold remE; rw [hI])
    have HC := hid (show remC xs s = 0 by unfold remC; rw [hF]; rfl)
    have hjl := (List.getElem?_eq_some_iff.1 hy).1
    have i1 : (0 : Int) ≤ (j : Int) := by omega
    have i2 : (j : Int) < (xs.length : Int) := by omega
    have i6 : IntKind.i64.wrap ((j : Int) + 1) = (j : Int) + 1 := by rw [IntKind.wrap_i64]; omega
    simp only [Option.getD_some, Option.isSome_some, encS] at hlook
    have KC := hid (fun w hs => clone_Entry xs A c (by omega) h w hs r)
    clear hf hp M hF hy hI
    go_wp2_with fail
    refine (KC.out _ E1.sits).mono ?_
    rintro e w2 ⟨v1, rfl, O1, F1⟩
    have E2 := E1.trans F1
    go_wp2_with fail
    refine (delete_a E2 xs j hjl hbig v1 _ E1.size O1).mono ?_
    rintro e w3 ⟨v2, rfl, O2, E3⟩
    have O2 := hid O2
    go_wp2_with fail
    go_ret2
    exact ⟨_, by rw [HC.out]; rfl, by rw [HF.out]; exact O2.out, E3⟩
end Go.Proofs.YtmljcjjhakhjaaaDoor
