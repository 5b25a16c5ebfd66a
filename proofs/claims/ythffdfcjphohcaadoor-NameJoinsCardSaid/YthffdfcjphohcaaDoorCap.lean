import Derived.Test.YthffdfcjphohcaaDoorApp
namespace Go.Proofs.YthffdfcjphohcaaDoor
open Go.RowKit Go.Sort Go.DataW
set_option linter.unusedVariables false
/-- What a slice that came in has room for. -/
theorem slice_cap {P : Program} {t e : TypeId} (ht : P.underlying t = some (.slice e)) {H : Type} (enc : TypeId × Value → H) (W : World) (sp : Nat → Bool) (held : Bool) (fuel : Nat) (A : Option Addr) (n c : Nat) (d : DataW H) (ps : List MemPlace)
    (h : DataW.trod enc P W 0 sp held fuel t [.slice A n c] = some (d, ps)) : (A = none → c = 0) ∧ n ≤ c ∧ c ≤ 9223372036854775807 := by
  cases fuel with
  | zero => simp [DataW.trod] at h
  | succ fuel =>
    unfold DataW.trod at h
    rw [ht] at h
    split at h
    all_goals (try (simp_all; done))
    rename_i e' a len cap heq heq2
    split at h
    case isFalse => cases h
    rename_i hb
    simp only [List.cons.injEq, Value.slice.injEq, and_true] at heq2
    obtain ⟨rfl, rfl, rfl⟩ := heq2
    unfold maxLen at hb
    exact ⟨(fun e => by cases e), hb.2.1, by omega⟩
/-- A pair that stays as it is. -/
theorem RetTup.stay {α : Type} [Enc α] {h : FH} {w : World} {T : TypeId} {xs : List α} {code : Int} {e : Ending} {w' : World} (R : RetTup h w T xs code e w') (hlen : xs.length ≤ 9223372036854775807) :
    ∃ A c h1, e = .returned (.tuple #[.slice A xs.length c, .int .i64 code]) ∧ xs.length ≤ c ∧ RowAt h1 A xs ∧ Ext h w h1 w' := by
  obtain ⟨v, rfl, O, E⟩ := R
  obtain ⟨A, c, hv, hc⟩ := O.slice
  obtain ⟨h1, A1, c1, hv1, r, l, E1⟩ := O.stay E (Nat.le_refl _) hlen
  subst hv
  simp only [Value.slice.injEq, true_and] at hv1
  obtain ⟨rfl, rfl⟩ := hv1
  exact ⟨A, c, h1, rfl, hc, r, E1⟩
theorem open_LStr : Opens (List ByteArray) Tryd.prog 23 := Opens.slice Tryd.underlying23 (by kernel_rfl) open_str'
end Go.Proofs.YthffdfcjphohcaaDoor
