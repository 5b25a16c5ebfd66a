import Derived.Test.YtkglaofiencfdaaCore
namespace Go.Proofs.Ytkglaofiencfdaa
open Go.RowKit Go.Sort
set_option linter.unusedVariables false
theorem contains_snoc (xs : List Int) (k : Nat) (y x : Int) (hy : xs[k]? = some y) : (xs.take (k + 1)).contains x = ((xs.take k).contains x || (y == x)) := by
  rw [List.take_add_one, hy]
  simp only [Option.toList_some, List.contains_eq_any_beq, List.any_append, List.any_cons, List.any_nil, Bool.or_false]
  rw [Bool.beq_comm (a := x) (b := y)]
set_option maxHeartbeats 1000000 in
theorem help_In (xs : List Int) (A : Option Addr) (c : Nat) (x : Int) (t : Bool) (ht : xs.contains x = t) (h : FH) (w : World) (hs : Sits h w) (r : RowAt h A xs) :
    Calls Try.prog 62 #[.slice A xs.length c, .int .i64 x] w fun e w' => e = .returned (.bool t) ∧ Ext h w h w' := by
  have hl := r.1
  subst ht
  go_enter Try.func62, Try.ntmps62
  go_wp2
  go_loopw [5] (fun i wr => ∃ k : Nat, k ≤ xs.length ∧ i = .int .i64 k ∧ Hid ((xs.take k).contains x = false) ∧ Ext h w h wr) (fun i _ => xs.length - (intOf i).toNat)
  case atStart => exact ⟨0, Nat.zero_le _, rfl, by simp [Hid], Ext.refl hs⟩
  case round =>
    obtain ⟨k, hk, rfl, HN, E⟩ := hrel
    by_cases hlt : k < xs.length
    · obtain ⟨y, hy⟩ : ∃ y, xs[k]? = some y := ⟨xs[k], by simp [hlt]⟩
      obtain ⟨b, off, rfl, c0⟩ := r.int hy E.sits
      have HS := hid (contains_snoc xs k y x hy)
      by_cases hyx : y = x
      · have h2 : (y == x) = true := by simp [hyx]
        have hc : xs.contains x = true := by
          rw [List.contains_iff_mem]
          exact hyx ▸ List.mem_of_getElem? hy
        have HC := hid hc
        clear hc hyx hy
        go_wp2
        go_ret
        exact ⟨ret_bool HC.out.symm, E⟩
      · have h2 : (y == x) = false := by simp [hyx]
        clear hyx hy
        go_wp2
        go_roundw
        case rel => exact ⟨k + 1, by omega, by go_num, by unfold Hid; rw [HS.out, HN.out, h2]; rfl, E⟩
        case measure => simp [intOf]; omega
    · have hc : xs.contains x = false := by have := HN.out; rwa [List.take_of_length_le (by omega)] at this
      have HC := hid hc
      clear hc
      go_wp2
      go_ret
      exact ⟨ret_bool HC.out.symm, E⟩
end Go.Proofs.Ytkglaofiencfdaa
