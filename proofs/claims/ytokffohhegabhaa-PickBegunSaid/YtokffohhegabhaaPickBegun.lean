/- The walk of the law PickBegun: it returns true, and writes nothing that was there. -/
import Derived.Test.YtokffohhegabhaaAwakeP
import Derived.Test.YtokffohhegabhaaPickP
namespace Go.Proofs.Ytokffohhegabhaa
open Go.RowKit Go.Sort
set_option linter.unusedVariables false
theorem ret_val2 {a b : Bool} (h : a = b) : Value.bool a = .bool b := by rw [h]
set_option maxHeartbeats 8000000 in
set_option maxRecDepth 100000 in
theorem PickBegun_walk (xs : List Block) (A : Option Addr) (c : Nat) (pages but : Int) (W : World) (r : RowAt (fhOf W) A xs) :
    Calls Try.prog 6 #[.slice A xs.length c, .int .i64 pages, .int .i64 but] W fun e w' => e = .returned (.bool true) ∧ Ext (fhOf W) W (fhOf W) w' := by
  have hs := Sits.all W
  have hl := r.1
  by_cases hbig : 100 < xs.length
  · go_enter Try.func6, Try.ntmps6
    go_wp2_with (go_at_call 23; refine (law19_awake _ _ hs).mono ?_; rintro e w1 ⟨rfl, E1⟩)
    go_ret
    exact ⟨rfl, E1⟩
  have hle : xs.length ≤ 100 := by omega
  clear hbig
  obtain ⟨a, t1, ha1, ha2, G1⟩ := best_ok (partB pages but) (fun _ _ => false) weak_none xs
  have HA1 := hid ha1
  have HA2 := hid ha2
  clear ha1 ha2
  go_enter Try.func6, Try.ntmps6
  go_wp2_with fail
  refine (pick_Partial xs A c pages but _ _ hs r).mono ?_
  rintro e w1 ⟨rfl, E1⟩
  rw [HA1.out, HA2.out]
  go_wp2_with fail
  go_loopw [9, 10] (fun i s10 wr => ∃ k : Nat, k ≤ xs.length ∧ i = .int .i64 k ∧ Hid (∀ (j : Nat) y, j < k → xs[j]? = some y → partB pages but j y = false) ∧ Ext (fhOf W) W (fhOf W) wr) (fun i _ _ => xs.length - (intOf i).toNat)
  case atStart => exact ⟨0, Nat.zero_le _, rfl, fun j y hj => by omega, E1⟩
  case round =>
    obtain ⟨k, hk, rfl, HN, E⟩ := hrel
    by_cases hlt : k < xs.length
    · obtain ⟨x, hx⟩ : ∃ x, xs[k]? = some x := ⟨xs[k], by simp [hlt]⟩
      obtain ⟨b, off, rfl, c0, c1, c2, c3⟩ := r.block hx E.sits
      have HX := hid hx
      clear hx
      go_upto_region 7 with (fail)
      go_cut [10] (fun s wx => s = .bool (partB pages but k x) ∧ wx = wr)
      case first =>
        as_aux_lemma =>
          cases hb : x.bad
          · rw [hb] at c3
            by_cases h1 : 0 < x.prog
            · by_cases h2 : x.prog < pages
              · by_cases h3 : (k : Int) = but
                · have h3' : ((k : Int) != but) = false := by simp [h3]
                  have H3 := hid h3
                  clear h3
                  go_wp2
                  go_meet
                  exact ⟨ret_val2 (by simp [partB, H3.out]), rfl⟩
                · have h3' : ((k : Int) != but) = true := by simp [h3]
                  go_wp2
                  go_meet
                  exact ⟨ret_val2 (by simp only [partB, hb, h3']; simp; omega), rfl⟩
              · have h2' : decide (x.prog < pages) = false := by simp; omega
                go_wp2
                go_meet
                exact ⟨ret_val2 (by simp only [partB, hb, h2']; simp), rfl⟩
            · have h1' : decide (0 < x.prog) = false := by simp; omega
              have h1'' : decide (1 ≤ x.prog) = false := by simp; omega
              go_wp2
              go_meet
              exact ⟨ret_val2 (by simp only [partB, hb, h1'']; simp), rfl⟩
          · rw [hb] at c3
            go_wp2
            go_meet
            exact ⟨ret_val2 (by simp [partB, hb]), rfl⟩
      case rest =>
        obtain ⟨rfl, rfl⟩ := hcut
        clear c0 c1 c2 c3
        obtain ⟨m, hm⟩ : ∃ t, partB pages but k x = t := ⟨_, rfl⟩
        have HM := hid hm
        rw [hm]
        clear hm
        cases m
        · go_wp2
          go_roundw
          case rel =>
            refine ⟨k + 1, by omega, by go_num, fun j y hj hy => ?_, E⟩
            by_cases hjk : j = k
            · subst hjk; rw [HX.out] at hy; cases hy; exact HM.out
            · exact HN.out j y (by omega) hy
          case measure => simp [intOf]; omega
        · have ht : t1 = true := by
            cases t1
            · have := (G1.no rfl).2 k x HX.out; rw [HM.out] at this; cases this
            · rfl
          subst ht
          have hak : a = k := by
            obtain ⟨y, hy, hy1, hy2⟩ := G1.yes rfl
            have h1 := (hy2 k x HX.out HM.out).2
            have h2 : ¬ k < a := fun h => by have := h1 h; cases this
            have h3 : ¬ a < k := fun h => by have := HN.out a y h hy; rw [hy1] at this; cases this
            omega
          subst hak
          go_wp2_with (go_at_call 23; refine (law19_awake _ _ E.sits).mono ?_; rintro e w1 ⟨rfl, E2⟩)
          go_ret
          exact ⟨rfl, E.trans E2⟩
    · have ht : t1 = false := by
        cases t1
        · rfl
        · obtain ⟨y, hy, hy1, hy2⟩ := G1.yes rfl
          have := HN.out a y (by have := (List.getElem?_eq_some_iff.1 hy).1; omega) hy
          rw [hy1] at this; cases this
      subst ht
      obtain rfl := (G1.no rfl).1
      go_wp2_with (go_at_call 23; refine (law19_awake _ _ E.sits).mono ?_; rintro e w1 ⟨rfl, E2⟩)
      go_ret
      exact ⟨rfl, E.trans E2⟩
end Go.Proofs.Ytokffohhegabhaa
