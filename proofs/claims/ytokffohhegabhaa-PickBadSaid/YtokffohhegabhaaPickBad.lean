/- The walk of the law PickBad: it returns true, and writes nothing that was there. -/
import Derived.Test.YtokffohhegabhaaAwakeP
import Derived.Test.YtokffohhegabhaaPickP
import Derived.Test.YtokffohhegabhaaTys
namespace Go.Proofs.Ytokffohhegabhaa
open Go.RowKit Go.Sort
set_option linter.unusedVariables false
def badB (x : Block) : Block := { x with bad := true }
theorem getElem?_badTake (xs : List Block) (k : Nat) (x : Block) (hx : xs[k]? = some x) : ((xs.take k).map badB ++ xs.drop k)[k]? = some x := by
  have hk := (List.getElem?_eq_some_iff.1 hx).1
  rw [List.getElem?_append_right (by simp; omega)]
  have hl : ((xs.take k).map badB).length = k := by simp; omega
  rw [hl, List.getElem?_drop]
  simpa using hx
theorem badTake_step (xs : List Block) (k : Nat) (x : Block) (hx : xs[k]? = some x) : ((xs.take k).map badB ++ xs.drop k).set k (badB x) = (xs.take (k + 1)).map badB ++ xs.drop (k + 1) := by
  have hk := (List.getElem?_eq_some_iff.1 hx).1
  have hl : ((xs.take k).map badB).length = k := by simp; omega
  rw [List.set_append, if_neg (by omega), hl, Nat.sub_self, List.drop_eq_getElem_cons hk, List.set_cons_zero, List.take_add_one, hx]
  simp
theorem bad_none (may : Int → Block → Bool) (bet : Block → Block → Bool) (xs : List Block) (hm : ∀ i y, may i (badB y) = false) : bestGo may bet (xs.map badB) xs.length = -1 := by
  apply best_none
  intro j hj
  have hj' : j < xs.length := hj
  rw [List.getD_eq_getElem?_getD, List.getElem?_map, List.getElem?_eq_getElem hj']
  exact hm _ _
theorem bad_free (xs : List Block) : cntFree (xs.map badB) = 0 := by
  unfold cntFree
  rw [List.filter_eq_nil_iff.2 (by intro y hy; obtain ⟨x, _, rfl⟩ := List.mem_map.1 hy; simp [freeB, badB])]
  rfl
set_option maxHeartbeats 8000000 in
set_option maxRecDepth 100000 in
theorem PickBad_walk (xs : List Block) (A : Option Addr) (c : Nat) (pages : Int) (ps : List Int) (B : Option Addr) (d : Nat) (W : World) (r : RowAt (fhOf W) A xs) (rp : RowAt (fhOf W) B ps) :
    Calls Try.prog 7 #[.slice A xs.length c, .int .i64 pages, .slice B ps.length d] W fun e w' => e = .returned (.bool true) ∧ Ext (fhOf W) W (fhOf W) w' := by
  have hs := Sits.all W
  have hl := r.1
  have hlp := rp.1
  by_cases hbig : 100 < xs.length
  · go_enter Try.func7, Try.ntmps7
    go_wp2_with (go_at_call 23; refine (law19_awake _ _ hs).mono ?_; rintro e w1 ⟨rfl, E1⟩)
    go_ret
    exact ⟨rfl, E1⟩
  by_cases hbig2 : 50 < ps.length
  · go_enter Try.func7, Try.ntmps7
    go_wp2_with (go_at_call 23; refine (law19_awake _ _ hs).mono ?_; rintro e w1 ⟨rfl, E1⟩)
    go_ret
    exact ⟨rfl, E1⟩
  have hle : xs.length ≤ 100 := by omega
  have hle2 : ps.length ≤ 50 := by omega
  clear hbig hbig2
  go_enter Try.func7, Try.ntmps7
  go_wp2_with (at_builtin; refine wpList_appendR rfl _ _ 22 rfl W.heap.size 29 32 ty_Block (.slice none 0 0) [] xs rfl (OwnL.nil _ _ _ _) hs A _ c rfl rfl r (by simp; omega) (by decide) (Nat.le_refl _) ?_)
  intro v w1 O hg _
  change OwnL _ _ _ _ _ xs at O
  have E1 := (Ext.refl hs).grown hg (fun k hk => by simp [Value.ownBlock] at hk)
  obtain ⟨A', c', rfl, hc'⟩ := O.slice
  clear hg
  go_wp2_with fail
  go_loopw [8, 28] (fun s8 i wr => ∃ k : Nat, k ≤ xs.length ∧ i = .int .i64 k ∧ OwnL (fhOf W) wr W.heap.size 29 (.slice A' xs.length c') ((xs.take k).map badB ++ xs.drop k) ∧ Ext (fhOf W) W (fhOf W) wr) (fun _ i _ => xs.length - (intOf i).toNat)
  case atStart => exact ⟨0, Nat.zero_le _, rfl, by simpa using O, E1⟩
  case round =>
    obtain ⟨k, hk, rfl, O2, E⟩ := hrel
    have hlen : ((xs.take k).map badB ++ xs.drop k).length = xs.length := by simp; omega
    by_cases hlt : k < xs.length
    · obtain ⟨x, hx⟩ : ∃ x, xs[k]? = some x := ⟨xs[k], by simp [hlt]⟩
      obtain ⟨g, cap, cs, hv, hb, hgl, hgn, hr, hcc, hfz⟩ := O2.get (getElem?_badTake xs k x hx)
      rw [hlen] at hv
      obtain ⟨rfl, rfl⟩ : A' = some ⟨g, 0, none⟩ ∧ c' = cap := by simpa using hv
      have hr : cs = [.int .i64 x.prog, .int .i64 x.live, .int .i64 x.era, .bool x.bad] := hr
      subst hr
      have c3 : wr.cell? ⟨g, k * 4 + 3, none⟩ = some (.bool x.bad) := hcc 3 _ rfl
      have f3 := hfz (k * 4 + 3)
      have O3 := O2.setCell (y := badB x) (j := 3) (u := .bool true) (getElem?_badTake xs k x hx) (by decide) (fun cs hcs => by
        have hcs : cs = [.int .i64 x.prog, .int .i64 x.live, .int .i64 x.era, .bool x.bad] := hcs
        subst hcs; exact (rfl : _ = _))
      rw [badTake_step xs k x hx] at O3
      have O4 := hid O3
      have E4 := E.setCell (p := ⟨g, k * 4 + 3, none⟩) hb hgn (.bool true)
      clear O3 hcc hfz hx hv
      go_wp2_with fail
      go_roundw
      case rel => exact ⟨k + 1, by omega, by go_num, O4.out, E4⟩
      case measure => simp [intOf]; omega
    · obtain rfl : k = xs.length := by omega
      have hlm : xs.length = (xs.map badB).length := by simp
      have O3 : OwnL (fhOf W) wr W.heap.size 29 (.slice A' (xs.map badB).length c') (xs.map badB) := by simpa using O2
      obtain ⟨h1, A1, c1, hv1, _, r1, l1, s1, f1⟩ := O3.freeze E.sits (by simp; omega)
      obtain ⟨rfl, rfl⟩ : A' = A1 ∧ c' = c1 := by simpa using hv1
      have E3 : Ext (fhOf W) W h1 wr := ⟨l1, s1, E.below, f1⟩
      have HB1 := hid (bad_none (fun _ => freeB) younger xs (fun i y => by simp [freeB, badB]))
      have HB2 := hid (bad_none (partB pages (-1)) (fun _ _ => false) xs (fun i y => by simp [partB, badB]))
      have HB3 := hid (bad_none (vicB ps) bestV xs (fun i y => by simp [vicB, badB]))
      have HB4 := hid (bad_free xs)
      have rp1 := rp.mono E3.le
      clear hlm O2 O3 O hlen hv1
      have k1 := fun (w : World) (hs : Sits h1 w) => pick_Fresh (xs.map badB) A' c' h1 w hs r1
      have k2 := fun (w : World) (hs : Sits h1 w) => pick_Partial (xs.map badB) A' c' pages (-1) h1 w hs r1
      have k3 := fun (w : World) (hs : Sits h1 w) => pick_Victim (xs.map badB) A' c' ps B d h1 w hs r1 rp1
      have k4 := fun (w : World) (hs : Sits h1 w) => pick_Free (xs.map badB) A' c' h1 w hs r1
      rw [HB4.out] at k4
      simp only [List.length_map] at k1 k2 k3 k4
      rw [HB1.out] at k1
      rw [HB2.out] at k2
      rw [HB3.out] at k3
      have K1 := hid k1
      have K2 := hid k2
      have K3 := hid k3
      have K4 := hid k4
      clear k1 k2 k3 k4
      go_wp2_with fail
      refine (K1.out _ E3.sits).mono ?_
      rintro e w2 ⟨rfl, E4⟩
      go_wp2_with fail
      refine (K2.out _ E4.sits).mono ?_
      rintro e w3 ⟨rfl, E5⟩
      go_wp2_with fail
      refine (K3.out _ E5.sits).mono ?_
      rintro e w4 ⟨rfl, E6⟩
      go_wp2_with fail
      refine (law19_awake _ _ E6.sits).mono ?_
      rintro e w5 ⟨rfl, E7⟩
      go_wp2_with fail
      refine (K4.out _ E7.sits).mono ?_
      rintro e w6 ⟨rfl, E8⟩
      go_wp2_with fail
      go_ret
      exact ⟨rfl, (((((E3.trans E4).trans E5).trans E6).trans E7).trans E8).back⟩
end Go.Proofs.Ytokffohhegabhaa
