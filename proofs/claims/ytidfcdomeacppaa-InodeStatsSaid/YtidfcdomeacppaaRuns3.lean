import Derived.Test.YtidfcdomeacppaaRuns2
namespace Go.Proofs.Ytidfcdomeacppaa
open Go.RowKit Go.Sort
set_option linter.unusedVariables false
/-! ### Pages, Count -/
def pagesOf (x : Run) : List Int := (List.range x.count.toNat).map fun i => x.at_ + (i : Nat)
def pagesL (xs : List Run) : List Int := xs.flatMap pagesOf
theorem pagesL_snoc (xs : List Run) (k : Nat) (x : Run) (hx : xs[k]? = some x) : pagesL (xs.take (k + 1)) = pagesL (xs.take k) ++ pagesOf x := by
  unfold pagesL
  rw [List.take_add_one, hx]
  simp [List.flatMap_append]
theorem rightB_step {xs : List Run} (hR : rightB xs = true) {k : Nat} {y x : Run} (hy : xs[k]? = some y) (hx : xs[k + 1]? = some x) : y.from_ + y.count ≤ x.from_ ∧ goesB y x = false := by
  have := rightB_at hR (List.getElem?_eq_some_iff.1 hx).1
  simp only [okAt, Bool.and_eq_true, getD_run hx, Nat.add_sub_cancel, getD_run hy] at this
  have h2 := this.2
  simp [okPair] at h2
  exact h2
theorem pages_le {xs : List Run} (hR : rightB xs = true) : ∀ (k : Nat) (x : Run), xs[k]? = some x → ((pagesL (xs.take (k + 1))).length : Int) ≤ x.from_ + x.count
  | 0, x, hx => by
    obtain ⟨x0, x1, x2, x3, x4, x5⟩ := (ok1_iff x).1 (rightB_ok1 hR hx)
    rw [pagesL_snoc xs 0 x hx]
    simp [pagesL, pagesOf]
    omega
  | k + 1, x, hx => by
    obtain ⟨x0, x1, x2, x3, x4, x5⟩ := (ok1_iff x).1 (rightB_ok1 hR hx)
    have hlt := (List.getElem?_eq_some_iff.1 hx).1
    obtain ⟨y, hy⟩ : ∃ y, xs[k]? = some y := ⟨xs[k]'(by omega), List.getElem?_eq_getElem _⟩
    have h1 := pages_le hR k y hy
    have h2 := (rightB_step hR hy hx).1
    rw [pagesL_snoc xs (k + 1) x hx, List.length_append]
    simp [pagesOf]
    omega
theorem pages_lt {xs : List Run} (hR : rightB xs = true) (k : Nat) (x : Run) (hx : xs[k]? = some x) : ((pagesL (xs.take k)).length : Int) + x.count ≤ 64 := by
  obtain ⟨x0, x1, x2, x3, x4, x5⟩ := (ok1_iff x).1 (rightB_ok1 hR hx)
  have h1 := pages_le hR k x hx
  rw [pagesL_snoc xs k x hx, List.length_append] at h1
  simp [pagesOf] at h1
  omega
theorem pagesOf_snoc (x : Run) (j : Nat) : (List.range (j + 1)).map (fun i => x.at_ + (i : Nat)) = (List.range j).map (fun i => x.at_ + ((i : Nat) : Int)) ++ [x.at_ + (j : Int)] := by
  rw [List.range_succ, List.map_append]; rfl
def pagesR (xs : List Run) : List Int := if rightB xs then pagesL xs else []
set_option maxHeartbeats 4000000 in
theorem runs_Pages (xs : List Run) (A : Option Addr) (c : Nat) (h : FH) (w : World) (hs : Sits h w) (r : RowAt h A xs) :
    Calls Try.prog 56 #[.slice A xs.length c] w fun e w' => RetOwn h w 3 (pagesR xs) e w' := by
  have hl := r.1
  obtain ⟨t, ht⟩ : ∃ t, rightB xs = t := ⟨_, rfl⟩
  have K := runs_Right xs A c t ht h w hs r
  cases t
  · have HR := hid (show pagesR xs = [] by unfold pagesR; rw [ht]; rfl)
    clear ht
    go_enter Try.func56, Try.ntmps56
    go_wp2_with fail
    refine K.mono ?_
    rintro e w1 ⟨rfl, E1⟩
    go_wp2_with fail
    go_ret
    exact ⟨_, rfl, by rw [HR.out]; exact OwnL.nil _ _ _ _, E1⟩
  · have HP := hid (show pagesR xs = pagesL xs by unfold pagesR; rw [ht]; rfl)
    have HR := hid ht
    clear ht
    go_enter Try.func56, Try.ntmps56
    go_wp2_with fail
    refine K.mono ?_
    rintro e w1 ⟨rfl, E1⟩
    go_wp2_with fail
    go_loopw [3, 6, 12, 18] (fun s3 s6 i s18 wr => ∃ k : Nat, k ≤ xs.length ∧ i = .int .i64 k ∧ OwnL h wr w.heap.size 3 s3 (pagesL (xs.take k)) ∧ Ext h w h wr) (fun _ _ i _ _ => xs.length - (intOf i).toNat)
    case atStart => exact ⟨0, Nat.zero_le _, rfl, OwnL.nil _ _ _ _, E1⟩
    case round =>
      obtain ⟨k, hk, rfl, O, E⟩ := hrel
      by_cases hlt : k < xs.length
      · obtain ⟨x, hx⟩ : ∃ x, xs[k]? = some x := ⟨xs[k], by simp [hlt]⟩
        obtain ⟨b, off, rfl, c0, c1, c2⟩ := r.run hx E.sits
        have HX := hid hx
        obtain ⟨x0, x1, x2, x3, x4, x5⟩ := (ok1_iff x).1 (rightB_ok1 HR.out hx)
        have HS := hid (pagesL_snoc xs k x hx)
        have hle := pages_lt HR.out k x hx
        clear hx
        generalize hys : pagesL (xs.take k) = ys at *
        clear hys
        have O2 : OwnL h (wr.alloc (.cells #[.int .i64 x.from_, .int .i64 x.at_, .int .i64 x.count] 40)) w.heap.size 3 u3 (ys ++ (List.range 0).map (fun i => x.at_ + ((i : Nat) : Int))) := by simpa using O.alloc _
        have E2 := E.alloc (.cells #[.int .i64 x.from_, .int .i64 x.at_, .int .i64 x.count] 40)
        have z1 : (wr.alloc (.cells #[.int .i64 x.from_, .int .i64 x.at_, .int .i64 x.count] 40)).cell? ⟨wr.heap.size, 1, none⟩ = some (.int .i64 x.at_) := by go_simp
        have z2 : (wr.alloc (.cells #[.int .i64 x.from_, .int .i64 x.at_, .int .i64 x.count] 40)).cell? ⟨wr.heap.size, 2, none⟩ = some (.int .i64 x.count) := by go_simp
        have hne : ∀ k, u3.ownBlock = some k → k ≠ wr.heap.size := fun k hk => by have := (O.lt k hk).2; omega
        have hge : wr.heap.size < (wr.alloc (.cells #[.int .i64 x.from_, .int .i64 x.at_, .int .i64 x.count] 40)).heap.size := by simp
        have HNE := hid hne
        have HGE := hid hge
        clear hge
        generalize hW : (wr.alloc (.cells #[.int .i64 x.from_, .int .i64 x.at_, .int .i64 x.count] 40)) = W2 at O2 E2 z1 z2 HGE
        have HW := hid hW
        clear hW
        go_wp2_with fail
        rw [HW.out]
        generalize hg : wr.heap.size = g at *
        clear hg HW E c0 c1 c2 hne O
        go_loopw [3, 6, 18] (fun s3 s6 j wi => ∃ jn : Nat, (jn : Int) ≤ x.count ∧ j = .int .i64 jn ∧ OwnL h wi w.heap.size 3 s3 (ys ++ (List.range jn).map (fun i => x.at_ + ((i : Nat) : Int))) ∧ Hid (∀ k, s3.ownBlock = some k → k ≠ g) ∧ g < wi.heap.size ∧ Ext h w h wi ∧ wi.cell? ⟨g, 1, none⟩ = some (.int .i64 x.at_)) (fun _ _ j _ => (x.count - intOf j).toNat)
        case atStart => exact ⟨0, by omega, rfl, O2, HNE, HGE.out, E2, z1⟩
        case round =>
          obtain ⟨jn, hj, rfl, O, HN, hgw, E, y1⟩ := hrel
          by_cases hlt2 : (jn : Int) < x.count
          · have hlen : (ys ++ (List.range jn).map (fun i => x.at_ + ((i : Nat) : Int))).length ≤ 64 := by simp; omega
            go_wp2_with (at_builtin; refine wpList_append1 rfl _ _ 43 rfl w.heap.size 3 8 ty_Int _ _ rfl O E.sits [.int .i64 (x.at_ + jn)] (x.at_ + jn) _ rfl rfl (by omega) (by decide) E.size ?_)
            intro v1 w1 O1 hg1 hv1
            have E3 := E.grown hg1 (fun k hk => ⟨(O.lt k hk).1, O.free k hk⟩)
            have y2 := hg1.cell y1 (by intro e; exact HN.out g e.symm rfl)
            have hn2 : ∀ k, v1.ownBlock = some k → k ≠ g := fun k hk => by
              rcases hv1 with h1 | ⟨b, h1, h2⟩
              · exact HN.out k (by rw [← h1]; exact hk)
              · rw [h1] at hk; cases hk; omega
            have HN2 := hid hn2
            have hgw2 : g < w1.heap.size := Nat.lt_of_lt_of_le hgw hg1.size
            rw [← pagesOf_snoc] at O1
            have HO := hid O1
            clear O1 hv1 hn2
            go_wp2_with fail
            go_roundw
            case rel => exact ⟨jn + 1, by omega, by go_num, HO.out, HN2, hgw2, E3, y2⟩
            case measure => simp [intOf]; omega
          · have hje : x.count.toNat = jn := by omega
            have O3 : OwnL h wr w.heap.size 3 u3 (pagesL (xs.take (k + 1))) := by rw [HS.out]; unfold pagesOf; rw [hje]; exact O
            go_wp2_with fail
            go_roundw
            case rel => exact ⟨k + 1, by omega, by go_num, O3, E⟩
            case measure => simp [intOf]; omega
      · obtain rfl : k = xs.length := by omega
        rw [List.take_length] at O
        go_wp2_with fail
        go_ret
        exact ⟨_, rfl, by rw [HP.out]; exact O, E⟩
set_option maxHeartbeats 1000000 in
theorem runs_Count (xs : List Run) (A : Option Addr) (c : Nat) (t : Nat) (ht : (pagesR xs).length = t) (h : FH) (w : World) (hs : Sits h w) (r : RowAt h A xs) :
    Calls Try.prog 40 #[.slice A xs.length c] w fun e w' => e = .returned (.int .i64 (t : Int)) ∧ Ext h w h w' := by
  have K := runs_Pages xs A c h w hs r
  go_enter Try.func40, Try.ntmps40
  go_wp2_with fail
  refine K.mono ?_
  rintro e w1 ⟨v, rfl, O, E1⟩
  obtain ⟨A', c', rfl, hc⟩ := O.slice
  rw [ht]
  go_wp2_with fail
  go_ret
  exact ⟨rfl, E1⟩
end Go.Proofs.Ytidfcdomeacppaa
