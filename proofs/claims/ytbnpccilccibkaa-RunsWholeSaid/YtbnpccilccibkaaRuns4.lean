import Derived.Test.YtbnpccilccibkaaRuns3
namespace Go.Proofs.Ytbnpccilccibkaa
open Go.RowKit Go.Sort
set_option linter.unusedVariables false
/-! ### Cut -/
theorem right_from {xs : List Run} (hR : rightB xs = true) : ∀ (k : Nat) (x : Run), xs[k]? = some x → (k : Int) ≤ x.from_
  | 0, x, hx => by
    obtain ⟨x0, _⟩ := (ok1_iff x).1 (rightB_ok1 hR hx)
    exact x0
  | k + 1, x, hx => by
    have hlt := (List.getElem?_eq_some_iff.1 hx).1
    obtain ⟨y, hy⟩ : ∃ y, xs[k]? = some y := ⟨xs[k]'(by omega), List.getElem?_eq_getElem _⟩
    have h1 := right_from hR k y hy
    obtain ⟨_, _, y2, _⟩ := (ok1_iff y).1 (rightB_ok1 hR hy)
    have h2 := (rightB_step hR hy hx).1
    omega
theorem right_len {xs : List Run} (hR : rightB xs = true) : xs.length ≤ 64 := by
  rcases Nat.eq_zero_or_pos xs.length with h | h
  · omega
  · obtain ⟨x, hx⟩ : ∃ x, xs[xs.length - 1]? = some x := ⟨xs[xs.length - 1]'(by omega), List.getElem?_eq_getElem _⟩
    have h1 := right_from hR _ x hx
    obtain ⟨_, _, x2, _, x4, _⟩ := (ok1_iff x).1 (rightB_ok1 hR hx)
    omega
def cut1 (n : Int) (x : Run) : List Run := if x.from_ < n then [⟨x.from_, x.at_, (if n - x.from_ < x.count then n - x.from_ else x.count)⟩] else []
def cutL (xs : List Run) (n : Int) : List Run := xs.flatMap (cut1 n)
theorem cutL_snoc (xs : List Run) (n : Int) (k : Nat) (x : Run) (hx : xs[k]? = some x) : cutL (xs.take (k + 1)) n = cutL (xs.take k) n ++ cut1 n x := by
  unfold cutL
  rw [List.take_add_one, hx]
  simp [List.flatMap_append]
theorem cutL_len (xs : List Run) (n : Int) : (cutL xs n).length ≤ xs.length := by
  unfold cutL
  induction xs with
  | nil => simp
  | cons x xs ih =>
    simp only [List.flatMap_cons, List.length_append, List.length_cons]
    have : (cut1 n x).length ≤ 1 := by unfold cut1; split <;> simp
    omega
def cutR (xs : List Run) (n : Int) : List Run := if rightB xs then cutL xs n else []
set_option maxHeartbeats 4000000 in
theorem runs_Cut (xs : List Run) (A : Option Addr) (c : Nat) (n : Int) (hn : n ≤ 9223372036854775807) (h : FH) (w : World) (hs : Sits h w) (r : RowAt h A xs) :
    Calls Try.prog 14 #[.slice A xs.length c, .int .i64 n] w fun e w' => RetOwn h w 38 (cutR xs n) e w' := by
  have hl := r.1
  obtain ⟨t, ht⟩ : ∃ t, rightB xs = t := ⟨_, rfl⟩
  have K := runs_Right xs A c t ht h w hs r
  cases t
  · have HR := hid (show cutR xs n = [] by unfold cutR; rw [ht]; rfl)
    clear ht
    go_enter Try.func14, Try.ntmps14
    go_wp2_with fail
    refine K.mono ?_
    rintro e w1 ⟨rfl, E1⟩
    go_wp2_with fail
    go_ret
    exact ⟨_, rfl, by rw [HR.out]; exact OwnL.nil _ _ _ _, E1⟩
  · have HP := hid (show cutR xs n = cutL xs n by unfold cutR; rw [ht]; rfl)
    have HR := hid ht
    clear ht
    go_enter Try.func14, Try.ntmps14
    go_wp2_with fail
    refine K.mono ?_
    rintro e w1 ⟨rfl, E1⟩
    clear K
    go_wp2_with fail
    go_loopw [5, 13] (fun s5 i wr => ∃ k : Nat, k ≤ xs.length ∧ i = .int .i64 k ∧ OwnL h wr w.heap.size 38 s5 (cutL (xs.take k) n) ∧ Ext h w h wr) (fun _ i _ => xs.length - (intOf i).toNat)
    case atStart => exact ⟨0, Nat.zero_le _, rfl, OwnL.nil _ _ _ _, E1⟩
    case round =>
      obtain ⟨k, hk, rfl, O, E⟩ := hrel
      by_cases hlt : k < xs.length
      · obtain ⟨x, hx⟩ : ∃ x, xs[k]? = some x := ⟨xs[k], by simp [hlt]⟩
        obtain ⟨b, off, rfl, c0, c1, c2⟩ := r.run hx E.sits
        have HX := hid hx
        obtain ⟨x0, x1, x2, x3, x4, x5⟩ := (ok1_iff x).1 (rightB_ok1 HR.out hx)
        have HS := hid (cutL_snoc xs n k x hx)
        have hle := right_len HR.out
        have hle2 := cutL_len (xs.take k) n
        have hle3 : (xs.take k).length ≤ k := by simp; omega
        have hle4 : (cutL (xs.take k) n).length ≤ 64 := by omega
        clear hle2
        clear hx
        generalize hys : cutL (xs.take k) n = ys at *
        clear hys
        by_cases hfn : x.from_ < n
        · have HC := hid (show cut1 n x = [⟨x.from_, x.at_, (if n - x.from_ < x.count then n - x.from_ else x.count)⟩] by unfold cut1; rw [if_pos hfn])
          clear hle3 HX
          go_upto_region 9 with (fail)
          generalize (if n - x.from_ < x.count then n - x.from_ else x.count) = m at *
          have O2 := O.alloc (.cells #[.int .i64 x.from_, .int .i64 x.at_, .int .i64 m] 38)
          have E2 := E.alloc (.cells #[.int .i64 x.from_, .int .i64 x.at_, .int .i64 m] 38)
          clear c0 c1 c2
          have z0 : (wr.alloc (.cells #[.int .i64 x.from_, .int .i64 x.at_, .int .i64 m] 38)).cell? ⟨wr.heap.size, 0, none⟩ = some (.int .i64 x.from_) := by go_simp
          have z1 : (wr.alloc (.cells #[.int .i64 x.from_, .int .i64 x.at_, .int .i64 m] 38)).cell? ⟨wr.heap.size, 1, none⟩ = some (.int .i64 x.at_) := by go_simp
          have z2 : (wr.alloc (.cells #[.int .i64 x.from_, .int .i64 x.at_, .int .i64 m] 38)).cell? ⟨wr.heap.size, 2, none⟩ = some (.int .i64 m) := by go_simp
          generalize (wr.alloc (.cells #[.int .i64 x.from_, .int .i64 x.at_, .int .i64 m] 38)) = W2 at *
          generalize wr.heap.size = g at *
          clear O E
          go_wp2_with (at_builtin; refine wpList_append1 rfl _ _ 34 rfl w.heap.size 38 24 ty_Run _ _ rfl O2 E2.sits [.int .i64 x.from_, .int .i64 x.at_, .int .i64 m] ⟨x.from_, x.at_, m⟩ _ rfl rfl (by omega) (by decide) E2.size ?_)
          intro v1 w2 O3 hg1 _
          have E3 := E2.grown hg1 (fun k hk => ⟨(O2.lt k hk).1, O2.free k hk⟩)
          have O4 : OwnL h w2 w.heap.size 38 v1 (cutL (xs.take (k + 1)) n) := by rw [HS.out, HC.out]; exact O3
          have O5 := hid O4
          clear O4 O3 hg1
          go_wp2_with fail
          go_roundw
          case rel => exact ⟨k + 1, by omega, by go_num, O5.out, E3⟩
          case measure => simp [intOf]; omega
        · have HC := hid (show cut1 n x = [] by unfold cut1; rw [if_neg hfn])
          have O2 := O.alloc (.cells #[.int .i64 x.from_, .int .i64 x.at_, .int .i64 x.count] 38)
          have E2 := E.alloc (.cells #[.int .i64 x.from_, .int .i64 x.at_, .int .i64 x.count] 38)
          have O3 := hid (show OwnL h _ w.heap.size 38 u5 (cutL (xs.take (k + 1)) n) by rw [HS.out, HC.out, List.append_nil]; exact O2)
          clear O2
          go_wp2_with fail
          go_roundw
          case rel => exact ⟨k + 1, by omega, by go_num, O3.out, E2⟩
          case measure => simp [intOf]; omega
      · obtain rfl : k = xs.length := by omega
        rw [List.take_length] at O
        go_wp2_with fail
        go_ret
        exact ⟨_, rfl, by rw [HP.out]; exact O, E⟩
end Go.Proofs.Ytbnpccilccibkaa
