import Derived.Test.YtbnpccilccibkaaPick
import Derived.Test.YtbnpccilccibkaaKeys
namespace Go.Proofs.Ytbnpccilccibkaa
open Go.RowKit Go.Sort
set_option linter.unusedVariables false

/-! ### Partial -/
/-! ### Free -/
def cntFree (xs : List Block) : Int := (xs.filter freeB).length
theorem cntFree_snoc (xs : List Block) (k : Nat) (x : Block) (h : xs[k]? = some x) : cntFree (xs.take (k+1)) = cntFree (xs.take k) + if freeB x = true then 1 else 0 := by
  unfold cntFree
  rw [List.take_add_one, h]
  cases e : freeB x <;> simp [List.filter_append, e]
theorem cntFree_bd (xs : List Block) (k : Nat) (h : xs.length ≤ 9223372036854775807) (hk : k < xs.length) : 0 ≤ cntFree (xs.take k) ∧ cntFree (xs.take k) < 9223372036854775807 := by
  unfold cntFree
  have := List.length_filter_le freeB (xs.take k)
  have h2 : (xs.take k).length ≤ k := by simp; omega
  omega
set_option maxHeartbeats 1000000 in
theorem pick_Free (xs : List Block) (A : Option Addr) (c : Nat) (h : FH) (w : World) (hs : Sits h w) (r : RowAt h A xs) :
    Calls Try.prog 9 #[.slice A xs.length c] w fun e w' => e = .returned (.int .i64 (cntFree xs)) ∧ Ext h w h w' := by
  have hl := r.1
  go_enter Try.func9, Try.ntmps9
  go_wp2
  go_loopw [3, 8] (fun n i wr => ∃ k : Nat, k ≤ xs.length ∧ i = .int .i64 k ∧ n = .int .i64 (cntFree (xs.take k)) ∧ Ext h w h wr) (fun _ i _ => xs.length - (intOf i).toNat)
  case atStart => exact ⟨0, Nat.zero_le _, rfl, rfl, Ext.refl hs⟩
  case round =>
    obtain ⟨k, hk, rfl, rfl, E⟩ := hrel
    by_cases hlt : k < xs.length
    · obtain ⟨x, hx⟩ : ∃ x, xs[k]? = some x := ⟨xs[k], by simp [hlt]⟩
      obtain ⟨b, off, rfl, c0, c1, c2, c3⟩ := r.block hx E.sits
      have HS := hid (cntFree_snoc xs k x hx)
      have hb := cntFree_bd xs k hl hlt
      have HX := hid hx
      clear hx
      go_wp2_with (go_at_call 20; refine (pick_free x _ rfl h _ ((E.sits.alloc _))).mono ?_; rintro e w1 ⟨rfl, E1⟩)
      all_goals
        go_roundw
        case rel => exact ⟨k + 1, by omega, by go_num, by rw [HS.out]; first | (rw [if_pos ‹freeB x = true›]) | (rw [if_neg (by rw [‹freeB x = false›]; simp)]; go_num), (E.alloc _).trans E1⟩
        case measure => simp [intOf]; omega
    · go_wp2
      go_ret
      exact ⟨by rw [List.take_of_length_le (by omega)]; rfl, E⟩

/-! ### Victim -/
def pinsF (l : List Int) (a : Int) : Option Value := if l.count a = 0 then none else some (.int .i64 (l.count a : Nat))
theorem pinsF_getD (l : List Int) (a : Int) : (pinsF l a).getD (.int .i64 0) = .int .i64 (l.count a : Nat) := by
  unfold pinsF
  split
  · rename_i h; rw [h]; rfl
  · rfl
theorem pinsF_snoc (l : List Int) (k : Nat) (x : Int) (hx : l[k]? = some x) (a : Int) : (if a = x then some (Value.int .i64 ((l.take k).count x + 1 : Int)) else pinsF (l.take k) a) = pinsF (l.take (k + 1)) a := by
  unfold pinsF
  rw [List.take_add_one, hx]
  simp only [Option.toList_some, List.count_append]
  by_cases h : a = x
  · subst h; simp
  · have : List.count a [x] = 0 := List.count_eq_zero.2 (by simpa using h)
    simp [this, h]
set_option maxHeartbeats 800000 in
theorem pick_Victim1 (pinned : List Int) (i : Int) (x : Block) (t : Bool) (ht : vicB pinned i x = t) (h : FH) (p bm : Nat) (hp : h.cell ⟨p, 0, none⟩ = some (.map (some bm))) (hm : FMap encI h bm (pinsF pinned)) (w : World) (hs : Sits h w) :
    Calls Try.prog 22 #[.int .i64 i, .agg #[.int .i64 x.prog, .int .i64 x.live, .int .i64 x.era, .bool x.bad], .pointer (some ⟨p, 0, none⟩)] w fun e w' => e = .returned (.bool t) ∧ Ext h w h w' := by
  have E0 := Ext.refl hs
  have c0 := hs.cell hp
  have k0 := keep1 c0
  have hl : ∀ o, (Instr.lookup 53 (.map (some bm)) (.agg #[.int .i64 i]) false).run Try.prog (w.alloc o) = .ok (.int .i64 (pinned.count i : Nat)) (w.alloc o) := fun o => by
    have := ((hm w hs).alloc o).look kt_pick_block Try.underlying53 zero_int i
    rw [pinsF_getD] at this
    exact this
  obtain ⟨a, b, c, d⟩ := x
  subst ht
  clear hp hm
  cases d
  · by_cases h1 : b < a
    · by_cases h2 : pinned.count i = 0
      · have hc : pinned.contains i = false := by simpa [List.count_eq_zero] using h2
        have HC := hid hc
        rw [h2] at hl
        clear hc h2
        go_enter Try.func22, Try.ntmps22
        go_wp2
        go_ret
        exact ⟨ret_bool (by simp only [vicB, HC.out]; simp; omega), E0.alloc _⟩
      · have hc : pinned.contains i = true := by simpa [List.count_eq_zero] using h2
        have HC := hid hc
        clear hc
        have h3 : ((List.count i pinned : Int) == 0) = false := by simpa using h2
        clear h2
        generalize (List.count i pinned : Int) = n at *
        go_enter Try.func22, Try.ntmps22
        go_wp2
        go_ret
        exact ⟨ret_bool (by simp only [vicB, HC.out]; simp), E0.alloc _⟩
    · have h1' : decide (b < a) = false := by simp; omega
      go_enter Try.func22, Try.ntmps22
      go_wp2
      go_ret
      exact ⟨ret_bool (by simp only [vicB, h1']; simp), E0.alloc _⟩
  · go_enter Try.func22, Try.ntmps22
    go_wp2
    go_ret
    exact ⟨ret_bool (by simp [vicB]), E0.alloc _⟩
end Go.Proofs.Ytbnpccilccibkaa
