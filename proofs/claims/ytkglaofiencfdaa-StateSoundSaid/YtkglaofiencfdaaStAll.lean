import Derived.Test.YtkglaofiencfdaaBox
import Derived.Test.YtkglaofiencfdaaCore
import Derived.Test.YtkglaofiencfdaaApp
import Derived.Lib.AppendZeros
import Derived.Lib.Overlaps
import Derived.Laws.CopyOwn
namespace Go.Proofs.Ytkglaofiencfdaa
open Go.RowKit Go.Sort
set_option linter.unusedVariables false
def ixB {α : Type} (p : α → Bool) (xs : List α) : Int := match xs.findIdx? p with
  | some i => (i : Int)
  | none => -1
theorem ixB_hit {α : Type} {p : α → Bool} {xs : List α} {k : Nat} {x : α} (h : ∀ i y, i < k → xs[i]? = some y → p y = false) (hx : xs[k]? = some x) (hp : p x = true) : ixB p xs = (k : Int) := by
  unfold ixB
  have : xs.findIdx? p = some k := by
    rw [List.findIdx?_eq_some_iff_getElem]
    obtain ⟨hk, he⟩ := List.getElem?_eq_some_iff.1 hx
    exact ⟨hk, by rw [he]; exact hp, fun j hj => by
      have := h j (xs[j]'(by omega)) hj (List.getElem?_eq_getElem _)
      simp [this]⟩
  rw [this]
theorem ixB_none {α : Type} {p : α → Bool} {xs : List α} (h : ∀ i y, i < xs.length → xs[i]? = some y → p y = false) : ixB p xs = -1 := by
  unfold ixB
  have : xs.findIdx? p = none := by
    rw [List.findIdx?_eq_none_iff]
    intro y hy
    obtain ⟨i, hi, rfl⟩ := List.mem_iff_getElem.1 hy
    exact h i _ hi (List.getElem?_eq_getElem _)
  rw [this]
theorem no_step {α : Type} {p : α → Bool} {xs : List α} {k : Nat} {x : α} (h : ∀ i y, i < k → xs[i]? = some y → p y = false) (hx : xs[k]? = some x) (hp : p x = false) : ∀ i y, i < k + 1 → xs[i]? = some y → p y = false := fun i y hi hy => by
  by_cases e : i = k
  · subst e; rw [hx] at hy; cases hy; exact hp
  · exact h i y (by omega) hy
def isI (no : Int) (x : Inode) : Bool := x.no == no
def gtI (no : Int) (x : Inode) : Bool := decide (no < x.no)
def gtZ (no : Int) (x : Int) : Bool := decide (no < x)
def eqZ (no : Int) (x : Int) : Bool := no == x
set_option maxHeartbeats 1000000 in
theorem clo_put1 (x : Inode) (cs : List Value) (no : Int) (t : Bool) (ht : isI no x = t) (h : FH) (p : Nat) (hp : h.cell ⟨p, 0, none⟩ = some (.int .i64 no)) (w : World) (hs : Sits h w) (r : repInode h cs x) :
    Calls Try.prog 67 #[.agg cs.toArray, .pointer (some ⟨p, 0, none⟩)] w fun e w' => e = .returned (.bool t) ∧ Ext h w h w' := by
  obtain ⟨A5, c5, A6, c6, rfl, s0, s1, s2, s3, s4⟩ := r
  have E0 := Ext.refl hs
  have c0 := hs.cell hp
  have k0 := keep1 c0 (.cells #[.int .i64 x.no, .int .i64 x.kind, .int .i64 x.links, .int .i64 x.size, .string x.target, .slice A5 x.entries.length c5, .slice A6 x.runs.length c6] 37)
  have HT := hid ht
  clear ht
  go_enter Try.func67, Try.ntmps67
  go_wp2
  go_ret
  exact ⟨ret_bool (by rw [← HT.out]; rfl), E0.alloc _⟩
set_option maxHeartbeats 1000000 in
theorem clo_put2 (x : Inode) (cs : List Value) (no : Int) (t : Bool) (ht : gtI no x = t) (h : FH) (p : Nat) (hp : h.cell ⟨p, 0, none⟩ = some (.int .i64 no)) (w : World) (hs : Sits h w) (r : repInode h cs x) :
    Calls Try.prog 68 #[.agg cs.toArray, .pointer (some ⟨p, 0, none⟩)] w fun e w' => e = .returned (.bool t) ∧ Ext h w h w' := by
  obtain ⟨A5, c5, A6, c6, rfl, s0, s1, s2, s3, s4⟩ := r
  have E0 := Ext.refl hs
  have c0 := hs.cell hp
  have k0 := keep1 c0 (.cells #[.int .i64 x.no, .int .i64 x.kind, .int .i64 x.links, .int .i64 x.size, .string x.target, .slice A5 x.entries.length c5, .slice A6 x.runs.length c6] 37)
  have HT := hid ht
  clear ht
  go_enter Try.func68, Try.ntmps68
  go_wp2
  go_ret
  exact ⟨ret_bool (by rw [← HT.out]; rfl), E0.alloc _⟩
set_option maxHeartbeats 1000000 in
theorem clo_Apply1 (x : Inode) (cs : List Value) (no : Int) (t : Bool) (ht : isI no x = t) (h : FH) (p : Nat) (hp : h.cell ⟨p, 1, none⟩ = some (.int .i64 no)) (w : World) (hs : Sits h w) (r : repInode h cs x) :
    Calls Try.prog 39 #[.agg cs.toArray, .pointer (some ⟨p, 0, none⟩)] w fun e w' => e = .returned (.bool t) ∧ Ext h w h w' := by
  obtain ⟨A5, c5, A6, c6, rfl, s0, s1, s2, s3, s4⟩ := r
  have E0 := Ext.refl hs
  have c0 := hs.cell hp
  have k0 := keep1 c0 (.cells #[.int .i64 x.no, .int .i64 x.kind, .int .i64 x.links, .int .i64 x.size, .string x.target, .slice A5 x.entries.length c5, .slice A6 x.runs.length c6] 37)
  have HT := hid ht
  clear ht
  go_enter Try.func39, Try.ntmps39
  go_wp2
  go_ret
  exact ⟨ret_bool (by rw [← HT.out]; rfl), E0.alloc _⟩
set_option maxHeartbeats 2000000 in
theorem index_put1 (xs : List Inode) (A : Option Addr) (c : Nat) (no : Int) (h : FH) (p : Nat) (hp : h.cell ⟨p, 0, none⟩ = some (.int .i64 no)) (w : World) (hs : Sits h w) (r : RowAt h A xs) :
    Calls Try.prog 66 #[.slice A xs.length c, .func (.func 67) #[] #[.pointer (some ⟨p, 0, none⟩)]] w fun e w' => e = .returned (.int .i64 (ixB (isI no) xs)) ∧ Ext h w h w' := by
  have hl := r.1
  have HP := hid hp
  clear hp
  go_enter Try.func66, Try.ntmps66
  go_wp2_with fail
  go_loopw [5, 8] (fun s5 i wr => ∃ k : Nat, k ≤ xs.length ∧ i = .int .i64 k ∧ Hid (∀ i y, i < k → xs[i]? = some y → isI no y = false) ∧ Ext h w h wr) (fun _ i _ => xs.length - (intOf i).toNat)
  case atStart => exact ⟨0, Nat.zero_le _, rfl, hid (fun i y hi => by omega), Ext.refl hs⟩
  case round =>
    obtain ⟨k, hk, rfl, HN, E⟩ := hrel
    by_cases hlt : k < xs.length
    · obtain ⟨x, hx⟩ : ∃ x, xs[k]? = some x := ⟨xs[k], by simp [hlt]⟩
      obtain ⟨b, off, A5, c5, A6, c6, rfl, d0, d1, d2, d3, d4, d5, d6, s0, s1, s2, s3, s4⟩ := r.inode hx E.sits
      have HX := hid hx
      clear hx
      obtain ⟨q, hq⟩ : ∃ q, isI no x = q := ⟨_, rfl⟩
      have K := hid (clo_put1 x _ no q hq h p HP.out wr E.sits ⟨A5, c5, A6, c6, rfl, s0, s1, s2, s3, s4⟩)
      have HQ := hid hq
      clear hq
      cases q
      · have HN2 := hid (no_step HN.out HX.out HQ.out)
        go_wp2_with (go_at_call 67; refine K.out.mono ?_; rintro e w1 ⟨rfl, E1⟩)
        go_roundw
        case rel => exact ⟨k + 1, by omega, by go_num, HN2, E.trans E1⟩
        case measure => simp [intOf]; omega
      · have HI := hid (ixB_hit HN.out HX.out HQ.out)
        go_wp2_with (go_at_call 67; refine K.out.mono ?_; rintro e w1 ⟨rfl, E1⟩)
        go_ret
        exact ⟨by rw [HI.out]; rfl, E.trans E1⟩
    · have HI := hid (ixB_none (p := isI no) (fun i y hi => HN.out i y (by omega)))
      go_wp2_with fail
      go_ret
      exact ⟨by rw [HI.out]; rfl, E⟩
set_option maxHeartbeats 2000000 in
theorem index_put2 (xs : List Inode) (A : Option Addr) (c : Nat) (no : Int) (h : FH) (p : Nat) (hp : h.cell ⟨p, 0, none⟩ = some (.int .i64 no)) (w : World) (hs : Sits h w) (r : RowAt h A xs) :
    Calls Try.prog 66 #[.slice A xs.length c, .func (.func 68) #[] #[.pointer (some ⟨p, 0, none⟩)]] w fun e w' => e = .returned (.int .i64 (ixB (gtI no) xs)) ∧ Ext h w h w' := by
  have hl := r.1
  have HP := hid hp
  clear hp
  go_enter Try.func66, Try.ntmps66
  go_wp2_with fail
  go_loopw [5, 8] (fun s5 i wr => ∃ k : Nat, k ≤ xs.length ∧ i = .int .i64 k ∧ Hid (∀ i y, i < k → xs[i]? = some y → gtI no y = false) ∧ Ext h w h wr) (fun _ i _ => xs.length - (intOf i).toNat)
  case atStart => exact ⟨0, Nat.zero_le _, rfl, hid (fun i y hi => by omega), Ext.refl hs⟩
  case round =>
    obtain ⟨k, hk, rfl, HN, E⟩ := hrel
    by_cases hlt : k < xs.length
    · obtain ⟨x, hx⟩ : ∃ x, xs[k]? = some x := ⟨xs[k], by simp [hlt]⟩
      obtain ⟨b, off, A5, c5, A6, c6, rfl, d0, d1, d2, d3, d4, d5, d6, s0, s1, s2, s3, s4⟩ := r.inode hx E.sits
      have HX := hid hx
      clear hx
      obtain ⟨q, hq⟩ : ∃ q, gtI no x = q := ⟨_, rfl⟩
      have K := hid (clo_put2 x _ no q hq h p HP.out wr E.sits ⟨A5, c5, A6, c6, rfl, s0, s1, s2, s3, s4⟩)
      have HQ := hid hq
      clear hq
      cases q
      · have HN2 := hid (no_step HN.out HX.out HQ.out)
        go_wp2_with (go_at_call 68; refine K.out.mono ?_; rintro e w1 ⟨rfl, E1⟩)
        go_roundw
        case rel => exact ⟨k + 1, by omega, by go_num, HN2, E.trans E1⟩
        case measure => simp [intOf]; omega
      · have HI := hid (ixB_hit HN.out HX.out HQ.out)
        go_wp2_with (go_at_call 68; refine K.out.mono ?_; rintro e w1 ⟨rfl, E1⟩)
        go_ret
        exact ⟨by rw [HI.out]; rfl, E.trans E1⟩
    · have HI := hid (ixB_none (p := gtI no) (fun i y hi => HN.out i y (by omega)))
      go_wp2_with fail
      go_ret
      exact ⟨by rw [HI.out]; rfl, E⟩
set_option maxHeartbeats 2000000 in
theorem index_Apply1 (xs : List Inode) (A : Option Addr) (c : Nat) (no : Int) (h : FH) (p : Nat) (hp : h.cell ⟨p, 1, none⟩ = some (.int .i64 no)) (w : World) (hs : Sits h w) (r : RowAt h A xs) :
    Calls Try.prog 66 #[.slice A xs.length c, .func (.func 39) #[] #[.pointer (some ⟨p, 0, none⟩)]] w fun e w' => e = .returned (.int .i64 (ixB (isI no) xs)) ∧ Ext h w h w' := by
  have hl := r.1
  have HP := hid hp
  clear hp
  go_enter Try.func66, Try.ntmps66
  go_wp2_with fail
  go_loopw [5, 8] (fun s5 i wr => ∃ k : Nat, k ≤ xs.length ∧ i = .int .i64 k ∧ Hid (∀ i y, i < k → xs[i]? = some y → isI no y = false) ∧ Ext h w h wr) (fun _ i _ => xs.length - (intOf i).toNat)
  case atStart => exact ⟨0, Nat.zero_le _, rfl, hid (fun i y hi => by omega), Ext.refl hs⟩
  case round =>
    obtain ⟨k, hk, rfl, HN, E⟩ := hrel
    by_cases hlt : k < xs.length
    · obtain ⟨x, hx⟩ : ∃ x, xs[k]? = some x := ⟨xs[k], by simp [hlt]⟩
      obtain ⟨b, off, A5, c5, A6, c6, rfl, d0, d1, d2, d3, d4, d5, d6, s0, s1, s2, s3, s4⟩ := r.inode hx E.sits
      have HX := hid hx
      clear hx
      obtain ⟨q, hq⟩ : ∃ q, isI no x = q := ⟨_, rfl⟩
      have K := hid (clo_Apply1 x _ no q hq h p HP.out wr E.sits ⟨A5, c5, A6, c6, rfl, s0, s1, s2, s3, s4⟩)
      have HQ := hid hq
      clear hq
      cases q
      · have HN2 := hid (no_step HN.out HX.out HQ.out)
        go_wp2_with (go_at_call 39; refine K.out.mono ?_; rintro e w1 ⟨rfl, E1⟩)
        go_roundw
        case rel => exact ⟨k + 1, by omega, by go_num, HN2, E.trans E1⟩
        case measure => simp [intOf]; omega
      · have HI := hid (ixB_hit HN.out HX.out HQ.out)
        go_wp2_with (go_at_call 39; refine K.out.mono ?_; rintro e w1 ⟨rfl, E1⟩)
        go_ret
        exact ⟨by rw [HI.out]; rfl, E.trans E1⟩
    · have HI := hid (ixB_none (p := isI no) (fun i y hi => HN.out i y (by omega)))
      go_wp2_with fail
      go_ret
      exact ⟨by rw [HI.out]; rfl, E⟩
set_option maxHeartbeats 1000000 in
theorem clo_bad1 (x : Int) (no : Int) (t : Bool) (ht : gtZ no x = t) (h : FH) (p : Nat) (hp : h.cell ⟨p, 0, none⟩ = some (.int .i64 no)) (w : World) (hs : Sits h w) :
    Calls Try.prog 72 #[.int .i64 x, .pointer (some ⟨p, 0, none⟩)] w fun e w' => e = .returned (.bool t) ∧ Ext h w h w' := by
  have E0 := Ext.refl hs
  have c0 := hs.cell hp
  have HT := hid ht
  clear ht
  go_enter Try.func72, Try.ntmps72
  go_wp2
  go_ret
  exact ⟨ret_bool (by rw [← HT.out]; rfl), E0⟩
set_option maxHeartbeats 2000000 in
theorem index_bad1 (xs : List Int) (A : Option Addr) (c : Nat) (no : Int) (h : FH) (p : Nat) (hp : h.cell ⟨p, 0, none⟩ = some (.int .i64 no)) (w : World) (hs : Sits h w) (r : RowAt h A xs) :
    Calls Try.prog 71 #[.slice A xs.length c, .func (.func 72) #[] #[.pointer (some ⟨p, 0, none⟩)]] w fun e w' => e = .returned (.int .i64 (ixB (gtZ no) xs)) ∧ Ext h w h w' := by
  have hl := r.1
  have HP := hid hp
  clear hp
  go_enter Try.func71, Try.ntmps71
  go_wp2_with fail
  go_loopw [5, 8] (fun s5 i wr => ∃ k : Nat, k ≤ xs.length ∧ i = .int .i64 k ∧ Hid (∀ i y, i < k → xs[i]? = some y → gtZ no y = false) ∧ Ext h w h wr) (fun _ i _ => xs.length - (intOf i).toNat)
  case atStart => exact ⟨0, Nat.zero_le _, rfl, hid (fun i y hi => by omega), Ext.refl hs⟩
  case round =>
    obtain ⟨k, hk, rfl, HN, E⟩ := hrel
    by_cases hlt : k < xs.length
    · obtain ⟨x, hx⟩ : ∃ x, xs[k]? = some x := ⟨xs[k], by simp [hlt]⟩
      obtain ⟨b, off, rfl, d0⟩ := r.int hx E.sits
      have HX := hid hx
      clear hx
      obtain ⟨q, hq⟩ : ∃ q, gtZ no x = q := ⟨_, rfl⟩
      have K := hid (clo_bad1 x no q hq h p HP.out wr E.sits)
      have HQ := hid hq
      clear hq
      cases q
      · have HN2 := hid (no_step HN.out HX.out HQ.out)
        go_wp2_with (go_at_call 72; refine K.out.mono ?_; rintro e w1 ⟨rfl, E1⟩)
        go_roundw
        case rel => exact ⟨k + 1, by omega, by go_num, HN2, E.trans E1⟩
        case measure => simp [intOf]; omega
      · have HI := hid (ixB_hit HN.out HX.out HQ.out)
        go_wp2_with (go_at_call 72; refine K.out.mono ?_; rintro e w1 ⟨rfl, E1⟩)
        go_ret
        exact ⟨by rw [HI.out]; rfl, E.trans E1⟩
    · have HI := hid (ixB_none (p := gtZ no) (fun i y hi => HN.out i y (by omega)))
      go_wp2_with fail
      go_ret
      exact ⟨by rw [HI.out]; rfl, E⟩
set_option maxHeartbeats 2000000 in
theorem index_Int (xs : List Int) (A : Option Addr) (c : Nat) (no : Int) (h : FH) (w : World) (hs : Sits h w) (r : RowAt h A xs) :
    Calls Try.prog 104 #[.slice A xs.length c, .int .i64 no] w fun e w' => e = .returned (.int .i64 (ixB (eqZ no) xs)) ∧ Ext h w h w' := by
  have hl := r.1
  have E := Ext.refl hs
  go_enter Try.func104, Try.ntmps104
  go_wp2_with fail
  go_loop [5, 8] (fun s5 i => ∃ k : Nat, k ≤ xs.length ∧ i = .int .i64 k ∧ Hid (∀ i y, i < k → xs[i]? = some y → eqZ no y = false)) (fun _ i => xs.length - (intOf i).toNat)
  case atStart => exact ⟨0, Nat.zero_le _, rfl, hid (fun i y hi => by omega)⟩
  case round =>
    obtain ⟨k, hk, rfl, HN⟩ := hrel
    by_cases hlt : k < xs.length
    · obtain ⟨x, hx⟩ : ∃ x, xs[k]? = some x := ⟨xs[k], by simp [hlt]⟩
      obtain ⟨b, off, rfl, d0⟩ := r.int hx hs
      have HX := hid hx
      clear hx
      obtain ⟨q, hq⟩ : ∃ q, eqZ no x = q := ⟨_, rfl⟩
      have HQ := hid hq
      have hq2 : (no == x) = q := hq
      clear hq
      cases q
      · have HN2 := hid (no_step HN.out HX.out HQ.out)
        go_wp2_with fail
        go_round
        case rel => exact ⟨k + 1, by omega, by go_num, HN2⟩
        case measure => simp [intOf]; omega
      · have HI := hid (ixB_hit HN.out HX.out HQ.out)
        go_wp2_with fail
        go_ret
        exact ⟨by rw [HI.out]; rfl, E⟩
    · have HI := hid (ixB_none (p := eqZ no) (fun i y hi => HN.out i y (by omega)))
      go_wp2_with fail
      go_ret
      exact ⟨by rw [HI.out]; rfl, E⟩
theorem ixB_any {α : Type} (p : α → Bool) (xs : List α) : decide (0 ≤ ixB p xs) = xs.any p := by
  unfold ixB
  cases e : xs.findIdx? p with
  | none =>
    have := List.findIdx?_eq_none_iff.1 e
    rw [List.any_eq_false.2 (fun y hy => by simp [this y hy])]
    rfl
  | some i =>
    obtain ⟨hi, hp, _⟩ := List.findIdx?_eq_some_iff_getElem.1 e
    rw [List.any_eq_true.2 ⟨_, List.getElem_mem hi, hp⟩]
    simp
set_option maxHeartbeats 1000000 in
theorem contains_Int (xs : List Int) (A : Option Addr) (c : Nat) (no : Int) (t : Bool) (ht : xs.any (eqZ no) = t) (h : FH) (w : World) (hs : Sits h w) (r : RowAt h A xs) :
    Calls Try.prog 70 #[.slice A xs.length c, .int .i64 no] w fun e w' => e = .returned (.bool t) ∧ Ext h w h w' := by
  have K := hid (index_Int xs A c no h w hs r)
  have HT := hid ((ixB_any (eqZ no) xs).trans ht)
  clear ht
  go_enter Try.func70, Try.ntmps70
  go_wp2_with (go_at_call 104; refine K.out.mono ?_; rintro e w1 ⟨rfl, E1⟩)
  go_ret
  exact ⟨ret_bool HT.out, E1⟩
end Go.Proofs.Ytkglaofiencfdaa

namespace Go.Proofs.Ytkglaofiencfdaa
open Go.RowKit Go.Sort
set_option linter.unusedVariables false
/-! ### what slices.Insert and slices.Delete ask -/
section
variable {P : Program}
/-- append(s[:i], make([]T, n)...), which grows. -/
theorem run_append_zeros (w : World) (t tn ty e : TypeId) (i : TypeInfo) (z : Value) (k kn : IntKind) (ht : P.underlying t = some (.slice e)) (htn : P.underlying tn = some (.int kn)) (hi : P.info? e = some i) (hz : i.zero = some z)
    (ad : Addr) (sLen sCap n : Nat) (cells : List Value) (hl : cells.length = sLen * i.size) (hcells : ∀ j v, cells[j]? = some v → w.cell? (ad.add j) = some v) (hgrow : sCap < sLen + n)
    (h0 : 0 < n) (hs : 0 < i.size) (hsmall : sLen + n ≤ 1000000) (hby : i.bytes ≤ 1000) :
    (Builtin.append_ #[t, tn] ty #[.slice (some ad) sLen sCap, .int k n]).run P w =
      .ok (.slice (some ⟨w.heap.size, 0, none⟩) (sLen + n) (grownCap w (sLen + n) sCap e)) (w.drew.alloc (.cells (cells.toArray ++ Builtin.zeroCells z.cells n ++ Builtin.zeroCells z.cells (grownCap w (sLen + n) sCap e - (sLen + n))) e)) := by
  have hn : n ≠ 0 := by omega
  have hw : IntKind.i64.wrap (n : Int) = n := by rw [IntKind.wrap_i64]; omega
  have hneg : ¬ ((n : Int) < 0) := by omega
  have hns : ¬ (n * i.size = 0) := Nat.mul_ne_zero hn (by omega)
  have hb1 : n * i.bytes ≤ 1000000 * 1000 := Nat.mul_le_mul (by omega) hby
  have h48i : ¬ (281474976710656 < (n : Int) * (i.bytes : Int)) := by
    rw [← Int.natCast_mul]
    omega
  have hb2 : (sLen + n) * i.bytes ≤ 1000000 * 1000 := Nat.mul_le_mul hsmall hby
  have h48' : ¬ (281474976710656 < Builtin.nextslicecap (sLen + n) sCap * i.bytes) := by
    have := growslice_fits (old := sCap) (bytes := i.bytes) hgrow (by omega)
    omega
  have hfit : ¬ sLen + n ≤ sCap := by omega
  have h63' : ¬ (9223372036854775807 < (sLen : Int) + (n : Int)) := by omega
  have hfc' := run_firstCells_some (P := P) w.drew i.size sLen ad sLen sCap cells hl hcells
  simp [Builtin.append_, run_underlying ht, run_underlying htn, sizeOf, typeInfo, zeroValue, hi, hz, asInt, asIntOf, hw, hneg, hns, hfit, h63', h48', h48i, Question.forced, hfc', newRow, grownCap]
/-- copy, elements of any size: all is read before anything is written. -/
theorem run_copy_any (w : World) (dT sT ty elem : TypeId) (size : Nat) (b o dLen dCap : Nat) (a : Addr) (sLen sCap : Nat) (cs : List Value)
    (hu : P.underlying dT = some (.slice elem)) (hs : (P.info? elem).map (·.size) = some size) (hn : cs.length = Nat.min sLen dLen * size)
    (hsrc : ∀ j v, cs[j]? = some v → w.cell? (a.add j) = some v) (hc : ∀ j, j < cs.length → (w.cell? ⟨b, o + j, none⟩).isSome = true) (hf : ∀ j, j < cs.length → w.frozen? ⟨b, o + j, none⟩ = false) (h1 : ∀ v ∈ cs, v.oneCell' = true) :
    (Builtin.copy_ #[dT, sT] ty #[.slice (some ⟨b, o, none⟩) dLen dCap, .slice (some a) sLen sCap]).run P w = .ok (goInt (Nat.min sLen dLen)) (w.setCells b o cs) := by
  have hl := run_loadCells_list (P := P) w a cs hsrc
  have hst := run_storeCells_cells (P := P) b o cs 0 w (by simpa using hc) (by simpa using hf) h1
  cases hq : P.info? elem with
  | none => simp [hq] at hs
  | some i =>
    have hi : i.size = size := by simpa [hq] using hs
    simp [Builtin.copy_, run_underlying hu, Builtin.lenOf, Builtin.firstCells, sizeOf, typeInfo, hq, hi, ← hn, hl, hst]
/-- An operation whose run is known. -/
theorem step_copy_run (w : World) {o : Oper} {a : Act} {K : Act → World → Prop} {Q : Exit → Act → World → Prop} (d s : Operand) (dT sT : TypeId)
    (ho : o.op = .call { callee := .builtin .copy, args := #[d, s], argTypes := #[dT, sT] }) (vd vs : Value) (hd : a.eval d = vd) (hs : a.eval s = vs)
    (v' : Value) (w' : World) (hr : (Builtin.copy_ #[dT, sT] o.type #[vd, vs]).run P w = .ok v' w') (h : K (a.put o.dst v') w') : o.wp P a w K Q := by
  unfold Oper.wp
  simp [execOp, ho, resolve, invoke, builtin, hd, hs, hr, Result.andThen]
  exact h
theorem wpList_copy_run (w : World) {ops : Array Oper} {rest : List Oper} {o : Oper} {a : Act} {Q : Exit → Act → World → Prop} (hgd : o.guard = none) (d s : Operand) (dT sT : TypeId)
    (ho : o.op = .call { callee := .builtin .copy, args := #[d, s], argTypes := #[dT, sT] }) (vd vs : Value) (hd : a.eval d = vd) (hs : a.eval s = vs)
    (v' : Value) (w' : World) (hr : (Builtin.copy_ #[dT, sT] o.type #[vd, vs]).run P w = .ok v' w') (h : wpList P ops Q rest (a.put o.dst v') w') : wpList P ops Q (o :: rest) a w :=
  wpList_plain hgd fun _ hK => step_copy_run w d s dT sT ho vd vs hd hs v' w' hr (hK _ _ h)
/-- Two copies, and the row is as Insert wants it. -/
theorem splice2 {cells E : List Value} {i n : Nat} (hE : E.length = 2) (hc : cells.length = n * 2) (hi : i ≤ n) {cur cur2 : Array Value} (hsz : (n + 1) * 2 ≤ cur.size) (hs2 : cur2.size = cur.size)
    (hpre : ∀ j, j < i * 2 → cur[j]? = cells[j]?) (hget : ∀ j, j < cur.size → cur2[j]? = if i * 2 ≤ j ∧ j < i * 2 + 2 then E[j - i * 2]? else if (i + 1) * 2 ≤ j ∧ j < (i + 1) * 2 + (n - i) * 2 then cells[j - 2]? else cur[j]?) :
    cur2.toList.take ((n + 1) * 2) = cells.take (i * 2) ++ E ++ cells.drop (i * 2) := by
  apply List.ext_getElem?
  intro j
  rw [List.getElem?_take]
  by_cases hj : j < (n + 1) * 2
  · rw [if_pos hj, Array.getElem?_toList, hget j (by omega)]
    by_cases h1 : j < i * 2
    · rw [if_neg (by omega), if_neg (by omega), hpre j h1, List.append_assoc, List.getElem?_append_left (by simp; omega), List.getElem?_take, if_pos h1]
    · by_cases h2 : j < i * 2 + 2
      · rw [if_pos (by omega), List.append_assoc, List.getElem?_append_right (by simp; omega), List.getElem?_append_left (by simp; omega)]
        congr 1
        simp; omega
      · rw [if_neg (by omega), if_pos (by omega), List.getElem?_append_right (by simp; omega), List.getElem?_drop]
        congr 1
        simp; omega
  · rw [if_neg hj, List.getElem?_eq_none (by simp; omega)]
end
theorem grown_setCells {w0 : World} (g : Nat) : ∀ (vs : List Value) (o : Nat) (w : World), w0.grownBy w (some g) → w0.grownBy (w.setCells g o vs) (some g)
  | [], _, _, a => a
  | v :: r, o, w, a => grown_setCells g r (o + 1) _ ⟨a.os, a.tape, a.output, by simpa [World.setCell] using a.size, fun k hk hne => by
      rw [← a.block k hk hne]
      simp only [World.setCell]
      rw [Array.getElem?_modify, if_neg (by rintro rfl; exact hne rfl)]⟩
/-- 'clear(s)', elements of any size. -/
theorem run_clear_any {P : Program} (w : World) (t e ty : TypeId) (z : Value) (ht : P.underlying t = some (.slice e)) (hv : ∀ w, (zeroValue e).run P w = .ok z w) (h1 : ∀ v ∈ z.cells.toList, v.oneCell' = true) (hz0 : 0 < z.cells.size) (b o n c : Nat) (hn : 0 < n)
    (hc : ∀ j, j < n * z.cells.size → (w.cell? ⟨b, o + j, none⟩).isSome = true) (hf : ∀ j, j < n * z.cells.size → w.frozen? ⟨b, o + j, none⟩ = false) :
    (Builtin.clear_ #[t] ty #[.slice (some ⟨b, o, none⟩) n c]).run P w = .ok (.tuple #[]) (w.setCells b o (Builtin.zeroCells z.cells n).toList) := by
  have hl : (Builtin.zeroCells z.cells n).toList.length = n * z.cells.size := by simp [Builtin.zeroCells]
  have hst := run_storeCells_cells (P := P) b o (Builtin.zeroCells z.cells n).toList 0 w (by rw [hl]; simpa using hc) (by rw [hl]; simpa using hf) (by
    intro v hv'
    simp only [Builtin.zeroCells, Array.toList_map, List.mem_map, Array.toList_range, List.mem_range] at hv'
    obtain ⟨j, hj, rfl⟩ := hv'
    have hjm := Nat.mod_lt j hz0
    refine h1 _ ?_
    rw [getElem!_pos z.cells (j % z.cells.size) hjm]
    exact Array.mem_toList_iff.2 (Array.getElem_mem hjm))
  simp only [Nat.add_zero] at hst
  obtain ⟨m, rfl⟩ : ∃ m, n = m + 1 := ⟨n - 1, by omega⟩
  simp [Builtin.clear_, run_underlying ht, hv, hst]
end Go.Proofs.Ytkglaofiencfdaa

namespace Go.Proofs.Ytkglaofiencfdaa
open Go.RowKit Go.Sort
set_option linter.unusedVariables false
section
variable {α : Type} [Enc α] {P : Program}
/-- append(v, y), y's block known in the world. -/
theorem wpList_append1At {h : FH} {w : World} {ops : Array Oper} {rest : List Oper} {o : Oper} {a : Act} {Q : Exit → Act → World → Prop} (hgd : o.guard = none) (s x : Operand) (t : TypeId)
    (ho : o.op = .call { callee := .builtin .append, args := #[s, x], argTypes := #[t, t] }) (base : Nat) (e : TypeId) (bytes : Nat) (T : TyOk P t e (Enc.sz α) bytes) (v : Value) (xs : List α) (hv : a.eval s = v) (O : OwnL h w base e v xs) (hs : Sits h w)
    (g : Nat) (hx : a.eval x = .slice (some ⟨g, 0, none⟩) 1 1) (cs : List Value) (y : α) (hy : Enc.rep h cs y) (hc : ∀ j u, cs[j]? = some u → w.cell? ⟨g, j, none⟩ = some u) (hbytes : (xs.length + 1) * bytes ≤ 140737488355328) (hpos : 0 < bytes) (hbase : base ≤ w.heap.size)
    (k : ∀ v' w', OwnL h w' base e v' (xs ++ [y]) → w.grownBy w' v.ownBlock → wpList P ops Q rest (a.put o.dst v') w') : wpList P ops Q (o :: rest) a w := by
  refine wpList_plain hgd fun K hK => ?_
  obtain ⟨v', w', hr, h2, h3⟩ := run_append1At (ty := o.type) T O hs hy hc hbytes hpos hbase
  unfold Oper.wp execOp
  simp only [ho, resolve, invoke, builtin, Sem.run_bind, Sem.run_pure, Result.andThen_ok, List.map_toArray, List.map_cons, List.map_nil, hv, hx, hr]
  exact hK _ _ (k v' w' h2 h3)
end
theorem cells_of_box {w : World} {g : Nat} {cs : List Value} {t : TypeId} (h : w.heap[g]? = some (.cells cs.toArray t (0, 0))) : ∀ j u, cs[j]? = some u → w.cell? ⟨g, j, none⟩ = some u := fun j u hu => by
  rw [cell_of_row _ _ _ _ _ _ h]; simpa using hu
theorem grown_setCells' {w0 : World} (g : Nat) : ∀ (vs : List Value) (o : Nat) (w : World), w0.grownBy w (some g) → w0.grownBy (w.setCells g o vs) (some g)
  | [], _, _, a => a
  | v :: r, o, w, a => grown_setCells' g r (o + 1) _ ⟨a.os, a.tape, a.output, by simpa [World.setCell] using a.size, fun k hk hne => by
      rw [← a.block k hk hne]
      simp only [World.setCell]
      rw [Array.getElem?_modify, if_neg (by rintro rfl; exact hne rfl)]⟩
theorem grown_new' {w0 : World} {r : Option Nat} (g : Nat) (hg : w0.heap.size ≤ g) : ∀ (vs : List Value) (o : Nat) (w : World), w0.grownBy w r → w0.grownBy (w.setCells g o vs) r
  | [], _, _, a => a
  | v :: vs, o, w, a => grown_new' g hg vs (o + 1) _ ⟨a.os, a.tape, a.output, by simpa [World.setCell] using a.size, fun k hk hne => by
      rw [← a.block k hk hne]
      simp only [World.setCell]
      rw [Array.getElem?_modify, if_neg (by omega)]⟩
theorem setCells_ne' {g k : Nat} (hne : k ≠ g) : ∀ {vs : List Value} {o : Nat} {w : World}, (w.setCells g o vs).heap[k]? = w.heap[k]?
  | [], _, _ => rfl
  | v :: vs, o, w => by
    rw [World.setCells, setCells_ne' hne (vs := vs)]
    simp only [World.setCell]
    rw [Array.getElem?_modify, if_neg (fun e => hne e.symm)]

/-! ### slices.Insert at Inode -/
theorem splice_In {cells E : List Value} {i n : Nat} (hE : E.length = 7) (hc : cells.length = n * 7) (hi : i ≤ n) {cur cur2 : Array Value} (hsz : (n + 1) * 7 ≤ cur.size) (hs2 : cur2.size = cur.size)
    (hpre : ∀ j, j < i * 7 → cur[j]? = cells[j]?) (hget : ∀ j, j < cur.size → cur2[j]? = if i * 7 ≤ j ∧ j < i * 7 + 7 then E[j - i * 7]? else if (i + 1) * 7 ≤ j ∧ j < (i + 1) * 7 + (n - i) * 7 then cells[j - 7]? else cur[j]?) :
    cur2.toList.take ((n + 1) * 7) = cells.take (i * 7) ++ E ++ cells.drop (i * 7) := by
  apply List.ext_getElem?
  intro j
  rw [List.getElem?_take]
  by_cases hj : j < (n + 1) * 7
  · rw [if_pos hj, Array.getElem?_toList, hget j (by omega)]
    by_cases h1 : j < i * 7
    · rw [if_neg (by omega), if_neg (by omega), hpre j h1, List.append_assoc, List.getElem?_append_left (by simp; omega), List.getElem?_take, if_pos h1]
    · by_cases h2 : j < i * 7 + 7
      · rw [if_pos (by omega), List.append_assoc, List.getElem?_append_right (by simp; omega), List.getElem?_append_left (by simp; omega)]
        congr 1
        simp; omega
      · rw [if_neg (by omega), if_pos (by omega), List.getElem?_append_right (by simp; omega), List.getElem?_drop]
        congr 1
        simp; omega
  · rw [if_neg hj, List.getElem?_eq_none (by simp; omega)]
theorem reps_ins_In {h : FH} {cells E : List Value} {xs : List Inode} {e : Inode} (R : Reps h cells xs) (hE : Enc.rep h E e) (i : Nat) : Reps h (cells.take (i * 7) ++ E ++ cells.drop (i * 7)) (xs.take i ++ [e] ++ xs.drop i) := by
  have h1 := R.take i
  have h2 := R.drop i
  rw [show i * Enc.sz Inode = i * 7 from by show i * 7 = _; omega] at h1 h2
  exact (h1.append (Reps.single hE)).append h2
set_option maxHeartbeats 2000000 in
set_option maxRecDepth 100000 in
theorem insend_In (xs : List Inode) (e : Inode) (E : List Value) (hbig : xs.length ≤ 1000) (h : FH) (hE : Enc.rep h E e) (w : World) (hs : Sits h w) (base : Nat) (hbase : base ≤ w.heap.size) (v : Value) (O : OwnL h w base 37 v xs) (gv : Nat) (hb : w.heap[gv]? = some (.cells E.toArray 37 (0, 0))) :
    Calls Try.prog 69 #[v, .int .i64 xs.length, .slice (some ⟨gv, 0, none⟩) 1 1] w fun e' w' => ∃ v', e' = .returned v' ∧ OwnL h w' base 37 v' (xs ++ [e]) ∧ w.grownBy w' v.ownBlock := by
  have OO := hid O
  have HE := hid hE
  have HB := hid (show (xs.length + 1) * 96 ≤ 140737488355328 by omega)
  have HC := hid (cells_of_box hb)
  obtain ⟨cells, hw, _⟩ := O.own
  rcases hw.2 with ⟨rfl, hn⟩ | ⟨g0, cap, cur, rfl, hb0, hg0, hlc, hcm, hcs, htk⟩
  · rw [hn] at hw
    have HN := hid hn
    clear hw O hb hE
    rw [hn]
    go_enter Try.func69, Try.ntmps69
    go_wp2_with (at_builtin; refine wpList_append1At rfl _ _ 28 rfl base 37 96 ty_Inode _ xs rfl OO.out hs gv rfl E e HE.out HC.out HB.out (by decide) hbase ?_)
    intro v3 w6 O3 hg3
    have O3 := hid O3
    have hg3 := hid hg3
    go_wp2
    go_ret
    exact ⟨_, rfl, O3.out, hg3.out⟩
  · clear hw O hb hg0 hcs htk hE
    unfold maxLen at hcm
    go_enter Try.func69, Try.ntmps69
    go_wp2_with (at_builtin; refine wpList_append1At rfl _ _ 28 rfl base 37 96 ty_Inode _ xs rfl OO.out hs gv rfl E e HE.out HC.out HB.out (by decide) hbase ?_)
    all_goals
      intro v3 w6 O3 hg3
      have O3 := hid O3
      have hg3 := hid hg3
      go_wp2
      go_ret
      exact ⟨_, rfl, O3.out, hg3.out⟩
set_option maxHeartbeats 2000000 in
set_option maxRecDepth 100000 in
theorem insshift_In (xs : List Inode) (i : Nat) (hi : i < xs.length) (e : Inode) (E : List Value) (hbig : xs.length ≤ 1000) (h : FH) (hE : Enc.rep h E e) (w : World) (hs : Sits h w) (base : Nat) (hbase : base ≤ w.heap.size) (g0 cap : Nat) (hroom : xs.length + 1 ≤ cap) (O : OwnL h w base 37 (.slice (some ⟨g0, 0, none⟩) xs.length cap) xs) (gv : Nat) (hb : w.heap[gv]? = some (.cells E.toArray 37 (0, 0))) (hne : gv ≠ g0) :
    Calls Try.prog 69 #[.slice (some ⟨g0, 0, none⟩) xs.length cap, .int .i64 i, .slice (some ⟨gv, 0, none⟩) 1 1] w fun e' w' => ∃ v', e' = .returned v' ∧ OwnL h w' base 37 v' (xs.take i ++ [e] ++ xs.drop i) ∧ w.grownBy w' (some g0) := by
  have OO := hid O
  have hEl : E.length = 7 := Enc.len hE
  have HE := hid hE
  have hE1 := Enc.one hE
  obtain ⟨cells, hw, R⟩ := O.own
  rcases hw.2 with ⟨he, hn⟩ | ⟨g0', cap', cur, he, hb0, hg0, hlc, hcm, hcs, htk⟩
  · cases he
  · cases he
    have hcl : cells.length = xs.length * 7 := by have := hw.1; rw [show Enc.sz Inode = 7 from rfl] at this; omega
    have hcs : cur.size = cap * 7 := by have := hcs; rw [show Enc.sz Inode = 7 from rfl] at this; omega
    have htk : cur.toList.take (xs.length * 7) = cells := by have := htk; rw [show xs.length * Enc.sz Inode = xs.length * 7 from by show xs.length * 7 = _; omega] at this; exact this
    have hcm' : cap ≤ 9223372036854775807 := by unfold maxLen at hcm; omega
    have hgv := hb
    have hov : ∀ k lb cb, (callFunc 102 #[.slice (some ⟨gv, 0, none⟩) 1 1, .slice (some ⟨g0, k, none⟩) lb cb]).run Try.prog w = .ok (.value (.bool false)) w := fun k lb cb => by
      rw [run_callFunc_extern Try.func102 (by kernel_rfl) (by kernel_rfl) (by kernel_rfl) (e := Extern.SlicesOverlaps.overlaps #[28, 28] #[4]) (by kernel_rfl),
        Lib.run_overlaps_apart w 28 4 37 ty_Inode.und 7 (fun _ => rfl) ⟨gv, 0, none⟩ ⟨g0, k, none⟩ 1 1 lb cb hne 37 37 7 (cap * 7) (by unfold World.shape?; rw [hgv]; simp [hEl]) (by unfold World.shape?; rw [hg0]; simp [hcs]) (by omega) (by simp [World.frozen?, hgv]) (by simp [World.frozen?, hgv])]
      rfl
    have hz2 : ¬ ((i : Int) = (xs.length : Int)) := by omega
    have hb1 : (0 : Int) ≤ (i : Int) + 1 := by omega
    have hr1 : ¬ ((cap : Int) < (xs.length : Int) + 1) := by omega
    have hr2 : (xs.length : Int) + 1 ≤ (cap : Int) := by omega
    have htn : ((i : Int) + 1).toNat = i + 1 := by omega
    have htn2 : ((xs.length : Int) + 1).toNat = xs.length + 1 := by omega
    have hb2 : ¬ (cap = i + 1) := by omega
    have hb3 : (i : Int) ≤ (xs.length : Int) + 1 := by omega
    have hb4 : ¬ (cap = i) := by omega
    have hb5 : (i : Int) + 1 ≤ (xs.length : Int) + 1 := by omega
    have hw1 : IntKind.i64.wrap ((i : Int) + 1) = (i : Int) + 1 := by rw [IntKind.wrap_i64]; omega
    clear hw hE
    have hcp1 : ∀ (W : World), (∀ x, W.cell? x = w.cell? x) → (∀ x, W.frozen? x = w.frozen? x) → ∀ ty n1 dc n2 sc, Nat.min n2 n1 = xs.length - i → (Builtin.copy_ #[28, 28] ty #[.slice (some ⟨g0, (i + 1) * 7, none⟩) n1 dc, .slice (some ⟨g0, i * 7, none⟩) n2 sc]).run Try.prog W = .ok (goInt (Nat.min n2 n1)) (W.setCells g0 ((i + 1) * 7) (cells.drop (i * 7))) := fun W hWc hWf ty n1 dc n2 sc hm =>
      run_copy_any W _ _ ty 37 7 g0 ((i + 1) * 7) n1 dc ⟨g0, i * 7, none⟩ n2 sc (cells.drop (i * 7)) ty_Inode.und (by rfl) (by rw [hm, List.length_drop, hcl]; omega)
        (fun j v hj => by
          rw [Addr.add_lit, hWc, cell_of_row _ _ _ _ _ _ hg0, ← Array.getElem?_toList]
          rw [List.getElem?_drop, ← htk, List.getElem?_take] at hj
          split at hj
          · exact hj
          · cases hj)
        (fun j hj => by
          rw [List.length_drop, hcl] at hj
          rw [hWc, cell_of_row _ _ _ _ _ _ hg0, Array.getElem?_eq_getElem (by omega)]; rfl)
        (fun j hj => by rw [hWf]; simp [World.frozen?, hg0])
        (fun v hv => R.one v (List.mem_of_mem_drop hv))
    have hm1 : Nat.min (xs.length + 1 - i) (xs.length - i) = xs.length - i := by simp only [Nat.min_def]; split <;> omega
    have hm2 : Nat.min (xs.length + 1 - i) (xs.length + 1 - (i + 1)) = xs.length - i := by simp only [Nat.min_def]; split <;> omega
    obtain ⟨W1, hW1⟩ : ∃ W1, W1 = w.drew.setCells g0 ((i + 1) * 7) (cells.drop (i * 7)) := ⟨_, rfl⟩
    obtain ⟨cur1, k1, k2, k3⟩ := heap_setCells g0 37 (0, 0) (cells.drop (i * 7)) ((i + 1) * 7) w.drew cur hg0
    rw [← hW1] at k1
    have G1 : w.grownBy W1 (some g0) := by rw [hW1]; exact grown_setCells' g0 _ _ _ ⟨rfl, rfl, rfl, Nat.le_refl _, fun _ _ _ => rfl⟩
    have gb : W1.heap[gv]? = some (.cells E.toArray 37 (0, 0)) := by
      rw [G1.block gv (Array.getElem?_eq_some_iff.1 hb).1 (by simpa using hne)]; exact hb
    have hq1 := fun ty dc sc => hcp1 w.drew (fun _ => rfl) (fun _ => rfl) ty _ dc _ sc hm1
    have hq2 := fun ty dc sc => hcp1 w.drew (fun _ => rfl) (fun _ => rfl) ty _ dc _ sc hm2
    rw [← hW1] at hq1 hq2
    have hq3 : ∀ ty dc, (Builtin.copy_ #[28, 28] ty #[.slice (some ⟨g0, i * 7, none⟩) (xs.length + 1 - i) dc, .slice (some ⟨gv, 0, none⟩) 1 1]).run Try.prog W1 = .ok (goInt (Nat.min 1 (xs.length + 1 - i))) (W1.setCells g0 (i * 7) E) := fun ty dc =>
      run_copy_any W1 _ _ ty 37 7 g0 (i * 7) _ dc ⟨gv, 0, none⟩ 1 1 E ty_Inode.und (by rfl) (by rw [hEl]; simp only [Nat.min_def]; split <;> first | rfl | omega)
        (fun j v hj => by
          rw [Addr.add_lit, cell_of_row _ _ _ _ _ _ gb]
          simpa using hj)
        (fun j hj => by
          rw [hEl] at hj
          rw [cell_of_row _ _ _ _ _ _ k1, Array.getElem?_eq_getElem (by rw [k2]; omega)]; rfl)
        (fun j hj => by simp [World.frozen?, k1])
        hE1
    obtain ⟨cur2, m1, m2, m3⟩ := heap_setCells g0 37 (0, 0) E (i * 7) W1 cur1 k1
    rw [hEl] at m3
    have G2 := hid (grown_setCells' g0 E (i * 7) _ G1)
    have SP := splice_In (cells := cells) (E := E) (i := i) (n := xs.length) hEl hcl (by omega) (cur := cur) (cur2 := cur2) (by omega) (by omega)
      (fun j hj => by
        rw [← htk, List.getElem?_take, if_pos (show j < xs.length * 7 by omega), Array.getElem?_toList])
      (fun j hj => by
        rw [m3 j (by omega)]
        by_cases h1 : i * 7 ≤ j ∧ j < i * 7 + 7
        · rw [if_pos h1, if_pos h1]
        · rw [if_neg h1, if_neg h1, k3 j hj]
          rw [List.length_drop, hcl, show (xs.length - i) * 7 = xs.length * 7 - i * 7 by omega]
          by_cases h2 : (i + 1) * 7 ≤ j ∧ j < (i + 1) * 7 + (xs.length * 7 - i * 7)
          · rw [if_pos h2, if_pos h2, List.getElem?_drop]; congr 1; omega
          · rw [if_neg h2, if_neg h2])
    have OF := hid (show OwnL h (W1.setCells g0 (i * 7) E) base 37 (.slice (some ⟨g0, 0, none⟩) (xs.length + 1) cap) (xs.take i ++ [e] ++ xs.drop i) from by
      refine ⟨⟨cells.take (i * 7) ++ E ++ cells.drop (i * 7), ⟨?_, .inr ⟨g0, cap, cur2, ?_, hb0, m1, ?_, hcm, by rw [m2, k2, hcs]; show _ = cap * 7; omega, ?_⟩⟩, reps_ins_In R HE.out i⟩, O.free⟩
      · simp [Enc.sz, hEl]; omega
      · simp; omega
      · simp; omega
      · rw [← SP]; congr 1; simp [Enc.sz]; omega)
    clear hcp1 hW1 k1 k2 k3 G1 gb m1 m2 m3 SP R OO hg0 htk hcm O hgv hE1 hb
    go_enter Try.func69, Try.ntmps69
    go_wp2_with (simp only [hov])
    go_region
    go_wp2
    go_ret
    exact ⟨_, rfl, OF.out, G2.out⟩
set_option maxHeartbeats 2000000 in
set_option maxRecDepth 100000 in
theorem insgrow_In (xs : List Inode) (i : Nat) (hi : i < xs.length) (e : Inode) (E : List Value) (hbig : xs.length ≤ 1000) (h : FH) (hE : Enc.rep h E e) (w : World) (hs : Sits h w) (base : Nat) (hbase : base ≤ w.heap.size) (g0 cap : Nat) (hroom : cap < xs.length + 1) (O : OwnL h w base 37 (.slice (some ⟨g0, 0, none⟩) xs.length cap) xs) (gv : Nat) (hb : w.heap[gv]? = some (.cells E.toArray 37 (0, 0))) :
    Calls Try.prog 69 #[.slice (some ⟨g0, 0, none⟩) xs.length cap, .int .i64 i, .slice (some ⟨gv, 0, none⟩) 1 1] w fun e' w' => ∃ v', e' = .returned v' ∧ OwnL h w' base 37 v' (xs.take i ++ [e] ++ xs.drop i) ∧ w.grownBy w' (some g0) := by
  have hEl : E.length = 7 := Enc.len hE
  have HE := hid hE
  have hE1 := Enc.one hE
  obtain ⟨cells, hw, R⟩ := O.own
  obtain ⟨ti, z, hti, hz, hts, htb, hzc⟩ := ty_Inode.info
  rcases hw.2 with ⟨he, hn⟩ | ⟨g0', cap', cur, he, hb0, hg0, hlc, hcm, hcs, htk⟩
  · cases he
  · cases he
    have hcl : cells.length = xs.length * 7 := by have := hw.1; rw [show Enc.sz Inode = 7 from rfl] at this; omega
    have hcs : cur.size = cap * 7 := by have := hcs; rw [show Enc.sz Inode = 7 from rfl] at this; omega
    have htk : cur.toList.take (xs.length * 7) = cells := by have := htk; rw [show xs.length * Enc.sz Inode = xs.length * 7 from by show xs.length * 7 = _; omega] at this; exact this
    have hts : ti.size = 7 := hts
    have hgv := hb
    have hap0 := fun ty => run_append_zeros (P := Try.prog) w 28 3 ty 37 ti z .i64 .i64 ty_Inode.und (by rfl) hti hz ⟨g0, 0, none⟩ i cap (xs.length + 1 - i) (cells.take (i * 7)) (by rw [List.length_take, hcl, hts]; omega)
      (fun j v hj => by
        rw [Addr.add_lit, cell_of_row _ _ _ _ _ _ hg0, Nat.zero_add, ← Array.getElem?_toList]
        rw [← htk, List.take_take, List.getElem?_take] at hj
        split at hj
        · exact hj
        · cases hj) (by omega) (by omega) (by omega) (by omega) (by omega)
    have e1 : i + (xs.length + 1 - i) = xs.length + 1 := by omega
    have e2 : ((xs.length + 1 - i : Nat) : Int) = (xs.length : Int) + 1 - i := by omega
    rw [e1, e2] at hap0
    obtain ⟨g1, hg1⟩ : ∃ g1, g1 = w.heap.size := ⟨_, rfl⟩
    obtain ⟨C, hC⟩ : ∃ C, C = grownCap w (xs.length + 1) cap 37 := ⟨_, rfl⟩
    have hC1 : xs.length + 1 ≤ C := by rw [hC]; exact grownCap_ge _ _ _ _
    have hC2 : C ≤ maxLen := by rw [hC]; exact grownCap_le_maxLen _ _ _ _ (by unfold maxLen; omega)
    have hC3 : C ≤ 9223372036854775807 := by unfold maxLen at hC2; omega
    obtain ⟨cur0, hc0⟩ : ∃ cur0, cur0 = (cells.take (i * 7)).toArray ++ Builtin.zeroCells z.cells (xs.length + 1 - i) ++ Builtin.zeroCells z.cells (C - (xs.length + 1)) := ⟨_, rfl⟩
    rw [← hC, ← hg1, ← hc0] at hap0
    have hzs : z.cells.size = 7 := hzc
    have hcs0 : cur0.size = C * 7 := by
      rw [hc0]; simp only [Array.size_append, List.size_toArray, size_zeroCells, hzs, List.length_take, hcl]; omega
    have hpre : ∀ j, j < i * 7 → cur0[j]? = cells[j]? := fun j hj => by
      rw [hc0, Array.append_assoc, Array.getElem?_append_left (by simp; omega)]
      simp [hj]
    obtain ⟨WA, hWA⟩ : ∃ WA, WA = w.drew.alloc (.cells cur0 37) := ⟨_, rfl⟩
    have ka : WA.heap[g1]? = some (.cells cur0 37 (0, 0)) := by rw [hWA, hg1]; exact heap_alloc_new w.drew _
    rw [← hWA] at hap0
    have GA : w.grownBy WA (some g0) := by rw [hWA]; exact ⟨rfl, rfl, rfl, by simp, fun k hk _ => heap_alloc_old w.drew _ hk⟩
    have hlv : gv < w.heap.size := (Array.getElem?_eq_some_iff.1 hb).1
    have hlg : g0 < w.heap.size := O.lt g0 rfl |>.2
    have gva : WA.heap[gv]? = some (.cells E.toArray 37 (0, 0)) := by rw [hWA]; rw [heap_alloc_old w.drew _ hlv]; exact hgv
    have g0a : WA.heap[g0]? = some (.cells cur 37 (0, 0)) := by rw [hWA]; rw [heap_alloc_old w.drew _ hlg]; exact hg0
    have hp1 : ∀ ty n1 dc, Nat.min 1 n1 = 1 → (Builtin.copy_ #[28, 28] ty #[.slice (some ⟨g1, i * 7, none⟩) n1 dc, .slice (some ⟨gv, 0, none⟩) 1 1]).run Try.prog WA = .ok (goInt (Nat.min 1 n1)) (WA.setCells g1 (i * 7) E) := fun ty n1 dc hm =>
      run_copy_any WA _ _ ty 37 7 g1 (i * 7) n1 dc ⟨gv, 0, none⟩ 1 1 E ty_Inode.und (by rfl) (by rw [hm, hEl])
        (fun j v hj => by
          rw [Addr.add_lit, cell_of_row _ _ _ _ _ _ gva]
          simpa using hj)
        (fun j hj => by
          rw [hEl] at hj
          rw [cell_of_row _ _ _ _ _ _ ka, Array.getElem?_eq_getElem (by omega)]; rfl)
        (fun j hj => by simp [World.frozen?, ka])
        hE1
    obtain ⟨WB, hWB⟩ : ∃ WB, WB = WA.setCells g1 (i * 7) E := ⟨_, rfl⟩
    obtain ⟨cur1, k1, k2, k3⟩ := heap_setCells g1 37 (0, 0) E (i * 7) WA cur0 ka
    rw [hEl] at k3
    have GB : w.grownBy WB (some g0) := by rw [hWB]; exact grown_new' g1 (by omega) _ _ _ GA
    have g0b : WB.heap[g0]? = some (.cells cur 37 (0, 0)) := by
      rw [hWB, setCells_ne' (by omega)]; exact g0a
    rw [← hWB] at k1 hp1
    have hp2 : ∀ ty n1 dc n2 sc, Nat.min n2 n1 = xs.length - i → (Builtin.copy_ #[28, 28] ty #[.slice (some ⟨g1, (i + 1) * 7, none⟩) n1 dc, .slice (some ⟨g0, i * 7, none⟩) n2 sc]).run Try.prog WB.drew = .ok (goInt (Nat.min n2 n1)) (WB.drew.setCells g1 ((i + 1) * 7) (cells.drop (i * 7))) := fun ty n1 dc n2 sc hm =>
      run_copy_any WB.drew _ _ ty 37 7 g1 ((i + 1) * 7) n1 dc ⟨g0, i * 7, none⟩ n2 sc (cells.drop (i * 7)) ty_Inode.und (by rfl) (by rw [hm, List.length_drop, hcl]; omega)
        (fun j v hj => by
          rw [Addr.add_lit, cell_of_row WB.drew _ _ _ _ _ g0b, ← Array.getElem?_toList]
          rw [List.getElem?_drop, ← htk, List.getElem?_take] at hj
          split at hj
          · exact hj
          · cases hj)
        (fun j hj => by
          rw [List.length_drop, hcl] at hj
          rw [cell_of_row WB.drew _ _ _ _ _ k1, Array.getElem?_eq_getElem (by omega)]; rfl)
        (fun j hj => by
          have k1' : WB.drew.heap[g1]? = some (.cells cur1 37 (0, 0)) := k1
          simp [World.frozen?, k1'])
        (fun v hv => R.one v (List.mem_of_mem_drop hv))
    obtain ⟨cur2, m1, m2, m3⟩ := heap_setCells g1 37 (0, 0) (cells.drop (i * 7)) ((i + 1) * 7) WB.drew cur1 k1
    have G2 := hid (grown_new' g1 (by omega) (cells.drop (i * 7)) ((i + 1) * 7) WB.drew ⟨GB.os, GB.tape, GB.output, GB.size, GB.block⟩)
    have SP := splice_In (cells := cells) (E := E) (i := i) (n := xs.length) hEl hcl (by omega) (cur := cur0) (cur2 := cur2) (by omega) (by omega) hpre
      (fun j hj => by
        rw [m3 j (by omega), List.length_drop, hcl, show (xs.length - i) * 7 = xs.length * 7 - i * 7 by omega]
        by_cases h1 : i * 7 ≤ j ∧ j < i * 7 + 7
        · rw [if_neg (by omega), if_pos h1, k3 j (by omega), if_pos h1]
        · rw [if_neg h1]
          by_cases h2 : (i + 1) * 7 ≤ j ∧ j < (i + 1) * 7 + (xs.length * 7 - i * 7)
          · rw [if_pos h2, if_pos h2, List.getElem?_drop]; congr 1; omega
          · rw [if_neg h2, if_neg h2, k3 j (by omega), if_neg h1])
    have OF := hid (show OwnL h (WB.drew.setCells g1 ((i + 1) * 7) (cells.drop (i * 7))) base 37 (.slice (some ⟨g1, 0, none⟩) (xs.length + 1) C) (xs.take i ++ [e] ++ xs.drop i) from by
      refine ⟨⟨cells.take (i * 7) ++ E ++ cells.drop (i * 7), ⟨?_, .inr ⟨g1, C, cur2, ?_, by omega, m1, ?_, hC2, by rw [m2, k2, hcs0]; show _ = C * 7; omega, ?_⟩⟩, reps_ins_In R HE.out i⟩, fun g hg => ?_⟩
      · simp [Enc.sz, hEl]; omega
      · simp; omega
      · simp; omega
      · rw [← SP]; congr 1; simp [Enc.sz]; omega
      · cases hg; show h g1 = none; exact hs.none (by omega))
    have hm1 : Nat.min 1 (xs.length + 1 - i) = 1 := by simp only [Nat.min_def]; split <;> omega
    have hm2 : Nat.min (xs.length - i) (xs.length - i) = xs.length - i := by simp only [Nat.min_def]; split <;> omega
    have hm3 : Nat.min (xs.length - i) (xs.length + 1 - (i + 1)) = xs.length - i := by simp only [Nat.min_def]; split <;> omega
    have hq1 := fun ty dc => hp1 ty _ dc hm1
    have hq2 := fun ty dc sc => hp2 ty _ dc _ sc hm2
    have hq3 := fun ty dc sc => hp2 ty _ dc _ sc hm3
    clear hg1 hp1 hp2 SP R O hw hcl hcs htk hgv hc0 hzs hcs0 hpre hWA ka GA gva g0a hWB k1 k2 k3 GB g0b m1 m2 m3 hg0 hC2 hC hcm hti hz hts htb hzc hlv hlg hb hE hE1
    have hz2 : ¬ ((i : Int) = (xs.length : Int)) := by omega
    have hb1 : (0 : Int) ≤ (i : Int) + 1 := by omega
    have hr1 : (cap : Int) < (xs.length : Int) + 1 := by omega
    have htn : ((i : Int) + 1).toNat = i + 1 := by omega
    have hb2 : ¬ (C = i + 1) := by omega
    have hb4 : ¬ (cap = i) := by omega
    have hb6 : ¬ (C = i) := by omega
    have hb3 : (i : Int) ≤ (xs.length : Int) + 1 := by omega
    have hb5 : (i : Int) + 1 ≤ (xs.length : Int) + 1 := by omega
    have hb7 : (i : Int) ≤ (cap : Int) := by omega
    have hw1 : IntKind.i64.wrap ((i : Int) + 1) = (i : Int) + 1 := by rw [IntKind.wrap_i64]; omega
    have hw2 : IntKind.i64.wrap ((xs.length : Int) + 1) = (xs.length : Int) + 1 := by rw [IntKind.wrap_i64]; omega
    have hw3 : IntKind.i64.wrap ((xs.length : Int) + 1 - (i : Int)) = (xs.length : Int) + 1 - (i : Int) := by rw [IntKind.wrap_i64]; omega
    go_enter Try.func69, Try.ntmps69
    go_wp2_with (at_builtin; refine Lib.wpList_append_run _ rfl _ _ _ _ rfl _ _ rfl rfl _ _ (hap0 _) ?_)
    go_wp2
    go_region
    go_wp2
    go_ret
    exact ⟨_, rfl, OF.out, G2.out⟩
theorem insert_In (xs : List Inode) (i : Nat) (hi : i ≤ xs.length) (e : Inode) (E : List Value) (hbig : xs.length ≤ 1000) (h : FH) (hE : Enc.rep h E e) (w : World) (hs : Sits h w) (base : Nat) (hbase : base ≤ w.heap.size) (v : Value) (O : OwnL h w base 37 v xs) (gv : Nat) (hb : w.heap[gv]? = some (.cells E.toArray 37 (0, 0))) (hne : v.ownBlock ≠ some gv) :
    Calls Try.prog 69 #[v, .int .i64 i, .slice (some ⟨gv, 0, none⟩) 1 1] w fun e' w' => ∃ v', e' = .returned v' ∧ OwnL h w' base 37 v' (xs.take i ++ [e] ++ xs.drop i) ∧ w.grownBy w' v.ownBlock := by
  by_cases he : i = xs.length
  · subst he
    have K := insend_In xs e E hbig h hE w hs base hbase v O gv hb
    simpa using K
  · have hlt : i < xs.length := by omega
    obtain ⟨cells, hw, _⟩ := O.own
    rcases hw.2 with ⟨rfl, hn⟩ | ⟨g0, cap, cur, rfl, _⟩
    · omega
    · by_cases hr : xs.length + 1 ≤ cap
      · exact insshift_In xs i hlt e E hbig h hE w hs base hbase g0 cap hr O gv hb (fun e => hne (by rw [e]; rfl))
      · exact insgrow_In xs i hlt e E hbig h hE w hs base hbase g0 cap (by omega) O gv hb

/-! ### slices.Insert at Int -/
theorem splice_Z {cells E : List Value} {i n : Nat} (hE : E.length = 1) (hc : cells.length = n) (hi : i ≤ n) {cur cur2 : Array Value} (hsz : n + 1 ≤ cur.size) (hs2 : cur2.size = cur.size)
    (hpre : ∀ j, j < i → cur[j]? = cells[j]?) (hget : ∀ j, j < cur.size → cur2[j]? = if i ≤ j ∧ j < i + 1 then E[j - i]? else if i + 1 ≤ j ∧ j < i + 1 + (n - i) then cells[j - 1]? else cur[j]?) :
    cur2.toList.take (n + 1) = cells.take (i) ++ E ++ cells.drop (i) := by
  apply List.ext_getElem?
  intro j
  rw [List.getElem?_take]
  by_cases hj : j < n + 1
  · rw [if_pos hj, Array.getElem?_toList, hget j (by omega)]
    by_cases h1 : j < i
    · rw [if_neg (by omega), if_neg (by omega), hpre j h1, List.append_assoc, List.getElem?_append_left (by simp; omega), List.getElem?_take, if_pos h1]
    · by_cases h2 : j < i + 1
      · rw [if_pos (by omega), List.append_assoc, List.getElem?_append_right (by simp; omega), List.getElem?_append_left (by simp; omega)]
        congr 1
        simp; omega
      · rw [if_neg (by omega), if_pos (by omega), List.getElem?_append_right (by simp; omega), List.getElem?_drop]
        congr 1
        simp; omega
  · rw [if_neg hj, List.getElem?_eq_none (by simp; omega)]
theorem reps_ins_Z {h : FH} {cells E : List Value} {xs : List Int} {e : Int} (R : Reps h cells xs) (hE : Enc.rep h E e) (i : Nat) : Reps h (cells.take (i) ++ E ++ cells.drop (i)) (xs.take i ++ [e] ++ xs.drop i) := by
  have h1 := R.take i
  have h2 := R.drop i
  rw [show i * Enc.sz Int = i from by show i * 1 = _; omega] at h1 h2
  exact (h1.append (Reps.single hE)).append h2
set_option maxHeartbeats 2000000 in
set_option maxRecDepth 100000 in
theorem insend_Z (xs : List Int) (e : Int) (E : List Value) (hbig : xs.length ≤ 1000) (h : FH) (hE : Enc.rep h E e) (w : World) (hs : Sits h w) (base : Nat) (hbase : base ≤ w.heap.size) (v : Value) (O : OwnL h w base 3 v xs) (gv : Nat) (hb : w.heap[gv]? = some (.cells E.toArray 3 (0, 0))) :
    Calls Try.prog 73 #[v, .int .i64 xs.length, .slice (some ⟨gv, 0, none⟩) 1 1] w fun e' w' => ∃ v', e' = .returned v' ∧ OwnL h w' base 3 v' (xs ++ [e]) ∧ w.grownBy w' v.ownBlock := by
  have OO := hid O
  have HE := hid hE
  have HB := hid (show (xs.length + 1) * 8 ≤ 140737488355328 by omega)
  have HC := hid (cells_of_box hb)
  obtain ⟨cells, hw, _⟩ := O.own
  rcases hw.2 with ⟨rfl, hn⟩ | ⟨g0, cap, cur, rfl, hb0, hg0, hlc, hcm, hcs, htk⟩
  · rw [hn] at hw
    have HN := hid hn
    clear hw O hb hE
    rw [hn]
    go_enter Try.func73, Try.ntmps73
    go_wp2_with (at_builtin; refine wpList_append1At rfl _ _ 29 rfl base 3 8 ty_Int _ xs rfl OO.out hs gv rfl E e HE.out HC.out HB.out (by decide) hbase ?_)
    intro v3 w6 O3 hg3
    have O3 := hid O3
    have hg3 := hid hg3
    go_wp2
    go_ret
    exact ⟨_, rfl, O3.out, hg3.out⟩
  · clear hw O hb hg0 hcs htk hE
    unfold maxLen at hcm
    go_enter Try.func73, Try.ntmps73
    go_wp2_with (at_builtin; refine wpList_append1At rfl _ _ 29 rfl base 3 8 ty_Int _ xs rfl OO.out hs gv rfl E e HE.out HC.out HB.out (by decide) hbase ?_)
    all_goals
      intro v3 w6 O3 hg3
      have O3 := hid O3
      have hg3 := hid hg3
      go_wp2
      go_ret
      exact ⟨_, rfl, O3.out, hg3.out⟩
set_option maxHeartbeats 2000000 in
set_option maxRecDepth 100000 in
theorem insshift_Z (xs : List Int) (i : Nat) (hi : i < xs.length) (e : Int) (E : List Value) (hbig : xs.length ≤ 1000) (h : FH) (hE : Enc.rep h E e) (w : World) (hs : Sits h w) (base : Nat) (hbase : base ≤ w.heap.size) (g0 cap : Nat) (hroom : xs.length + 1 ≤ cap) (O : OwnL h w base 3 (.slice (some ⟨g0, 0, none⟩) xs.length cap) xs) (gv : Nat) (hb : w.heap[gv]? = some (.cells E.toArray 3 (0, 0))) (hne : gv ≠ g0) :
    Calls Try.prog 73 #[.slice (some ⟨g0, 0, none⟩) xs.length cap, .int .i64 i, .slice (some ⟨gv, 0, none⟩) 1 1] w fun e' w' => ∃ v', e' = .returned v' ∧ OwnL h w' base 3 v' (xs.take i ++ [e] ++ xs.drop i) ∧ w.grownBy w' (some g0) := by
  have OO := hid O
  have hEl : E.length = 1 := Enc.len hE
  have HE := hid hE
  have hE1 := Enc.one hE
  obtain ⟨cells, hw, R⟩ := O.own
  rcases hw.2 with ⟨he, hn⟩ | ⟨g0', cap', cur, he, hb0, hg0, hlc, hcm, hcs, htk⟩
  · cases he
  · cases he
    have hcl : cells.length = xs.length := by have := hw.1; rw [show Enc.sz Int = 1 from rfl] at this; omega
    have hcs : cur.size = cap := by have := hcs; rw [show Enc.sz Int = 1 from rfl] at this; omega
    have htk : cur.toList.take (xs.length) = cells := by have := htk; rw [show xs.length * Enc.sz Int = xs.length from by show xs.length * 1 = _; omega] at this; exact this
    have hcm' : cap ≤ 9223372036854775807 := by unfold maxLen at hcm; omega
    have hgv := hb
    have hov : ∀ k lb cb, (callFunc 105 #[.slice (some ⟨gv, 0, none⟩) 1 1, .slice (some ⟨g0, k, none⟩) lb cb]).run Try.prog w = .ok (.value (.bool false)) w := fun k lb cb => by
      rw [run_callFunc_extern Try.func105 (by kernel_rfl) (by kernel_rfl) (by kernel_rfl) (e := Extern.SlicesOverlaps.overlaps #[29, 29] #[4]) (by kernel_rfl),
        Lib.run_overlaps_apart w 29 4 3 ty_Int.und 1 (fun _ => rfl) ⟨gv, 0, none⟩ ⟨g0, k, none⟩ 1 1 lb cb hne 3 3 1 (cap) (by unfold World.shape?; rw [hgv]; simp [hEl]) (by unfold World.shape?; rw [hg0]; simp [hcs]) (by omega) (by simp [World.frozen?, hgv]) (by simp [World.frozen?, hgv])]
      rfl
    have hz2 : ¬ ((i : Int) = (xs.length : Int)) := by omega
    have hb1 : (0 : Int) ≤ (i : Int) + 1 := by omega
    have hr1 : ¬ ((cap : Int) < (xs.length : Int) + 1) := by omega
    have hr2 : (xs.length : Int) + 1 ≤ (cap : Int) := by omega
    have htn : ((i : Int) + 1).toNat = i + 1 := by omega
    have htn2 : ((xs.length : Int) + 1).toNat = xs.length + 1 := by omega
    have hb2 : ¬ (cap = i + 1) := by omega
    have hb3 : (i : Int) ≤ (xs.length : Int) + 1 := by omega
    have hb4 : ¬ (cap = i) := by omega
    have hb5 : (i : Int) + 1 ≤ (xs.length : Int) + 1 := by omega
    have hw1 : IntKind.i64.wrap ((i : Int) + 1) = (i : Int) + 1 := by rw [IntKind.wrap_i64]; omega
    clear hw hE
    have hcp1 : ∀ (W : World), (∀ x, W.cell? x = w.cell? x) → (∀ x, W.frozen? x = w.frozen? x) → ∀ ty n1 dc n2 sc, Nat.min n2 n1 = xs.length - i → (Builtin.copy_ #[29, 29] ty #[.slice (some ⟨g0, i + 1, none⟩) n1 dc, .slice (some ⟨g0, i, none⟩) n2 sc]).run Try.prog W = .ok (goInt (Nat.min n2 n1)) (W.setCells g0 (i + 1) (cells.drop (i))) := fun W hWc hWf ty n1 dc n2 sc hm =>
      run_copy_any W _ _ ty 3 1 g0 (i + 1) n1 dc ⟨g0, i, none⟩ n2 sc (cells.drop (i)) ty_Int.und (by rfl) (by rw [hm, List.length_drop, hcl]; omega)
        (fun j v hj => by
          rw [Addr.add_lit, hWc, cell_of_row _ _ _ _ _ _ hg0, ← Array.getElem?_toList]
          rw [List.getElem?_drop, ← htk, List.getElem?_take] at hj
          split at hj
          · exact hj
          · cases hj)
        (fun j hj => by
          rw [List.length_drop, hcl] at hj
          rw [hWc, cell_of_row _ _ _ _ _ _ hg0, Array.getElem?_eq_getElem (by omega)]; rfl)
        (fun j hj => by rw [hWf]; simp [World.frozen?, hg0])
        (fun v hv => R.one v (List.mem_of_mem_drop hv))
    have hm1 : Nat.min (xs.length + 1 - i) (xs.length - i) = xs.length - i := by simp only [Nat.min_def]; split <;> omega
    have hm2 : Nat.min (xs.length + 1 - i) (xs.length + 1 - (i + 1)) = xs.length - i := by simp only [Nat.min_def]; split <;> omega
    obtain ⟨W1, hW1⟩ : ∃ W1, W1 = w.drew.setCells g0 (i + 1) (cells.drop (i)) := ⟨_, rfl⟩
    obtain ⟨cur1, k1, k2, k3⟩ := heap_setCells g0 3 (0, 0) (cells.drop (i)) (i + 1) w.drew cur hg0
    rw [← hW1] at k1
    have G1 : w.grownBy W1 (some g0) := by rw [hW1]; exact grown_setCells' g0 _ _ _ ⟨rfl, rfl, rfl, Nat.le_refl _, fun _ _ _ => rfl⟩
    have gb : W1.heap[gv]? = some (.cells E.toArray 3 (0, 0)) := by
      rw [G1.block gv (Array.getElem?_eq_some_iff.1 hb).1 (by simpa using hne)]; exact hb
    have hq1 := fun ty dc sc => hcp1 w.drew (fun _ => rfl) (fun _ => rfl) ty _ dc _ sc hm1
    have hq2 := fun ty dc sc => hcp1 w.drew (fun _ => rfl) (fun _ => rfl) ty _ dc _ sc hm2
    rw [← hW1] at hq1 hq2
    have hq3 : ∀ ty dc, (Builtin.copy_ #[29, 29] ty #[.slice (some ⟨g0, i, none⟩) (xs.length + 1 - i) dc, .slice (some ⟨gv, 0, none⟩) 1 1]).run Try.prog W1 = .ok (goInt (Nat.min 1 (xs.length + 1 - i))) (W1.setCells g0 (i) E) := fun ty dc =>
      run_copy_any W1 _ _ ty 3 1 g0 (i) _ dc ⟨gv, 0, none⟩ 1 1 E ty_Int.und (by rfl) (by rw [hEl]; simp only [Nat.min_def]; split <;> first | rfl | omega)
        (fun j v hj => by
          rw [Addr.add_lit, cell_of_row _ _ _ _ _ _ gb]
          simpa using hj)
        (fun j hj => by
          rw [hEl] at hj
          rw [cell_of_row _ _ _ _ _ _ k1, Array.getElem?_eq_getElem (by rw [k2]; omega)]; rfl)
        (fun j hj => by simp [World.frozen?, k1])
        hE1
    obtain ⟨cur2, m1, m2, m3⟩ := heap_setCells g0 3 (0, 0) E (i) W1 cur1 k1
    rw [hEl] at m3
    have G2 := hid (grown_setCells' g0 E (i) _ G1)
    have SP := splice_Z (cells := cells) (E := E) (i := i) (n := xs.length) hEl hcl (by omega) (cur := cur) (cur2 := cur2) (by omega) (by omega)
      (fun j hj => by
        rw [← htk, List.getElem?_take, if_pos (show j < xs.length by omega), Array.getElem?_toList])
      (fun j hj => by
        rw [m3 j (by omega)]
        by_cases h1 : i ≤ j ∧ j < i + 1
        · rw [if_pos h1, if_pos h1]
        · rw [if_neg h1, if_neg h1, k3 j hj]
          rw [List.length_drop, hcl, show (xs.length - i) = xs.length - i by omega]
          by_cases h2 : i + 1 ≤ j ∧ j < i + 1 + (xs.length - i)
          · rw [if_pos h2, if_pos h2, List.getElem?_drop]; congr 1; omega
          · rw [if_neg h2, if_neg h2])
    have OF := hid (show OwnL h (W1.setCells g0 (i) E) base 3 (.slice (some ⟨g0, 0, none⟩) (xs.length + 1) cap) (xs.take i ++ [e] ++ xs.drop i) from by
      refine ⟨⟨cells.take (i) ++ E ++ cells.drop (i), ⟨?_, .inr ⟨g0, cap, cur2, ?_, hb0, m1, ?_, hcm, by rw [m2, k2, hcs]; show _ = cap * 1; omega, ?_⟩⟩, reps_ins_Z R HE.out i⟩, O.free⟩
      · simp [Enc.sz, hEl]; omega
      · simp; omega
      · simp; omega
      · rw [← SP]; congr 1; simp [Enc.sz]; omega)
    clear hcp1 hW1 k1 k2 k3 G1 gb m1 m2 m3 SP R OO hg0 htk hcm O hgv hE1 hb
    go_enter Try.func73, Try.ntmps73
    go_wp2_with (simp only [hov])
    go_region
    go_wp2
    go_ret
    exact ⟨_, rfl, OF.out, G2.out⟩
set_option maxHeartbeats 2000000 in
set_option maxRecDepth 100000 in
theorem insgrow_Z (xs : List Int) (i : Nat) (hi : i < xs.length) (e : Int) (E : List Value) (hbig : xs.length ≤ 1000) (h : FH) (hE : Enc.rep h E e) (w : World) (hs : Sits h w) (base : Nat) (hbase : base ≤ w.heap.size) (g0 cap : Nat) (hroom : cap < xs.length + 1) (O : OwnL h w base 3 (.slice (some ⟨g0, 0, none⟩) xs.length cap) xs) (gv : Nat) (hb : w.heap[gv]? = some (.cells E.toArray 3 (0, 0))) :
    Calls Try.prog 73 #[.slice (some ⟨g0, 0, none⟩) xs.length cap, .int .i64 i, .slice (some ⟨gv, 0, none⟩) 1 1] w fun e' w' => ∃ v', e' = .returned v' ∧ OwnL h w' base 3 v' (xs.take i ++ [e] ++ xs.drop i) ∧ w.grownBy w' (some g0) := by
  have hEl : E.length = 1 := Enc.len hE
  have HE := hid hE
  have hE1 := Enc.one hE
  obtain ⟨cells, hw, R⟩ := O.own
  obtain ⟨ti, z, hti, hz, hts, htb, hzc⟩ := ty_Int.info
  rcases hw.2 with ⟨he, hn⟩ | ⟨g0', cap', cur, he, hb0, hg0, hlc, hcm, hcs, htk⟩
  · cases he
  · cases he
    have hcl : cells.length = xs.length := by have := hw.1; rw [show Enc.sz Int = 1 from rfl] at this; omega
    have hcs : cur.size = cap := by have := hcs; rw [show Enc.sz Int = 1 from rfl] at this; omega
    have htk : cur.toList.take (xs.length) = cells := by have := htk; rw [show xs.length * Enc.sz Int = xs.length from by show xs.length * 1 = _; omega] at this; exact this
    have hts : ti.size = 1 := hts
    have hgv := hb
    have hap0 := fun ty => run_append_zeros (P := Try.prog) w 29 3 ty 3 ti z .i64 .i64 ty_Int.und (by rfl) hti hz ⟨g0, 0, none⟩ i cap (xs.length + 1 - i) (cells.take (i)) (by rw [List.length_take, hcl, hts]; omega)
      (fun j v hj => by
        rw [Addr.add_lit, cell_of_row _ _ _ _ _ _ hg0, Nat.zero_add, ← Array.getElem?_toList]
        rw [← htk, List.take_take, List.getElem?_take] at hj
        split at hj
        · exact hj
        · cases hj) (by omega) (by omega) (by omega) (by omega) (by omega)
    have e1 : i + (xs.length + 1 - i) = xs.length + 1 := by omega
    have e2 : ((xs.length + 1 - i : Nat) : Int) = (xs.length : Int) + 1 - i := by omega
    rw [e1, e2] at hap0
    obtain ⟨g1, hg1⟩ : ∃ g1, g1 = w.heap.size := ⟨_, rfl⟩
    obtain ⟨C, hC⟩ : ∃ C, C = grownCap w (xs.length + 1) cap 3 := ⟨_, rfl⟩
    have hC1 : xs.length + 1 ≤ C := by rw [hC]; exact grownCap_ge _ _ _ _
    have hC2 : C ≤ maxLen := by rw [hC]; exact grownCap_le_maxLen _ _ _ _ (by unfold maxLen; omega)
    have hC3 : C ≤ 9223372036854775807 := by unfold maxLen at hC2; omega
    obtain ⟨cur0, hc0⟩ : ∃ cur0, cur0 = (cells.take (i)).toArray ++ Builtin.zeroCells z.cells (xs.length + 1 - i) ++ Builtin.zeroCells z.cells (C - (xs.length + 1)) := ⟨_, rfl⟩
    rw [← hC, ← hg1, ← hc0] at hap0
    have hzs : z.cells.size = 1 := hzc
    have hcs0 : cur0.size = C := by
      rw [hc0]; simp only [Array.size_append, List.size_toArray, size_zeroCells, hzs, List.length_take, hcl]; omega
    have hpre : ∀ j, j < i → cur0[j]? = cells[j]? := fun j hj => by
      rw [hc0, Array.append_assoc, Array.getElem?_append_left (by simp; omega)]
      simp [hj]
    obtain ⟨WA, hWA⟩ : ∃ WA, WA = w.drew.alloc (.cells cur0 3) := ⟨_, rfl⟩
    have ka : WA.heap[g1]? = some (.cells cur0 3 (0, 0)) := by rw [hWA, hg1]; exact heap_alloc_new w.drew _
    rw [← hWA] at hap0
    have GA : w.grownBy WA (some g0) := by rw [hWA]; exact ⟨rfl, rfl, rfl, by simp, fun k hk _ => heap_alloc_old w.drew _ hk⟩
    have hlv : gv < w.heap.size := (Array.getElem?_eq_some_iff.1 hb).1
    have hlg : g0 < w.heap.size := O.lt g0 rfl |>.2
    have gva : WA.heap[gv]? = some (.cells E.toArray 3 (0, 0)) := by rw [hWA]; rw [heap_alloc_old w.drew _ hlv]; exact hgv
    have g0a : WA.heap[g0]? = some (.cells cur 3 (0, 0)) := by rw [hWA]; rw [heap_alloc_old w.drew _ hlg]; exact hg0
    have hp1 : ∀ ty n1 dc, Nat.min 1 n1 = 1 → (Builtin.copy_ #[29, 29] ty #[.slice (some ⟨g1, i, none⟩) n1 dc, .slice (some ⟨gv, 0, none⟩) 1 1]).run Try.prog WA = .ok (goInt (Nat.min 1 n1)) (WA.setCells g1 (i) E) := fun ty n1 dc hm =>
      run_copy_any WA _ _ ty 3 1 g1 (i) n1 dc ⟨gv, 0, none⟩ 1 1 E ty_Int.und (by rfl) (by rw [hm, hEl])
        (fun j v hj => by
          rw [Addr.add_lit, cell_of_row _ _ _ _ _ _ gva]
          simpa using hj)
        (fun j hj => by
          rw [hEl] at hj
          rw [cell_of_row _ _ _ _ _ _ ka, Array.getElem?_eq_getElem (by omega)]; rfl)
        (fun j hj => by simp [World.frozen?, ka])
        hE1
    obtain ⟨WB, hWB⟩ : ∃ WB, WB = WA.setCells g1 (i) E := ⟨_, rfl⟩
    obtain ⟨cur1, k1, k2, k3⟩ := heap_setCells g1 3 (0, 0) E (i) WA cur0 ka
    rw [hEl] at k3
    have GB : w.grownBy WB (some g0) := by rw [hWB]; exact grown_new' g1 (by omega) _ _ _ GA
    have g0b : WB.heap[g0]? = some (.cells cur 3 (0, 0)) := by
      rw [hWB, setCells_ne' (by omega)]; exact g0a
    rw [← hWB] at k1 hp1
    have hp2 : ∀ ty n1 dc n2 sc, Nat.min n2 n1 = xs.length - i → (Builtin.copy_ #[29, 29] ty #[.slice (some ⟨g1, i + 1, none⟩) n1 dc, .slice (some ⟨g0, i, none⟩) n2 sc]).run Try.prog WB.drew = .ok (goInt (Nat.min n2 n1)) (WB.drew.setCells g1 (i + 1) (cells.drop (i))) := fun ty n1 dc n2 sc hm =>
      run_copy_any WB.drew _ _ ty 3 1 g1 (i + 1) n1 dc ⟨g0, i, none⟩ n2 sc (cells.drop (i)) ty_Int.und (by rfl) (by rw [hm, List.length_drop, hcl]; omega)
        (fun j v hj => by
          rw [Addr.add_lit, cell_of_row WB.drew _ _ _ _ _ g0b, ← Array.getElem?_toList]
          rw [List.getElem?_drop, ← htk, List.getElem?_take] at hj
          split at hj
          · exact hj
          · cases hj)
        (fun j hj => by
          rw [List.length_drop, hcl] at hj
          rw [cell_of_row WB.drew _ _ _ _ _ k1, Array.getElem?_eq_getElem (by omega)]; rfl)
        (fun j hj => by
          have k1' : WB.drew.heap[g1]? = some (.cells cur1 3 (0, 0)) := k1
          simp [World.frozen?, k1'])
        (fun v hv => R.one v (List.mem_of_mem_drop hv))
    obtain ⟨cur2, m1, m2, m3⟩ := heap_setCells g1 3 (0, 0) (cells.drop (i)) (i + 1) WB.drew cur1 k1
    have G2 := hid (grown_new' g1 (by omega) (cells.drop (i)) (i + 1) WB.drew ⟨GB.os, GB.tape, GB.output, GB.size, GB.block⟩)
    have SP := splice_Z (cells := cells) (E := E) (i := i) (n := xs.length) hEl hcl (by omega) (cur := cur0) (cur2 := cur2) (by omega) (by omega) hpre
      (fun j hj => by
        rw [m3 j (by omega), List.length_drop, hcl, show (xs.length - i) = xs.length - i by omega]
        by_cases h1 : i ≤ j ∧ j < i + 1
        · rw [if_neg (by omega), if_pos h1, k3 j (by omega), if_pos h1]
        · rw [if_neg h1]
          by_cases h2 : i + 1 ≤ j ∧ j < i + 1 + (xs.length - i)
          · rw [if_pos h2, if_pos h2, List.getElem?_drop]; congr 1; omega
          · rw [if_neg h2, if_neg h2, k3 j (by omega), if_neg h1])
    have OF := hid (show OwnL h (WB.drew.setCells g1 (i + 1) (cells.drop (i))) base 3 (.slice (some ⟨g1, 0, none⟩) (xs.length + 1) C) (xs.take i ++ [e] ++ xs.drop i) from by
      refine ⟨⟨cells.take (i) ++ E ++ cells.drop (i), ⟨?_, .inr ⟨g1, C, cur2, ?_, by omega, m1, ?_, hC2, by rw [m2, k2, hcs0]; show _ = C * 1; omega, ?_⟩⟩, reps_ins_Z R HE.out i⟩, fun g hg => ?_⟩
      · simp [Enc.sz, hEl]; omega
      · simp; omega
      · simp; omega
      · rw [← SP]; congr 1; simp [Enc.sz]; omega
      · cases hg; show h g1 = none; exact hs.none (by omega))
    have hm1 : Nat.min 1 (xs.length + 1 - i) = 1 := by simp only [Nat.min_def]; split <;> omega
    have hm2 : Nat.min (xs.length - i) (xs.length - i) = xs.length - i := by simp only [Nat.min_def]; split <;> omega
    have hm3 : Nat.min (xs.length - i) (xs.length + 1 - (i + 1)) = xs.length - i := by simp only [Nat.min_def]; split <;> omega
    have hq1 := fun ty dc => hp1 ty _ dc hm1
    have hq2 := fun ty dc sc => hp2 ty _ dc _ sc hm2
    have hq3 := fun ty dc sc => hp2 ty _ dc _ sc hm3
    clear hg1 hp1 hp2 SP R O hw hcl hcs htk hgv hc0 hzs hcs0 hpre hWA ka GA gva g0a hWB k1 k2 k3 GB g0b m1 m2 m3 hg0 hC2 hC hcm hti hz hts htb hzc hlv hlg hb hE hE1
    have hz2 : ¬ ((i : Int) = (xs.length : Int)) := by omega
    have hb1 : (0 : Int) ≤ (i : Int) + 1 := by omega
    have hr1 : (cap : Int) < (xs.length : Int) + 1 := by omega
    have htn : ((i : Int) + 1).toNat = i + 1 := by omega
    have hb2 : ¬ (C = i + 1) := by omega
    have hb4 : ¬ (cap = i) := by omega
    have hb6 : ¬ (C = i) := by omega
    have hb3 : (i : Int) ≤ (xs.length : Int) + 1 := by omega
    have hb5 : (i : Int) + 1 ≤ (xs.length : Int) + 1 := by omega
    have hb7 : (i : Int) ≤ (cap : Int) := by omega
    have hw1 : IntKind.i64.wrap ((i : Int) + 1) = (i : Int) + 1 := by rw [IntKind.wrap_i64]; omega
    have hw2 : IntKind.i64.wrap ((xs.length : Int) + 1) = (xs.length : Int) + 1 := by rw [IntKind.wrap_i64]; omega
    have hw3 : IntKind.i64.wrap ((xs.length : Int) + 1 - (i : Int)) = (xs.length : Int) + 1 - (i : Int) := by rw [IntKind.wrap_i64]; omega
    go_enter Try.func73, Try.ntmps73
    go_wp2_with (at_builtin; refine Lib.wpList_append_run _ rfl _ _ _ _ rfl _ _ rfl rfl _ _ (hap0 _) ?_)
    go_wp2
    go_region
    go_wp2
    go_ret
    exact ⟨_, rfl, OF.out, G2.out⟩
theorem insert_Z (xs : List Int) (i : Nat) (hi : i ≤ xs.length) (e : Int) (E : List Value) (hbig : xs.length ≤ 1000) (h : FH) (hE : Enc.rep h E e) (w : World) (hs : Sits h w) (base : Nat) (hbase : base ≤ w.heap.size) (v : Value) (O : OwnL h w base 3 v xs) (gv : Nat) (hb : w.heap[gv]? = some (.cells E.toArray 3 (0, 0))) (hne : v.ownBlock ≠ some gv) :
    Calls Try.prog 73 #[v, .int .i64 i, .slice (some ⟨gv, 0, none⟩) 1 1] w fun e' w' => ∃ v', e' = .returned v' ∧ OwnL h w' base 3 v' (xs.take i ++ [e] ++ xs.drop i) ∧ w.grownBy w' v.ownBlock := by
  by_cases he : i = xs.length
  · subst he
    have K := insend_Z xs e E hbig h hE w hs base hbase v O gv hb
    simpa using K
  · have hlt : i < xs.length := by omega
    obtain ⟨cells, hw, _⟩ := O.own
    rcases hw.2 with ⟨rfl, hn⟩ | ⟨g0, cap, cur, rfl, _⟩
    · omega
    · by_cases hr : xs.length + 1 ≤ cap
      · exact insshift_Z xs i hlt e E hbig h hE w hs base hbase g0 cap hr O gv hb (fun e => hne (by rw [e]; rfl))
      · exact insgrow_Z xs i hlt e E hbig h hE w hs base hbase g0 cap (by omega) O gv hb
end Go.Proofs.Ytkglaofiencfdaa

namespace Go.Proofs.Ytkglaofiencfdaa
open Go.RowKit Go.Sort
set_option linter.unusedVariables false
section
variable {α : Type} [Enc α]
theorem Sits.grown {h : FH} {w w' : World} (hs : Sits h w) {g : Nat} (G : w.grownBy w' (some g)) (hn : h g = Option.none) : Sits h w' := fun b x hb => by
  rw [G.block b (hs.lt (by rw [hb]; simp)) (fun e => by cases e; rw [hn] at hb; cases hb)]; exact hs b x hb
theorem Ext.grownBy {h h1 : FH} {w w1 : World} (E : Ext h w h1 w1) (r : Option Nat) : w.grownBy w1 r := grownBy_of_ext E r
theorem frozen_set {w : World} {g : Nat} {cells : Array Value} {t : TypeId} {fr : Nat × Nat} : True := trivial
/-- A whole element is written. -/
theorem OwnL.setElem {h : FH} {w : World} {base : Nat} {e : TypeId} {g n cap : Nat} {xs : List α} (o : OwnL h w base e (.slice (some ⟨g, 0, none⟩) n cap) xs) {i : Nat} {y : α} {cs : List Value} (hi : i < xs.length) (hy : Enc.rep h cs y) :
    OwnL h (w.setCells g (i * Enc.sz α) cs) base e (.slice (some ⟨g, 0, none⟩) n cap) (xs.set i y) := by
  obtain ⟨cells, hw, r⟩ := o.own
  have hcl : cells.length = xs.length * Enc.sz α := hw.1
  have hyl : cs.length = Enc.sz α := Enc.len hy
  have hlt : (i + 1) * Enc.sz α ≤ xs.length * Enc.sz α := Nat.mul_le_mul_right _ hi
  have hlt2 : i * Enc.sz α + Enc.sz α ≤ xs.length * Enc.sz α := by rw [Nat.add_mul] at hlt; omega
  refine ⟨⟨cells.take (i * Enc.sz α) ++ cs ++ cells.drop ((i + 1) * Enc.sz α), ⟨?_, ?_⟩, r.set hi hy⟩, o.free⟩
  · rw [List.length_set]; simp only [List.length_append, List.length_take, List.length_drop, hcl, hyl, Nat.add_mul, Nat.one_mul]; omega
  · rcases hw.2 with ⟨he, hn⟩ | ⟨g', cap', cur, he, hb, hg, hc, hm, hcs, htake⟩
    · cases he
    · cases he
      obtain ⟨cur2, m1, m2, m3⟩ := heap_setCells g e (0, 0) cs (i * Enc.sz α) w cur hg
      refine .inr ⟨g, cap, cur2, by rw [List.length_set], hb, m1, by rw [List.length_set]; exact hc, hm, by rw [m2]; exact hcs, ?_⟩
      have hcap : xs.length * Enc.sz α ≤ cap * Enc.sz α := Nat.mul_le_mul_right _ hc
      have hcs' : cur.size = cap * Enc.sz α := hcs
      rw [List.length_set]
      apply List.ext_getElem?
      intro j
      rw [List.getElem?_take]
      by_cases hj : j < xs.length * Enc.sz α
      · rw [if_pos hj, Array.getElem?_toList, m3 j (by omega), hyl]
        by_cases h1 : i * Enc.sz α ≤ j ∧ j < i * Enc.sz α + Enc.sz α
        · rw [if_pos h1, List.append_assoc, List.getElem?_append_right (by simp only [List.length_take, hcl]; omega), List.getElem?_append_left (by simp only [List.length_take, hcl, hyl]; omega)]
          congr 1
          simp only [List.length_take, hcl]; omega
        · rw [if_neg h1]
          have hcj : cur[j]? = cells[j]? := by rw [← htake, List.getElem?_take, if_pos hj, Array.getElem?_toList]
          rw [hcj]
          by_cases h2 : j < i * Enc.sz α
          · rw [List.append_assoc, List.getElem?_append_left (by simp only [List.length_take, hcl]; omega), List.getElem?_take, if_pos h2]
          · rw [List.getElem?_append_right (by simp only [List.length_append, List.length_take, hcl, hyl]; omega), List.getElem?_drop]
            congr 1
            simp only [List.length_append, List.length_take, hcl, hyl, Nat.add_mul, Nat.one_mul]; omega
      · rw [if_neg hj, List.getElem?_eq_none]
        simp only [List.length_append, List.length_take, List.length_drop, hcl, hyl, Nat.add_mul, Nat.one_mul]; omega
/-- What lies behind is written, and cut off. -/
theorem OwnL.cut {h : FH} {w : World} {base : Nat} {e : TypeId} {g n cap : Nat} {xs : List α} (o : OwnL h w base e (.slice (some ⟨g, 0, none⟩) n cap) xs) {i : Nat} (hi : i ≤ xs.length) (vs : List Value) :
    OwnL h (w.setCells g (i * Enc.sz α) vs) base e (.slice (some ⟨g, 0, none⟩) i cap) (xs.take i) := by
  obtain ⟨cells, hw, r⟩ := o.own
  have hcl : cells.length = xs.length * Enc.sz α := hw.1
  have hlt : i * Enc.sz α ≤ xs.length * Enc.sz α := Nat.mul_le_mul_right _ hi
  have hli : (xs.take i).length = i := by rw [List.length_take]; omega
  refine ⟨⟨cells.take (i * Enc.sz α), ⟨?_, ?_⟩, r.take i⟩, fun g' hg' => o.free g' hg'⟩
  · rw [hli, List.length_take, hcl]; omega
  · rcases hw.2 with ⟨he, hn⟩ | ⟨g', cap', cur, he, hb, hg, hc, hm, hcs, htake⟩
    · cases he
    · cases he
      obtain ⟨cur2, m1, m2, m3⟩ := heap_setCells g e (0, 0) vs (i * Enc.sz α) w cur hg
      have hcap : xs.length * Enc.sz α ≤ cap * Enc.sz α := Nat.mul_le_mul_right _ hc
      have hcs' : cur.size = cap * Enc.sz α := hcs
      refine .inr ⟨g, cap, cur2, by rw [hli], hb, m1, by rw [hli]; omega, hm, by rw [m2]; exact hcs, ?_⟩
      rw [hli]
      apply List.ext_getElem?
      intro j
      rw [List.getElem?_take, List.getElem?_take]
      by_cases hj : j < i * Enc.sz α
      · rw [if_pos hj, if_pos hj, Array.getElem?_toList, m3 j (by omega), if_neg (by omega), ← htake, List.getElem?_take, if_pos (by omega), Array.getElem?_toList]
      · rw [if_neg hj, if_neg hj]
end
def neI (no : Int) (x : Inode) : Bool := !isI no x
theorem keep_filter {p : Inode → Bool} {xs ys : List Inode} {i j : Nat} {x : Inode} (hl : ys.length = xs.length) (ht : ys.take i = (xs.take j).filter p) (hd : ys.drop j = xs.drop j) (hi : i < j) (hj : j < xs.length) (hx : ys[j]? = some x) :
    xs[j]? = some x ∧ (p x = false → ys.take i = (xs.take (j + 1)).filter p ∧ ys.drop (j + 1) = xs.drop (j + 1)) ∧ (p x = true → (ys.set i x).take (i + 1) = (xs.take (j + 1)).filter p ∧ (ys.set i x).drop (j + 1) = xs.drop (j + 1)) := by
  have hxj : xs[j]? = some x := by
    have : (ys.drop j)[0]? = (xs.drop j)[0]? := by rw [hd]
    rw [List.getElem?_drop, List.getElem?_drop, Nat.add_zero] at this
    rw [← this]; exact hx
  have hts : xs.take (j + 1) = xs.take j ++ [x] := by
    rw [List.take_add_one, hxj]; rfl
  have hd1 : ys.drop (j + 1) = xs.drop (j + 1) := by
    have : (ys.drop j).drop 1 = (xs.drop j).drop 1 := by rw [hd]
    rw [List.drop_drop, List.drop_drop] at this
    exact this
  refine ⟨hxj, fun hp => ⟨?_, hd1⟩, fun hp => ⟨?_, ?_⟩⟩
  · rw [hts, List.filter_append, ← ht]; simp [hp]
  · rw [hts, List.filter_append, ← ht]
    rw [List.take_add_one, List.getElem?_set_self (by omega)]
    have : (ys.set i x).take i = ys.take i := by rw [List.take_set_of_le (Nat.le_refl _)]
    rw [this]; simp [hp]
  · rw [List.drop_set_of_lt (by omega)]; exact hd1
theorem skip_filter {p : Inode → Bool} {xs : List Inode} {k : Nat} {x : Inode} (h : ∀ i y, i < k → xs[i]? = some y → p y = true) (hx : xs[k]? = some x) (hp : p x = false) : xs.take k = (xs.take (k + 1)).filter p := by
  have hk := (List.getElem?_eq_some_iff.1 hx).1
  rw [List.take_add_one, hx, List.filter_append]
  have : (xs.take k).filter p = xs.take k := List.filter_eq_self.2 fun y hy => by
    obtain ⟨i, hi, rfl⟩ := List.mem_iff_getElem.1 hy
    rw [List.length_take] at hi
    exact h i _ (by omega) (by rw [List.getElem_take]; exact List.getElem?_eq_getElem _)
  rw [this]; simp [hp]
theorem zero_Inode : ∀ w, (zeroValue 37).run Try.prog w = .ok (.agg #[.int .i64 0, .int .i64 0, .int .i64 0, .int .i64 0, .string ⟨#[]⟩, .slice none 0 0, .slice none 0 0]) w := fun w => by
  obtain ⟨i, hi, hz, _⟩ := info_parts (show (Try.prog.info? 37).map (fun i => (i.zero, i.size, i.bytes)) = some (some (.agg #[.int .i64 0, .int .i64 0, .int .i64 0, .int .i64 0, .string ⟨#[]⟩, .slice none 0 0, .slice none 0 0]), 7, 96) from by kernel_rfl)
  simp [zeroValue, typeInfo, hi, hz]
set_option maxHeartbeats 8000000 in
set_option maxRecDepth 100000 in
theorem deleteFunc_Inode (xs : List Inode) (no : Int) (hbig : xs.length ≤ 1000) (h : FH) (w : World) (hs : Sits h w) (base : Nat) (v : Value) (O : OwnL h w base 37 v xs) (p : Nat) (hp : h.cell ⟨p, 1, none⟩ = some (.int .i64 no)) :
    Calls Try.prog 38 #[v, .func (.func 39) #[] #[.pointer (some ⟨p, 0, none⟩)]] w fun e w' => ∃ v', e = .returned v' ∧ OwnL h w' base 37 v' (xs.filter (neI no)) ∧ w.grownBy w' v.ownBlock := by
  obtain ⟨h', A, c, hv, hc', rA, le', hs', fr'⟩ := O.freeze hs (by omega)
  have KI := hid (index_Apply1 xs A c no h' p (le'.cell hp) w hs' rA)
  have HP := hid hp
  have HS := hid hs
  clear hs' fr' le' rA hp
  cases hix : xs.findIdx? (isI no) with
  | none =>
    have HI := hid (show ixB (isI no) xs = -1 by unfold ixB; rw [hix])
    have HF := hid (show xs.filter (neI no) = xs from List.filter_eq_self.2 fun y hy => by
      have := List.findIdx?_eq_none_iff.1 hix y hy
      unfold neI; rw [this]; rfl)
    clear hix
    subst hv
    have OO := hid O
    clear O
    go_enter Try.func38, Try.ntmps38
    go_wp2_with (go_at_call 66; refine KI.out.mono ?_; rintro e w1 ⟨rfl, E1⟩; rw [HI.out])
    have E2 := Ext.of_below HS.out E1.below
    go_ret
    exact ⟨_, rfl, by rw [HF.out]; exact OO.out.ext E2, E2.grownBy _⟩
  | some k =>
    obtain ⟨hk, hpk, hbefore⟩ := List.findIdx?_eq_some_iff_getElem.1 hix
    have HI := hid (show ixB (isI no) xs = (k : Int) by unfold ixB; rw [hix])
    have HF0 := hid (show xs.take k = (xs.take (k + 1)).filter (neI no) from skip_filter (x := xs[k]) (fun i y hi hy => by
      obtain ⟨h1, rfl⟩ := List.getElem?_eq_some_iff.1 hy
      have := hbefore i hi
      unfold neI; simpa using this) (by simp) (by unfold neI; rw [hpk]; rfl))
    clear hix hpk hbefore
    obtain ⟨cells, hw, R⟩ := O.own
    rcases hw.2 with ⟨he, hn⟩ | ⟨g0, cap, cur, he, hb0, hg0, hlc, hcm, hcs, htk⟩
    · omega
    rw [he] at hv
    simp only [Value.slice.injEq, true_and] at hv
    obtain ⟨rfl, rfl⟩ := hv
    subst he
    have HN0 := hid (show h g0 = none from O.free g0 rfl)
    have hcm' : cap ≤ 9223372036854775807 := by unfold maxLen at hcm; omega
    have OO := hid O
    clear O hw R hg0 hcs htk hcm hc'
    go_enter Try.func38, Try.ntmps38
    go_wp2_with (go_at_call 66; refine KI.out.mono ?_; rintro e w1 ⟨rfl, E1⟩; rw [HI.out])
    have E2 := Ext.of_below HS.out E1.below
    have i0 : ¬ ((k : Int) = -1) := by omega
    have O2 := hid (OO.out.ext E2)
    have G2 := hid (E2.grownBy (some g0))
    clear E1 KI
    go_loopw [5, 6] (fun s5 s6 wr => ∃ (i j : Nat) (ys : List Inode), s5 = .int .i64 i ∧ s6 = .int .i64 j ∧ i < j ∧ j ≤ xs.length ∧ Hid (ys.length = xs.length ∧ ys.take i = (xs.take j).filter (neI no) ∧ ys.drop j = xs.drop j) ∧ Hid (OwnL h wr base 37 (.slice (some ⟨g0, 0, none⟩) xs.length cap) ys) ∧ Hid (w.grownBy wr (some g0))) (fun _ s6 _ => xs.length - (intOf s6).toNat)
    case atStart => exact ⟨k, k + 1, xs, rfl, by go_num, by omega, by omega, hid ⟨rfl, HF0.out, rfl⟩, O2, G2⟩
    case round =>
      obtain ⟨i, j, ys, rfl, rfl, hij, hj, HY, OY, GR⟩ := hrel
      have HSr := hid (HS.out.grown GR.out HN0.out)
      by_cases hlt : j < xs.length
      · obtain ⟨y, hy⟩ : ∃ y, ys[j]? = some y := ⟨ys[j]'(by have := HY.out.1; omega), List.getElem?_eq_getElem _⟩
        obtain ⟨g1, cap1, cs, hv1, _, _, _, ry, hcc, hfr⟩ := OY.out.get hy
        obtain ⟨rfl, hq8, rfl⟩ : g0 = g1 ∧ xs.length = ys.length ∧ cap = cap1 := by simpa using hv1
        clear hq8 hv1
        obtain ⟨A5, c5, A6, c6, rfl, s0, s1, s2, s3, s4⟩ := ry
        have RY := hid (show repInode h [.int .i64 y.no, .int .i64 y.kind, .int .i64 y.links, .int .i64 y.size, .string y.target, .slice A5 y.entries.length c5, .slice A6 y.runs.length c6] y from ⟨A5, c5, A6, c6, rfl, s0, s1, s2, s3, s4⟩)
        have KF := hid (keep_filter HY.out.1 HY.out.2.1 HY.out.2.2 hij hlt hy)
        have d0 : wr.cell? ⟨g0, j * 7, none⟩ = some (.int .i64 y.no) := hcc 0 _ rfl
        have d1 : wr.cell? ⟨g0, j * 7 + 1, none⟩ = some (.int .i64 y.kind) := hcc 1 _ rfl
        have d2 : wr.cell? ⟨g0, j * 7 + 2, none⟩ = some (.int .i64 y.links) := hcc 2 _ rfl
        have d3 : wr.cell? ⟨g0, j * 7 + 3, none⟩ = some (.int .i64 y.size) := hcc 3 _ rfl
        have d4 : wr.cell? ⟨g0, j * 7 + 4, none⟩ = some (.string y.target) := hcc 4 _ rfl
        have d5 : wr.cell? ⟨g0, j * 7 + 5, none⟩ = some (.slice A5 y.entries.length c5) := hcc 5 _ rfl
        have d6 : wr.cell? ⟨g0, j * 7 + 6, none⟩ = some (.slice A6 y.runs.length c6) := hcc 6 _ rfl
        clear hcc
        have HFR := hid hfr
        clear hy hfr
        go_upto_region 8 with (fail)
        have EB := hid ((Ext.refl HSr.out).alloc (.cells #[.int .i64 y.no, .int .i64 y.kind, .int .i64 y.links, .int .i64 y.size, .string y.target, .slice A5 y.entries.length c5, .slice A6 y.runs.length c6] 37))
        have HBX := hid (heap_new wr (.cells #[.int .i64 y.no, .int .i64 y.kind, .int .i64 y.links, .int .i64 y.size, .string y.target, .slice A5 y.entries.length c5, .slice A6 y.runs.length c6] 37))
        generalize hgb : wr.heap.size = gb at *
        generalize (wr.alloc (.cells #[.int .i64 y.no, .int .i64 y.kind, .int .i64 y.links, .int .i64 y.size, .string y.target, .slice A5 y.entries.length c5, .slice A6 y.runs.length c6] 37)) = W1 at *
        have HB := HBX.out
        have e0 : W1.cell? ⟨gb, 0, none⟩ = some (.int .i64 y.no) := box_cell (j := 0) HB rfl
        have e1 : W1.cell? ⟨gb, 1, none⟩ = some (.int .i64 y.kind) := box_cell (j := 1) HB rfl
        have e2 : W1.cell? ⟨gb, 2, none⟩ = some (.int .i64 y.links) := box_cell (j := 2) HB rfl
        have e3 : W1.cell? ⟨gb, 3, none⟩ = some (.int .i64 y.size) := box_cell (j := 3) HB rfl
        have e4 : W1.cell? ⟨gb, 4, none⟩ = some (.string y.target) := box_cell (j := 4) HB rfl
        have e5 : W1.cell? ⟨gb, 5, none⟩ = some (.slice A5 y.entries.length c5) := box_cell (j := 5) HB rfl
        have e6 : W1.cell? ⟨gb, 6, none⟩ = some (.slice A6 y.runs.length c6) := box_cell (j := 6) HB rfl
        have O1 := hid (OY.out.ext EB.out)
        obtain ⟨q, hq⟩ : ∃ q, isI no y = q := ⟨_, rfl⟩
        have K := hid (clo_Apply1 y _ no q hq h p HP.out W1 EB.out.sits RY.out)
        have HQ := hid hq
        clear hq d0 d1 d2 d3 d4 d5 d6
        cases q
        · have HY2 := hid (KF.out.2.2 (by unfold neI; rw [HQ.out]; rfl))
          obtain ⟨z, hz⟩ : ∃ z, ys[i]? = some z := ⟨ys[i]'(by have := HY.out.1; omega), List.getElem?_eq_getElem _⟩
          have HZ := hid hz
          clear hz
          have i1 : (0 : Int) ≤ (i : Int) := by omega
          have i2 : (i : Int) < (xs.length : Int) := by omega
          go_wp2_with (go_at_call 39; refine K.out.mono ?_; rintro e w2 ⟨rfl, F2⟩; have f0 := F2.keep e0; have f1 := F2.keep e1; have f2 := F2.keep e2; have f3 := F2.keep e3; have f4 := F2.keep e4; have f5 := F2.keep e5; have f6 := F2.keep e6; have O2 := hid (O1.out.ext F2); obtain ⟨g2, cap2, cs2, hv2, _, _, _, rz, hcc2, hfr2⟩ := O2.out.get HZ.out; obtain ⟨rfl, hq9, rfl⟩ : g0 = g2 ∧ xs.length = ys.length ∧ cap = cap2 := (by simpa using hv2); clear hq9; obtain ⟨A7, c7, A8, c8, rfl, _⟩ := rz; have b0 : w2.cell? ⟨g0, i * 7, none⟩ = some (.int .i64 z.no) := hcc2 0 _ rfl; have b1 : w2.cell? ⟨g0, i * 7 + 1, none⟩ = some (.int .i64 z.kind) := hcc2 1 _ rfl; have b2 : w2.cell? ⟨g0, i * 7 + 2, none⟩ = some (.int .i64 z.links) := hcc2 2 _ rfl; have b3 : w2.cell? ⟨g0, i * 7 + 3, none⟩ = some (.int .i64 z.size) := hcc2 3 _ rfl; have b4 : w2.cell? ⟨g0, i * 7 + 4, none⟩ = some (.string z.target) := hcc2 4 _ rfl; have b5 : w2.cell? ⟨g0, i * 7 + 5, none⟩ = some (.slice A7 z.entries.length c7) := hcc2 5 _ rfl; have b6 : w2.cell? ⟨g0, i * 7 + 6, none⟩ = some (.slice A8 z.runs.length c8) := hcc2 6 _ rfl; have r0 := hfr2 (i * 7); have r1 := hfr2 (i * 7 + 1); have r2 := hfr2 (i * 7 + 2); have r3 := hfr2 (i * 7 + 3); have r4 := hfr2 (i * 7 + 4); have r5 := hfr2 (i * 7 + 5); have r6 := hfr2 (i * 7 + 6); clear hcc2 hv2 hfr2)
          have O3 := hid (O2.out.setElem (i := i) (y := y) (by have := HY.out.1; omega) RY.out)
          go_roundw
          case rel => ((repeat apply Exists.intro); exact ⟨⟨i + 1, j + 1, ys.set i y, by go_num, by go_num, by omega, by omega, hid ⟨by rw [List.length_set]; exact HY.out.1, HY2.out⟩, O3, hid (grown_setCells g0 [.int .i64 y.no, .int .i64 y.kind, .int .i64 y.links, .int .i64 y.size, .string y.target, .slice A5 y.entries.length c5, .slice A6 y.runs.length c6] (i * 7) _ ((GR.out.trans (EB.out.grownBy _)).trans (F2.grownBy _)))⟩, rfl⟩)
          case measure => simp [intOf]; omega
        · have HY2 := hid (KF.out.2.1 (by unfold neI; rw [HQ.out]; rfl))
          go_wp2_with (go_at_call 39; refine K.out.mono ?_; rintro e w2 ⟨rfl, F2⟩)
          go_roundw
          case rel => ((repeat apply Exists.intro); exact ⟨⟨i, j + 1, ys, rfl, by go_num, by omega, by omega, hid ⟨HY.out.1, HY2.out⟩, hid (O1.out.ext F2), hid ((GR.out.trans (EB.out.grownBy _)).trans (F2.grownBy _))⟩, rfl⟩)
          case measure => simp [intOf]; omega
      · have hjl : j = xs.length := by omega
        obtain ⟨Z, hZ⟩ : ∃ Z, Z = (Builtin.zeroCells (Value.agg #[.int .i64 0, .int .i64 0, .int .i64 0, .int .i64 0, .string ⟨#[]⟩, .slice none 0 0, .slice none 0 0]).cells (xs.length - i)).toList := ⟨_, rfl⟩
        have hcr : ∀ ty c, (Builtin.clear_ #[28] ty #[.slice (some ⟨g0, i * 7, none⟩) (xs.length - i) c]).run Try.prog wr = .ok (.tuple #[]) (wr.setCells g0 (i * 7) Z) := fun ty c => by
          rw [hZ]
          obtain ⟨cells, hw, R⟩ := OY.out.own
          rcases hw.2 with ⟨he, hn⟩ | ⟨g0', cap', cur, he, hb0, hg0, hlc, hcm, hcs, htk⟩
          · cases he
          · obtain ⟨rfl, _, rfl⟩ : g0 = g0' ∧ xs.length = ys.length ∧ cap = cap' := by simpa using he
            have hcs : cur.size = cap * 7 := hcs
            exact run_clear_any wr 28 37 ty _ ty_Inode.und zero_Inode (fun v hv => by simp [Value.cells] at hv; rcases hv with rfl | rfl | rfl | rfl | rfl | rfl | rfl <;> rfl) (by decide) g0 (i * 7) (xs.length - i) c (by omega)
              (fun j hj => by
                have hj : j < (xs.length - i) * 7 := hj
                rw [cell_of_row _ _ _ _ _ _ hg0, Array.getElem?_eq_getElem (by omega)]; rfl)
              (fun j hj => by simp [World.frozen?, hg0])
        have OF := hid (OY.out.cut (i := i) (by have := HY.out.1; omega) Z)
        have HF := hid (show ys.take i = xs.filter (neI no) by rw [HY.out.2.1, hjl, List.take_length])
        have GF := hid (grown_setCells g0 Z (i * 7) _ GR.out)
        have i1 : (0 : Int) ≤ (i : Int) := by omega
        have i2 : (i : Int) ≤ (xs.length : Int) := by omega
        have i3 : ¬ (cap = i) := by omega
        have i4 : (xs.length : Int) ≤ (cap : Int) := by omega
        have i5 : (i : Int) ≤ (cap : Int) := by omega
        have HJ := hid hjl
        clear hZ hjl
        go_wp2_with fail
        go_ret
        exact ⟨_, rfl, by rw [← HF.out]; exact OF.out, GF.out⟩
end Go.Proofs.Ytkglaofiencfdaa

namespace Go.Proofs.Ytkglaofiencfdaa
open Go.RowKit Go.Sort
set_option linter.unusedVariables false
/-! ### state.own: a copy of an inode -/
set_option maxHeartbeats 4000000 in
set_option maxRecDepth 100000 in
theorem state_own (x : Inode) (cs : List Value) (hb1 : x.entries.length * 24 ≤ 140737488355328) (hb2 : x.runs.length * 24 ≤ 140737488355328) (h : FH) (w : World) (hs : Sits h w) (r : repInode h cs x) :
    Calls Try.prog 41 #[.agg cs.toArray] w fun e w' => ∃ cs' h1, e = .returned (.agg cs'.toArray) ∧ repInode h1 cs' x ∧ Ext h w h1 w' := by
  obtain ⟨A5, c5, A6, c6, rfl, s0, s1, s2, s3, s4⟩ := r
  have K1 := hid (fun (h' : FH) w' hs' (l : FLe h h') => clone_Entry x.entries A5 c5 hb1 h' w' hs' (s2.mono l))
  have K2 := hid (fun (h' : FH) w' hs' (l : FLe h h') => clone_Run x.runs A6 c6 hb2 h' w' hs' (s4.mono l))
  obtain ⟨no, kind, links, size, target, es, rs⟩ := x
  simp only at *
  have E2 := ((Ext.refl hs).alloc (.cells #[.int .i64 no, .int .i64 kind, .int .i64 links, .int .i64 size, .string target, .slice A5 es.length c5, .slice A6 rs.length c6] 37)).alloc (.cells #[.int .i64 0, .int .i64 0, .int .i64 0, .int .i64 0, .string ⟨#[]⟩, .slice none 0 0, .slice none 0 0] 37)
  have hb0 : ((w.alloc (.cells #[.int .i64 no, .int .i64 kind, .int .i64 links, .int .i64 size, .string target, .slice A5 es.length c5, .slice A6 rs.length c6] 37)).alloc (.cells #[.int .i64 0, .int .i64 0, .int .i64 0, .int .i64 0, .string ⟨#[]⟩, .slice none 0 0, .slice none 0 0] 37)).heap[w.heap.size]? = some (.cells #[.int .i64 no, .int .i64 kind, .int .i64 links, .int .i64 size, .string target, .slice A5 es.length c5, .slice A6 rs.length c6] 37) := box_alloc (heap_new _ _) _
  have hb3 : ((w.alloc (.cells #[.int .i64 no, .int .i64 kind, .int .i64 links, .int .i64 size, .string target, .slice A5 es.length c5, .slice A6 rs.length c6] 37)).alloc (.cells #[.int .i64 0, .int .i64 0, .int .i64 0, .int .i64 0, .string ⟨#[]⟩, .slice none 0 0, .slice none 0 0] 37)).heap[w.heap.size + 1]? = some (.cells #[.int .i64 0, .int .i64 0, .int .i64 0, .int .i64 0, .string ⟨#[]⟩, .slice none 0 0, .slice none 0 0] 37) := by
    have := heap_new (w.alloc (.cells #[.int .i64 no, .int .i64 kind, .int .i64 links, .int .i64 size, .string target, .slice A5 es.length c5, .slice A6 rs.length c6] 37)) (.cells #[.int .i64 0, .int .i64 0, .int .i64 0, .int .i64 0, .string ⟨#[]⟩, .slice none 0 0, .slice none 0 0] 37)
    simpa using this
  have N0 := hid (show h w.heap.size = none from hs.none (Nat.le_refl _))
  have N1 := hid (show h (w.heap.size + 1) = none from hs.none (Nat.le_succ _))
  go_enter Try.func41, Try.ntmps41
  go_upto_region 1 with (fail)
  generalize (w.alloc (.cells #[.int .i64 no, .int .i64 kind, .int .i64 links, .int .i64 size, .string target, .slice A5 es.length c5, .slice A6 rs.length c6] 37)).alloc (.cells #[.int .i64 0, .int .i64 0, .int .i64 0, .int .i64 0, .string ⟨#[]⟩, .slice none 0 0, .slice none 0 0] 37) = W1 at *
  have Ed := E2.drew
  have y5 : W1.cell? ⟨w.heap.size, 5, none⟩ = some (.slice A5 es.length c5) := box_cell (j := 5) hb0 rfl
  have y6 : W1.cell? ⟨w.heap.size, 6, none⟩ = some (.slice A6 rs.length c6) := box_cell (j := 6) hb0 rfl
  go_region_with (first
    | (go_at_call 74; refine (K1.out _ _ Ed.sits (FLe.refl h)).mono ?_; rintro e' w2 R; obtain ⟨A2, c2, h2, rfl, r2, F2, u0, u1, u2⟩ := RetOwn.stayX R (by omega); have hf2 := F2.row (show W1.drew.heap[w.heap.size]? = _ from hb0); have hz2 := F2.row (show W1.drew.heap[w.heap.size + 1]? = _ from hb3); have x6 : w2.cell? ⟨w.heap.size, 6, none⟩ = some (.slice A6 rs.length c6) := box_cell (j := 6) hf2 rfl; have Ed2 := Ed.trans F2; have l2 := F2.le)
    | (go_at_call 75; refine (K2.out _ _ Ed2.sits l2).mono ?_; rintro e' w3 R3; obtain ⟨A3, c3, h3, rfl, r3, F3, v0, v1, v2⟩ := RetOwn.stayX R3 (by omega); have hf3 := F3.row hf2; have hz3 := F3.row hz2; have z5 := box_free (j := 5) hf3; have z6 := box_free (j := 6) hf3; have q6 := box_free (j := 6) (box_set (i := 5) hf3 (.slice A2 es.length c2)); have q5 := box_free (j := 5) (box_set (i := 6) hf3 (.slice A3 rs.length c3)); have p6 := box_cell (j := 6) (v := .slice A6 rs.length c6) (box_set (i := 5) hf3 (.slice A2 es.length c2)) rfl; have p5 := box_cell (j := 5) (v := .slice A5 es.length c5) hf3 rfl; have p7 := box_cell (j := 6) (v := .slice A6 rs.length c6) hf3 rfl))
  all_goals
    have lt0 : w.heap.size < W1.drew.heap.size := (Array.getElem?_eq_some_iff.1 hb0).1
    have lt2 : w.heap.size < w2.heap.size := (Array.getElem?_eq_some_iff.1 hf2).1
    have g0 := F3.none (F2.none N0.out lt0) lt2
    have lt1 : w.heap.size + 1 < W1.drew.heap.size := (Array.getElem?_eq_some_iff.1 hb3).1
    have lt3 : w.heap.size + 1 < w2.heap.size := (Array.getElem?_eq_some_iff.1 hz2).1
    have g1 := F3.none (F2.none N1.out lt1) lt3
    have B5 := box_set (i := 6) (box_set (i := 5) hf3 (.slice A2 es.length c2)) (.slice A3 rs.length c3)
    have Z5 := box_other (i := 6) (box_other (i := 5) hz3 (Nat.succ_ne_self _) (.slice A2 es.length c2)) (Nat.succ_ne_self _) (.slice A3 rs.length c3)
    have E5 := Ext.setCell (p := ⟨w.heap.size, 6, none⟩) (Ext.setCell (p := ⟨w.heap.size, 5, none⟩) (Ed2.trans F3) (Nat.le_refl _) g0 (.slice A2 es.length c2)) (Nat.le_refl _) g0 (.slice A3 rs.length c3)
    generalize (w3.setCell ⟨w.heap.size, 5, none⟩ (.slice A2 es.length c2)).setCell ⟨w.heap.size, 6, none⟩ (.slice A3 rs.length c3) = W5 at *
    have d0 : W5.cell? ⟨w.heap.size, 0, none⟩ = some (.int .i64 no) := box_cell (j := 0) B5 rfl
    have d1 : W5.cell? ⟨w.heap.size, 1, none⟩ = some (.int .i64 kind) := box_cell (j := 1) B5 rfl
    have d2 : W5.cell? ⟨w.heap.size, 2, none⟩ = some (.int .i64 links) := box_cell (j := 2) B5 rfl
    have d3 : W5.cell? ⟨w.heap.size, 3, none⟩ = some (.int .i64 size) := box_cell (j := 3) B5 rfl
    have d4 : W5.cell? ⟨w.heap.size, 4, none⟩ = some (.string target) := box_cell (j := 4) B5 rfl
    have d5 : W5.cell? ⟨w.heap.size, 5, none⟩ = some (.slice A2 es.length c2) := box_cell (j := 5) B5 rfl
    have d6 : W5.cell? ⟨w.heap.size, 6, none⟩ = some (.slice A3 rs.length c3) := box_cell (j := 6) B5 rfl
    have f0 := box_free (j := 0) Z5
    have f1 := box_free (j := 1) Z5
    have f2 := box_free (j := 2) Z5
    have f3 := box_free (j := 3) Z5
    have f4 := box_free (j := 4) Z5
    have f5 := box_free (j := 5) Z5
    have f6 := box_free (j := 6) Z5
    have k0 : W5.cell? ⟨w.heap.size + 1, 0, none⟩ = some (.int .i64 0) := box_cell (j := 0) Z5 rfl
    have k1 : W5.cell? ⟨w.heap.size + 1, 1, none⟩ = some (.int .i64 0) := box_cell (j := 1) Z5 rfl
    have k2 : W5.cell? ⟨w.heap.size + 1, 2, none⟩ = some (.int .i64 0) := box_cell (j := 2) Z5 rfl
    have k3 : W5.cell? ⟨w.heap.size + 1, 3, none⟩ = some (.int .i64 0) := box_cell (j := 3) Z5 rfl
    have k4 : W5.cell? ⟨w.heap.size + 1, 4, none⟩ = some (.string ⟨#[]⟩) := box_cell (j := 4) Z5 rfl
    have k5 : W5.cell? ⟨w.heap.size + 1, 5, none⟩ = some (.slice none 0 0) := box_cell (j := 5) Z5 rfl
    have k6 : W5.cell? ⟨w.heap.size + 1, 6, none⟩ = some (.slice none 0 0) := box_cell (j := 6) Z5 rfl
    clear B5 hf3 hf2 hz2 hz3 hb0 hb3 x6 y5 y6 z5 z6 q5 q6 p5 p6 p7
    go_wp2_with fail
    have R7 := (box_set (i := 6) (box_set (i := 5) (box_set (i := 4) (box_set (i := 3) (box_set (i := 2) (box_set (i := 1) (box_set (i := 0) Z5 (.int .i64 no)) (.int .i64 kind)) (.int .i64 links)) (.int .i64 size)) (.string target)) (.slice A2 es.length c2)) (.slice A3 rs.length c3))
    have E7 := Ext.setCells (g := w.heap.size + 1) (Nat.le_succ _) g1 [.int .i64 no, .int .i64 kind, .int .i64 links, .int .i64 size, .string target, .slice A2 es.length c2, .slice A3 rs.length c3] 0 _ E5
    refine bodyPost_ret (v := .agg #[.int .i64 no, .int .i64 kind, .int .i64 links, .int .i64 size, .string target, .slice A2 es.length c2, .slice A3 rs.length c3]) ?_ rfl ⟨[.int .i64 no, .int .i64 kind, .int .i64 links, .int .i64 size, .string target, .slice A2 es.length c2, .slice A3 rs.length c3], h3, rfl, ⟨A2, c2, A3, c3, rfl, s0, ⟨u1, u0, u2⟩, r2.mono F3.le, ⟨v1, v0, v2⟩, r3⟩, E7⟩
    exact results_cell_row (p := 2) (ty := 37) (by kernel_rfl) _ _ (w.heap.size + 1) 37 #[.int .i64 no, .int .i64 kind, .int .i64 links, .int .i64 size, .string target, .slice A2 es.length c2, .slice A3 rs.length c3] (0, 0) _ (by simp) R7 Try.underlying37 rfl (by kernel_rfl)
end Go.Proofs.Ytkglaofiencfdaa

namespace Go.Proofs.Ytkglaofiencfdaa
open Go.RowKit Go.Sort
set_option linter.unusedVariables false
def fitI (x : Inode) : Prop := x.entries.length * 24 ≤ 140737488355328 ∧ x.runs.length * 24 ≤ 140737488355328
/-- An own row, whose elements' parts lie in what was made. -/
def RetOwnX {α : Type} [Enc α] (h : FH) (w : World) (T : TypeId) (xs : List α) (e : Ending) (w' : World) : Prop := ∃ v h1, e = .returned v ∧ OwnL h1 w' w.heap.size T v xs ∧ Ext h w h1 w'
theorem take_snoc {α : Type} {xs : List α} {k : Nat} {x : α} (hx : xs[k]? = some x) : xs.take (k + 1) = xs.take k ++ [x] := by
  rw [List.take_add_one, hx]; rfl
set_option maxHeartbeats 8000000 in
set_option maxRecDepth 100000 in
theorem state_copied (xs : List Inode) (A : Option Addr) (c : Nat) (hbig : xs.length ≤ 1000) (hfit : ∀ x ∈ xs, fitI x) (h : FH) (w : World) (hs : Sits h w) (r : RowAt h A xs) :
    Calls Try.prog 35 #[.slice A xs.length c] w fun e w' => RetOwnX h w 37 xs e w' := by
  have hl := r.1
  have HF := hid hfit
  clear hfit
  go_enter Try.func35, Try.ntmps35
  go_wp2_with fail
  go_loopw [3, 8] (fun s3 i wr => ∃ (k : Nat) (h' : FH), k ≤ xs.length ∧ i = .int .i64 k ∧ Hid (OwnL h' wr w.heap.size 37 s3 (xs.take k)) ∧ Hid (Ext h w h' wr)) (fun _ i _ => xs.length - (intOf i).toNat)
  case atStart => exact ⟨0, h, Nat.zero_le _, rfl, hid (OwnL.nil _ _ _ _), hid (Ext.refl hs)⟩
  case round =>
    obtain ⟨k, h', hk, rfl, O, E⟩ := hrel
    by_cases hlt : k < xs.length
    · obtain ⟨x, hx⟩ : ∃ x, xs[k]? = some x := ⟨xs[k], by simp [hlt]⟩
      obtain ⟨b, off, A5, c5, A6, c6, rfl, d0, d1, d2, d3, d4, d5, d6, s0, s1, s2, s3, s4⟩ := (r.mono E.out.le).inode hx E.out.sits
      have HX := hid hx
      have HFX := hid (HF.out x (List.mem_of_getElem? hx))
      have HB := hid (show ((xs.take k).length + 1) * 96 ≤ 140737488355328 by simp; omega)
      have RX := hid (show repInode h' [.int .i64 x.no, .int .i64 x.kind, .int .i64 x.links, .int .i64 x.size, .string x.target, .slice A5 x.entries.length c5, .slice A6 x.runs.length c6] x from ⟨A5, c5, A6, c6, rfl, s0, s1, s2, s3, s4⟩)
      clear hx
      go_upto_region 5 with (fail)
      have E1 := hid (E.out.alloc (.cells #[.int .i64 x.no, .int .i64 x.kind, .int .i64 x.links, .int .i64 x.size, .string x.target, .slice A5 x.entries.length c5, .slice A6 x.runs.length c6] 37))
      have EB := hid ((Ext.refl E.out.sits).alloc (.cells #[.int .i64 x.no, .int .i64 x.kind, .int .i64 x.links, .int .i64 x.size, .string x.target, .slice A5 x.entries.length c5, .slice A6 x.runs.length c6] 37))
      have HBX := hid (heap_new wr (.cells #[.int .i64 x.no, .int .i64 x.kind, .int .i64 x.links, .int .i64 x.size, .string x.target, .slice A5 x.entries.length c5, .slice A6 x.runs.length c6] 37))
      have O1 := hid (O.out.alloc (.cells #[.int .i64 x.no, .int .i64 x.kind, .int .i64 x.links, .int .i64 x.size, .string x.target, .slice A5 x.entries.length c5, .slice A6 x.runs.length c6] 37))
      generalize hgb : wr.heap.size = gb at *
      generalize (wr.alloc (.cells #[.int .i64 x.no, .int .i64 x.kind, .int .i64 x.links, .int .i64 x.size, .string x.target, .slice A5 x.entries.length c5, .slice A6 x.runs.length c6] 37)) = W1 at *
      have HB1 := HBX.out
      have e0 : W1.cell? ⟨gb, 0, none⟩ = some (.int .i64 x.no) := box_cell (j := 0) HB1 rfl
      have e1 : W1.cell? ⟨gb, 1, none⟩ = some (.int .i64 x.kind) := box_cell (j := 1) HB1 rfl
      have e2 : W1.cell? ⟨gb, 2, none⟩ = some (.int .i64 x.links) := box_cell (j := 2) HB1 rfl
      have e3 : W1.cell? ⟨gb, 3, none⟩ = some (.int .i64 x.size) := box_cell (j := 3) HB1 rfl
      have e4 : W1.cell? ⟨gb, 4, none⟩ = some (.string x.target) := box_cell (j := 4) HB1 rfl
      have e5 : W1.cell? ⟨gb, 5, none⟩ = some (.slice A5 x.entries.length c5) := box_cell (j := 5) HB1 rfl
      have e6 : W1.cell? ⟨gb, 6, none⟩ = some (.slice A6 x.runs.length c6) := box_cell (j := 6) HB1 rfl
      have K := hid (state_own x _ HFX.out.1 HFX.out.2 h' W1 E1.out.sits RX.out)
      clear d0 d1 d2 d3 d4 d5 d6 HB1
      go_wp2_with (first | (go_at_call 41; refine K.out.mono ?_; rintro e w2 ⟨cs2, h2, rfl, ⟨A7, c7, A8, c8, rfl, t0, t1, t2, t3, t4⟩, F2⟩; have RY := hid (show repInode h2 [.int .i64 x.no, .int .i64 x.kind, .int .i64 x.links, .int .i64 x.size, .string x.target, .slice A7 x.entries.length c7, .slice A8 x.runs.length c8] x from ⟨A7, c7, A8, c8, rfl, t0, t1, t2, t3, t4⟩); have F2 := hid F2) | (at_builtin; refine wpList_append1At rfl _ _ 28 rfl w.heap.size 37 96 ty_Inode _ (xs.take k) rfl ((O1.out.ext F2.out).alloc _) (F2.out.sits.alloc _) _ rfl _ x RY.out (cells_of_box (heap_new _ _)) HB.out (by decide) ((E1.out.trans F2.out).alloc _).size ?_; intro v3 w3 O3 hg3; have O3 := hid O3; have E3 := hid (((E1.out.trans F2.out).alloc _).grown hg3 (fun k hk => ⟨((O1.out.ext F2.out).lt k hk).1, (O1.out.ext F2.out).free k hk⟩)); clear hg3))
      go_roundw
      case rel => exact ⟨k + 1, h2, by omega, by go_num, hid (by rw [take_snoc HX.out]; exact O3.out), E3⟩
      case measure => simp [intOf]; omega
    · have hkl : xs.take k = xs := List.take_of_length_le (by omega)
      have HK := hid hkl
      clear hkl
      go_wp2_with fail
      go_ret
      exact ⟨_, h', rfl, by rw [← HK.out]; exact O.out, E.out⟩
end Go.Proofs.Ytkglaofiencfdaa

namespace Go.Proofs.Ytkglaofiencfdaa
open Go.RowKit Go.Sort
set_option linter.unusedVariables false
/-! ### boxes at a function's head -/
theorem Ext.boxF {h h1 : FH} {w w1 : World} (E : Ext h w h1 w1) (C : Array Value) (T : TypeId) : ∃ h2, Ext h w h2 (w1.alloc (.cells C T)) ∧ h2 w1.heap.size = some (.cells C T (0, 0)) ∧ FLe h1 h2 ∧ h2 = h1.add w1.heap.size (.cells C T (0, 0)) :=
  ⟨_, (E.alloc _).add (heap_new _ _) (E.sits.none (Nat.le_refl _)) E.size, FH.add_same _ _ _, FLe.add (E.sits.none (Nat.le_refl _)) _, rfl⟩
theorem FH.at {h : FH} {g j : Nat} {C : Array Value} {T : TypeId} {v : Value} (hb : h g = some (.cells C T (0, 0))) (hv : C[j]? = some v) : h.cell ⟨g, j, none⟩ = some v := by
  unfold FH.cell; rw [hb]; exact hv
theorem Sits_at {h : FH} {w : World} (hs : Sits h w) {g j : Nat} {C : Array Value} {T : TypeId} {v : Value} (hb : h g = some (.cells C T (0, 0))) (hv : C[j]? = some v) : w.cell? ⟨g, j, none⟩ = some v := hs.cell (FH.at hb hv)
/-- Something that is the caller's own behind a call, or later. -/
theorem own_out {α : Type} [Enc α] {h h1 : FH} {w w1 : World} {base : Nat} {e : TypeId} {v : Value} {xs : List α} (O : OwnL h w base e v xs) (E : Ext h w h1 w1) : OwnL h1 w1 base e v xs := O.ext E
end Go.Proofs.Ytkglaofiencfdaa

namespace Go.Proofs.Ytkglaofiencfdaa
open Go.RowKit Go.Sort
set_option linter.unusedVariables false
def findI (xs : List Inode) (no : Int) : Option Inode := xs.find? (isI no)
def zeroI : Inode := ⟨0, 0, 0, 0, ⟨#[]⟩, [], []⟩
/-- An inode, and whether there is one. -/
def RetFind (h : FH) (w : World) (v : Option Inode) (e : Ending) (w' : World) : Prop := ∃ cs h1, e = .returned (.tuple #[.agg cs.toArray, .bool v.isSome]) ∧ repInode h1 cs (v.getD zeroI) ∧ Ext h w h1 w'
theorem zeroI_rep (h : FH) : repInode h [.int .i64 0, .int .i64 0, .int .i64 0, .int .i64 0, .string ⟨#[]⟩, .slice none 0 0, .slice none 0 0] zeroI := ⟨none, 0, none, 0, rfl, by decide, ⟨Nat.le_refl _, fun _ => rfl, by decide⟩, RowAt.nil _ _, ⟨Nat.le_refl _, fun _ => rfl, by decide⟩, RowAt.nil _ _⟩
theorem find_at {xs : List Inode} {no : Int} {k : Nat} {x : Inode} (h : ∀ i y, i < k → xs[i]? = some y → isI no y = false) (hx : xs[k]? = some x) (hp : isI no x = true) : findI xs no = some x := find_none_take h hx hp
theorem find_no {xs : List Inode} {no : Int} (h : ∀ i y, i < xs.length → xs[i]? = some y → isI no y = false) : findI xs no = none := by
  unfold findI
  rw [List.find?_eq_none]
  intro y hy
  obtain ⟨i, hi, rfl⟩ := List.mem_iff_getElem.1 hy
  rw [h i _ hi (List.getElem?_eq_getElem _)]; simp
set_option maxHeartbeats 8000000 in
set_option maxRecDepth 100000 in
theorem state_Find (s : State) (cs : List Value) (no : Int) (hfit : ∀ x ∈ s.inodes, fitI x) (v : Option Inode) (hv : findI s.inodes no = v) (h : FH) (w : World) (hs : Sits h w) (r : repState h cs s) :
    Calls Try.prog 13 #[.agg cs.toArray, .int .i64 no] w fun e w' => RetFind h w v e w' := by
  obtain ⟨A1, c1, A2, c2, rfl, l1, r1, l2, r2⟩ := r
  have hl := r1.1
  have HF := hid hfit
  have HV := hid hv
  clear hfit hv
  obtain ⟨h1, E1, hb1, le1, hh1⟩ := (Ext.refl hs).boxF #[.int .i64 s.next, .slice A1 s.inodes.length c1, .slice A2 s.bads.length c2] 31
  have E2 := E1.alloc (.cells #[.int .i64 0, .int .i64 0, .int .i64 0, .int .i64 0, .string ⟨#[]⟩, .slice none 0 0, .slice none 0 0] 37)
  have hR := heap_new (w.alloc (.cells #[.int .i64 s.next, .slice A1 s.inodes.length c1, .slice A2 s.bads.length c2] 31)) (.cells #[.int .i64 0, .int .i64 0, .int .i64 0, .int .i64 0, .string ⟨#[]⟩, .slice none 0 0, .slice none 0 0] 37)
  have hR0 := E1.sits.none (g := (w.alloc (.cells #[.int .i64 s.next, .slice A1 s.inodes.length c1, .slice A2 s.bads.length c2] 31)).heap.size) (Nat.le_refl _)
  have hRs := E1.size
  go_enter Try.func13, Try.ntmps13
  go_upto_region 1 with (fail)
  generalize hgR : (w.alloc (.cells #[.int .i64 s.next, .slice A1 s.inodes.length c1, .slice A2 s.bads.length c2] 31)).heap.size = gR at *
  have hgR' : w.heap.size + 1 = gR := by rw [← hgR]; simp
  generalize (w.alloc (.cells #[.int .i64 s.next, .slice A1 s.inodes.length c1, .slice A2 s.bads.length c2] 31)).alloc (.cells #[.int .i64 0, .int .i64 0, .int .i64 0, .int .i64 0, .string ⟨#[]⟩, .slice none 0 0, .slice none 0 0] 37) = W2 at *
  have x1 : W2.cell? ⟨w.heap.size, 1, none⟩ = some (.slice A1 s.inodes.length c1) := Sits_at E2.sits hb1 rfl
  have HR := hid hR
  have HE2 := hid E2
  rw [hgR']
  clear hR E2 hh1 hgR hgR'
  go_wp2_with fail
  go_loopw [11] (fun i wr => ∃ k : Nat, k ≤ s.inodes.length ∧ i = .int .i64 k ∧ Hid (∀ i y, i < k → s.inodes[i]? = some y → isI no y = false) ∧ Hid (Ext h w h1 wr) ∧ Hid (wr.heap[gR]? = some (.cells #[.int .i64 0, .int .i64 0, .int .i64 0, .int .i64 0, .string ⟨#[]⟩, .slice none 0 0, .slice none 0 0] 37 (0, 0)))) (fun i _ => s.inodes.length - (intOf i).toNat)
  case atStart => exact ⟨0, Nat.zero_le _, rfl, hid (fun i y hi => by omega), HE2, HR⟩
  case round =>
    obtain ⟨k, hk, rfl, HN, E, HRr⟩ := hrel
    clear x1
    by_cases hlt : k < s.inodes.length
    · obtain ⟨x, hx⟩ : ∃ x, s.inodes[k]? = some x := ⟨s.inodes[k], by simp [hlt]⟩
      obtain ⟨b, off, A5, c5, A6, c6, rfl, d0, d1, d2, d3, d4, d5, d6, s0, s1, s2, s3, s4⟩ := (r1.mono E.out.le).inode hx E.out.sits
      have HX := hid hx
      have HFX := hid (HF.out x (List.mem_of_getElem? hx))
      have RX := hid (show repInode h1 [.int .i64 x.no, .int .i64 x.kind, .int .i64 x.links, .int .i64 x.size, .string x.target, .slice A5 x.entries.length c5, .slice A6 x.runs.length c6] x from ⟨A5, c5, A6, c6, rfl, s0, s1, s2, s3, s4⟩)
      clear hx
      go_upto_region 4 with (fail)
      have E1 := hid (E.out.alloc (.cells #[.int .i64 x.no, .int .i64 x.kind, .int .i64 x.links, .int .i64 x.size, .string x.target, .slice A5 x.entries.length c5, .slice A6 x.runs.length c6] 37))
      have HBX := hid (heap_new wr (.cells #[.int .i64 x.no, .int .i64 x.kind, .int .i64 x.links, .int .i64 x.size, .string x.target, .slice A5 x.entries.length c5, .slice A6 x.runs.length c6] 37))
      have HRb := hid (box_alloc HRr.out (.cells #[.int .i64 x.no, .int .i64 x.kind, .int .i64 x.links, .int .i64 x.size, .string x.target, .slice A5 x.entries.length c5, .slice A6 x.runs.length c6] 37))
      generalize hgb : wr.heap.size = gb at *
      generalize (wr.alloc (.cells #[.int .i64 x.no, .int .i64 x.kind, .int .i64 x.links, .int .i64 x.size, .string x.target, .slice A5 x.entries.length c5, .slice A6 x.runs.length c6] 37)) = W1 at *
      have e0 : W1.cell? ⟨gb, 0, none⟩ = some (.int .i64 x.no) := box_cell (j := 0) HBX.out rfl
      have e1 : W1.cell? ⟨gb, 1, none⟩ = some (.int .i64 x.kind) := box_cell (j := 1) HBX.out rfl
      have e2 : W1.cell? ⟨gb, 2, none⟩ = some (.int .i64 x.links) := box_cell (j := 2) HBX.out rfl
      have e3 : W1.cell? ⟨gb, 3, none⟩ = some (.int .i64 x.size) := box_cell (j := 3) HBX.out rfl
      have e4 : W1.cell? ⟨gb, 4, none⟩ = some (.string x.target) := box_cell (j := 4) HBX.out rfl
      have e5 : W1.cell? ⟨gb, 5, none⟩ = some (.slice A5 x.entries.length c5) := box_cell (j := 5) HBX.out rfl
      have e6 : W1.cell? ⟨gb, 6, none⟩ = some (.slice A6 x.runs.length c6) := box_cell (j := 6) HBX.out rfl
      have K := hid (state_own x _ HFX.out.1 HFX.out.2 h1 W1 E1.out.sits RX.out)
      obtain ⟨q, hq⟩ : ∃ q, isI no x = q := ⟨_, rfl⟩
      have HQ := hid hq
      have hq2 : (x.no == no) = q := hq
      clear hq d0 d1 d2 d3 d4 d5 d6
      cases q
      · have HN2 := hid (no_step HN.out HX.out HQ.out)
        go_wp2_with fail
        go_roundw
        case rel => exact ⟨k + 1, by omega, by go_num, HN2, E1, HRb⟩
        case measure => simp [intOf]; omega
      · have HVS := hid (show v = some x by rw [← HV.out]; exact find_at HN.out HX.out HQ.out)
        go_wp2_with (go_at_call 41; refine K.out.mono ?_; rintro e w2 ⟨cs2, h2, rfl, ⟨A7, c7, A8, c8, rfl, t0, t1, t2, t3, t4⟩, F2⟩; have RY := hid (show repInode h2 [.int .i64 x.no, .int .i64 x.kind, .int .i64 x.links, .int .i64 x.size, .string x.target, .slice A7 x.entries.length c7, .slice A8 x.runs.length c8] x from ⟨A7, c7, A8, c8, rfl, t0, t1, t2, t3, t4⟩); have hR2 := F2.row HRb.out; have F2 := hid F2; have u0 : w2.cell? ⟨gR, 0, none⟩ = some (.int .i64 0) := box_cell (j := 0) hR2 rfl; have f0 := box_free (j := 0) hR2; have u1 : w2.cell? ⟨gR, 1, none⟩ = some (.int .i64 0) := box_cell (j := 1) hR2 rfl; have f1 := box_free (j := 1) hR2; have u2 : w2.cell? ⟨gR, 2, none⟩ = some (.int .i64 0) := box_cell (j := 2) hR2 rfl; have f2 := box_free (j := 2) hR2; have u3 : w2.cell? ⟨gR, 3, none⟩ = some (.int .i64 0) := box_cell (j := 3) hR2 rfl; have f3 := box_free (j := 3) hR2; have u4 : w2.cell? ⟨gR, 4, none⟩ = some (.string ⟨#[]⟩) := box_cell (j := 4) hR2 rfl; have f4 := box_free (j := 4) hR2; have u5 : w2.cell? ⟨gR, 5, none⟩ = some (.slice none 0 0) := box_cell (j := 5) hR2 rfl; have f5 := box_free (j := 5) hR2; have u6 : w2.cell? ⟨gR, 6, none⟩ = some (.slice none 0 0) := box_cell (j := 6) hR2 rfl; have f6 := box_free (j := 6) hR2)
        have hRn := F2.out.none hR0 (Array.getElem?_eq_some_iff.1 HRb.out).1
        have E7 := Ext.setCells (g := gR) hRs hRn [.int .i64 x.no, .int .i64 x.kind, .int .i64 x.links, .int .i64 x.size, .string x.target, .slice A7 x.entries.length c7, .slice A8 x.runs.length c8] 0 _ (E1.out.trans F2.out)
        have R7 : ((((((((w2.setCell ⟨gR, 0, none⟩ (.int .i64 x.no)).setCell ⟨gR, 1, none⟩ (.int .i64 x.kind)).setCell ⟨gR, 2, none⟩ (.int .i64 x.links)).setCell ⟨gR, 3, none⟩ (.int .i64 x.size)).setCell ⟨gR, 4, none⟩ (.string x.target)).setCell ⟨gR, 5, none⟩ (.slice A7 x.entries.length c7)).setCell ⟨gR, 6, none⟩ (.slice A8 x.runs.length c8))).heap[gR]? = some (.cells #[.int .i64 x.no, .int .i64 x.kind, .int .i64 x.links, .int .i64 x.size, .string x.target, .slice A7 x.entries.length c7, .slice A8 x.runs.length c8] 37 (0, 0)) := setCells_row [.int .i64 x.no, .int .i64 x.kind, .int .i64 x.links, .int .i64 x.size, .string x.target, .slice A7 x.entries.length c7, .slice A8 x.runs.length c8] hR2 rfl
        have E7 : Ext h w h2 (((((((w2.setCell ⟨gR, 0, none⟩ (.int .i64 x.no)).setCell ⟨gR, 1, none⟩ (.int .i64 x.kind)).setCell ⟨gR, 2, none⟩ (.int .i64 x.links)).setCell ⟨gR, 3, none⟩ (.int .i64 x.size)).setCell ⟨gR, 4, none⟩ (.string x.target)).setCell ⟨gR, 5, none⟩ (.slice A7 x.entries.length c7)).setCell ⟨gR, 6, none⟩ (.slice A8 x.runs.length c8)) := E7
        with_reducible generalize (((((((w2.setCell ⟨gR, 0, none⟩ (.int .i64 x.no)).setCell ⟨gR, 1, none⟩ (.int .i64 x.kind)).setCell ⟨gR, 2, none⟩ (.int .i64 x.links)).setCell ⟨gR, 3, none⟩ (.int .i64 x.size)).setCell ⟨gR, 4, none⟩ (.string x.target)).setCell ⟨gR, 5, none⟩ (.slice A7 x.entries.length c7)).setCell ⟨gR, 6, none⟩ (.slice A8 x.runs.length c8)) = W9 at E7 R7 ⊢
        have y0 : W9.cell? ⟨gR, 0, none⟩ = some (.int .i64 x.no) := box_cell (j := 0) R7 rfl
        have y1 : W9.cell? ⟨gR, 1, none⟩ = some (.int .i64 x.kind) := box_cell (j := 1) R7 rfl
        have y2 : W9.cell? ⟨gR, 2, none⟩ = some (.int .i64 x.links) := box_cell (j := 2) R7 rfl
        have y3 : W9.cell? ⟨gR, 3, none⟩ = some (.int .i64 x.size) := box_cell (j := 3) R7 rfl
        have y4 : W9.cell? ⟨gR, 4, none⟩ = some (.string x.target) := box_cell (j := 4) R7 rfl
        have y5 : W9.cell? ⟨gR, 5, none⟩ = some (.slice A7 x.entries.length c7) := box_cell (j := 5) R7 rfl
        have y6 : W9.cell? ⟨gR, 6, none⟩ = some (.slice A8 x.runs.length c8) := box_cell (j := 6) R7 rfl
        refine bodyPost_ret (v := .tuple #[.agg #[.int .i64 x.no, .int .i64 x.kind, .int .i64 x.links, .int .i64 x.size, .string x.target, .slice A7 x.entries.length c7, .slice A8 x.runs.length c8], .bool true]) (by simp [results, Try.results13, go_sem, y0, y1, y2, y3, y4, y5, y6]) rfl ⟨_, h2, by rw [HVS.out]; rfl, by rw [HVS.out]; exact RY.out, E7⟩
    · have HVN := hid (show v = none by rw [← HV.out]; exact find_no (fun i y hi => HN.out i y (by omega)))
      have hR2 := HRr.out
      have u0 : wr.cell? ⟨gR, 0, none⟩ = some (.int .i64 0) := box_cell (j := 0) hR2 rfl
      have f0 := box_free (j := 0) hR2
      have u1 : wr.cell? ⟨gR, 1, none⟩ = some (.int .i64 0) := box_cell (j := 1) hR2 rfl
      have f1 := box_free (j := 1) hR2
      have u2 : wr.cell? ⟨gR, 2, none⟩ = some (.int .i64 0) := box_cell (j := 2) hR2 rfl
      have f2 := box_free (j := 2) hR2
      have u3 : wr.cell? ⟨gR, 3, none⟩ = some (.int .i64 0) := box_cell (j := 3) hR2 rfl
      have f3 := box_free (j := 3) hR2
      have u4 : wr.cell? ⟨gR, 4, none⟩ = some (.string ⟨#[]⟩) := box_cell (j := 4) hR2 rfl
      have f4 := box_free (j := 4) hR2
      have u5 : wr.cell? ⟨gR, 5, none⟩ = some (.slice none 0 0) := box_cell (j := 5) hR2 rfl
      have f5 := box_free (j := 5) hR2
      have u6 : wr.cell? ⟨gR, 6, none⟩ = some (.slice none 0 0) := box_cell (j := 6) hR2 rfl
      have f6 := box_free (j := 6) hR2
      clear hR2
      go_wp2_with fail
      have E7 : Ext h w h1 (((((((wr.setCell ⟨gR, 0, none⟩ (.int .i64 0)).setCell ⟨gR, 1, none⟩ (.int .i64 0)).setCell ⟨gR, 2, none⟩ (.int .i64 0)).setCell ⟨gR, 3, none⟩ (.int .i64 0)).setCell ⟨gR, 4, none⟩ (.string ⟨#[]⟩)).setCell ⟨gR, 5, none⟩ (.slice none 0 0)).setCell ⟨gR, 6, none⟩ (.slice none 0 0)) := Ext.setCells (g := gR) hRs hR0 [.int .i64 0, .int .i64 0, .int .i64 0, .int .i64 0, .string ⟨#[]⟩, .slice none 0 0, .slice none 0 0] 0 _ E.out
      have R7 : ((((((((wr.setCell ⟨gR, 0, none⟩ (.int .i64 0)).setCell ⟨gR, 1, none⟩ (.int .i64 0)).setCell ⟨gR, 2, none⟩ (.int .i64 0)).setCell ⟨gR, 3, none⟩ (.int .i64 0)).setCell ⟨gR, 4, none⟩ (.string ⟨#[]⟩)).setCell ⟨gR, 5, none⟩ (.slice none 0 0)).setCell ⟨gR, 6, none⟩ (.slice none 0 0))).heap[gR]? = some (.cells #[.int .i64 0, .int .i64 0, .int .i64 0, .int .i64 0, .string ⟨#[]⟩, .slice none 0 0, .slice none 0 0] 37 (0, 0)) := setCells_row [.int .i64 0, .int .i64 0, .int .i64 0, .int .i64 0, .string ⟨#[]⟩, .slice none 0 0, .slice none 0 0] HRr.out rfl
      with_reducible generalize (((((((wr.setCell ⟨gR, 0, none⟩ (.int .i64 0)).setCell ⟨gR, 1, none⟩ (.int .i64 0)).setCell ⟨gR, 2, none⟩ (.int .i64 0)).setCell ⟨gR, 3, none⟩ (.int .i64 0)).setCell ⟨gR, 4, none⟩ (.string ⟨#[]⟩)).setCell ⟨gR, 5, none⟩ (.slice none 0 0)).setCell ⟨gR, 6, none⟩ (.slice none 0 0)) = W9 at E7 R7 ⊢
      have y0 : W9.cell? ⟨gR, 0, none⟩ = some (.int .i64 0) := box_cell (j := 0) R7 rfl
      have y1 : W9.cell? ⟨gR, 1, none⟩ = some (.int .i64 0) := box_cell (j := 1) R7 rfl
      have y2 : W9.cell? ⟨gR, 2, none⟩ = some (.int .i64 0) := box_cell (j := 2) R7 rfl
      have y3 : W9.cell? ⟨gR, 3, none⟩ = some (.int .i64 0) := box_cell (j := 3) R7 rfl
      have y4 : W9.cell? ⟨gR, 4, none⟩ = some (.string ⟨#[]⟩) := box_cell (j := 4) R7 rfl
      have y5 : W9.cell? ⟨gR, 5, none⟩ = some (.slice none 0 0) := box_cell (j := 5) R7 rfl
      have y6 : W9.cell? ⟨gR, 6, none⟩ = some (.slice none 0 0) := box_cell (j := 6) R7 rfl
      refine bodyPost_ret (v := .tuple #[.agg #[.int .i64 0, .int .i64 0, .int .i64 0, .int .i64 0, .string ⟨#[]⟩, .slice none 0 0, .slice none 0 0], .bool false]) (by simp [results, Try.results13, go_sem, y0, y1, y2, y3, y4, y5, y6]) rfl ⟨_, h1, by rw [HVN.out]; rfl, by rw [HVN.out]; exact zeroI_rep _, E7⟩
end Go.Proofs.Ytkglaofiencfdaa
