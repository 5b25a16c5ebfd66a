import Derived.Test.YteolmamiblddjaaBox
import Derived.Test.YteolmamiblddjaaClone
namespace Go.Proofs.Yteolmamiblddjaa
open Go.RowKit Go.Sort
set_option linter.unusedVariables false
def ixB {α : Type} (p : α → Bool) (xs : List α) : Int := match xs.findIdx? p with
  | some i => (i : Int)
  | none => -1
theorem ixB_hit {α : Type} {p : α → Bool} {xs : List α} {k : Nat} {x : α} (h : ∀ i y, i < k → xs[i]? = some y → p y = false) (hx : xs[k]? = some x) (hp : p x = true) : ixB p xs = (k : Int) := by
  unfold ixB
  have : xs.findIdx? p = some k := by
    rw [List.findIdx?_eq_some_iff_getElem]
    obtain ⟨hk, he⟩ := List.getElem?_eq_some_iff.1 hx
    exact ⟨hk, by rw [he]; exact hp, fun j hj => by
      have := h j (xs[j]'(by omega)) hj (List.getElem?_eq_getElem _)
      simp [this]⟩
  rw [this]
theorem ixB_none {α : Type} {p : α → Bool} {xs : List α} (h : ∀ i y, i < xs.length → xs[i]? = some y → p y = false) : ixB p xs = -1 := by
  unfold ixB
  have : xs.findIdx? p = none := by
    rw [List.findIdx?_eq_none_iff]
    intro y hy
    obtain ⟨i, hi, rfl⟩ := List.mem_iff_getElem.1 hy
    exact h i _ hi (List.getElem?_eq_getElem _)
  rw [this]
theorem no_step {α : Type} {p : α → Bool} {xs : List α} {k : Nat} {x : α} (h : ∀ i y, i < k → xs[i]? = some y → p y = false) (hx : xs[k]? = some x) (hp : p x = false) : ∀ i y, i < k + 1 → xs[i]? = some y → p y = false := fun i y hi hy => by
  by_cases e : i = k
  · subst e; rw [hx] at hy; cases hy; exact hp
  · exact h i y (by omega) hy
def isI (no : Int) (x : Inode) : Bool := x.no == no
def gtI (no : Int) (x : Inode) : Bool := decide (no < x.no)
def gtZ (no : Int) (x : Int) : Bool := decide (no < x)
def eqZ (no : Int) (x : Int) : Bool := no == x
set_option maxHeartbeats 1000000 in
theorem clo_put1 (x : Inode) (cs : List Value) (no : Int) (t : Bool) (ht : isI no x = t) (h : FH) (p : Nat) (hp : h.cell ⟨p, 0, none⟩ = some (.int .i64 no)) (w : World) (hs : Sits h w) (r : repInode h cs x) :
    Calls Try.prog 73 #[.agg cs.toArray, .pointer (some ⟨p, 0, none⟩)] w fun e w' => e = .returned (.bool t) ∧ Ext h w h w' := by
  obtain ⟨A5, c5, A6, c6, rfl, s0, s1, s2, s3, s4⟩ := r
  have E0 := Ext.refl hs
  have c0 := hs.cell hp
  have k0 := keep1 c0 (.cells #[.int .i64 x.no, .int .i64 x.kind, .int .i64 x.links, .int .i64 x.size, .string x.target, .slice A5 x.entries.length c5, .slice A6 x.runs.length c6] 37)
  have HT := hid ht
  clear ht
  go_enter Try.func73, Try.ntmps73
  go_wp2
  go_ret
  exact ⟨ret_bool (by rw [← HT.out]; rfl), E0.alloc _⟩
set_option maxHeartbeats 1000000 in
theorem clo_put2 (x : Inode) (cs : List Value) (no : Int) (t : Bool) (ht : gtI no x = t) (h : FH) (p : Nat) (hp : h.cell ⟨p, 0, none⟩ = some (.int .i64 no)) (w : World) (hs : Sits h w) (r : repInode h cs x) :
    Calls Try.prog 74 #[.agg cs.toArray, .pointer (some ⟨p, 0, none⟩)] w fun e w' => e = .returned (.bool t) ∧ Ext h w h w' := by
  obtain ⟨A5, c5, A6, c6, rfl, s0, s1, s2, s3, s4⟩ := r
  have E0 := Ext.refl hs
  have c0 := hs.cell hp
  have k0 := keep1 c0 (.cells #[.int .i64 x.no, .int .i64 x.kind, .int .i64 x.links, .int .i64 x.size, .string x.target, .slice A5 x.entries.length c5, .slice A6 x.runs.length c6] 37)
  have HT := hid ht
  clear ht
  go_enter Try.func74, Try.ntmps74
  go_wp2
  go_ret
  exact ⟨ret_bool (by rw [← HT.out]; rfl), E0.alloc _⟩
set_option maxHeartbeats 1000000 in
theorem clo_Apply1 (x : Inode) (cs : List Value) (no : Int) (t : Bool) (ht : isI no x = t) (h : FH) (p : Nat) (hp : h.cell ⟨p, 1, none⟩ = some (.int .i64 no)) (w : World) (hs : Sits h w) (r : repInode h cs x) :
    Calls Try.prog 44 #[.agg cs.toArray, .pointer (some ⟨p, 0, none⟩)] w fun e w' => e = .returned (.bool t) ∧ Ext h w h w' := by
  obtain ⟨A5, c5, A6, c6, rfl, s0, s1, s2, s3, s4⟩ := r
  have E0 := Ext.refl hs
  have c0 := hs.cell hp
  have k0 := keep1 c0 (.cells #[.int .i64 x.no, .int .i64 x.kind, .int .i64 x.links, .int .i64 x.size, .string x.target, .slice A5 x.entries.length c5, .slice A6 x.runs.length c6] 37)
  have HT := hid ht
  clear ht
  go_enter Try.func44, Try.ntmps44
  go_wp2
  go_ret
  exact ⟨ret_bool (by rw [← HT.out]; rfl), E0.alloc _⟩
set_option maxHeartbeats 2000000 in
theorem index_put1 (xs : List Inode) (A : Option Addr) (c : Nat) (no : Int) (h : FH) (p : Nat) (hp : h.cell ⟨p, 0, none⟩ = some (.int .i64 no)) (w : World) (hs : Sits h w) (r : RowAt h A xs) :
    Calls Try.prog 72 #[.slice A xs.length c, .func (.func 73) #[] #[.pointer (some ⟨p, 0, none⟩)]] w fun e w' => e = .returned (.int .i64 (ixB (isI no) xs)) ∧ Ext h w h w' := by
  have hl := r.1
  have HP := hid hp
  clear hp
  go_enter Try.func72, Try.ntmps72
  go_wp2_with fail
  go_loopw [5, 8] (fun s5 i wr => ∃ k : Nat, k ≤ xs.length ∧ i = .int .i64 k ∧ Hid (∀ i y, i < k → xs[i]? = some y → isI no y = false) ∧ Ext h w h wr) (fun _ i _ => xs.length - (intOf i).toNat)
  case atStart => exact ⟨0, Nat.zero_le _, rfl, hid (fun i y hi => by omega), Ext.refl hs⟩
  case round =>
    obtain ⟨k, hk, rfl, HN, E⟩ := hrel
    by_cases hlt : k < xs.length
    · obtain ⟨x, hx⟩ : ∃ x, xs[k]? = some x := ⟨xs[k], by simp [hlt]⟩
      obtain ⟨b, off, A5, c5, A6, c6, rfl, d0, d1, d2, d3, d4, d5, d6, s0, s1, s2, s3, s4⟩ := r.inode hx E.sits
      have HX := hid hx
      clear hx
      obtain ⟨q, hq⟩ : ∃ q, isI no x = q := ⟨_, rfl⟩
      have K := hid (clo_put1 x _ no q hq h p HP.out wr E.sits ⟨A5, c5, A6, c6, rfl, s0, s1, s2, s3, s4⟩)
      have HQ := hid hq
      clear hq
      cases q
      · have HN2 := hid (no_step HN.out HX.out HQ.out)
        go_wp2_with (go_at_call 73; refine K.out.mono ?_; rintro e w1 ⟨rfl, E1⟩)
        go_roundw
        case rel => exact ⟨k + 1, by omega, by go_num, HN2, E.trans E1⟩
        case measure => simp [intOf]; omega
      · have HI := hid (ixB_hit HN.out HX.out HQ.out)
        go_wp2_with (go_at_call 73; refine K.out.mono ?_; rintro e w1 ⟨rfl, E1⟩)
        go_ret
        exact ⟨by rw [HI.out]; rfl, E.trans E1⟩
    · have HI := hid (ixB_none (p := isI no) (fun i y hi => HN.out i y (by omega)))
      go_wp2_with fail
      go_ret
      exact ⟨by rw [HI.out]; rfl, E⟩
set_option maxHeartbeats 2000000 in
theorem index_put2 (xs : List Inode) (A : Option Addr) (c : Nat) (no : Int) (h : FH) (p : Nat) (hp : h.cell ⟨p, 0, none⟩ = some (.int .i64 no)) (w : World) (hs : Sits h w) (r : RowAt h A xs) :
    Calls Try.prog 72 #[.slice A xs.length c, .func (.func 74) #[] #[.pointer (some ⟨p, 0, none⟩)]] w fun e w' => e = .returned (.int .i64 (ixB (gtI no) xs)) ∧ Ext h w h w' := by
  have hl := r.1
  have HP := hid hp
  clear hp
  go_enter Try.func72, Try.ntmps72
  go_wp2_with fail
  go_loopw [5, 8] (fun s5 i wr => ∃ k : Nat, k ≤ xs.length ∧ i = .int .i64 k ∧ Hid (∀ i y, i < k → xs[i]? = some y → gtI no y = false) ∧ Ext h w h wr) (fun _ i _ => xs.length - (intOf i).toNat)
  case atStart => exact ⟨0, Nat.zero_le _, rfl, hid (fun i y hi => by omega), Ext.refl hs⟩
  case round =>
    obtain ⟨k, hk, rfl, HN, E⟩ := hrel
    by_cases hlt : k < xs.length
    · obtain ⟨x, hx⟩ : ∃ x, xs[k]? = some x := ⟨xs[k], by simp [hlt]⟩
      obtain ⟨b, off, A5, c5, A6, c6, rfl, d0, d1, d2, d3, d4, d5, d6, s0, s1, s2, s3, s4⟩ := r.inode hx E.sits
      have HX := hid hx
      clear hx
      obtain ⟨q, hq⟩ : ∃ q, gtI no x = q := ⟨_, rfl⟩
      have K := hid (clo_put2 x _ no q hq h p HP.out wr E.sits ⟨A5, c5, A6, c6, rfl, s0, s1, s2, s3, s4⟩)
      have HQ := hid hq
      clear hq
      cases q
      · have HN2 := hid (no_step HN.out HX.out HQ.out)
        go_wp2_with (go_at_call 74; refine K.out.mono ?_; rintro e w1 ⟨rfl, E1⟩)
        go_roundw
        case rel => exact ⟨k + 1, by omega, by go_num, HN2, E.trans E1⟩
        case measure => simp [intOf]; omega
      · have HI := hid (ixB_hit HN.out HX.out HQ.out)
        go_wp2_with (go_at_call 74; refine K.out.mono ?_; rintro e w1 ⟨rfl, E1⟩)
        go_ret
        exact ⟨by rw [HI.out]; rfl, E.trans E1⟩
    · have HI := hid (ixB_none (p := gtI no) (fun i y hi => HN.out i y (by omega)))
      go_wp2_with fail
      go_ret
      exact ⟨by rw [HI.out]; rfl, E⟩
set_option maxHeartbeats 2000000 in
theorem index_Apply1 (xs : List Inode) (A : Option Addr) (c : Nat) (no : Int) (h : FH) (p : Nat) (hp : h.cell ⟨p, 1, none⟩ = some (.int .i64 no)) (w : World) (hs : Sits h w) (r : RowAt h A xs) :
    Calls Try.prog 72 #[.slice A xs.length c, .func (.func 44) #[] #[.pointer (some ⟨p, 0, none⟩)]] w fun e w' => e = .returned (.int .i64 (ixB (isI no) xs)) ∧ Ext h w h w' := by
  have hl := r.1
  have HP := hid hp
  clear hp
  go_enter Try.func72, Try.ntmps72
  go_wp2_with fail
  go_loopw [5, 8] (fun s5 i wr => ∃ k : Nat, k ≤ xs.length ∧ i = .int .i64 k ∧ Hid (∀ i y, i < k → xs[i]? = some y → isI no y = false) ∧ Ext h w h wr) (fun _ i _ => xs.length - (intOf i).toNat)
  case atStart => exact ⟨0, Nat.zero_le _, rfl, hid (fun i y hi => by omega), Ext.refl hs⟩
  case round =>
    obtain ⟨k, hk, rfl, HN, E⟩ := hrel
    by_cases hlt : k < xs.length
    · obtain ⟨x, hx⟩ : ∃ x, xs[k]? = some x := ⟨xs[k], by simp [hlt]⟩
      obtain ⟨b, off, A5, c5, A6, c6, rfl, d0, d1, d2, d3, d4, d5, d6, s0, s1, s2, s3, s4⟩ := r.inode hx E.sits
      have HX := hid hx
      clear hx
      obtain ⟨q, hq⟩ : ∃ q, isI no x = q := ⟨_, rfl⟩
      have K := hid (clo_Apply1 x _ no q hq h p HP.out wr E.sits ⟨A5, c5, A6, c6, rfl, s0, s1, s2, s3, s4⟩)
      have HQ := hid hq
      clear hq
      cases q
      · have HN2 := hid (no_step HN.out HX.out HQ.out)
        go_wp2_with (go_at_call 44; refine K.out.mono ?_; rintro e w1 ⟨rfl, E1⟩)
        go_roundw
        case rel => exact ⟨k + 1, by omega, by go_num, HN2, E.trans E1⟩
        case measure => simp [intOf]; omega
      · have HI := hid (ixB_hit HN.out HX.out HQ.out)
        go_wp2_with (go_at_call 44; refine K.out.mono ?_; rintro e w1 ⟨rfl, E1⟩)
        go_ret
        exact ⟨by rw [HI.out]; rfl, E.trans E1⟩
    · have HI := hid (ixB_none (p := isI no) (fun i y hi => HN.out i y (by omega)))
      go_wp2_with fail
      go_ret
      exact ⟨by rw [HI.out]; rfl, E⟩
set_option maxHeartbeats 1000000 in
theorem clo_bad1 (x : Int) (no : Int) (t : Bool) (ht : gtZ no x = t) (h : FH) (p : Nat) (hp : h.cell ⟨p, 0, none⟩ = some (.int .i64 no)) (w : World) (hs : Sits h w) :
    Calls Try.prog 78 #[.int .i64 x, .pointer (some ⟨p, 0, none⟩)] w fun e w' => e = .returned (.bool t) ∧ Ext h w h w' := by
  have E0 := Ext.refl hs
  have c0 := hs.cell hp
  have HT := hid ht
  clear ht
  go_enter Try.func78, Try.ntmps78
  go_wp2
  go_ret
  exact ⟨ret_bool (by rw [← HT.out]; rfl), E0⟩
set_option maxHeartbeats 2000000 in
theorem index_bad1 (xs : List Int) (A : Option Addr) (c : Nat) (no : Int) (h : FH) (p : Nat) (hp : h.cell ⟨p, 0, none⟩ = some (.int .i64 no)) (w : World) (hs : Sits h w) (r : RowAt h A xs) :
    Calls Try.prog 77 #[.slice A xs.length c, .func (.func 78) #[] #[.pointer (some ⟨p, 0, none⟩)]] w fun e w' => e = .returned (.int .i64 (ixB (gtZ no) xs)) ∧ Ext h w h w' := by
  have hl := r.1
  have HP := hid hp
  clear hp
  go_enter Try.func77, Try.ntmps77
  go_wp2_with fail
  go_loopw [5, 8] (fun s5 i wr => ∃ k : Nat, k ≤ xs.length ∧ i = .int .i64 k ∧ Hid (∀ i y, i < k → xs[i]? = some y → gtZ no y = false) ∧ Ext h w h wr) (fun _ i _ => xs.length - (intOf i).toNat)
  case atStart => exact ⟨0, Nat.zero_le _, rfl, hid (fun i y hi => by omega), Ext.refl hs⟩
  case round =>
    obtain ⟨k, hk, rfl, HN, E⟩ := hrel
    by_cases hlt : k < xs.length
    · obtain ⟨x, hx⟩ : ∃ x, xs[k]? = some x := ⟨xs[k], by simp [hlt]⟩
      obtain ⟨b, off, rfl, d0⟩ := r.int hx E.sits
      have HX := hid hx
      clear hx
      obtain ⟨q, hq⟩ : ∃ q, gtZ no x = q := ⟨_, rfl⟩
      have K := hid (clo_bad1 x no q hq h p HP.out wr E.sits)
      have HQ := hid hq
      clear hq
      cases q
      · have HN2 := hid (no_step HN.out HX.out HQ.out)
        go_wp2_with (go_at_call 78; refine K.out.mono ?_; rintro e w1 ⟨rfl, E1⟩)
        go_roundw
        case rel => exact ⟨k + 1, by omega, by go_num, HN2, E.trans E1⟩
        case measure => simp [intOf]; omega
      · have HI := hid (ixB_hit HN.out HX.out HQ.out)
        go_wp2_with (go_at_call 78; refine K.out.mono ?_; rintro e w1 ⟨rfl, E1⟩)
        go_ret
        exact ⟨by rw [HI.out]; rfl, E.trans E1⟩
    · have HI := hid (ixB_none (p := gtZ no) (fun i y hi => HN.out i y (by omega)))
      go_wp2_with fail
      go_ret
      exact ⟨by rw [HI.out]; rfl, E⟩
set_option maxHeartbeats 2000000 in
theorem index_Int (xs : List Int) (A : Option Addr) (c : Nat) (no : Int) (h : FH) (w : World) (hs : Sits h w) (r : RowAt h A xs) :
    Calls Try.prog 106 #[.slice A xs.length c, .int .i64 no] w fun e w' => e = .returned (.int .i64 (ixB (eqZ no) xs)) ∧ Ext h w h w' := by
  have hl := r.1
  have E := Ext.refl hs
  go_enter Try.func106, Try.ntmps106
  go_wp2_with fail
  go_loop [5, 8] (fun s5 i => ∃ k : Nat, k ≤ xs.length ∧ i = .int .i64 k ∧ Hid (∀ i y, i < k → xs[i]? = some y → eqZ no y = false)) (fun _ i => xs.length - (intOf i).toNat)
  case atStart => exact ⟨0, Nat.zero_le _, rfl, hid (fun i y hi => by omega)⟩
  case round =>
    obtain ⟨k, hk, rfl, HN⟩ := hrel
    by_cases hlt : k < xs.length
    · obtain ⟨x, hx⟩ : ∃ x, xs[k]? = some x := ⟨xs[k], by simp [hlt]⟩
      obtain ⟨b, off, rfl, d0⟩ := r.int hx hs
      have HX := hid hx
      clear hx
      obtain ⟨q, hq⟩ : ∃ q, eqZ no x = q := ⟨_, rfl⟩
      have HQ := hid hq
      have hq2 : (no == x) = q := hq
      clear hq
      cases q
      · have HN2 := hid (no_step HN.out HX.out HQ.out)
        go_wp2_with fail
        go_round
        case rel => exact ⟨k + 1, by omega, by go_num, HN2⟩
        case measure => simp [intOf]; omega
      · have HI := hid (ixB_hit HN.out HX.out HQ.out)
        go_wp2_with fail
        go_ret
        exact ⟨by rw [HI.out]; rfl, E⟩
    · have HI := hid (ixB_none (p := eqZ no) (fun i y hi => HN.out i y (by omega)))
      go_wp2_with fail
      go_ret
      exact ⟨by rw [HI.out]; rfl, E⟩
theorem ixB_any {α : Type} (p : α → Bool) (xs : List α) : decide (0 ≤ ixB p xs) = xs.any p := by
  unfold ixB
  cases e : xs.findIdx? p with
  | none =>
    have := List.findIdx?_eq_none_iff.1 e
    rw [List.any_eq_false.2 (fun y hy => by simp [this y hy])]
    rfl
  | some i =>
    obtain ⟨hi, hp, _⟩ := List.findIdx?_eq_some_iff_getElem.1 e
    rw [List.any_eq_true.2 ⟨_, List.getElem_mem hi, hp⟩]
    simp
set_option maxHeartbeats 1000000 in
theorem contains_Int (xs : List Int) (A : Option Addr) (c : Nat) (no : Int) (t : Bool) (ht : xs.any (eqZ no) = t) (h : FH) (w : World) (hs : Sits h w) (r : RowAt h A xs) :
    Calls Try.prog 76 #[.slice A xs.length c, .int .i64 no] w fun e w' => e = .returned (.bool t) ∧ Ext h w h w' := by
  have K := hid (index_Int xs A c no h w hs r)
  have HT := hid ((ixB_any (eqZ no) xs).trans ht)
  clear ht
  go_enter Try.func76, Try.ntmps76
  go_wp2_with (go_at_call 106; refine K.out.mono ?_; rintro e w1 ⟨rfl, E1⟩)
  go_ret
  exact ⟨ret_bool HT.out, E1⟩
end Go.Proofs.Yteolmamiblddjaa
