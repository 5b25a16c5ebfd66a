import Derived.Test.YtdiaibkpcnknbaaDoorRefEnt
import Derived.Test.YtdiaibkpcnknbaaDoorCore
import Derived.Test.YtdiaibkpcnknbaaDoorRefAdd
import Derived.Test.YtdiaibkpcnknbaaDoorStAll
import Derived.Laws.CopyRow
namespace Go.Proofs.YtdiaibkpcnknbaaDoor
open Go.RowKit Go.Sort
set_option linter.unusedVariables false
/-! ### entries: places, Find -/
def firstIx : List Entry → Nat → ByteArray → Option Nat
  | [], _, _ => none
  | x :: xs, i, a => if a = x.name then some i else firstIx xs (i + 1) a
def placesE (xs : List Entry) (k : Nat) : ByteArray → Option Value := fun a => (firstIx (xs.drop k) k a).map fun j => Value.int .i64 (j : Nat)
theorem placesE_end (xs : List Entry) (a : ByteArray) : placesE xs xs.length a = none := by unfold placesE; rw [List.drop_length]; rfl
theorem placesE_step {xs : List Entry} {k : Nat} {x : Entry} (hx : xs[k]? = some x) (a : ByteArray) : placesE xs k a = if a = x.name then some (Value.int .i64 (k : Nat)) else placesE xs (k + 1) a := by
  obtain ⟨hk, he⟩ := List.getElem?_eq_some_iff.1 hx
  unfold placesE
  rw [List.drop_eq_getElem_cons hk, he]
  show (if a = x.name then some k else firstIx (xs.drop (k + 1)) (k + 1) a).map _ = _
  split <;> rfl
theorem firstIx_none : ∀ {xs : List Entry} {i : Nat} {a : ByteArray}, firstIx xs i a = none → findE xs a = none ∧ xs.findIdx? (isE a) = none
  | [], _, _, _ => ⟨rfl, rfl⟩
  | x :: xs, i, a, h => by
    unfold firstIx at h
    split at h
    · cases h
    · rename_i hne
      obtain ⟨h1, h2⟩ := firstIx_none h
      have hp : isE a x = false := decide_eq_false (fun e => hne e.symm)
      refine ⟨?_, ?_⟩
      · unfold findE at h1 ⊢
        rw [List.find?_cons, hp]; exact h1
      · rw [List.findIdx?_cons, hp]
        simp [h2]
theorem firstIx_some : ∀ {xs : List Entry} {i j : Nat} {a : ByteArray}, firstIx xs i a = some j → i ≤ j ∧ ∃ y, xs[j - i]? = some y ∧ findE xs a = some y.no ∧ xs.findIdx? (isE a) = some (j - i)
  | [], _, _, _, h => by cases h
  | x :: xs, i, j, a, h => by
    unfold firstIx at h
    split at h
    · rename_i he
      cases h
      have hp : isE a x = true := decide_eq_true he.symm
      refine ⟨Nat.le_refl _, x, by simp, ?_, ?_⟩
      · unfold findE; rw [List.find?_cons, hp]; rfl
      · rw [List.findIdx?_cons, hp]; simp
    · rename_i hne
      obtain ⟨h1, y, h2, h3, h4⟩ := firstIx_some h
      have hp : isE a x = false := decide_eq_false (fun e => hne e.symm)
      have e : j - i = (j - (i + 1)) + 1 := by omega
      refine ⟨by omega, y, by rw [e]; simpa using h2, ?_, ?_⟩
      · unfold findE at h3 ⊢
        rw [List.find?_cons, hp]; exact h3
      · rw [List.findIdx?_cons, hp, e]
        simp [h4]
set_option maxHeartbeats 4000000 in
theorem entries_places (xs : List Entry) (A : Option Addr) (c : Nat) (h : FH) (w : World) (hs : Sits h w) (r : RowAt h A xs) :
    Calls Tryd.prog 62 #[.slice A xs.length c] w fun e w' => RetMap encS h w (placesE xs 0) e w' := by
  have hl := r.1
  have hmm := @run_makeMap Tryd.prog
  have HN1 := hid (hs.none (g := w.heap.size) (Nat.le_refl _))
  go_enter Tryd.func62, Tryd.ntmps62
  go_wp2
  go_loopw [4] (fun i wr => ∃ k : Nat, k ≤ xs.length ∧ i = .int .i64 ((k : Int) - 1) ∧ MapIs encS wr w.heap.size (placesE xs k) ∧ Ext h w h wr) (fun i _ => (intOf i + 1).toNat)
  case atStart => exact ⟨xs.length, Nat.le_refl _, by go_num, (MapIs.made encS w).congr (fun a => (placesE_end xs a).symm), (Ext.refl hs).alloc _⟩
  case round =>
    obtain ⟨k, hk, rfl, M, E⟩ := hrel
    cases k with
    | zero =>
      go_wp2_with fail
      go_ret
      exact ⟨_, rfl, M, Nat.le_refl _, E⟩
    | succ m =>
      obtain ⟨x, hx⟩ : ∃ x, xs[m]? = some x := ⟨xs[m]'(by omega), List.getElem?_eq_getElem _⟩
      obtain ⟨b, off, rfl, c0, c1, hxs⟩ := r.entry hx E.sits
      have HST := hid (placesE_step hx)
      clear hx
      rw [show ((m + 1 : Nat) : Int) - 1 = (m : Int) by omega]
      have i1 : (0 : Int) ≤ (m : Int) := by omega
      have i2 : (m : Int) < (xs.length : Int) := by omega
      go_wp2_with (at_mapUpdate; refine wpList_mapSet _ rfl _ _ _ 111 3 rfl kt_entries_key Tryd.underlying111 w.heap.size _ rfl M x.name rfl (.int .i64 m) rfl ?_; intro w1 M1 hg1)
      go_roundw
      case rel => exact ⟨m, by omega, by go_num, M1.congr (fun a => (HST.out a).symm), E.grown hg1 (fun j hj => by cases hj; exact ⟨Nat.le_refl _, HN1.out⟩)⟩
      case measure => simp [intOf]
set_option maxHeartbeats 4000000 in
theorem entries_Find (xs : List Entry) (A : Option Addr) (c : Nat) (s : ByteArray) (hsz : s.size ≤ 9223372036854775807) (v : Option Int) (hv : findE xs s = v) (h : FH) (w : World) (hs : Sits h w) (r : RowAt h A xs) :
    Calls Tryd.prog 38 #[.slice A xs.length c, .string s] w fun e w' => e = .returned (.tuple #[.int .i64 (v.getD 0), .bool v.isSome]) ∧ Ext h w h w' := by
  have hl := r.1
  have HV := hid hv
  have KP := hid (entries_places xs A c h w hs r)
  clear hv
  go_enter Tryd.func38, Tryd.ntmps38
  go_wp2_with fail
  refine KP.out.mono ?_
  rintro e w1 ⟨b, rfl, M, hb, E1⟩
  have hlook := M.lookOk kt_entries_key Tryd.underlying111 zero_int s
  cases hf : firstIx xs 0 s with
  | none =>
    have hp : placesE xs 0 s = none := by unfold placesE; rw [List.drop_zero, hf]; rfl
    rw [hp] at hlook
    have HF := hid (firstIx_none hf).1
    simp only [Option.getD_none, Option.isSome_none, encS] at hlook
    clear hf hp M
    go_wp2_with fail
    go_ret2
    exact ⟨ret_ib' (by rw [← HV.out, HF.out]; rfl) (by rw [← HV.out, HF.out]; rfl), E1⟩
  | some j =>
    obtain ⟨_, y, hy, hF, _⟩ := firstIx_some hf
    rw [Nat.sub_zero] at hy
    have hp : placesE xs 0 s = some (.int .i64 (j : Nat)) := by unfold placesE; rw [List.drop_zero, hf]; rfl
    rw [hp] at hlook
    have HF := hid hF
    have hjl := (List.getElem?_eq_some_iff.1 hy).1
    obtain ⟨b', off, rfl, c0, c1, hxs⟩ := r.entry hy E1.sits
    have i1 : (0 : Int) ≤ (j : Int) := by omega
    have i2 : (j : Int) < (xs.length : Int) := by omega
    simp only [Option.getD_some, Option.isSome_some, encS] at hlook
    clear hf hp M hF hy
    go_wp2_with fail
    go_ret2
    exact ⟨ret_ib' (by rw [← HV.out, HF.out]; rfl) (by rw [← HV.out, HF.out]; rfl), E1⟩
end Go.Proofs.YtdiaibkpcnknbaaDoor

namespace Go.Proofs.YtdiaibkpcnknbaaDoor
open Go.RowKit Go.Sort
set_option linter.unusedVariables false
/-! ### entries.Add: the closure, slices.IndexFunc -/
theorem not_leB (a b : ByteArray) : (!Op.bytesLess a.toList b.toList && !(a.toList == b.toList)) = !leB a b := by unfold leB; rw [Bool.not_or]
set_option maxHeartbeats 1000000 in
theorem entries_Add1 (x : Entry) (s : ByteArray) (t : Bool) (ht : (!leB x.name s) = t) (h : FH) (p : Nat) (hp : h.cell ⟨p, 0, none⟩ = some (.string s)) (w : World) (hs : Sits h w) :
    Calls Tryd.prog 41 #[.agg #[.string x.name, .int .i64 x.no], .pointer (some ⟨p, 0, none⟩)] w fun e w' => e = .returned (.bool t) ∧ Ext h w h w' := by
  have E0 := Ext.refl hs
  have c0 := hs.cell hp
  have k0 := keep1 c0 (.cells #[.string x.name, .int .i64 x.no] 61)
  have HT := hid ((not_leB x.name s).trans ht)
  clear ht
  go_enter Tryd.func41, Tryd.ntmps41
  go_wp2
  go_ret
  exact ⟨ret_bool (by rw [← HT.out]), E0.alloc _⟩
def ixGt (xs : List Entry) (s : ByteArray) : Int := if posE xs s < xs.length then posE xs s else -1
set_option maxHeartbeats 2000000 in
theorem index_gt (xs : List Entry) (A : Option Addr) (c : Nat) (s : ByteArray) (h : FH) (p : Nat) (hp : h.cell ⟨p, 0, none⟩ = some (.string s)) (w : World) (hs : Sits h w) (r : RowAt h A xs) :
    Calls Tryd.prog 40 #[.slice A xs.length c, .func (.func 41) #[] #[.pointer (some ⟨p, 0, none⟩)]] w fun e w' => e = .returned (.int .i64 (ixGt xs s)) ∧ Ext h w h w' := by
  have hl := r.1
  have HP := hid hp
  clear hp
  go_enter Tryd.func40, Tryd.ntmps40
  go_wp2_with fail
  go_loopw [5, 8] (fun s5 i wr => ∃ k : Nat, k ≤ xs.length ∧ i = .int .i64 k ∧ Hid (∀ i y, i < k → xs[i]? = some y → leB y.name s = true) ∧ Ext h w h wr) (fun _ i _ => xs.length - (intOf i).toNat)
  case atStart => exact ⟨0, Nat.zero_le _, rfl, hid (fun i y hi => by omega), Ext.refl hs⟩
  case round =>
    obtain ⟨k, hk, rfl, HN, E⟩ := hrel
    by_cases hlt : k < xs.length
    · obtain ⟨x, hx⟩ : ∃ x, xs[k]? = some x := ⟨xs[k], by simp [hlt]⟩
      obtain ⟨b, off, rfl, c0, c1, hxs⟩ := r.entry hx E.sits
      have HX := hid hx
      clear hx
      obtain ⟨q, hq⟩ : ∃ q, leB x.name s = q := ⟨_, rfl⟩
      have HQ := hid hq
      clear hq
      cases q
      · have HI := hid (show ixGt xs s = (k : Int) by
          unfold ixGt
          rw [posE_at (by omega) HN.out (fun y hy => by rw [HX.out] at hy; cases hy; exact HQ.out), if_pos hlt])
        have K := hid (entries_Add1 x s true (by rw [HQ.out]; rfl) h p HP.out wr E.sits)
        go_wp2_with (go_at_call 41; refine K.out.mono ?_; rintro e w1 ⟨rfl, E1⟩)
        go_ret
        exact ⟨by rw [HI.out]; rfl, E.trans E1⟩
      · have HN2 := hid (show ∀ i y, i < k + 1 → xs[i]? = some y → leB y.name s = true from fun i y hi hy => by
          by_cases hik : i = k
          · subst hik; rw [HX.out] at hy; cases hy; exact HQ.out
          · exact HN.out i y (by omega) hy)
        have K := hid (entries_Add1 x s false (by rw [HQ.out]; rfl) h p HP.out wr E.sits)
        go_wp2_with (go_at_call 41; refine K.out.mono ?_; rintro e w1 ⟨rfl, E1⟩)
        go_roundw
        case rel => exact ⟨k + 1, by omega, by go_num, HN2, E.trans E1⟩
        case measure => simp [intOf]; omega
    · have HI := hid (show ixGt xs s = -1 by
        unfold ixGt
        rw [posE_at (k := xs.length) (Nat.le_refl _) (fun i y hi => HN.out i y (by omega)) (fun y hy => by rw [List.getElem?_eq_none (Nat.le_refl _)] at hy; cases hy), if_neg (by omega)])
      go_wp2_with fail
      go_ret
      exact ⟨by rw [HI.out]; rfl, E⟩
end Go.Proofs.YtdiaibkpcnknbaaDoor

namespace Go.Proofs.YtdiaibkpcnknbaaDoor
open Go.RowKit Go.Sort
set_option linter.unusedVariables false
/-! ### slices.Insert at Entry, one element -/
theorem ent_row {h : FH} {gv : Nat} {e : Entry} (hsz : e.name.size ≤ 9223372036854775807) (hb : h gv = some (.cells #[.string e.name, .int .i64 e.no] 61 (0, 0))) : RowAt h (some ⟨gv, 0, none⟩) [e] :=
  RowAt.of_block hb ⟨_, _, rfl, ⟨rfl, hsz⟩, rfl⟩ (by simp)
set_option maxHeartbeats 2000000 in
set_option maxRecDepth 100000 in
theorem insert_end (xs : List Entry) (e : Entry) (hsz : e.name.size ≤ 9223372036854775807) (hbig : xs.length ≤ 1000) (h : FH) (w : World) (hs : Sits h w) (base : Nat) (hbase : base ≤ w.heap.size) (v : Value) (O : OwnL h w base 61 v xs) (gv : Nat) (hb : h gv = some (.cells #[.string e.name, .int .i64 e.no] 61 (0, 0))) :
    Calls Tryd.prog 42 #[v, .int .i64 xs.length, .slice (some ⟨gv, 0, none⟩) 1 1] w fun e' w' => ∃ v', e' = .returned v' ∧ OwnL h w' base 61 v' (xs ++ [e]) ∧ w.grownBy w' v.ownBlock := by
  have RV := hid (ent_row hsz hb)
  have OO := hid O
  have HB := hid (show (xs.length + [e].length) * 24 ≤ 140737488355328 by simp; omega)
  obtain ⟨cells, hw, _⟩ := O.own
  rcases hw.2 with ⟨rfl, hn⟩ | ⟨g0, cap, cur, rfl, hb0, hg0, hlc, hcm, hcs, htk⟩
  · rw [hn] at hw
    have HN := hid hn
    clear hw O hb
    rw [hn]
    go_enter Tryd.func42, Tryd.ntmps42
    go_wp2_with (at_builtin; refine wpList_appendR rfl _ _ 48 rfl base 61 24 ty_Entry _ xs [e] rfl OO.out hs (some ⟨gv, 0, none⟩) 1 1 rfl rfl RV.out HB.out (by decide) hbase ?_)
    intro v3 w6 O3 hg3 _
    have O3 := hid O3
    have hg3 := hid hg3
    go_wp2
    go_ret
    exact ⟨_, rfl, O3.out, hg3.out⟩
  · clear hw O hb hg0 hcs htk
    unfold maxLen at hcm
    go_enter Tryd.func42, Tryd.ntmps42
    go_wp2_with (at_builtin; refine wpList_appendR rfl _ _ 48 rfl base 61 24 ty_Entry _ xs [e] rfl OO.out hs (some ⟨gv, 0, none⟩) 1 1 rfl rfl RV.out HB.out (by decide) hbase ?_)
    all_goals
      intro v3 w6 O3 hg3 _
      have O3 := hid O3
      have hg3 := hid hg3
      go_wp2
      go_ret
      exact ⟨_, rfl, O3.out, hg3.out⟩
theorem Reps.take2 {h : FH} : ∀ {cells : List Value} {xs : List Entry} (_ : Reps h cells xs) (i : Nat), Reps h (cells.take (i * 2)) (xs.take i)
  | _, _, r, 0 => by simp; rfl
  | cells, [], r, i + 1 => by
    have : cells = [] := r
    subst this; simp; rfl
  | _, x :: xs, ⟨cs, rest, e, r, t⟩, i + 1 => by
    have hl : cs.length = 2 := Enc.len r
    subst e
    exact ⟨cs, rest.take (i * 2), by rw [List.take_append, hl, List.take_of_length_le (by omega)]; congr 2; omega, r, t.take2 i⟩
theorem Reps.drop2 {h : FH} : ∀ {cells : List Value} {xs : List Entry} (_ : Reps h cells xs) (i : Nat), Reps h (cells.drop (i * 2)) (xs.drop i)
  | _, _, r, 0 => by simpa using r
  | cells, [], r, i + 1 => by
    have : cells = [] := r
    subst this; simp; rfl
  | _, x :: xs, ⟨cs, rest, e, r, t⟩, i + 1 => by
    have hl : cs.length = 2 := Enc.len r
    subst e
    rw [List.drop_append, hl, List.drop_of_length_le (by omega), List.nil_append, show (i + 1) * 2 - 2 = i * 2 by omega]
    exact t.drop2 i
set_option maxHeartbeats 2000000 in
set_option maxRecDepth 100000 in
theorem insert_shift (xs : List Entry) (i : Nat) (hi : i < xs.length) (e : Entry) (hsz : e.name.size ≤ 9223372036854775807) (hbig : xs.length ≤ 1000) (h : FH) (w : World) (hs : Sits h w) (base : Nat) (hbase : base ≤ w.heap.size) (g0 cap : Nat) (hroom : xs.length + 1 ≤ cap) (O : OwnL h w base 61 (.slice (some ⟨g0, 0, none⟩) xs.length cap) xs) (gv : Nat) (hb : h gv = some (.cells #[.string e.name, .int .i64 e.no] 61 (0, 0))) :
    Calls Tryd.prog 42 #[.slice (some ⟨g0, 0, none⟩) xs.length cap, .int .i64 i, .slice (some ⟨gv, 0, none⟩) 1 1] w fun e' w' => ∃ v', e' = .returned v' ∧ OwnL h w' base 61 v' (xs.take i ++ [e] ++ xs.drop i) ∧ w.grownBy w' (some g0) := by
  have OO := hid O
  have hne : gv ≠ g0 := fun he => by have := O.free g0 rfl; rw [← he, hb] at this; cases this
  obtain ⟨cells, hw, R⟩ := O.own
  rcases hw.2 with ⟨he, hn⟩ | ⟨g0', cap', cur, he, hb0, hg0, hlc, hcm, hcs, htk⟩
  · cases he
  · cases he
    have hcl : cells.length = xs.length * 2 := hw.1
    have hcs : cur.size = cap * 2 := hcs
    have htk : cur.toList.take (xs.length * 2) = cells := htk
    have hcm' : cap ≤ 9223372036854775807 := by unfold maxLen at hcm; omega
    have hgv := hs gv _ hb
    have hov : ∀ k lb cb, (callFunc 64 #[.slice (some ⟨gv, 0, none⟩) 1 1, .slice (some ⟨g0, k, none⟩) lb cb]).run Tryd.prog w = .ok (.value (.bool false)) w := fun k lb cb => by
      rw [run_callFunc_extern Tryd.func64 (by kernel_rfl) (by kernel_rfl) (by kernel_rfl) (e := Extern.SlicesOverlaps.overlaps #[48, 48] #[4]) (by kernel_rfl),
        Lib.run_overlaps_apart w 48 4 61 ty_Entry.und 2 (fun _ => rfl) ⟨gv, 0, none⟩ ⟨g0, k, none⟩ 1 1 lb cb hne 61 61 2 (cap * 2) (by unfold World.shape?; rw [hgv]; rfl) (by unfold World.shape?; rw [hg0]; simp [hcs]) (by omega) (by simp [World.frozen?, hgv]) (by simp [World.frozen?, hgv])]
      rfl
    have hz2 : ¬ ((i : Int) = (xs.length : Int)) := by omega
    have hb1 : (0 : Int) ≤ (i : Int) + 1 := by omega
    have hr1 : ¬ ((cap : Int) < (xs.length : Int) + 1) := by omega
    have hr2 : (xs.length : Int) + 1 ≤ (cap : Int) := by omega
    have htn : ((i : Int) + 1).toNat = i + 1 := by omega
    have htn2 : ((xs.length : Int) + 1).toNat = xs.length + 1 := by omega
    have hb2 : ¬ (cap = i + 1) := by omega
    have hb3 : (i : Int) ≤ (xs.length : Int) + 1 := by omega
    have hb4 : ¬ (cap = i) := by omega
    have hb5 : (i : Int) + 1 ≤ (xs.length : Int) + 1 := by omega
    have hw1 : IntKind.i64.wrap ((i : Int) + 1) = (i : Int) + 1 := by rw [IntKind.wrap_i64]; omega
    clear hw hgv
    go_enter Tryd.func42, Tryd.ntmps42
    go_wp2_with (simp only [hov])
    have hcp1 : ∀ (W : World), (∀ x, W.cell? x = w.cell? x) → (∀ x, W.frozen? x = w.frozen? x) → ∀ ty n1 dc n2 sc, Nat.min n2 n1 = xs.length - i → (Builtin.copy_ #[48, 48] ty #[.slice (some ⟨g0, (i + 1) * 2, none⟩) n1 dc, .slice (some ⟨g0, i * 2, none⟩) n2 sc]).run Tryd.prog W = .ok (goInt (Nat.min n2 n1)) (W.setCells g0 ((i + 1) * 2) (cells.drop (i * 2))) := fun W hWc hWf ty n1 dc n2 sc hm =>
      run_copy_any W _ _ ty 61 2 g0 ((i + 1) * 2) n1 dc ⟨g0, i * 2, none⟩ n2 sc (cells.drop (i * 2)) ty_Entry.und (by rfl) (by rw [hm, List.length_drop, hcl]; omega)
        (fun j v hj => by
          rw [Addr.add_lit, hWc, cell_of_row _ _ _ _ _ _ hg0, ← Array.getElem?_toList]
          rw [List.getElem?_drop, ← htk, List.getElem?_take] at hj
          split at hj
          · exact hj
          · cases hj)
        (fun j hj => by
          rw [List.length_drop, hcl] at hj
          rw [hWc, cell_of_row _ _ _ _ _ _ hg0, Array.getElem?_eq_getElem (by omega)]; rfl)
        (fun j hj => by rw [hWf]; simp [World.frozen?, hg0])
        (fun v hv => R.one v (List.mem_of_mem_drop hv))
    have hm1 : Nat.min (xs.length + 1 - i) (xs.length - i) = xs.length - i := by simp only [Nat.min_def]; split <;> omega
    have hm2 : Nat.min (xs.length + 1 - i) (xs.length + 1 - (i + 1)) = xs.length - i := by simp only [Nat.min_def]; split <;> omega
    obtain ⟨W1, hW1⟩ : ∃ W1, W1 = w.drew.setCells g0 ((i + 1) * 2) (cells.drop (i * 2)) := ⟨_, rfl⟩
    obtain ⟨cur1, k1, k2, k3⟩ := heap_setCells g0 61 (0, 0) (cells.drop (i * 2)) ((i + 1) * 2) w.drew cur hg0
    rw [← hW1] at k1
    have G1 : w.grownBy W1 (some g0) := by rw [hW1]; exact grown_setCells g0 _ _ _ ⟨rfl, rfl, rfl, Nat.le_refl _, fun _ _ _ => rfl⟩
    have gb : W1.heap[gv]? = some (.cells #[.string e.name, .int .i64 e.no] 61 (0, 0)) := by
      rw [G1.block gv (hs.lt (by rw [hb]; simp)) (by simpa using hne)]; exact hs gv _ hb
    have hq1 := fun ty dc sc => hcp1 w.drew (fun _ => rfl) (fun _ => rfl) ty _ dc _ sc hm1
    have hq2 := fun ty dc sc => hcp1 w.drew (fun _ => rfl) (fun _ => rfl) ty _ dc _ sc hm2
    rw [← hW1] at hq1 hq2
    have hq3 : ∀ ty dc, (Builtin.copy_ #[48, 48] ty #[.slice (some ⟨g0, i * 2, none⟩) (xs.length + 1 - i) dc, .slice (some ⟨gv, 0, none⟩) 1 1]).run Tryd.prog W1 = .ok (goInt (Nat.min 1 (xs.length + 1 - i))) (W1.setCells g0 (i * 2) [.string e.name, .int .i64 e.no]) := fun ty dc =>
      run_copy_any W1 _ _ ty 61 2 g0 (i * 2) _ dc ⟨gv, 0, none⟩ 1 1 [.string e.name, .int .i64 e.no] ty_Entry.und (by rfl) (by simp only [Nat.min_def]; split <;> first | rfl | omega)
        (fun j v hj => by
          rw [Addr.add_lit, cell_of_row _ _ _ _ _ _ gb]
          simpa using hj)
        (fun j hj => by
          have hj : j < 2 := hj
          rw [cell_of_row _ _ _ _ _ _ k1, Array.getElem?_eq_getElem (by rw [k2]; omega)]; rfl)
        (fun j hj => by simp [World.frozen?, k1])
        (fun v hv => by simp at hv; rcases hv with rfl | rfl <;> rfl)
    obtain ⟨cur2, m1, m2, m3⟩ := heap_setCells g0 61 (0, 0) [.string e.name, .int .i64 e.no] (i * 2) W1 cur1 k1
    rw [show ([.string e.name, .int .i64 e.no] : List Value).length = 2 from rfl] at m3
    have G2 := hid (grown_setCells g0 [.string e.name, .int .i64 e.no] (i * 2) _ G1)
    have ES : Reps h [.string e.name, .int .i64 e.no] [e] := ⟨_, _, rfl, ⟨rfl, hsz⟩, rfl⟩
    have SP := splice2 (cells := cells) (E := [.string e.name, .int .i64 e.no]) (i := i) (n := xs.length) rfl hcl (by omega) (cur := cur) (cur2 := cur2) (by omega) (by omega)
      (fun j hj => by
        rw [← htk, List.getElem?_take, if_pos (show j < xs.length * 2 by omega), Array.getElem?_toList])
      (fun j hj => by
        rw [m3 j (by omega)]
        by_cases h1 : i * 2 ≤ j ∧ j < i * 2 + 2
        · rw [if_pos h1, if_pos h1]
        · rw [if_neg h1, if_neg h1, k3 j hj]
          rw [List.length_drop, hcl, show (xs.length - i) * 2 = xs.length * 2 - i * 2 by omega]
          by_cases h2 : (i + 1) * 2 ≤ j ∧ j < (i + 1) * 2 + (xs.length * 2 - i * 2)
          · rw [if_pos h2, if_pos h2, List.getElem?_drop]; congr 1; omega
          · rw [if_neg h2, if_neg h2])
    have OF := hid (show OwnL h (W1.setCells g0 (i * 2) [.string e.name, .int .i64 e.no]) base 61 (.slice (some ⟨g0, 0, none⟩) (xs.length + 1) cap) (xs.take i ++ [e] ++ xs.drop i) from by
      refine ⟨⟨cells.take (i * 2) ++ [.string e.name, .int .i64 e.no] ++ cells.drop (i * 2), ⟨?_, .inr ⟨g0, cap, cur2, ?_, hb0, m1, ?_, hcm, by rw [m2, k2]; exact hcs, ?_⟩⟩, ?_⟩, O.free⟩
      · simp [Enc.sz]; omega
      · simp; omega
      · simp; omega
      · rw [← SP]; congr 1; simp [Enc.sz]; omega
      · exact ((R.take2 i).append ES).append (R.drop2 i))
    clear hcp1 hW1 k1 k2 k3 G1 gb m1 m2 m3 ES SP R OO hg0 htk hcm O
    go_region
    go_wp2
    go_ret
    exact ⟨_, rfl, OF.out, G2.out⟩
end Go.Proofs.YtdiaibkpcnknbaaDoor

namespace Go.Proofs.YtdiaibkpcnknbaaDoor
open Go.RowKit Go.Sort
set_option linter.unusedVariables false
/-! ### slices.Insert at Entry: no room -/
theorem grown_new {w0 : World} {r : Option Nat} (g : Nat) (hg : w0.heap.size ≤ g) : ∀ (vs : List Value) (o : Nat) (w : World), w0.grownBy w r → w0.grownBy (w.setCells g o vs) r
  | [], _, _, a => a
  | v :: vs, o, w, a => grown_new g hg vs (o + 1) _ ⟨a.os, a.tape, a.output, by simpa [World.setCell] using a.size, fun k hk hne => by
      rw [← a.block k hk hne]
      simp only [World.setCell]
      rw [Array.getElem?_modify, if_neg (by omega)]⟩
theorem setCells_ne {g k : Nat} (hne : k ≠ g) : ∀ {vs : List Value} {o : Nat} {w : World}, (w.setCells g o vs).heap[k]? = w.heap[k]?
  | [], _, _ => rfl
  | v :: vs, o, w => by
    rw [World.setCells, setCells_ne hne (vs := vs)]
    simp only [World.setCell]
    rw [Array.getElem?_modify, if_neg (fun e => hne e.symm)]
set_option maxHeartbeats 2000000 in
set_option maxRecDepth 100000 in
theorem insert_grow (xs : List Entry) (i : Nat) (hi : i < xs.length) (e : Entry) (hsz : e.name.size ≤ 9223372036854775807) (hbig : xs.length ≤ 1000) (h : FH) (w : World) (hs : Sits h w) (base : Nat) (hbase : base ≤ w.heap.size) (g0 cap : Nat) (hroom : cap < xs.length + 1) (O : OwnL h w base 61 (.slice (some ⟨g0, 0, none⟩) xs.length cap) xs) (gv : Nat) (hb : h gv = some (.cells #[.string e.name, .int .i64 e.no] 61 (0, 0))) :
    Calls Tryd.prog 42 #[.slice (some ⟨g0, 0, none⟩) xs.length cap, .int .i64 i, .slice (some ⟨gv, 0, none⟩) 1 1] w fun e' w' => ∃ v', e' = .returned v' ∧ OwnL h w' base 61 v' (xs.take i ++ [e] ++ xs.drop i) ∧ w.grownBy w' (some g0) := by
  obtain ⟨cells, hw, R⟩ := O.own
  obtain ⟨ti, z, hti, hz, hts, htb, hzc⟩ := ty_Entry.info
  rcases hw.2 with ⟨he, hn⟩ | ⟨g0', cap', cur, he, hb0, hg0, hlc, hcm, hcs, htk⟩
  · cases he
  · cases he
    have hcl : cells.length = xs.length * 2 := hw.1
    have hcs : cur.size = cap * 2 := hcs
    have htk : cur.toList.take (xs.length * 2) = cells := htk
    have hts : ti.size = 2 := hts
    have hgv := hs gv _ hb
    have hap0 := fun ty => run_append_zeros (P := Tryd.prog) w 48 3 ty 61 ti z .i64 .i64 ty_Entry.und (by rfl) hti hz ⟨g0, 0, none⟩ i cap (xs.length + 1 - i) (cells.take (i * 2)) (by rw [List.length_take, hcl, hts]; omega)
      (fun j v hj => by
        rw [Addr.add_lit, cell_of_row _ _ _ _ _ _ hg0, Nat.zero_add, ← Array.getElem?_toList]
        rw [← htk, List.take_take, List.getElem?_take] at hj
        split at hj
        · exact hj
        · cases hj) (by omega) (by omega) (by omega) (by omega) (by omega)
    have e1 : i + (xs.length + 1 - i) = xs.length + 1 := by omega
    have e2 : ((xs.length + 1 - i : Nat) : Int) = (xs.length : Int) + 1 - i := by omega
    rw [e1, e2] at hap0
    obtain ⟨g1, hg1⟩ : ∃ g1, g1 = w.heap.size := ⟨_, rfl⟩
    obtain ⟨C, hC⟩ : ∃ C, C = grownCap w (xs.length + 1) cap 61 := ⟨_, rfl⟩
    have hC1 : xs.length + 1 ≤ C := by rw [hC]; exact grownCap_ge _ _ _ _
    have hC2 : C ≤ maxLen := by rw [hC]; exact grownCap_le_maxLen _ _ _ _ (by unfold maxLen; omega)
    have hC3 : C ≤ 9223372036854775807 := by unfold maxLen at hC2; omega
    obtain ⟨cur0, hc0⟩ : ∃ cur0, cur0 = (cells.take (i * 2)).toArray ++ Builtin.zeroCells z.cells (xs.length + 1 - i) ++ Builtin.zeroCells z.cells (C - (xs.length + 1)) := ⟨_, rfl⟩
    rw [← hC, ← hg1, ← hc0] at hap0
    have hzs : z.cells.size = 2 := hzc
    have hcs0 : cur0.size = C * 2 := by
      rw [hc0]; simp only [Array.size_append, List.size_toArray, size_zeroCells, hzs, List.length_take, hcl]; omega
    have hpre : ∀ j, j < i * 2 → cur0[j]? = cells[j]? := fun j hj => by
      rw [hc0, Array.append_assoc, Array.getElem?_append_left (by simp; omega)]
      simp [hj]
    obtain ⟨WA, hWA⟩ : ∃ WA, WA = w.drew.alloc (.cells cur0 61) := ⟨_, rfl⟩
    have ka : WA.heap[g1]? = some (.cells cur0 61 (0, 0)) := by rw [hWA, hg1]; exact heap_alloc_new w.drew _
    rw [← hWA] at hap0
    have GA : w.grownBy WA (some g0) := by rw [hWA]; exact ⟨rfl, rfl, rfl, by simp, fun k hk _ => heap_alloc_old w.drew _ hk⟩
    have hlv : gv < w.heap.size := hs.lt (by rw [hb]; simp)
    have hlg : g0 < w.heap.size := O.lt g0 rfl |>.2
    have gva : WA.heap[gv]? = some (.cells #[.string e.name, .int .i64 e.no] 61 (0, 0)) := by rw [hWA]; rw [heap_alloc_old w.drew _ hlv]; exact hgv
    have g0a : WA.heap[g0]? = some (.cells cur 61 (0, 0)) := by rw [hWA]; rw [heap_alloc_old w.drew _ hlg]; exact hg0
    have hp1 : ∀ ty n1 dc, Nat.min 1 n1 = 1 → (Builtin.copy_ #[48, 48] ty #[.slice (some ⟨g1, i * 2, none⟩) n1 dc, .slice (some ⟨gv, 0, none⟩) 1 1]).run Tryd.prog WA = .ok (goInt (Nat.min 1 n1)) (WA.setCells g1 (i * 2) [.string e.name, .int .i64 e.no]) := fun ty n1 dc hm =>
      run_copy_any WA _ _ ty 61 2 g1 (i * 2) n1 dc ⟨gv, 0, none⟩ 1 1 [.string e.name, .int .i64 e.no] ty_Entry.und (by rfl) (by rw [hm]; rfl)
        (fun j v hj => by
          rw [Addr.add_lit, cell_of_row _ _ _ _ _ _ gva]
          simpa using hj)
        (fun j hj => by
          have hj : j < 2 := hj
          rw [cell_of_row _ _ _ _ _ _ ka, Array.getElem?_eq_getElem (by omega)]; rfl)
        (fun j hj => by simp [World.frozen?, ka])
        (fun v hv => by simp at hv; rcases hv with rfl | rfl <;> rfl)
    obtain ⟨WB, hWB⟩ : ∃ WB, WB = WA.setCells g1 (i * 2) [.string e.name, .int .i64 e.no] := ⟨_, rfl⟩
    obtain ⟨cur1, k1, k2, k3⟩ := heap_setCells g1 61 (0, 0) [.string e.name, .int .i64 e.no] (i * 2) WA cur0 ka
    rw [show ([.string e.name, .int .i64 e.no] : List Value).length = 2 from rfl] at k3
    have GB : w.grownBy WB (some g0) := by rw [hWB]; exact grown_new g1 (by omega) _ _ _ GA
    have g0b : WB.heap[g0]? = some (.cells cur 61 (0, 0)) := by
      rw [hWB, setCells_ne (by omega)]; exact g0a
    rw [← hWB] at k1 hp1
    have hp2 : ∀ ty n1 dc n2 sc, Nat.min n2 n1 = xs.length - i → (Builtin.copy_ #[48, 48] ty #[.slice (some ⟨g1, (i + 1) * 2, none⟩) n1 dc, .slice (some ⟨g0, i * 2, none⟩) n2 sc]).run Tryd.prog WB.drew = .ok (goInt (Nat.min n2 n1)) (WB.drew.setCells g1 ((i + 1) * 2) (cells.drop (i * 2))) := fun ty n1 dc n2 sc hm =>
      run_copy_any WB.drew _ _ ty 61 2 g1 ((i + 1) * 2) n1 dc ⟨g0, i * 2, none⟩ n2 sc (cells.drop (i * 2)) ty_Entry.und (by rfl) (by rw [hm, List.length_drop, hcl]; omega)
        (fun j v hj => by
          rw [Addr.add_lit, cell_of_row WB.drew _ _ _ _ _ g0b, ← Array.getElem?_toList]
          rw [List.getElem?_drop, ← htk, List.getElem?_take] at hj
          split at hj
          · exact hj
          · cases hj)
        (fun j hj => by
          rw [List.length_drop, hcl] at hj
          rw [cell_of_row WB.drew _ _ _ _ _ k1, Array.getElem?_eq_getElem (by omega)]; rfl)
        (fun j hj => by
          have k1' : WB.drew.heap[g1]? = some (.cells cur1 61 (0, 0)) := k1
          simp [World.frozen?, k1'])
        (fun v hv => R.one v (List.mem_of_mem_drop hv))
    obtain ⟨cur2, m1, m2, m3⟩ := heap_setCells g1 61 (0, 0) (cells.drop (i * 2)) ((i + 1) * 2) WB.drew cur1 k1
    have G2 := hid (grown_new g1 (by omega) (cells.drop (i * 2)) ((i + 1) * 2) WB.drew ⟨GB.os, GB.tape, GB.output, GB.size, GB.block⟩)
    have ES : Reps h [.string e.name, .int .i64 e.no] [e] := ⟨_, _, rfl, ⟨rfl, hsz⟩, rfl⟩
    have SP := splice2 (cells := cells) (E := [.string e.name, .int .i64 e.no]) (i := i) (n := xs.length) rfl hcl (by omega) (cur := cur0) (cur2 := cur2) (by omega) (by omega) hpre
      (fun j hj => by
        rw [m3 j (by omega), List.length_drop, hcl, show (xs.length - i) * 2 = xs.length * 2 - i * 2 by omega]
        by_cases h1 : i * 2 ≤ j ∧ j < i * 2 + 2
        · rw [if_neg (by omega), if_pos h1, k3 j (by omega), if_pos h1]
        · rw [if_neg h1]
          by_cases h2 : (i + 1) * 2 ≤ j ∧ j < (i + 1) * 2 + (xs.length * 2 - i * 2)
          · rw [if_pos h2, if_pos h2, List.getElem?_drop]; congr 1; omega
          · rw [if_neg h2, if_neg h2, k3 j (by omega), if_neg h1])
    have OF := hid (show OwnL h (WB.drew.setCells g1 ((i + 1) * 2) (cells.drop (i * 2))) base 61 (.slice (some ⟨g1, 0, none⟩) (xs.length + 1) C) (xs.take i ++ [e] ++ xs.drop i) from by
      refine ⟨⟨cells.take (i * 2) ++ [.string e.name, .int .i64 e.no] ++ cells.drop (i * 2), ⟨?_, .inr ⟨g1, C, cur2, ?_, by omega, m1, ?_, hC2, by rw [m2, k2]; exact hcs0, ?_⟩⟩, ?_⟩, fun g hg => ?_⟩
      · simp [Enc.sz]; omega
      · simp; omega
      · simp; omega
      · rw [← SP]; congr 1; simp [Enc.sz]; omega
      · exact ((R.take2 i).append ES).append (R.drop2 i)
      · cases hg; show h g1 = none; exact hs.none (by omega))
    have hm1 : Nat.min 1 (xs.length + 1 - i) = 1 := by simp only [Nat.min_def]; split <;> omega
    have hm2 : Nat.min (xs.length - i) (xs.length - i) = xs.length - i := by simp only [Nat.min_def]; split <;> omega
    have hm3 : Nat.min (xs.length - i) (xs.length + 1 - (i + 1)) = xs.length - i := by simp only [Nat.min_def]; split <;> omega
    have hq1 := fun ty dc => hp1 ty _ dc hm1
    have hq2 := fun ty dc sc => hp2 ty _ dc _ sc hm2
    have hq3 := fun ty dc sc => hp2 ty _ dc _ sc hm3
    clear hg1 hp1 hp2 SP ES R O hw hcl hcs htk hgv hc0 hzs hcs0 hpre hWA ka GA gva g0a hWB k1 k2 k3 GB g0b m1 m2 m3 hg0 hC2 hC hcm hti hz hts htb hzc hlv hlg hb
    have hz2 : ¬ ((i : Int) = (xs.length : Int)) := by omega
    have hb1 : (0 : Int) ≤ (i : Int) + 1 := by omega
    have hr1 : (cap : Int) < (xs.length : Int) + 1 := by omega
    have htn : ((i : Int) + 1).toNat = i + 1 := by omega
    have hb2 : ¬ (C = i + 1) := by omega
    have hb4 : ¬ (cap = i) := by omega
    have hb6 : ¬ (C = i) := by omega
    have hb3 : (i : Int) ≤ (xs.length : Int) + 1 := by omega
    have hb5 : (i : Int) + 1 ≤ (xs.length : Int) + 1 := by omega
    have hb7 : (i : Int) ≤ (cap : Int) := by omega
    have hw1 : IntKind.i64.wrap ((i : Int) + 1) = (i : Int) + 1 := by rw [IntKind.wrap_i64]; omega
    have hw2 : IntKind.i64.wrap ((xs.length : Int) + 1) = (xs.length : Int) + 1 := by rw [IntKind.wrap_i64]; omega
    have hw3 : IntKind.i64.wrap ((xs.length : Int) + 1 - (i : Int)) = (xs.length : Int) + 1 - (i : Int) := by rw [IntKind.wrap_i64]; omega
    go_enter Tryd.func42, Tryd.ntmps42
    go_wp2_with (at_builtin; refine Lib.wpList_append_run _ rfl _ _ _ _ rfl _ _ rfl rfl _ _ (hap0 _) ?_)
    go_wp2
    go_region
    go_wp2
    go_ret
    exact ⟨_, rfl, OF.out, G2.out⟩
theorem insert_Entry (xs : List Entry) (i : Nat) (hi : i ≤ xs.length) (e : Entry) (hsz : e.name.size ≤ 9223372036854775807) (hbig : xs.length ≤ 1000) (h : FH) (w : World) (hs : Sits h w) (base : Nat) (hbase : base ≤ w.heap.size) (v : Value) (O : OwnL h w base 61 v xs) (gv : Nat) (hb : h gv = some (.cells #[.string e.name, .int .i64 e.no] 61 (0, 0))) :
    Calls Tryd.prog 42 #[v, .int .i64 i, .slice (some ⟨gv, 0, none⟩) 1 1] w fun e' w' => ∃ v', e' = .returned v' ∧ OwnL h w' base 61 v' (xs.take i ++ [e] ++ xs.drop i) ∧ w.grownBy w' v.ownBlock := by
  by_cases he : i = xs.length
  · subst he
    have K := insert_end xs e hsz hbig h w hs base hbase v O gv hb
    simpa using K
  · have hlt : i < xs.length := by omega
    obtain ⟨cells, hw, _⟩ := O.own
    rcases hw.2 with ⟨rfl, hn⟩ | ⟨g0, cap, cur, rfl, _⟩
    · omega
    · by_cases hr : xs.length + 1 ≤ cap
      · exact insert_shift xs i hlt e hsz hbig h w hs base hbase g0 cap hr O gv hb
      · exact insert_grow xs i hlt e hsz hbig h w hs base hbase g0 cap (by omega) O gv hb
end Go.Proofs.YtdiaibkpcnknbaaDoor

namespace Go.Proofs.YtdiaibkpcnknbaaDoor
open Go.RowKit Go.Sort
set_option linter.unusedVariables false
/-! ### entries.Add -/
theorem insert_at {h h1 : FH} {w W : World} (E : Ext h w h1 W) (xs : List Entry) (i : Nat) (hi : i ≤ xs.length) (e : Entry) (hsz : e.name.size ≤ 9223372036854775807) (hbig : xs.length ≤ 1000) (base : Nat) (hb1 : w.heap.size ≤ base) (hb2 : base ≤ W.heap.size) (v : Value) (O : OwnL h1 W base 61 v xs) (gv : Nat)
    (hrow : W.heap[gv]? = some (.cells #[.string e.name, .int .i64 e.no] 61 (0, 0))) (hgv : w.heap.size ≤ gv) (hnone : h1 gv = none) (hne : v.ownBlock ≠ some gv) :
    Calls Tryd.prog 42 #[v, .int .i64 i, .slice (some ⟨gv, 0, none⟩) 1 1] W fun e' w' => ∃ v', e' = .returned v' ∧ OwnL h1 w' w.heap.size 61 v' (xs.take i ++ [e] ++ xs.drop i) ∧ Ext h w h1 w' := by
  have E2 := E.add hrow hnone hgv
  have O2 : OwnL (h1.add gv (.cells #[.string e.name, .int .i64 e.no] 61 (0, 0))) W base 61 v xs := by
    obtain ⟨c, a, b⟩ := O.own
    exact ⟨⟨c, a, b.ent_any⟩, fun g hg => by rw [FH.add_other _ _ (fun e => hne (by rw [hg, e]))]; exact O.free g hg⟩
  refine (insert_Entry xs i hi e hsz hbig _ W E2.sits base hb2 v O2 gv (FH.add_same _ _ _)).mono ?_
  rintro e' w' ⟨v', rfl, O3, G⟩
  exact ⟨v', rfl, (O3.back_ent (FLe.add hnone _)).rebase hb1, E.grown G (fun k hk => ⟨Nat.le_trans hb1 (O.lt k hk).1, O.free k hk⟩)⟩
theorem insert_a {h h1 : FH} {w W0 wf : World} (E0 : Ext h w h1 W0) (xs : List Entry) (i : Nat) (hi : i ≤ xs.length) (e : Entry) (hsz : e.name.size ≤ 9223372036854775807) (hbig : xs.length ≤ 1000) (v : Value) (Ef : Ext h1 W0 h1 wf) (O : OwnL h1 wf W0.heap.size 61 v xs) :
    Calls Tryd.prog 42 #[v, .int .i64 i, .slice (some ⟨wf.heap.size, 0, none⟩) 1 1] (wf.alloc (.cells #[.string e.name, .int .i64 e.no] 61)) fun e' w' => ∃ v', e' = .returned v' ∧ OwnL h1 w' w.heap.size 61 v' (xs.take i ++ [e] ++ xs.drop i) ∧ Ext h w h1 w' := by
  have E := E0.trans Ef
  refine insert_at (E.alloc _) xs i hi e hsz hbig W0.heap.size E0.size ?_ v (O.alloc _) wf.heap.size (heap_new _ _) E.size (E.sits.none (Nat.le_refl _)) (fun hk => absurd (O.lt _ hk).2 (Nat.lt_irrefl _))
  have := Ef.size
  simp; omega
theorem insert_b {h h1 : FH} {w W0 wf : World} (E0 : Ext h w h1 W0) (xs : List Entry) (i : Nat) (hi : i ≤ xs.length) (e : Entry) (hsz : e.name.size ≤ 9223372036854775807) (hbig : xs.length ≤ 1000) (v : Value) (Ef : Ext h1 (W0.alloc (.cells #[.string e.name, .int .i64 e.no] 61)) h1 wf) (O : OwnL h1 wf (W0.alloc (.cells #[.string e.name, .int .i64 e.no] 61)).heap.size 61 v xs) :
    Calls Tryd.prog 42 #[v, .int .i64 i, .slice (some ⟨W0.heap.size, 0, none⟩) 1 1] wf fun e' w' => ∃ v', e' = .returned v' ∧ OwnL h1 w' w.heap.size 61 v' (xs.take i ++ [e] ++ xs.drop i) ∧ Ext h w h1 w' := by
  have E := (E0.alloc (.cells #[.string e.name, .int .i64 e.no] 61)).trans Ef
  refine insert_at E xs i hi e hsz hbig _ (E0.alloc _).size Ef.size v O W0.heap.size (Ext.row Ef (heap_new _ _)) E0.size (E0.sits.none (Nat.le_refl _)) (fun hk => ?_)
  have h2 := (O.lt _ hk).1
  have h3 : (W0.alloc (.cells #[.string e.name, .int .i64 e.no] 61)).heap.size = W0.heap.size + 1 := by simp
  omega
theorem posE_le : ∀ (xs : List Entry) (s : ByteArray), posE xs s ≤ xs.length := fun xs s => by
  unfold posE
  induction xs with
  | nil => simp
  | cons x xs ih => rw [List.takeWhile_cons]; split <;> simp <;> omega
set_option maxHeartbeats 8000000 in
set_option maxRecDepth 100000 in
theorem entries_Add (xs : List Entry) (A : Option Addr) (c : Nat) (hbig : xs.length ≤ 1000) (e : Entry) (hsz : e.name.size ≤ 9223372036854775807) (h : FH) (w : World) (hs : Sits h w) (r : RowAt h A xs) :
    Calls Tryd.prog 18 #[.slice A xs.length c, .agg #[.string e.name, .int .i64 e.no]] w fun e' w' => RetTup h w 61 (addL xs e) (addC xs e) e' w' := by
  have hl := r.1
  have hmf : ∀ fn first cap w, (Instr.makeFunc fn first cap).run Tryd.prog w = .ok (.func fn first cap) w := fun _ _ _ _ => rfl
  obtain ⟨q, hq⟩ : ∃ q, nameB e.name = q := ⟨_, rfl⟩
  obtain ⟨v, hv⟩ : ∃ v, findE xs e.name = v := ⟨_, rfl⟩
  obtain ⟨h1, hh⟩ : ∃ h1, h1 = h.add w.heap.size (.cells #[.string e.name, .int .i64 e.no] 61) := ⟨_, rfl⟩
  have E1 : Ext h w h1 (w.alloc (.cells #[.string e.name, .int .i64 e.no] 61)) := by
    rw [hh]; exact ((Ext.refl hs).alloc _).add (heap_new _ _) (hs.none (Nat.le_refl _)) (Nat.le_refl _)
  have b0 : h1.cell ⟨w.heap.size, 0, none⟩ = some (.string e.name) := by rw [hh]; exact FH.add_cell _ _ _ _ _ rfl
  have b1 : h1.cell ⟨w.heap.size, 1, none⟩ = some (.int .i64 e.no) := by rw [hh]; exact FH.add_cell _ _ _ _ _ rfl
  have B0 := hid b0
  have B1 := hid b1
  have hle : FLe h h1 := E1.le
  have r1 := r.mono hle
  have KF := hid (fun w hs => entries_Find xs A c e.name hsz v hv h w hs r)
  have KN := hid (fun w hs => name_Right e.name hsz q hq h w hs)
  have HQ := hid hq
  have HV := hid hv
  have y0 := E1.sits.cell b0
  have y1 := E1.sits.cell b1
  clear hh hq hv b0 b1
  go_enter Tryd.func18, Tryd.ntmps18
  go_upto_region 1 with (fail)
  generalize (w.alloc (.cells #[.string e.name, .int .i64 e.no] 61)) = w1 at *
  generalize hg : w.heap.size = g at *
  go_wp2_with fail
  refine (KF.out _ E1.back.sits).mono ?_
  rintro e' w2 ⟨rfl, F1⟩
  have E2 := E1.more F1
  have x0 := E2.sits.cell B0.out
  have x1 := E2.sits.cell B1.out
  clear F1 E1 y0 y1
  go_wp2_with fail
  refine (KN.out _ E2.back.sits).mono ?_
  rintro e' w3 ⟨rfl, F2⟩
  have E3 := E2.more F2
  have z0 := E3.sits.cell B0.out
  have z1 := E3.sits.cell B1.out
  clear F2 E2 x0 x1 KF KN
  cases q
  · have HC := hid (show addC xs e = 17 by unfold addC; rw [HQ.out]; rfl)
    have HL := hid (show addL xs e = [] by unfold addL; rw [HC.out]; rfl)
    go_wp2_with fail
    go_ret2
    exact ⟨.slice none 0 0, by rw [HC.out]; rfl, by rw [HL.out]; exact OwnL.nil _ _ _ _, E3.back⟩
  · by_cases hno : e.no ≤ 0
    · have HC := hid (show addC xs e = 1 by unfold addC; rw [HQ.out, if_neg (by decide), if_pos hno])
      have HL := hid (show addL xs e = [] by unfold addL; rw [HC.out]; rfl)
      go_wp2_with fail
      go_ret2
      exact ⟨.slice none 0 0, by rw [HC.out]; rfl, by rw [HL.out]; exact OwnL.nil _ _ _ _, E3.back⟩
    · cases v with
      | some a =>
        have HC := hid (show addC xs e = 12 by unfold addC; rw [HQ.out, HV.out, if_neg (by decide), if_neg hno]; rfl)
        have HL := hid (show addL xs e = [] by unfold addL; rw [HC.out]; rfl)
        simp only [Option.isSome_some, Option.getD_some]
        go_wp2_with fail
        go_ret2
        exact ⟨.slice none 0 0, by rw [HC.out]; rfl, by rw [HL.out]; exact OwnL.nil _ _ _ _, E3.back⟩
      | none =>
        dsimp only [Option.isSome_none, Option.getD_none]
        by_cases h100 : 100 ≤ xs.length
        · have HC := hid (show addC xs e = 21 by unfold addC; rw [HQ.out, HV.out, if_neg (by decide), if_neg hno, if_pos h100]; rfl)
          have HL := hid (show addL xs e = [] by unfold addL; rw [HC.out]; rfl)
          go_wp2_with fail
          go_ret2
          exact ⟨.slice none 0 0, by rw [HC.out]; rfl, by rw [HL.out]; exact OwnL.nil _ _ _ _, E3.back⟩
        · have HC := hid (show addC xs e = 0 by unfold addC; rw [HQ.out, HV.out, if_neg (by decide), if_neg hno, if_neg h100]; rfl)
          have HL := hid (show addL xs e = insE xs e by unfold addL; rw [HC.out]; rfl)
          have HP := posE_le xs e.name
          obtain ⟨i, hi, HI, HX⟩ : ∃ i : Nat, i ≤ xs.length ∧ Hid (addL xs e = xs.take i ++ [e] ++ xs.drop i) ∧ Hid (ixGt xs e.name = (i : Int) ∧ 0 ≤ ixGt xs e.name ∨ ixGt xs e.name = -1 ∧ i = xs.length) := by
            by_cases hlt : posE xs e.name < xs.length
            · exact ⟨posE xs e.name, HP, hid (by rw [HL.out]; rfl), hid (.inl (by unfold ixGt; rw [if_pos hlt]; exact ⟨rfl, by omega⟩))⟩
            · exact ⟨xs.length, Nat.le_refl _, hid (by rw [HL.out]; unfold insE; rw [show posE xs e.name = xs.length by omega]), hid (.inr (by unfold ixGt; rw [if_neg hlt]; exact ⟨rfl, rfl⟩))⟩
          have KI := hid (fun w hs => index_gt xs A c e.name h1 g B0.out w hs r1)
          have KC := hid (fun w hs => clone_Entry xs A c (by omega) h1 w hs r1)
          clear HP
          go_wp2_with fail
          refine (KI.out _ E3.sits).mono ?_
          rintro e' w4 ⟨rfl, F3⟩
          have E4 := E3.trans F3
          have hc0 : ∀ w' : World, Ext h w h1 w' → w'.cell? ⟨g, 0, none⟩ = some (.string e.name) := fun w' E => E.sits.cell B0.out
          have hc1 : ∀ w' : World, Ext h w h1 w' → w'.cell? ⟨g, 1, none⟩ = some (.int .i64 e.no) := fun w' E => E.sits.cell B1.out
          have E5 := E4.drew
          clear F3 z0 z1 KI E3
          have fin : ∀ (u : Value) (w6 : World), OwnL h1 w6 w.heap.size 61 u (xs.take i ++ [e] ++ xs.drop i) → OwnL h w6 w.heap.size 61 u (addL xs e) := fun u w6 O => by
            rw [HI.out]
            exact O.back_ent hle
          have FIN := hid fin
          clear fin
          rcases HX.out with ⟨hx, hx0⟩ | ⟨hx, hx0⟩
          · rw [hx] at hx0 ⊢
            clear hx HX
            have hn : ¬ ((i : Int) < 0) := by omega
            go_upto_region 13 with (fail)
            go_region_held3 (fun w' => Ext h w h1 w') (first | with_reducible assumption | with_reducible exact E9 | with_reducible exact Ext.alloc Eg _ | with_reducible exact Ext.alloc E5 _ | with_reducible exact (Ext.alloc E4 _).drew) (first | (go_at_call 43; refine (KC.out _ (Ext.sits (h := h) (h' := h1) (w := w) (by first | with_reducible assumption | assumption))).mono ?_; rintro e' wf ⟨v1, rfl, O1, Ef⟩; have Eg := Ext.trans (h := h) (w := w) (h1 := h1) (by first | with_reducible assumption | assumption) Ef) | (go_at_call 42; (first | refine (insert_a (h := h) (w := w) E5 xs _ hi e hsz hbig v1 Ef O1).mono ?_ | refine (insert_b (h := h) (w := w) E5 xs _ hi e hsz hbig v1 Ef O1).mono ?_); rintro e' w9 ⟨v9, rfl, O9, E9⟩))
            all_goals
              have O9 := hid (FIN.out _ _ O9)
              go_wp2
              go_ret2
              exact ⟨_, by rw [HC.out]; rfl, O9.out, E9.back⟩
          · rw [hx]
            subst hx0
            clear hx HX
            go_upto_region 13 with (fail)
            go_region_held3 (fun w' => Ext h w h1 w') (first | with_reducible assumption | with_reducible exact E9 | with_reducible exact Ext.alloc Eg _ | with_reducible exact Ext.alloc E5 _ | with_reducible exact (Ext.alloc E4 _).drew) (first | (go_at_call 43; refine (KC.out _ (Ext.sits (h := h) (h' := h1) (w := w) (by first | with_reducible assumption | assumption))).mono ?_; rintro e' wf ⟨v1, rfl, O1, Ef⟩; have Eg := Ext.trans (h := h) (w := w) (h1 := h1) (by first | with_reducible assumption | assumption) Ef) | (go_at_call 42; (first | refine (insert_a (h := h) (w := w) E5 xs _ hi e hsz hbig v1 Ef O1).mono ?_ | refine (insert_b (h := h) (w := w) E5 xs _ hi e hsz hbig v1 Ef O1).mono ?_); rintro e' w9 ⟨v9, rfl, O9, E9⟩))
            all_goals
              have O9 := hid (FIN.out _ _ O9)
              go_wp2
              go_ret2
              exact ⟨_, by rw [HC.out]; rfl, O9.out, E9.back⟩
end Go.Proofs.YtdiaibkpcnknbaaDoor

namespace Go.Proofs.YtdiaibkpcnknbaaDoor
open Go.RowKit Go.Sort
set_option linter.unusedVariables false
/-! ### slices.Delete at Entry, one element -/
section
variable {P : Program}
theorem step_append_run (w : World) {o : Oper} {a : Act} {K : Act → World → Prop} {Q : Exit → Act → World → Prop} (d s : Operand) (dT sT : TypeId)
    (ho : o.op = .call { callee := .builtin .append, args := #[d, s], argTypes := #[dT, sT] }) (vd vs : Value) (hd : a.eval d = vd) (hs : a.eval s = vs)
    (v' : Value) (w' : World) (hr : (Builtin.append_ #[dT, sT] o.type #[vd, vs]).run P w = .ok v' w') (h : K (a.put o.dst v') w') : o.wp P a w K Q := by
  unfold Oper.wp
  simp [execOp, ho, resolve, invoke, builtin, hd, hs, hr, Result.andThen]
  exact h
end
set_option maxHeartbeats 2000000 in
set_option maxRecDepth 100000 in
theorem delete_mid (xs : List Entry) (i : Nat) (hi : i < xs.length) (hbig : xs.length ≤ 1000) (h : FH) (w : World) (base : Nat) (g0 cap : Nat) (hce : ¬ cap = i + 1) (O : OwnL h w base 61 (.slice (some ⟨g0, 0, none⟩) xs.length cap) xs) :
    Calls Tryd.prog 71 #[.slice (some ⟨g0, 0, none⟩) xs.length cap, .int .i64 i, .int .i64 ((i : Int) + 1)] w fun e' w' => ∃ v', e' = .returned v' ∧ OwnL h w' base 61 v' (xs.take i ++ xs.drop (i + 1)) ∧ w.grownBy w' (some g0) := by
  obtain ⟨cells, hw, R⟩ := O.own
  obtain ⟨z, hz9⟩ : ∃ z, z = Value.agg #[.string ⟨#[]⟩, .int .i64 0] := ⟨_, rfl⟩
  obtain ⟨ti, hti, hz, hts, htb⟩ := info_parts (show (Tryd.prog.info? 61).map (fun i => (i.zero, i.size, i.bytes)) = some (some z, 2, 24) from by rw [hz9]; kernel_rfl)
  have hzc : z.cells.size = 2 := by rw [hz9]; rfl
  have hz1 : ∀ v ∈ z.cells.toList, v.oneCell' = true := fun v hv => by rw [hz9] at hv; simp [Value.cells] at hv; rcases hv with rfl | rfl <;> rfl
  rcases hw.2 with ⟨he, hn⟩ | ⟨g0', cap', cur, he, hb0, hg0, hlc, hcm, hcs, htk⟩
  · cases he
  · cases he
    have hcl : cells.length = xs.length * 2 := hw.1
    have hcs : cur.size = cap * 2 := hcs
    have htk : cur.toList.take (xs.length * 2) = cells := htk
    have hcm' : cap ≤ 9223372036854775807 := by unfold maxLen at hcm; omega
    have hnl : (cells.drop ((i + 1) * 2)).length = (xs.length - (i + 1)) * 2 := by rw [List.length_drop, hcl]; omega
    obtain ⟨curA, hcA⟩ : ∃ curA, curA = (cur.toList.take (i * 2) ++ cells.drop ((i + 1) * 2) ++ cur.toList.drop (i * 2 + (cells.drop ((i + 1) * 2)).length)).toArray := ⟨_, rfl⟩
    obtain ⟨WA, hWA⟩ : ∃ WA, WA = w.drew.setRow g0 curA := ⟨_, rfl⟩
    have hap : ∀ ty c a, (∀ j u, (cells.drop ((i + 1) * 2))[j]? = some u → w.cell? (a.add j) = some u) → (Builtin.append_ #[48, 48] ty #[.slice (some ⟨g0, 0, none⟩) i cap, .slice (some a) (xs.length - (i + 1)) c]).run Tryd.prog w.drew = .ok (.slice (some ⟨g0, 0, none⟩) (xs.length - 1) cap) WA := fun ty c a ha => by
      have := run_append_room (P := Tryd.prog) w.drew 48 ty 61 ti ty_Entry.und hti g0 i cap cur hg0 a (xs.length - (i + 1)) c (cells.drop ((i + 1) * 2)) (by rw [hnl, hts]) (fun j u hu => ha j u hu) (fun v hv => R.one v (List.mem_of_mem_drop hv)) (by omega) (by rw [hnl, hts, hcs]; omega)
      rw [hts, ← hcA, ← hWA, show i + (xs.length - (i + 1)) = xs.length - 1 by omega] at this
      exact this
    have kA : WA.heap[g0]? = some (.cells curA 61 (0, 0)) := by rw [hWA]; exact setRow_heap w.drew g0 cur curA _ _ hg0
    have sA : curA.size = cap * 2 := by rw [hcA]; simp [hcl, hcs]; omega
    have GA : w.grownBy WA (some g0) := by rw [hWA]; exact ⟨rfl, rfl, rfl, by simp, fun k hk hne => setRow_other w.drew g0 k curA (by simpa using hne)⟩
    have hzs : z.cells.size = 2 := hzc
    have hcr : ∀ ty c, (Builtin.clear_ #[48] ty #[.slice (some ⟨g0, (xs.length - 1) * 2, none⟩) 1 c]).run Tryd.prog WA = .ok (.tuple #[]) (WA.setCells g0 ((xs.length - 1) * 2) (Builtin.zeroCells z.cells 1).toList) := fun ty c =>
      run_clear_any WA 48 61 ty z ty_Entry.und (fun w => by simp [zeroValue, typeInfo, hti, hz]) hz1 (by omega) g0 ((xs.length - 1) * 2) 1 c (by omega)
        (fun j hj => by
          rw [hzs] at hj
          rw [cell_of_row _ _ _ _ _ _ kA, Array.getElem?_eq_getElem (by omega)]; rfl)
        (fun j hj => by simp [World.frozen?, kA])
    obtain ⟨curB, m1, m2, m3⟩ := heap_setCells g0 61 (0, 0) (Builtin.zeroCells z.cells 1).toList ((xs.length - 1) * 2) WA curA kA
    have G2 := hid (grown_setCells g0 (Builtin.zeroCells z.cells 1).toList ((xs.length - 1) * 2) WA GA)
    have SP : curB.toList.take ((xs.length - 1) * 2) = cells.take (i * 2) ++ cells.drop ((i + 1) * 2) := by
      apply List.ext_getElem?
      intro j
      rw [List.getElem?_take]
      by_cases hj : j < (xs.length - 1) * 2
      · rw [if_pos hj, Array.getElem?_toList, m3 j (by omega), if_neg (by omega), hcA]
        simp only [List.getElem?_toArray]
        rw [List.getElem?_append_left (by simp [hcl, hcs]; omega)]
        congr 2
        rw [← htk, List.take_take, Nat.min_eq_left (by omega)]
      · rw [if_neg hj, List.getElem?_eq_none (by simp [hcl]; omega)]
    have OF := hid (show OwnL h (WA.setCells g0 ((xs.length - 1) * 2) (Builtin.zeroCells z.cells 1).toList) base 61 (.slice (some ⟨g0, 0, none⟩) (xs.length - 1) cap) (xs.take i ++ xs.drop (i + 1)) from by
      refine ⟨⟨cells.take (i * 2) ++ cells.drop ((i + 1) * 2), ⟨?_, .inr ⟨g0, cap, curB, ?_, hb0, m1, ?_, hcm, by rw [m2]; exact sA, ?_⟩⟩, ?_⟩, O.free⟩
      · simp [Enc.sz]; omega
      · simp; omega
      · simp; omega
      · rw [← SP]; congr 1; simp [Enc.sz]; omega
      · exact (R.take2 i).append (R.drop2 (i + 1)))
    have hsrc : ∀ j u, (cells.drop ((i + 1) * 2))[j]? = some u → w.cell? ((⟨g0, (i + 1) * 2, none⟩ : Addr).add j) = some u := fun j u hu => by
      rw [Addr.add_lit, cell_of_row _ _ _ _ _ _ hg0, ← Array.getElem?_toList]
      rw [List.getElem?_drop, ← htk, List.getElem?_take] at hu
      split at hu
      · exact hu
      · cases hu
    have hz2 : ¬ ((i : Int) = (i : Int) + 1) := by omega
    have hb1 : (0 : Int) ≤ (i : Int) + 1 := by omega
    have hb2 : (i : Int) + 1 ≤ (xs.length : Int) := by omega
    have hb3 : (i : Int) ≤ (cap : Int) := by omega
    have hb4 : (i : Int) ≤ (i : Int) + 1 := by omega
    have hb5 : (xs.length : Int) ≤ (cap : Int) := by omega
    have hb6 : ((xs.length - 1 : Nat) : Int) ≤ (xs.length : Int) := by omega
    have hb7 : ¬ (cap = xs.length - 1) := by omega
    have htn : ((i : Int) + 1).toNat = i + 1 := by omega
    have hln : xs.length - (xs.length - 1) = 1 := by omega
    · have hq := fun ty c => hap ty c ⟨g0, (i + 1) * 2, none⟩ hsrc
      clear hap hsrc SP R O hw hcl hcs htk kA sA GA hg0 hcA hWA m1 m2 m3 hnl hzs hzc hti hz hz1 hts htb hcm
      subst hz9
      go_enter Tryd.func71, Tryd.ntmps71
      go_wp2
      go_region_law (rw [if_pos (by rfl)]; refine step_append_run w.drew _ _ 48 48 rfl _ _ rfl rfl _ _ (hq _ _) ?_)
      go_wp2
      all_goals
        go_ret
        exact ⟨_, rfl, OF.out, G2.out⟩
end Go.Proofs.YtdiaibkpcnknbaaDoor

namespace Go.Proofs.YtdiaibkpcnknbaaDoor
open Go.RowKit Go.Sort
set_option linter.unusedVariables false
set_option maxHeartbeats 2000000 in
set_option maxRecDepth 100000 in
theorem delete_last (xs : List Entry) (i : Nat) (hi : xs.length = i + 1) (hbig : i ≤ 1000) (h : FH) (w : World) (base : Nat) (g0 : Nat) (O : OwnL h w base 61 (.slice (some ⟨g0, 0, none⟩) (i + 1) (i + 1)) xs) :
    Calls Tryd.prog 71 #[.slice (some ⟨g0, 0, none⟩) (i + 1 : Nat) (i + 1 : Nat), .int .i64 i, .int .i64 ((i : Int) + 1)] w fun e' w' => ∃ v', e' = .returned v' ∧ OwnL h w' base 61 v' (xs.take i ++ xs.drop (i + 1)) ∧ w.grownBy w' (some g0) := by
  obtain ⟨cells, hw, R⟩ := O.own
  obtain ⟨z, hz9⟩ : ∃ z, z = Value.agg #[.string ⟨#[]⟩, .int .i64 0] := ⟨_, rfl⟩
  obtain ⟨ti, hti, hz, hts, htb⟩ := info_parts (show (Tryd.prog.info? 61).map (fun i => (i.zero, i.size, i.bytes)) = some (some z, 2, 24) from by rw [hz9]; kernel_rfl)
  have hzc : z.cells.size = 2 := by rw [hz9]; rfl
  have hz1 : ∀ v ∈ z.cells.toList, v.oneCell' = true := fun v hv => by rw [hz9] at hv; simp [Value.cells] at hv; rcases hv with rfl | rfl <;> rfl
  rcases hw.2 with ⟨he, hn⟩ | ⟨g0', cap', cur, he, hb0, hg0, hlc, hcm, hcs, htk⟩
  · cases he
  · simp only [Value.slice.injEq, Option.some.injEq, Addr.mk.injEq, and_true] at he
    obtain ⟨rfl, -, rfl⟩ := he
    have hcl : cells.length = xs.length * 2 := hw.1
    rw [hi] at hcl hlc
    have hcs : cur.size = (i + 1) * 2 := hcs
    have htk : cur.toList.take (xs.length * 2) = cells := htk
    rw [hi] at htk
    have hap : ∀ ty a, (Builtin.append_ #[48, 48] ty #[.slice (some ⟨g0, 0, none⟩) i (i + 1), .slice (some a) 0 0]).run Tryd.prog w.drew = .ok (.slice (some ⟨g0, 0, none⟩) i (i + 1)) w.drew := fun ty a => by
      have := run_append_room (P := Tryd.prog) w.drew 48 ty 61 ti ty_Entry.und hti g0 i (i + 1) cur hg0 a 0 0 [] (by simp) (fun j u hu => by simp at hu) (fun v hv => by simp at hv) (by omega) (by rw [hts, hcs]; simp; omega)
      rw [this]
      congr 1
      have e : (cur.toList.take (i * ti.size) ++ [] ++ cur.toList.drop (i * ti.size + ([] : List Value).length)).toArray = cur := by simp
      rw [e]
      exact setRow_self w.drew g0 cur _ _ hg0
    have hcr : ∀ ty c, (Builtin.clear_ #[48] ty #[.slice (some ⟨g0, i * 2, none⟩) 1 c]).run Tryd.prog w.drew = .ok (.tuple #[]) (w.drew.setCells g0 (i * 2) (Builtin.zeroCells z.cells 1).toList) := fun ty c =>
      run_clear_any w.drew 48 61 ty z ty_Entry.und (fun w => by simp [zeroValue, typeInfo, hti, hz]) hz1 (by omega) g0 (i * 2) 1 c (by omega)
        (fun j hj => by
          rw [hzc] at hj
          rw [cell_of_row w.drew _ _ _ _ _ hg0, Array.getElem?_eq_getElem (by omega)]; rfl)
        (fun j hj => by show w.frozen? _ = false; simp [World.frozen?, hg0])
    obtain ⟨curB, m1, m2, m3⟩ := heap_setCells g0 61 (0, 0) (Builtin.zeroCells z.cells 1).toList (i * 2) w.drew cur hg0
    have GA : w.grownBy w.drew (some g0) := ⟨rfl, rfl, rfl, Nat.le_refl _, fun _ _ _ => rfl⟩
    have G2 := hid (grown_setCells g0 (Builtin.zeroCells z.cells 1).toList (i * 2) w.drew GA)
    have SP : curB.toList.take (i * 2) = cells.take (i * 2) ++ cells.drop ((i + 1) * 2) := by
      rw [List.drop_of_length_le (by omega), List.append_nil]
      apply List.ext_getElem?
      intro j
      rw [List.getElem?_take, List.getElem?_take]
      by_cases hj : j < i * 2
      · rw [if_pos hj, if_pos hj, Array.getElem?_toList, m3 j (by omega), if_neg (by omega), ← htk, List.getElem?_take, if_pos (by omega), Array.getElem?_toList]
      · rw [if_neg hj, if_neg hj]
    have OF := hid (show OwnL h (w.drew.setCells g0 (i * 2) (Builtin.zeroCells z.cells 1).toList) base 61 (.slice (some ⟨g0, 0, none⟩) i (i + 1)) (xs.take i ++ xs.drop (i + 1)) from by
      refine ⟨⟨cells.take (i * 2) ++ cells.drop ((i + 1) * 2), ⟨?_, .inr ⟨g0, i + 1, curB, ?_, hb0, m1, ?_, hcm, by rw [m2]; exact hcs, ?_⟩⟩, ?_⟩, O.free⟩
      · simp [Enc.sz]; omega
      · simp; omega
      · simp; omega
      · rw [← SP]; congr 1; simp [Enc.sz]; omega
      · exact (R.take2 i).append (R.drop2 (i + 1)))
    have hz2 : ¬ ((i : Int) = (i : Int) + 1) := by omega
    have hb1 : (0 : Int) ≤ (i : Int) + 1 := by omega
    have hb4 : (i : Int) ≤ (i : Int) + 1 := by omega
    have htn : ((i : Int) + 1).toNat = i + 1 := by omega
    have hq := fun ty => hap ty ⟨g0, 0, none⟩
    have hbi : (i : Int) ≤ 1000 := by omega
    clear hap SP R O hw hcl hcs htk GA hg0 m1 m2 m3 hzc hti hz hz1 hts htb hcm hlc
    subst hz9
    go_enter Tryd.func71, Tryd.ntmps71
    go_wp2
    go_region_law (rw [if_pos (by rfl)]; refine step_append_run w.drew _ _ 48 48 rfl _ _ rfl rfl _ _ (hq _) ?_)
    go_wp2
    all_goals
      go_ret
      exact ⟨_, rfl, OF.out, G2.out⟩
theorem delete_Entry (xs : List Entry) (i : Nat) (hi : i < xs.length) (hbig : xs.length ≤ 1000) (h : FH) (w : World) (base : Nat) (v : Value) (O : OwnL h w base 61 v xs) :
    Calls Tryd.prog 71 #[v, .int .i64 i, .int .i64 ((i : Int) + 1)] w fun e' w' => ∃ v', e' = .returned v' ∧ OwnL h w' base 61 v' (xs.take i ++ xs.drop (i + 1)) ∧ w.grownBy w' v.ownBlock := by
  obtain ⟨g0, cap, cs, rfl, _⟩ := O.get (List.getElem?_eq_getElem hi)
  by_cases hce : cap = i + 1
  · obtain ⟨A, c, hv, hc⟩ := O.slice
    simp only [Value.slice.injEq] at hv
    obtain ⟨-, -, rfl⟩ := hv
    have hx : xs.length = i + 1 := by omega
    rw [hce] at O ⊢
    rw [show (Value.slice (some ⟨g0, 0, none⟩) xs.length (i + 1)) = .slice (some ⟨g0, 0, none⟩) (i + 1) (i + 1) from by rw [hx]] at O ⊢
    exact delete_last xs i hx (by omega) h w base g0 O
  · exact delete_mid xs i hi hbig h w base g0 cap hce O
end Go.Proofs.YtdiaibkpcnknbaaDoor

namespace Go.Proofs.YtdiaibkpcnknbaaDoor
open Go.RowKit Go.Sort
set_option linter.unusedVariables false
/-! ### entries.Remove -/
theorem delete_a {h : FH} {w W0 : World} (E0 : Ext h w h W0) (xs : List Entry) (i : Nat) (hi : i < xs.length) (hbig : xs.length ≤ 1000) (v : Value) (base : Nat) (hb : w.heap.size ≤ base) (O : OwnL h W0 base 61 v xs) :
    Calls Tryd.prog 71 #[v, .int .i64 i, .int .i64 ((i : Int) + 1)] W0 fun e' w' => ∃ v', e' = .returned v' ∧ OwnL h w' w.heap.size 61 v' (xs.take i ++ xs.drop (i + 1)) ∧ Ext h w h w' := by
  refine (delete_Entry xs i hi hbig h W0 base v O).mono ?_
  rintro e' w' ⟨v', rfl, O3, G⟩
  exact ⟨v', rfl, O3.rebase hb, E0.grown G (fun k hk => ⟨Nat.le_trans hb (O.lt k hk).1, O.free k hk⟩)⟩
set_option maxHeartbeats 4000000 in
theorem entries_Remove (xs : List Entry) (A : Option Addr) (c : Nat) (hbig : xs.length ≤ 1000) (s : ByteArray) (hsz : s.size ≤ 9223372036854775807) (h : FH) (w : World) (hs : Sits h w) (r : RowAt h A xs) :
    Calls Tryd.prog 52 #[.slice A xs.length c, .string s] w fun e w' => RetTup h w 61 (remE xs s) (remC xs s) e w' := by
  have hl := r.1
  have KP := hid (entries_places xs A c h w hs r)
  go_enter Tryd.func52, Tryd.ntmps52
  go_wp2_with fail
  refine KP.out.mono ?_
  rintro e w1 ⟨b, rfl, M, hb, E1⟩
  have hlook := M.lookOk kt_entries_key Tryd.underlying111 zero_int s
  cases hf : firstIx xs 0 s with
  | none =>
    have hp : placesE xs 0 s = none := by unfold placesE; rw [List.drop_zero, hf]; rfl
    rw [hp] at hlook
    have HF := hid (show remE xs s = [] by unfold remE; rw [(firstIx_none hf).2])
    have HC := hid (show remC xs s = 11 by unfold remC; rw [(firstIx_none hf).1]; rfl)
    simp only [Option.getD_none, Option.isSome_none, encS] at hlook
    clear hf hp M
    go_wp2_with fail
    go_ret2
    exact ⟨.slice none 0 0, by rw [HC.out]; rfl, by rw [HF.out]; exact OwnL.nil _ _ _ _, E1⟩
  | some j =>
    obtain ⟨_, y, hy, hF, hI⟩ := firstIx_some hf
    rw [Nat.sub_zero] at hy hI
    have hp : placesE xs 0 s = some (.int .i64 (j : Nat)) := by unfold placesE; rw [List.drop_zero, hf]; rfl
    rw [hp] at hlook
    have HF := hid (show remE xs s = xs.take j ++ xs.drop (j + 1) by unfold remE; rw [hI])
    have HC := hid (show remC xs s = 0 by unfold remC; rw [hF]; rfl)
    have hjl := (List.getElem?_eq_some_iff.1 hy).1
    have i1 : (0 : Int) ≤ (j : Int) := by omega
    have i2 : (j : Int) < (xs.length : Int) := by omega
    have i6 : IntKind.i64.wrap ((j : Int) + 1) = (j : Int) + 1 := by rw [IntKind.wrap_i64]; omega
    simp only [Option.getD_some, Option.isSome_some, encS] at hlook
    have KC := hid (fun w hs => clone_Entry xs A c (by omega) h w hs r)
    clear hf hp M hF hy hI
    go_wp2_with fail
    refine (KC.out _ E1.sits).mono ?_
    rintro e w2 ⟨v1, rfl, O1, F1⟩
    have E2 := E1.trans F1
    go_wp2_with fail
    refine (delete_a E2 xs j hjl hbig v1 _ E1.size O1).mono ?_
    rintro e w3 ⟨v2, rfl, O2, E3⟩
    have O2 := hid O2
    go_wp2_with fail
    go_ret2
    exact ⟨_, by rw [HC.out]; rfl, by rw [HF.out]; exact O2.out, E3⟩
end Go.Proofs.YtdiaibkpcnknbaaDoor
