import Derived.Test.YtkglaofiencfdaaApp
import Derived.Test.YtkglaofiencfdaaEnt
import Derived.Test.YtkglaofiencfdaaRunsAll
namespace Go.Proofs.Ytkglaofiencfdaa
open Go.RowKit Go.Sort
set_option linter.unusedVariables false
/-! ### finding an entry -/
def isE (s : ByteArray) (x : Entry) : Bool := decide (x.name = s)
def findE (xs : List Entry) (s : ByteArray) : Option Int := (xs.find? (isE s)).map (·.no)
theorem isE_eq (s : ByteArray) (x : Entry) : (x.name.toList == s.toList) = isE s x := bytes_toList_beq x.name s
theorem find_hit {α : Type} {p : α → Bool} {xs : List α} {k : Nat} {x : α} (h : ∀ i y, i < k → xs[i]? = some y → p y = false) (hx : xs[k]? = some x) (hp : p x = true) : xs.find? p = some x := find_none_take h hx hp
theorem not_step {α : Type} {p : α → Bool} {xs : List α} {k : Nat} {x : α} (h : ∀ i y, i < k → xs[i]? = some y → p y = false) (hx : xs[k]? = some x) (hp : p x = false) : ∀ i y, i < k + 1 → xs[i]? = some y → p y = false := fun i y hi hy => by
  by_cases e : i = k
  · subst e; rw [hx] at hy; cases hy; exact hp
  · exact h i y (by omega) hy
set_option maxHeartbeats 2000000 in
theorem ref_Find (xs : List Entry) (A : Option Addr) (c : Nat) (s : ByteArray) (hsz : s.size ≤ 9223372036854775807) (v : Option Int) (hv : findE xs s = v) (h : FH) (w : World) (hs : Sits h w) (r : RowAt h A xs) :
    Calls Try.prog 89 #[.slice A xs.length c, .string s] w fun e w' => e = .returned (.tuple #[.int .i64 (v.getD 0), .bool v.isSome]) ∧ Ext h w h w' := by
  have hl := r.1
  have E := Ext.refl hs
  have HV := hid hv
  clear hv
  go_enter Try.func89, Try.ntmps89
  go_wp2_with fail
  go_loop [6] (fun i => ∃ k : Nat, k ≤ xs.length ∧ i = .int .i64 k ∧ Hid (∀ i y, i < k → xs[i]? = some y → isE s y = false)) (fun i => xs.length - (intOf i).toNat)
  case atStart => exact ⟨0, Nat.zero_le _, rfl, hid (fun i y hi => by omega)⟩
  case round =>
    obtain ⟨k, hk, rfl, HN⟩ := hrel
    by_cases hlt : k < xs.length
    · obtain ⟨x, hx⟩ : ∃ x, xs[k]? = some x := ⟨xs[k], by simp [hlt]⟩
      obtain ⟨b, off, rfl, c0, c1, hxs⟩ := r.entry hx hs
      have HX := hid hx
      have he := isE_eq s x
      clear hx
      obtain ⟨q, hq⟩ : ∃ q, isE s x = q := ⟨_, rfl⟩
      rw [hq] at he
      have HQ := hid hq
      clear hq
      cases q
      · have HN2 := hid (not_step HN.out HX.out HQ.out)
        go_wp2
        go_round
        case rel => exact ⟨k + 1, by omega, by go_num, HN2⟩
        case measure => simp [intOf]; omega
      · have HF := hid (show findE xs s = some x.no by unfold findE; rw [find_hit HN.out HX.out HQ.out]; rfl)
        go_wp2
        go_ret2
        exact ⟨ret_ib' (by rw [← HV.out, HF.out]; rfl) (by rw [← HV.out, HF.out]; rfl), E⟩
    · have HF := hid (show findE xs s = none by unfold findE; rw [find_none_all (fun i y hi => HN.out i y (by omega))]; rfl)
      go_wp2
      go_ret2
      exact ⟨ret_ib' (by rw [← HV.out, HF.out]; rfl) (by rw [← HV.out, HF.out]; rfl), E⟩
/-! ### taking an entry away -/
def remE (xs : List Entry) (s : ByteArray) : List Entry := match xs.findIdx? (isE s) with
  | some i => xs.take i ++ xs.drop (i + 1)
  | none => []
def remC (xs : List Entry) (s : ByteArray) : Int := if (findE xs s).isSome then 0 else 11
theorem findIdx_hit {α : Type} {p : α → Bool} {xs : List α} {k : Nat} {x : α} (h : ∀ i y, i < k → xs[i]? = some y → p y = false) (hx : xs[k]? = some x) (hp : p x = true) : xs.findIdx? p = some k := by
  rw [List.findIdx?_eq_some_iff_getElem]
  obtain ⟨hk, he⟩ := List.getElem?_eq_some_iff.1 hx
  refine ⟨hk, by rw [he]; exact hp, fun j hj => by
    have := h j (xs[j]'(by omega)) hj (List.getElem?_eq_getElem _)
    simp [this]⟩
theorem findIdx_none_all {α : Type} {p : α → Bool} {xs : List α} (h : ∀ i y, i < xs.length → xs[i]? = some y → p y = false) : xs.findIdx? p = none := by
  rw [List.findIdx?_eq_none_iff]
  intro y hy
  obtain ⟨i, hi, rfl⟩ := List.mem_iff_getElem.1 hy
  exact h i _ hi (List.getElem?_eq_getElem _)
theorem row_drop {h : FH} {b off c : Nat} {xs : List Entry} (r : RowAt h (some ⟨b, off, none⟩) xs) (k : Nat) (hk : k < xs.length) (hlc : xs.length ≤ c) : RowAt h (if c = k + 1 then some ⟨b, off, none⟩ else some ⟨b, off + (k + 1) * 2, none⟩) (xs.drop (k + 1)) := by
  by_cases e : c = k + 1
  · rw [if_pos e, List.drop_of_length_le (by omega)]; exact RowAt.nil _ _
  · rw [if_neg e]; exact r.dropN (k + 1)
set_option maxHeartbeats 4000000 in
theorem ref_RemoveEntry (xs : List Entry) (A : Option Addr) (c : Nat) (hlc : xs.length ≤ c) (hcap : c ≤ 9223372036854775807) (hbig : xs.length ≤ 1000) (s : ByteArray) (hsz : s.size ≤ 9223372036854775807) (h : FH) (w : World) (hs : Sits h w) (r : RowAt h A xs) :
    Calls Try.prog 95 #[.slice A xs.length c, .string s] w fun e w' => RetTup h w 44 (remE xs s) (remC xs s) e w' := by
  have hl := r.1
  have E := Ext.refl hs
  go_enter Try.func95, Try.ntmps95
  go_wp2_with fail
  go_loop [6] (fun i => ∃ k : Nat, k ≤ xs.length ∧ i = .int .i64 k ∧ Hid (∀ i y, i < k → xs[i]? = some y → isE s y = false)) (fun i => xs.length - (intOf i).toNat)
  case atStart => exact ⟨0, Nat.zero_le _, rfl, hid (fun i y hi => by omega)⟩
  case round =>
    obtain ⟨k, hk, rfl, HN⟩ := hrel
    by_cases hlt : k < xs.length
    · obtain ⟨x, hx⟩ : ∃ x, xs[k]? = some x := ⟨xs[k], by simp [hlt]⟩
      obtain ⟨b, off, rfl, c0, c1, hxs⟩ := r.entry hx hs
      have HX := hid hx
      have he := isE_eq s x
      clear hx
      obtain ⟨q, hq⟩ : ∃ q, isE s x = q := ⟨_, rfl⟩
      rw [hq] at he
      have HQ := hid hq
      clear hq
      cases q
      · have HN2 := hid (not_step HN.out HX.out HQ.out)
        go_wp2
        go_round
        case rel => exact ⟨k + 1, by omega, by go_num, HN2⟩
        case measure => simp [intOf]; omega
      · have HF := hid (show remE xs s = xs.take k ++ xs.drop (k + 1) by unfold remE; rw [findIdx_hit HN.out HX.out HQ.out])
        have HC := hid (show remC xs s = 0 by unfold remC findE; rw [find_hit HN.out HX.out HQ.out]; rfl)
        have E1 := E.drew
        have HLT := hid (show k = (xs.take k).length by simp; omega)
        have HLD := hid (show xs.length - (k + 1) = (xs.drop (k + 1)).length by simp)
        have HB1 := hid (show (([] : List Entry).length + (xs.take k).length) * 24 ≤ 140737488355328 by simp; omega)
        have HB2 := hid (show (([] ++ xs.take k).length + (xs.drop (k + 1)).length) * 24 ≤ 140737488355328 by simp; omega)
        have HRD := hid (row_drop r k hlt hlc)
        have i1 : (0 : Int) ≤ (k : Int) := by omega
        have i2 : (k : Int) ≤ (c : Int) := by omega
        have i3 : (0 : Int) ≤ (k : Int) + 1 := by omega
        have i4 : (k : Int) + 1 ≤ (xs.length : Int) := by omega
        have i5 : (xs.length : Int) ≤ (c : Int) := by omega
        have i6 : IntKind.i64.wrap ((k : Int) + 1) = (k : Int) + 1 := by rw [IntKind.wrap_i64]; omega
        go_upto_region 5 with (fail)
        clear c0 c1
        go_region_held3 (fun w' => Ext h w h w') (first | with_reducible assumption | with_reducible exact E3 | with_reducible exact E2) (first | (rw [if_pos (by rfl)]; refine step_appendR _ _ 34 rfl w.heap.size 44 24 ty_Entry (.slice none 0 0) [] (xs.take k) rfl (OwnL.nil _ _ _ _) E1.sits _ k c rfl HLT.out (r.takeN k) HB1.out (by decide) E1.size ?_; intro v1 w1 O1 hg1; have E2 := E1.grown hg1 (fun k hk => by cases hk)) | (rw [if_pos (by rfl)]; refine step_appendR _ _ 34 rfl w.heap.size 44 24 ty_Entry v1 ([] ++ xs.take k) (xs.drop (k + 1)) rfl O1 E2.sits _ _ _ rfl HLD.out HRD.out HB2.out (by decide) E2.size ?_; intro v2 w2 O2 hg2; have E3 := E2.grown hg2 (fun k hk => ⟨(O1.lt k hk).1, O1.free k hk⟩)))
        all_goals
          go_wp2_with fail
          all_goals
            go_ret2
            exact ⟨_, by rw [HC.out]; rfl, by rw [HF.out]; simpa using O2, E3⟩
    · have HF := hid (show remE xs s = [] by unfold remE; rw [findIdx_none_all (fun i y hi => HN.out i y (by omega))])
      have HC := hid (show remC xs s = 11 by unfold remC findE; rw [find_none_all (fun i y hi => HN.out i y (by omega))]; rfl)
      go_wp2
      go_ret2
      exact ⟨.slice none 0 0, by rw [HC.out]; rfl, by rw [HF.out]; exact OwnL.nil _ _ _ _, E⟩
end Go.Proofs.Ytkglaofiencfdaa
