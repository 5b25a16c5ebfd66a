import Derived.Test.YtmljcjjhakhjaaaDoorApp
import Derived.Test.YtmljcjjhakhjaaaDoorEnt
import Derived.Test.YtmljcjjhakhjaaaDoorRunsAll
namespace Go.Proofs.YtmljcjjhakhjaaaDoor
open Go.RowKit Go.Sort
set_option linter.unusedVariables false
/-! ### finding an entry -/
def isE (s : ByteArray) (x : Entry) : Bool := decide (x.name = s)
def findE (xs : List Entry) (s : ByteArray) : Option Int := (xs.find? (isE s)).map (·.no)
theorem isE_eq (s : ByteArray) (x : Entry) : (x.name.toList == s.toList) = isE s x := bytes_toList_beq x.name s
theorem find_hit {α : Type} {p : α → Bool} {xs : List α} {k : Nat} {x : α} (h : ∀ i y, i < k → xs[i]? = some y → p y = false) (hx : xs[k]? = some x) (hp : p x = true) : xs.find? p = some x := find_none_take h hx hp
theorem not_step {α : Type} {p : α → Bool} {xs : List α} {k : Nat} {x : α} (h : ∀ i y, i < k → xs[i]? = some y → p y = false) (hx : xs[k]? = some x) (hp : p x = false) : ∀ i y, i < k + 1 → xs[i]? = some y → p y = false := fun i y hi hy => by
  by_cases e : i = k
  · subst e; rw [hx] at hy; cases hy; exact hp
  · exact h i y (by omega) hy
set_option maxHeartbeats 2000000 in
theorem ref_Find (xs : List Entry) (A : Option Addr) (c : Nat) (s : ByteArray) (hsz : s.size ≤ 9223372036854775807) (v : Option Int) (hv : findE xs s = v) (h : FH) (w : World) (hs : Sits h w) (r : RowAt h A xs) :
    Calls Tryd.prog 31 #[.slice A xs.length c, .string s] w fun e w' => e = .returned (.tuple #[.int .i64 (v.getD 0), .bool v.isSome]) ∧ Ext h w h w' := by
  have hl := r.1
  have E := Ext.refl hs
  have HV := hid hv
  clear hv
  go_enter Tryd.func31, Tryd.ntmps31
  go_wp2_with fail
  go_loop [6] (fun i => ∃ k : Nat, k ≤ xs.length ∧ i = .int .i64 k ∧ Hid (∀ i y, i < k → xs[i]? = some y → isE s y = false)) (fun i => xs.length - (intOf i).toNat)
  case atStart => exact ⟨0, Nat.zero_le _, rfl, hid (fun i y hi => by omega)⟩
  case round =>
    obtain ⟨k, hk, rfl, HN⟩ := hrel
    by_cases hlt : k < xs.length
    · obtain ⟨x, hx⟩ : ∃ x, xs[k]? = some x := ⟨xs[k], by simp [hlt]⟩
      obtain ⟨b, off, rfl, c0, c1, hxs⟩ := r.entry hx hs
      have HX := hid hx
      have he := isE_eq s x
      clear hx
      obtain ⟨q, hq⟩ : ∃ q, isE s x = q := ⟨_, rfl⟩
      rw [hq] at he
      have HQ := hid hq
      clear hq
      cases q
      · have HN2 := hid (not_step HN.out HX.out HQ.out)
        go_wp2
        go_round
        case rel => exact ⟨k + 1, by omega, by go_num, HN2⟩
        case measure => simp [intOf]; omega
      · have HF := hid (show findE xs s = some x.no by unfold findE; rw [find_hit HN.out HX.out HQ.out]; rfl)
        go_wp2
        go_ret2
        exact ⟨ret_ib' (by rw [← HV.out, HF.out]; rfl) (by rw [← HV.out, HF.out]; rfl), E⟩
    · have HF := hid (show findE xs s = none by unfold findE; rw [find_none_all (fun i y hi => HN.out i y (by omega))]; rfl)
      go_wp2
      go_ret2
      exact ⟨ret_ib' (by rw [← HV.out, HF.out]; rfl) (by rw [← HV.out, HF.out]; rfl), E⟩
/-! ### taking an entry away -/
def remE (xs : List Entry) (s : ByteArray) : List Entry := match xs.findIdx? (isE s) with
  | some i => xs.take i ++ xs.drop (i + 1)
  | none => []
def remC (xs : List Entry) (s : ByteArray) : Int := if (findE xs s).isSome then 0 else 11
theorem findIdx_hit {α : Type} {p : α → Bool} {xs : List α} {k : Nat} {x : α} (h : ∀ i y, i < k → xs[i]? = some y → p y = false) (hx : xs[k]? = some x) (hp : p x = true) : xs.findIdx? p = some k := by
  rw [List.findIdx?_eq_some_iff_getElem]
  obtain ⟨hk, he⟩ := List.getElem?_eq_some_iff.1 hx
  refine ⟨hk, by rw [he]; exact hp, fun j hj => by
    have := h j (xs[j]'(by omega)) hj (List.getElem?_eq_getElem _)
    simp [this]⟩
theorem findIdx_none_all {α : Type} {p : α → Bool} {xs : List α} (h : ∀ i y, i < xs.length → xs[i]? = some y → p y = false) : xs.findIdx? p = none := by
  rw [List.findIdx?_eq_none_iff]
  intro y hy
  obtain ⟨i, hi, rfl⟩ := List.mem_iff_getElem.1 hy
  exact h i _ hi (List.getElem?_eq_getElem _)
theorem row_drop {h : FH} {b off c : Nat} {xs : List Entry} (r : RowAt h (some ⟨b, off, none⟩) xs) (k : Nat) (hk : k < xs.length) (hlc : xs.length ≤ c) : RowAt h (if c = k + 1 then some ⟨b, off, none⟩ else some ⟨b, off + (k + 1) * 2, none⟩) (xs.drop (k + 1)) := by
  by_cases e : c = k + 1
  · rw [if_pos e, List.drop_of_length_le (by omega)]; exact RowAt.nil _ _
  · rw [if_neg e]; exact r.dropN (k + 1)
end Go.Proofs.YtmljcjjhakhjaaaDoor
