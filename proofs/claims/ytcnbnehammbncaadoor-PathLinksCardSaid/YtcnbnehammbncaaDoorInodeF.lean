import Derived.Test.YtcnbnehammbncaaDoorEnt
import Derived.Test.YtcnbnehammbncaaDoorRefRuns
namespace Go.Proofs.YtcnbnehammbncaaDoor
open Go.RowKit Go.Sort
set_option linter.unusedVariables false
/-! ### what inodes mean -/
def noText (s : ByteArray) : Bool := s.toList.isEmpty
def fileB (x : Inode) : Bool := decide (0 ≤ x.size) && decide (x.size ≤ 16384) && rightB x.runs && noText x.target && ((x.entries.length : Int) == 0)
def dirB (x : Inode) : Bool := (x.size == 0) && rightE x.entries && noText x.target && ((x.runs.length : Int) == 0)
def noZero (s : ByteArray) : Bool := s.data.toList.all (fun c => !(c == 0))
theorem firstIdx_none {s : ByteArray} (h : noZero s = true) : firstIdx s 0 = -1 := by
  unfold firstIdx
  split
  · rename_i i hi
    have h1 := List.find?_some hi
    have h2 : i < s.size := by simpa using List.mem_of_find?_eq_some hi
    unfold noZero at h
    rw [List.all_eq_true] at h
    have h3 := h (s.data[i]'h2) (by simp)
    have h4 : s[i]! = s.data[i]'h2 := getElem!_pos s i h2
    rw [h4] at h1
    simp_all
  · rfl
theorem firstIdx_some {s : ByteArray} (h : noZero s = false) : ∃ n : Nat, firstIdx s 0 = n := by
  unfold firstIdx
  split
  · rename_i i hi; exact ⟨i, rfl⟩
  · rename_i hi
    rw [List.find?_eq_none] at hi
    unfold noZero at h
    rw [List.all_eq_false] at h
    obtain ⟨c, hc, h0⟩ := h
    obtain ⟨i, hl, rfl⟩ := List.mem_iff_getElem.1 hc
    have hl2 : i < s.size := by simpa using hl
    have h3 := hi i (by simpa using hl2)
    have h4 : s[i]! = s.data[i]'hl2 := getElem!_pos s i hl2
    rw [h4] at h3
    simp_all
theorem extern_index (s : ByteArray) (w : World) : (callFunc 71 #[.string s, .int .u8 0]).run Tryd.prog w = .ok (.value (.int .i64 (firstIdx s 0))) w := by
  rw [run_callFunc_extern (P := Tryd.prog) (f := 71) (e := Extern.BytealgIndexByte.indexByte) Tryd.func71 (by kernel_rfl) (by kernel_rfl) (by kernel_rfl) (by kernel_rfl), run_indexByte_string]
  rfl
theorem strings_IndexByte0 (s : ByteArray) (v : Int) (hv : firstIdx s 0 = v) (h : FH) (w : World) (hs : Sits h w) :
    Calls Tryd.prog 60 #[.string s, .int .u8 0] w fun e w' => e = .returned (.int .i64 v) ∧ Ext h w h w' := by
  have hx := fun w => extern_index s w
  rw [hv] at hx
  go_enter Tryd.func60, Tryd.ntmps60
  go_wp2
  go_ret
  exact ⟨rfl, Ext.refl hs⟩
def linkB (x : Inode) : Bool := decide ((1 : Int) ≤ x.target.size) && decide ((x.target.size : Int) ≤ 200) && noZero x.target && (x.size == (x.target.size : Int)) && ((x.entries.length : Int) == 0) && ((x.runs.length : Int) == 0)
def targetB (s : ByteArray) : Bool := noZero s && decide ((1 : Int) ≤ s.size) && decide ((s.size : Int) ≤ 200)
theorem zero_step {s : ByteArray} {k : Nat} {c : UInt8} (h : (s.data.toList.take k).all (fun c => !(c == 0)) = true) (hc : s.data[k]? = some c) (h1 : ¬ c = 0) : (s.data.toList.take (k + 1)).all (fun c => !(c == 0)) = true := by
  rw [List.take_add_one, List.all_append, h, show s.data.toList[k]? = some c by simpa using hc]
  simp [h1]
theorem noZero_bad {s : ByteArray} {k : Nat} (hc : s.data[k]? = some 0) : noZero s = false := by
  unfold noZero
  rw [List.all_eq_false]
  exact ⟨0, List.mem_of_getElem? (i := k) (by simpa using hc), by simp⟩
set_option maxHeartbeats 2000000 in
theorem ref_RightTarget (s : ByteArray) (hsz : s.size ≤ 9223372036854775807) (t : Bool) (ht : targetB s = t) (h : FH) (w : World) (hs : Sits h w) :
    Calls Tryd.prog 38 #[.string s] w fun e w' => e = .returned (.bool t) ∧ Ext h w h w' := by
  have HT := hid ht
  have E2 := Ext.refl hs
  clear ht
  go_enter Tryd.func38, Tryd.ntmps38
  go_wp2_with fail
  go_loop [3] (fun i => ∃ k : Nat, k ≤ s.size ∧ i = .int .i64 k ∧ Hid ((s.data.toList.take k).all (fun c => !(c == 0)) = true)) (fun i => s.size - (intOf i).toNat)
  case atStart => exact ⟨0, Nat.zero_le _, rfl, rfl⟩
  case round =>
    obtain ⟨k, hk, rfl, HN⟩ := hrel
    by_cases hlt : k < s.size
    · obtain ⟨c, hc⟩ : ∃ c, s.data[k]? = some c := ⟨s.data[k]'hlt, Array.getElem?_eq_getElem _⟩
      have hidx := fun w => index_str 9 Tryd.underlying9 hc .i64 w
      by_cases hz : c = 0
      · subst hz
        have HF := hid (show targetB s = false by unfold targetB; rw [noZero_bad hc]; rfl)
        clear hc
        rw [show ((0 : UInt8).toNat : Int) = 0 from rfl] at hidx
        go_wp2
        go_ret
        exact ⟨ret_bool (by rw [← HT.out, HF.out]), E2⟩
      · have e0 : ((c.toNat : Int) == 0) = false := by
          simp
          intro e
          exact hz (UInt8.toNat_inj.1 (by simpa using e))
        have HST := hid (zero_step HN.out hc hz)
        clear hz hc
        go_wp2
        go_round
        case rel => exact ⟨k + 1, by omega, by go_num, HST⟩
        case measure => simp [intOf]; omega
    · obtain rfl : k = s.size := by omega
      have HB2 := hid (show noZero s = true by have h1 := HN.out; rwa [List.take_of_length_le (by simp)] at h1)
      go_wp2
      all_goals
        go_ret
        exact ⟨ret_bool (by rw [← HT.out]; unfold targetB; rw [HB2.out]; simp [*] <;> omega), E2⟩
theorem linkB_target (x : Inode) : linkB x = (targetB x.target && (x.size == (x.target.size : Int)) && ((x.entries.length : Int) == 0) && ((x.runs.length : Int) == 0)) := by
  unfold linkB targetB
  generalize noZero x.target = a
  generalize decide ((1 : Int) ≤ x.target.size) = b
  generalize decide ((x.target.size : Int) ≤ 200) = c
  cases a <;> cases b <;> cases c <;> simp
def rightI (x : Inode) : Bool := decide (0 < x.no) && decide (0 ≤ x.links) && decide (x.links ≤ 100) && (if x.kind = 1 then fileB x else if x.kind = 2 then dirB x else if x.kind = 3 then linkB x else false)
end Go.Proofs.YtcnbnehammbncaaDoor
