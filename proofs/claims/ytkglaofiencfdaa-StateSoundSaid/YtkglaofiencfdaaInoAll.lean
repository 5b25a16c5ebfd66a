import Derived.Test.YtkglaofiencfdaaEnt
import Derived.Test.YtkglaofiencfdaaRefRuns
namespace Go.Proofs.Ytkglaofiencfdaa
open Go.RowKit Go.Sort
set_option linter.unusedVariables false
/-! ### what inodes mean -/
def noText (s : ByteArray) : Bool := s.toList.isEmpty
def fileB (x : Inode) : Bool := decide (0 ≤ x.size) && decide (x.size ≤ 16384) && rightB x.runs && noText x.target && ((x.entries.length : Int) == 0)
def dirB (x : Inode) : Bool := (x.size == 0) && rightE x.entries && noText x.target && ((x.runs.length : Int) == 0)
set_option maxHeartbeats 2000000 in
set_option maxRecDepth 100000 in
theorem inode_file (x : Inode) (cs : List Value) (t : Bool) (ht : fileB x = t) (h : FH) (w : World) (hs : Sits h w) (r : repInode h cs x) :
    Calls Try.prog 99 #[.agg cs.toArray] w fun e w' => e = .returned (.bool t) ∧ Ext h w h w' := by
  obtain ⟨A5, c5, A6, c6, rfl, s0, s1, s2, s3, s4⟩ := r
  have hlE := s2.1
  have hlR := s4.1
  have HT := hid ht
  have E0 := (Ext.refl hs).alloc (.cells #[.int .i64 x.no, .int .i64 x.kind, .int .i64 x.links, .int .i64 x.size, .string x.target, .slice A5 x.entries.length c5, .slice A6 x.runs.length c6] 37)
  clear ht
  obtain ⟨q, hq⟩ : ∃ q, rightB x.runs = q := ⟨_, rfl⟩
  have HQ := hid hq
  clear hq
  have K := hid (fun w hs => runs_Right x.runs A6 c6 q HQ.out h w hs s4)
  have z0 : (w.alloc (.cells #[.int .i64 x.no, .int .i64 x.kind, .int .i64 x.links, .int .i64 x.size, .string x.target, .slice A5 x.entries.length c5, .slice A6 x.runs.length c6] 37)).cell? ⟨w.heap.size, 0, none⟩ = some (.int .i64 x.no) := by go_simp
  have z1 : (w.alloc (.cells #[.int .i64 x.no, .int .i64 x.kind, .int .i64 x.links, .int .i64 x.size, .string x.target, .slice A5 x.entries.length c5, .slice A6 x.runs.length c6] 37)).cell? ⟨w.heap.size, 1, none⟩ = some (.int .i64 x.kind) := by go_simp
  have z2 : (w.alloc (.cells #[.int .i64 x.no, .int .i64 x.kind, .int .i64 x.links, .int .i64 x.size, .string x.target, .slice A5 x.entries.length c5, .slice A6 x.runs.length c6] 37)).cell? ⟨w.heap.size, 2, none⟩ = some (.int .i64 x.links) := by go_simp
  have z3 : (w.alloc (.cells #[.int .i64 x.no, .int .i64 x.kind, .int .i64 x.links, .int .i64 x.size, .string x.target, .slice A5 x.entries.length c5, .slice A6 x.runs.length c6] 37)).cell? ⟨w.heap.size, 3, none⟩ = some (.int .i64 x.size) := by go_simp
  have z4 : (w.alloc (.cells #[.int .i64 x.no, .int .i64 x.kind, .int .i64 x.links, .int .i64 x.size, .string x.target, .slice A5 x.entries.length c5, .slice A6 x.runs.length c6] 37)).cell? ⟨w.heap.size, 4, none⟩ = some (.string x.target) := by go_simp
  have z5 : (w.alloc (.cells #[.int .i64 x.no, .int .i64 x.kind, .int .i64 x.links, .int .i64 x.size, .string x.target, .slice A5 x.entries.length c5, .slice A6 x.runs.length c6] 37)).cell? ⟨w.heap.size, 5, none⟩ = some (.slice A5 x.entries.length c5) := by go_simp
  have z6 : (w.alloc (.cells #[.int .i64 x.no, .int .i64 x.kind, .int .i64 x.links, .int .i64 x.size, .string x.target, .slice A5 x.entries.length c5, .slice A6 x.runs.length c6] 37)).cell? ⟨w.heap.size, 6, none⟩ = some (.slice A6 x.runs.length c6) := by go_simp
  go_enter Try.func99, Try.ntmps99
  go_upto_region 1 with (fail)
  generalize (w.alloc (.cells #[.int .i64 x.no, .int .i64 x.kind, .int .i64 x.links, .int .i64 x.size, .string x.target, .slice A5 x.entries.length c5, .slice A6 x.runs.length c6] 37)) = W1 at *
  generalize w.heap.size = g at *
  go_wp2_with (go_at_call 108; refine (K.out _ E0.sits).mono ?_; rintro e w1 ⟨rfl, E1⟩; have y0 := E1.keep z0; have y1 := E1.keep z1; have y2 := E1.keep z2; have y3 := E1.keep z3; have y4 := E1.keep z4; have y5 := E1.keep z5; have y6 := E1.keep z6)
  all_goals
    go_ret
    refine ⟨ret_bool (by rw [← HT.out]; simp [fileB, noText, HQ.out, *] <;> (intros; omega)), ?_⟩
    first | exact E0.trans E1 | exact E0
set_option maxHeartbeats 2000000 in
set_option maxRecDepth 100000 in
theorem inode_dir (x : Inode) (cs : List Value) (t : Bool) (ht : dirB x = t) (h : FH) (w : World) (hs : Sits h w) (r : repInode h cs x) :
    Calls Try.prog 100 #[.agg cs.toArray] w fun e w' => e = .returned (.bool t) ∧ Ext h w h w' := by
  obtain ⟨A5, c5, A6, c6, rfl, s0, s1, s2, s3, s4⟩ := r
  have hlE := s2.1
  have hlR := s4.1
  have HT := hid ht
  have E0 := (Ext.refl hs).alloc (.cells #[.int .i64 x.no, .int .i64 x.kind, .int .i64 x.links, .int .i64 x.size, .string x.target, .slice A5 x.entries.length c5, .slice A6 x.runs.length c6] 37)
  clear ht
  obtain ⟨q, hq⟩ : ∃ q, rightE x.entries = q := ⟨_, rfl⟩
  have HQ := hid hq
  clear hq
  have K := hid (fun w hs => entries_Right x.entries A5 c5 q HQ.out h w hs s2)
  have z0 : (w.alloc (.cells #[.int .i64 x.no, .int .i64 x.kind, .int .i64 x.links, .int .i64 x.size, .string x.target, .slice A5 x.entries.length c5, .slice A6 x.runs.length c6] 37)).cell? ⟨w.heap.size, 0, none⟩ = some (.int .i64 x.no) := by go_simp
  have z1 : (w.alloc (.cells #[.int .i64 x.no, .int .i64 x.kind, .int .i64 x.links, .int .i64 x.size, .string x.target, .slice A5 x.entries.length c5, .slice A6 x.runs.length c6] 37)).cell? ⟨w.heap.size, 1, none⟩ = some (.int .i64 x.kind) := by go_simp
  have z2 : (w.alloc (.cells #[.int .i64 x.no, .int .i64 x.kind, .int .i64 x.links, .int .i64 x.size, .string x.target, .slice A5 x.entries.length c5, .slice A6 x.runs.length c6] 37)).cell? ⟨w.heap.size, 2, none⟩ = some (.int .i64 x.links) := by go_simp
  have z3 : (w.alloc (.cells #[.int .i64 x.no, .int .i64 x.kind, .int .i64 x.links, .int .i64 x.size, .string x.target, .slice A5 x.entries.length c5, .slice A6 x.runs.length c6] 37)).cell? ⟨w.heap.size, 3, none⟩ = some (.int .i64 x.size) := by go_simp
  have z4 : (w.alloc (.cells #[.int .i64 x.no, .int .i64 x.kind, .int .i64 x.links, .int .i64 x.size, .string x.target, .slice A5 x.entries.length c5, .slice A6 x.runs.length c6] 37)).cell? ⟨w.heap.size, 4, none⟩ = some (.string x.target) := by go_simp
  have z5 : (w.alloc (.cells #[.int .i64 x.no, .int .i64 x.kind, .int .i64 x.links, .int .i64 x.size, .string x.target, .slice A5 x.entries.length c5, .slice A6 x.runs.length c6] 37)).cell? ⟨w.heap.size, 5, none⟩ = some (.slice A5 x.entries.length c5) := by go_simp
  have z6 : (w.alloc (.cells #[.int .i64 x.no, .int .i64 x.kind, .int .i64 x.links, .int .i64 x.size, .string x.target, .slice A5 x.entries.length c5, .slice A6 x.runs.length c6] 37)).cell? ⟨w.heap.size, 6, none⟩ = some (.slice A6 x.runs.length c6) := by go_simp
  go_enter Try.func100, Try.ntmps100
  go_upto_region 1 with (fail)
  generalize (w.alloc (.cells #[.int .i64 x.no, .int .i64 x.kind, .int .i64 x.links, .int .i64 x.size, .string x.target, .slice A5 x.entries.length c5, .slice A6 x.runs.length c6] 37)) = W1 at *
  generalize w.heap.size = g at *
  go_wp2_with (go_at_call 109; refine (K.out _ E0.sits).mono ?_; rintro e w1 ⟨rfl, E1⟩; have y0 := E1.keep z0; have y1 := E1.keep z1; have y2 := E1.keep z2; have y3 := E1.keep z3; have y4 := E1.keep z4; have y5 := E1.keep z5; have y6 := E1.keep z6)
  all_goals
    go_ret
    refine ⟨ret_bool (by rw [← HT.out]; simp [dirB, noText, HQ.out, *] <;> (intros; omega)), ?_⟩
    first | exact E0.trans E1 | exact E0
def noZero (s : ByteArray) : Bool := s.data.toList.all (fun c => !(c == 0))
theorem firstIdx_none {s : ByteArray} (h : noZero s = true) : firstIdx s 0 = -1 := by
  unfold firstIdx
  split
  · rename_i i hi
    have h1 := List.find?_some hi
    have h2 : i < s.size := by simpa using List.mem_of_find?_eq_some hi
    unfold noZero at h
    rw [List.all_eq_true] at h
    have h3 := h (s.data[i]'h2) (by simp)
    have h4 : s[i]! = s.data[i]'h2 := getElem!_pos s i h2
    rw [h4] at h1
    simp_all
  · rfl
theorem firstIdx_some {s : ByteArray} (h : noZero s = false) : ∃ n : Nat, firstIdx s 0 = n := by
  unfold firstIdx
  split
  · rename_i i hi; exact ⟨i, rfl⟩
  · rename_i hi
    rw [List.find?_eq_none] at hi
    unfold noZero at h
    rw [List.all_eq_false] at h
    obtain ⟨c, hc, h0⟩ := h
    obtain ⟨i, hl, rfl⟩ := List.mem_iff_getElem.1 hc
    have hl2 : i < s.size := by simpa using hl
    have h3 := hi i (by simpa using hl2)
    have h4 : s[i]! = s.data[i]'hl2 := getElem!_pos s i hl2
    rw [h4] at h3
    simp_all
theorem extern_index (s : ByteArray) (w : World) : (callFunc 119 #[.string s, .int .u8 0]).run Try.prog w = .ok (.value (.int .i64 (firstIdx s 0))) w := by
  rw [run_callFunc_extern (P := Try.prog) (f := 119) (e := Extern.BytealgIndexByte.indexByte) Try.func119 (by kernel_rfl) (by kernel_rfl) (by kernel_rfl) (by kernel_rfl), run_indexByte_string]
  rfl
theorem strings_IndexByte0 (s : ByteArray) (v : Int) (hv : firstIdx s 0 = v) (h : FH) (w : World) (hs : Sits h w) :
    Calls Try.prog 110 #[.string s, .int .u8 0] w fun e w' => e = .returned (.int .i64 v) ∧ Ext h w h w' := by
  have hx := fun w => extern_index s w
  rw [hv] at hx
  go_enter Try.func110, Try.ntmps110
  go_wp2
  go_ret
  exact ⟨rfl, Ext.refl hs⟩
def linkB (x : Inode) : Bool := decide ((1 : Int) ≤ x.target.size) && decide ((x.target.size : Int) ≤ 200) && noZero x.target && (x.size == (x.target.size : Int)) && ((x.entries.length : Int) == 0) && ((x.runs.length : Int) == 0)
set_option maxHeartbeats 2000000 in
set_option maxRecDepth 100000 in
theorem inode_link_a (x : Inode) (cs : List Value) (t : Bool) (hz : noZero x.target = true) (ht : linkB x = t) (h : FH) (w : World) (hs : Sits h w) (r : repInode h cs x) :
    Calls Try.prog 101 #[.agg cs.toArray] w fun e w' => e = .returned (.bool t) ∧ Ext h w h w' := by
  obtain ⟨A5, c5, A6, c6, rfl, s0, s1, s2, s3, s4⟩ := r
  have hlE := s2.1
  have hlR := s4.1
  have HT := hid ht
  have E0 := (Ext.refl hs).alloc (.cells #[.int .i64 x.no, .int .i64 x.kind, .int .i64 x.links, .int .i64 x.size, .string x.target, .slice A5 x.entries.length c5, .slice A6 x.runs.length c6] 37)
  clear ht
  have HZ := hid hz
  clear hz
  have K := hid (fun w hs => strings_IndexByte0 x.target (-1) (firstIdx_none HZ.out) h w hs)
  have z0 : (w.alloc (.cells #[.int .i64 x.no, .int .i64 x.kind, .int .i64 x.links, .int .i64 x.size, .string x.target, .slice A5 x.entries.length c5, .slice A6 x.runs.length c6] 37)).cell? ⟨w.heap.size, 0, none⟩ = some (.int .i64 x.no) := by go_simp
  have z1 : (w.alloc (.cells #[.int .i64 x.no, .int .i64 x.kind, .int .i64 x.links, .int .i64 x.size, .string x.target, .slice A5 x.entries.length c5, .slice A6 x.runs.length c6] 37)).cell? ⟨w.heap.size, 1, none⟩ = some (.int .i64 x.kind) := by go_simp
  have z2 : (w.alloc (.cells #[.int .i64 x.no, .int .i64 x.kind, .int .i64 x.links, .int .i64 x.size, .string x.target, .slice A5 x.entries.length c5, .slice A6 x.runs.length c6] 37)).cell? ⟨w.heap.size, 2, none⟩ = some (.int .i64 x.links) := by go_simp
  have z3 : (w.alloc (.cells #[.int .i64 x.no, .int .i64 x.kind, .int .i64 x.links, .int .i64 x.size, .string x.target, .slice A5 x.entries.length c5, .slice A6 x.runs.length c6] 37)).cell? ⟨w.heap.size, 3, none⟩ = some (.int .i64 x.size) := by go_simp
  have z4 : (w.alloc (.cells #[.int .i64 x.no, .int .i64 x.kind, .int .i64 x.links, .int .i64 x.size, .string x.target, .slice A5 x.entries.length c5, .slice A6 x.runs.length c6] 37)).cell? ⟨w.heap.size, 4, none⟩ = some (.string x.target) := by go_simp
  have z5 : (w.alloc (.cells #[.int .i64 x.no, .int .i64 x.kind, .int .i64 x.links, .int .i64 x.size, .string x.target, .slice A5 x.entries.length c5, .slice A6 x.runs.length c6] 37)).cell? ⟨w.heap.size, 5, none⟩ = some (.slice A5 x.entries.length c5) := by go_simp
  have z6 : (w.alloc (.cells #[.int .i64 x.no, .int .i64 x.kind, .int .i64 x.links, .int .i64 x.size, .string x.target, .slice A5 x.entries.length c5, .slice A6 x.runs.length c6] 37)).cell? ⟨w.heap.size, 6, none⟩ = some (.slice A6 x.runs.length c6) := by go_simp
  go_enter Try.func101, Try.ntmps101
  go_upto_region 1 with (fail)
  generalize (w.alloc (.cells #[.int .i64 x.no, .int .i64 x.kind, .int .i64 x.links, .int .i64 x.size, .string x.target, .slice A5 x.entries.length c5, .slice A6 x.runs.length c6] 37)) = W1 at *
  generalize w.heap.size = g at *
  go_wp2_with (go_at_call 110; refine (K.out _ E0.sits).mono ?_; rintro e w1 ⟨rfl, E1⟩; have y0 := E1.keep z0; have y1 := E1.keep z1; have y2 := E1.keep z2; have y3 := E1.keep z3; have y4 := E1.keep z4; have y5 := E1.keep z5; have y6 := E1.keep z6)
  all_goals
    go_ret
    refine ⟨ret_bool (by rw [← HT.out]; simp [linkB, HZ.out, *] <;> (intros; omega)), ?_⟩
    first | exact E0.trans E1 | exact E0
set_option maxHeartbeats 2000000 in
set_option maxRecDepth 100000 in
theorem inode_link_b (x : Inode) (cs : List Value) (t : Bool) (hz : noZero x.target = false) (ht : linkB x = t) (h : FH) (w : World) (hs : Sits h w) (r : repInode h cs x) :
    Calls Try.prog 101 #[.agg cs.toArray] w fun e w' => e = .returned (.bool t) ∧ Ext h w h w' := by
  obtain ⟨A5, c5, A6, c6, rfl, s0, s1, s2, s3, s4⟩ := r
  have hlE := s2.1
  have hlR := s4.1
  have HT := hid ht
  have E0 := (Ext.refl hs).alloc (.cells #[.int .i64 x.no, .int .i64 x.kind, .int .i64 x.links, .int .i64 x.size, .string x.target, .slice A5 x.entries.length c5, .slice A6 x.runs.length c6] 37)
  clear ht
  have HZ := hid hz
  clear hz
  obtain ⟨n, hn⟩ := firstIdx_some HZ.out
  have hn0 : (0 : Int) ≤ (n : Int) := by omega
  have K := hid (fun w hs => strings_IndexByte0 x.target n hn h w hs)
  clear hn
  have z0 : (w.alloc (.cells #[.int .i64 x.no, .int .i64 x.kind, .int .i64 x.links, .int .i64 x.size, .string x.target, .slice A5 x.entries.length c5, .slice A6 x.runs.length c6] 37)).cell? ⟨w.heap.size, 0, none⟩ = some (.int .i64 x.no) := by go_simp
  have z1 : (w.alloc (.cells #[.int .i64 x.no, .int .i64 x.kind, .int .i64 x.links, .int .i64 x.size, .string x.target, .slice A5 x.entries.length c5, .slice A6 x.runs.length c6] 37)).cell? ⟨w.heap.size, 1, none⟩ = some (.int .i64 x.kind) := by go_simp
  have z2 : (w.alloc (.cells #[.int .i64 x.no, .int .i64 x.kind, .int .i64 x.links, .int .i64 x.size, .string x.target, .slice A5 x.entries.length c5, .slice A6 x.runs.length c6] 37)).cell? ⟨w.heap.size, 2, none⟩ = some (.int .i64 x.links) := by go_simp
  have z3 : (w.alloc (.cells #[.int .i64 x.no, .int .i64 x.kind, .int .i64 x.links, .int .i64 x.size, .string x.target, .slice A5 x.entries.length c5, .slice A6 x.runs.length c6] 37)).cell? ⟨w.heap.size, 3, none⟩ = some (.int .i64 x.size) := by go_simp
  have z4 : (w.alloc (.cells #[.int .i64 x.no, .int .i64 x.kind, .int .i64 x.links, .int .i64 x.size, .string x.target, .slice A5 x.entries.length c5, .slice A6 x.runs.length c6] 37)).cell? ⟨w.heap.size, 4, none⟩ = some (.string x.target) := by go_simp
  have z5 : (w.alloc (.cells #[.int .i64 x.no, .int .i64 x.kind, .int .i64 x.links, .int .i64 x.size, .string x.target, .slice A5 x.entries.length c5, .slice A6 x.runs.length c6] 37)).cell? ⟨w.heap.size, 5, none⟩ = some (.slice A5 x.entries.length c5) := by go_simp
  have z6 : (w.alloc (.cells #[.int .i64 x.no, .int .i64 x.kind, .int .i64 x.links, .int .i64 x.size, .string x.target, .slice A5 x.entries.length c5, .slice A6 x.runs.length c6] 37)).cell? ⟨w.heap.size, 6, none⟩ = some (.slice A6 x.runs.length c6) := by go_simp
  go_enter Try.func101, Try.ntmps101
  go_upto_region 1 with (fail)
  generalize (w.alloc (.cells #[.int .i64 x.no, .int .i64 x.kind, .int .i64 x.links, .int .i64 x.size, .string x.target, .slice A5 x.entries.length c5, .slice A6 x.runs.length c6] 37)) = W1 at *
  generalize w.heap.size = g at *
  go_wp2_with (go_at_call 110; refine (K.out _ E0.sits).mono ?_; rintro e w1 ⟨rfl, E1⟩; have y0 := E1.keep z0; have y1 := E1.keep z1; have y2 := E1.keep z2; have y3 := E1.keep z3; have y4 := E1.keep z4; have y5 := E1.keep z5; have y6 := E1.keep z6)
  all_goals
    go_ret
    refine ⟨ret_bool (by rw [← HT.out]; simp [linkB, HZ.out, *] <;> (intros; omega)), ?_⟩
    first | exact E0.trans E1 | exact E0
theorem inode_link (x : Inode) (cs : List Value) (t : Bool) (ht : linkB x = t) (h : FH) (w : World) (hs : Sits h w) (r : repInode h cs x) :
    Calls Try.prog 101 #[.agg cs.toArray] w fun e w' => e = .returned (.bool t) ∧ Ext h w h w' := by
  cases hz : noZero x.target with
  | true => exact inode_link_a x cs t hz ht h w hs r
  | false => exact inode_link_b x cs t hz ht h w hs r
def targetB (s : ByteArray) : Bool := noZero s && decide ((1 : Int) ≤ s.size) && decide ((s.size : Int) ≤ 200)
theorem zero_step {s : ByteArray} {k : Nat} {c : UInt8} (h : (s.data.toList.take k).all (fun c => !(c == 0)) = true) (hc : s.data[k]? = some c) (h1 : ¬ c = 0) : (s.data.toList.take (k + 1)).all (fun c => !(c == 0)) = true := by
  rw [List.take_add_one, List.all_append, h, show s.data.toList[k]? = some c by simpa using hc]
  simp [h1]
theorem noZero_bad {s : ByteArray} {k : Nat} (hc : s.data[k]? = some 0) : noZero s = false := by
  unfold noZero
  rw [List.all_eq_false]
  exact ⟨0, List.mem_of_getElem? (i := k) (by simpa using hc), by simp⟩
set_option maxHeartbeats 2000000 in
theorem ref_RightTarget (s : ByteArray) (hsz : s.size ≤ 9223372036854775807) (t : Bool) (ht : targetB s = t) (h : FH) (w : World) (hs : Sits h w) :
    Calls Try.prog 83 #[.string s] w fun e w' => e = .returned (.bool t) ∧ Ext h w h w' := by
  have HT := hid ht
  have E2 := Ext.refl hs
  clear ht
  go_enter Try.func83, Try.ntmps83
  go_wp2_with fail
  go_loop [3] (fun i => ∃ k : Nat, k ≤ s.size ∧ i = .int .i64 k ∧ Hid ((s.data.toList.take k).all (fun c => !(c == 0)) = true)) (fun i => s.size - (intOf i).toNat)
  case atStart => exact ⟨0, Nat.zero_le _, rfl, rfl⟩
  case round =>
    obtain ⟨k, hk, rfl, HN⟩ := hrel
    by_cases hlt : k < s.size
    · obtain ⟨c, hc⟩ : ∃ c, s.data[k]? = some c := ⟨s.data[k]'hlt, Array.getElem?_eq_getElem _⟩
      have hidx := fun w => index_str 9 Try.underlying9 hc .i64 w
      by_cases hz : c = 0
      · subst hz
        have HF := hid (show targetB s = false by unfold targetB; rw [noZero_bad hc]; rfl)
        clear hc
        rw [show ((0 : UInt8).toNat : Int) = 0 from rfl] at hidx
        go_wp2
        go_ret
        exact ⟨ret_bool (by rw [← HT.out, HF.out]), E2⟩
      · have e0 : ((c.toNat : Int) == 0) = false := by
          simp
          intro e
          exact hz (UInt8.toNat_inj.1 (by simpa using e))
        have HST := hid (zero_step HN.out hc hz)
        clear hz hc
        go_wp2
        go_round
        case rel => exact ⟨k + 1, by omega, by go_num, HST⟩
        case measure => simp [intOf]; omega
    · obtain rfl : k = s.size := by omega
      have HB2 := hid (show noZero s = true by have h1 := HN.out; rwa [List.take_of_length_le (by simp)] at h1)
      go_wp2
      all_goals
        go_ret
        exact ⟨ret_bool (by rw [← HT.out]; unfold targetB; rw [HB2.out]; simp [*] <;> omega), E2⟩
theorem linkB_target (x : Inode) : linkB x = (targetB x.target && (x.size == (x.target.size : Int)) && ((x.entries.length : Int) == 0) && ((x.runs.length : Int) == 0)) := by
  unfold linkB targetB
  generalize noZero x.target = a
  generalize decide ((1 : Int) ≤ x.target.size) = b
  generalize decide ((x.target.size : Int) ≤ 200) = c
  cases a <;> cases b <;> cases c <;> simp
def rightI (x : Inode) : Bool := decide (0 < x.no) && decide (0 ≤ x.links) && decide (x.links ≤ 100) && (if x.kind = 1 then fileB x else if x.kind = 2 then dirB x else if x.kind = 3 then linkB x else false)
set_option maxHeartbeats 2000000 in
set_option maxRecDepth 100000 in
theorem inode_Right (x : Inode) (cs : List Value) (t : Bool) (ht : rightI x = t) (h : FH) (w : World) (hs : Sits h w) (r : repInode h cs x) :
    Calls Try.prog 64 #[.agg cs.toArray] w fun e w' => e = .returned (.bool t) ∧ Ext h w h w' := by
  obtain ⟨A5, c5, A6, c6, rfl, s0, s1, s2, s3, s4⟩ := r
  have hlE := s2.1
  have hlR := s4.1
  have HT := hid ht
  have E0 := (Ext.refl hs).alloc (.cells #[.int .i64 x.no, .int .i64 x.kind, .int .i64 x.links, .int .i64 x.size, .string x.target, .slice A5 x.entries.length c5, .slice A6 x.runs.length c6] 37)
  clear ht
  have K1 := hid (fun w hs => inode_file x _ (fileB x) rfl h w hs ⟨A5, c5, A6, c6, rfl, s0, s1, s2, s3, s4⟩)
  have K2 := hid (fun w hs => inode_dir x _ (dirB x) rfl h w hs ⟨A5, c5, A6, c6, rfl, s0, s1, s2, s3, s4⟩)
  have K3 := hid (fun w hs => inode_link x _ (linkB x) rfl h w hs ⟨A5, c5, A6, c6, rfl, s0, s1, s2, s3, s4⟩)
  have z0 : (w.alloc (.cells #[.int .i64 x.no, .int .i64 x.kind, .int .i64 x.links, .int .i64 x.size, .string x.target, .slice A5 x.entries.length c5, .slice A6 x.runs.length c6] 37)).cell? ⟨w.heap.size, 0, none⟩ = some (.int .i64 x.no) := by go_simp
  have z1 : (w.alloc (.cells #[.int .i64 x.no, .int .i64 x.kind, .int .i64 x.links, .int .i64 x.size, .string x.target, .slice A5 x.entries.length c5, .slice A6 x.runs.length c6] 37)).cell? ⟨w.heap.size, 1, none⟩ = some (.int .i64 x.kind) := by go_simp
  have z2 : (w.alloc (.cells #[.int .i64 x.no, .int .i64 x.kind, .int .i64 x.links, .int .i64 x.size, .string x.target, .slice A5 x.entries.length c5, .slice A6 x.runs.length c6] 37)).cell? ⟨w.heap.size, 2, none⟩ = some (.int .i64 x.links) := by go_simp
  have z3 : (w.alloc (.cells #[.int .i64 x.no, .int .i64 x.kind, .int .i64 x.links, .int .i64 x.size, .string x.target, .slice A5 x.entries.length c5, .slice A6 x.runs.length c6] 37)).cell? ⟨w.heap.size, 3, none⟩ = some (.int .i64 x.size) := by go_simp
  have z4 : (w.alloc (.cells #[.int .i64 x.no, .int .i64 x.kind, .int .i64 x.links, .int .i64 x.size, .string x.target, .slice A5 x.entries.length c5, .slice A6 x.runs.length c6] 37)).cell? ⟨w.heap.size, 4, none⟩ = some (.string x.target) := by go_simp
  have z5 : (w.alloc (.cells #[.int .i64 x.no, .int .i64 x.kind, .int .i64 x.links, .int .i64 x.size, .string x.target, .slice A5 x.entries.length c5, .slice A6 x.runs.length c6] 37)).cell? ⟨w.heap.size, 5, none⟩ = some (.slice A5 x.entries.length c5) := by go_simp
  have z6 : (w.alloc (.cells #[.int .i64 x.no, .int .i64 x.kind, .int .i64 x.links, .int .i64 x.size, .string x.target, .slice A5 x.entries.length c5, .slice A6 x.runs.length c6] 37)).cell? ⟨w.heap.size, 6, none⟩ = some (.slice A6 x.runs.length c6) := by go_simp
  go_enter Try.func64, Try.ntmps64
  go_upto_region 1 with (fail)
  generalize (w.alloc (.cells #[.int .i64 x.no, .int .i64 x.kind, .int .i64 x.links, .int .i64 x.size, .string x.target, .slice A5 x.entries.length c5, .slice A6 x.runs.length c6] 37)) = W1 at *
  generalize w.heap.size = g at *
  by_cases k1 : x.kind = 1
  · have g1 : (x.kind == 1) = true := by simpa using k1
    have HK := hid k1
    clear k1
    go_wp2_with (go_at_call 99; refine (K1.out _ E0.sits).mono ?_; rintro e w1 ⟨rfl, E1⟩)
    all_goals
      go_ret
      refine ⟨ret_bool (by rw [← HT.out]; simp [rightI, HK.out, *] <;> (intros; omega)), ?_⟩
      first | exact E0.trans E1 | exact E0
  · have g1 : (x.kind == 1) = false := by simpa using k1
    by_cases k2 : x.kind = 2
    · have g2 : (x.kind == 2) = true := by simpa using k2
      have HK := hid k2
      clear k2 k1
      go_wp2_with (go_at_call 100; refine (K2.out _ E0.sits).mono ?_; rintro e w1 ⟨rfl, E1⟩)
      all_goals
        go_ret
        refine ⟨ret_bool (by rw [← HT.out]; simp [rightI, HK.out, *] <;> (intros; omega)), ?_⟩
        first | exact E0.trans E1 | exact E0
    · have g2 : (x.kind == 2) = false := by simpa using k2
      by_cases k3 : x.kind = 3
      · have g3 : (x.kind == 3) = true := by simpa using k3
        have HK := hid k3
        clear k3 k2 k1
        go_wp2_with (go_at_call 101; refine (K3.out _ E0.sits).mono ?_; rintro e w1 ⟨rfl, E1⟩)
        all_goals
          go_ret
          refine ⟨ret_bool (by rw [← HT.out]; simp [rightI, HK.out, *] <;> (intros; omega)), ?_⟩
          first | exact E0.trans E1 | exact E0
      · have g3 : (x.kind == 3) = false := by simpa using k3
        have HK := hid (And.intro k1 (And.intro k2 k3))
        clear k3 k2 k1
        go_wp2_with (fail)
        all_goals
          go_ret
          refine ⟨ret_bool (by rw [← HT.out]; simp [rightI, HK.out.1, HK.out.2.1, HK.out.2.2, *] <;> (intros; omega)), ?_⟩
          first | exact E0.trans E1 | exact E0
set_option maxHeartbeats 2000000 in
set_option maxRecDepth 100000 in
theorem ref_RightInode (x : Inode) (cs : List Value) (t : Bool) (ht : rightI x = t) (h : FH) (w : World) (hs : Sits h w) (r : repInode h cs x) :
    Calls Try.prog 47 #[.agg cs.toArray] w fun e w' => e = .returned (.bool t) ∧ Ext h w h w' := by
  obtain ⟨A5, c5, A6, c6, rfl, s0, s1, s2, s3, s4⟩ := r
  have hlE := s2.1
  have hlR := s4.1
  have HT := hid ht
  have E0 := (Ext.refl hs).alloc (.cells #[.int .i64 x.no, .int .i64 x.kind, .int .i64 x.links, .int .i64 x.size, .string x.target, .slice A5 x.entries.length c5, .slice A6 x.runs.length c6] 37)
  clear ht
  have K1 := hid (fun w hs => ref_RightRuns x.runs A6 c6 (rightB x.runs) rfl h w hs s4)
  have K2 := hid (fun w hs => ref_RightEntries x.entries A5 c5 (rightE x.entries) rfl h w hs s2)
  have K3 := hid (fun w hs => ref_RightTarget x.target s0 (targetB x.target) rfl h w hs)
  have HLK := hid (linkB_target x)
  have z0 : (w.alloc (.cells #[.int .i64 x.no, .int .i64 x.kind, .int .i64 x.links, .int .i64 x.size, .string x.target, .slice A5 x.entries.length c5, .slice A6 x.runs.length c6] 37)).cell? ⟨w.heap.size, 0, none⟩ = some (.int .i64 x.no) := by go_simp
  have z1 : (w.alloc (.cells #[.int .i64 x.no, .int .i64 x.kind, .int .i64 x.links, .int .i64 x.size, .string x.target, .slice A5 x.entries.length c5, .slice A6 x.runs.length c6] 37)).cell? ⟨w.heap.size, 1, none⟩ = some (.int .i64 x.kind) := by go_simp
  have z2 : (w.alloc (.cells #[.int .i64 x.no, .int .i64 x.kind, .int .i64 x.links, .int .i64 x.size, .string x.target, .slice A5 x.entries.length c5, .slice A6 x.runs.length c6] 37)).cell? ⟨w.heap.size, 2, none⟩ = some (.int .i64 x.links) := by go_simp
  have z3 : (w.alloc (.cells #[.int .i64 x.no, .int .i64 x.kind, .int .i64 x.links, .int .i64 x.size, .string x.target, .slice A5 x.entries.length c5, .slice A6 x.runs.length c6] 37)).cell? ⟨w.heap.size, 3, none⟩ = some (.int .i64 x.size) := by go_simp
  have z4 : (w.alloc (.cells #[.int .i64 x.no, .int .i64 x.kind, .int .i64 x.links, .int .i64 x.size, .string x.target, .slice A5 x.entries.length c5, .slice A6 x.runs.length c6] 37)).cell? ⟨w.heap.size, 4, none⟩ = some (.string x.target) := by go_simp
  have z5 : (w.alloc (.cells #[.int .i64 x.no, .int .i64 x.kind, .int .i64 x.links, .int .i64 x.size, .string x.target, .slice A5 x.entries.length c5, .slice A6 x.runs.length c6] 37)).cell? ⟨w.heap.size, 5, none⟩ = some (.slice A5 x.entries.length c5) := by go_simp
  have z6 : (w.alloc (.cells #[.int .i64 x.no, .int .i64 x.kind, .int .i64 x.links, .int .i64 x.size, .string x.target, .slice A5 x.entries.length c5, .slice A6 x.runs.length c6] 37)).cell? ⟨w.heap.size, 6, none⟩ = some (.slice A6 x.runs.length c6) := by go_simp
  go_enter Try.func47, Try.ntmps47
  go_upto_region 1 with (fail)
  generalize (w.alloc (.cells #[.int .i64 x.no, .int .i64 x.kind, .int .i64 x.links, .int .i64 x.size, .string x.target, .slice A5 x.entries.length c5, .slice A6 x.runs.length c6] 37)) = W1 at *
  generalize w.heap.size = g at *
  by_cases k1 : x.kind = 1
  · have g1 : (x.kind == 1) = true := by simpa using k1
    have HK := hid k1
    clear k1
    go_wp2_with (go_at_call 59; refine (K1.out _ E0.sits).mono ?_; rintro e w1 ⟨rfl, E1⟩; have y0 := E1.keep z0; have y1 := E1.keep z1; have y2 := E1.keep z2; have y3 := E1.keep z3; have y4 := E1.keep z4; have y5 := E1.keep z5; have y6 := E1.keep z6)
    all_goals
      go_ret
      refine ⟨ret_bool (by rw [← HT.out]; simp [rightI, HK.out, fileB, noText, *] <;> (intros; omega)), ?_⟩
      first | exact E0.trans E1 | exact E0
  · have g1 : (x.kind == 1) = false := by simpa using k1
    by_cases k2 : x.kind = 2
    · have g2 : (x.kind == 2) = true := by simpa using k2
      have HK := hid k2
      clear k2 k1
      go_wp2_with (go_at_call 82; refine (K2.out _ E0.sits).mono ?_; rintro e w1 ⟨rfl, E1⟩; have y0 := E1.keep z0; have y1 := E1.keep z1; have y2 := E1.keep z2; have y3 := E1.keep z3; have y4 := E1.keep z4; have y5 := E1.keep z5; have y6 := E1.keep z6)
      all_goals
        go_ret
        refine ⟨ret_bool (by rw [← HT.out]; simp [rightI, HK.out, dirB, noText, *] <;> (intros; omega)), ?_⟩
        first | exact E0.trans E1 | exact E0
    · have g2 : (x.kind == 2) = false := by simpa using k2
      by_cases k3 : x.kind = 3
      · have g3 : (x.kind == 3) = true := by simpa using k3
        have HK := hid k3
        clear k3 k2 k1
        go_wp2_with (go_at_call 83; refine (K3.out _ E0.sits).mono ?_; rintro e w1 ⟨rfl, E1⟩; have y0 := E1.keep z0; have y1 := E1.keep z1; have y2 := E1.keep z2; have y3 := E1.keep z3; have y4 := E1.keep z4; have y5 := E1.keep z5; have y6 := E1.keep z6)
        all_goals
          go_ret
          refine ⟨ret_bool (by rw [← HT.out]; simp [rightI, HK.out, HLK.out, *] <;> (intros; omega)), ?_⟩
          first | exact E0.trans E1 | exact E0
      · have g3 : (x.kind == 3) = false := by simpa using k3
        have HK := hid (And.intro k1 (And.intro k2 k3))
        clear k3 k2 k1
        go_wp2_with (fail)
        all_goals
          go_ret
          refine ⟨ret_bool (by rw [← HT.out]; simp [rightI, HK.out.1, HK.out.2.1, HK.out.2.2, *] <;> (intros; omega)), ?_⟩
          first | exact E0.trans E1 | exact E0
end Go.Proofs.Ytkglaofiencfdaa

namespace Go.Proofs.Ytkglaofiencfdaa
open Go.RowKit Go.Sort
set_option linter.unusedVariables false
def newI (no kind : Int) (s : ByteArray) : Inode := ⟨no, kind, if kind = 2 then 2 else 1, if kind = 3 then s.size else 0, if kind = 3 then s else ⟨#[]⟩, [], []⟩
def newV (no kind : Int) (s : ByteArray) : Value := .agg #[.int .i64 no, .int .i64 kind, .int .i64 (newI no kind s).links, .int .i64 (newI no kind s).size, .string (newI no kind s).target, .slice none 0 0, .slice none 0 0]
set_option maxHeartbeats 2000000 in
theorem inode_New_1 (no : Int) (s : ByteArray) (hsz : s.size ≤ 9223372036854775807) (h : FH) (w : World) (hs : Sits h w) :
    Calls Try.prog 50 #[.int .i64 no, .int .i64 1, .string s] w fun e w' => e = .returned (newV no 1 s) ∧ Ext h w h w' := by
  have E0 := Ext.refl hs
  go_enter Try.func50, Try.ntmps50
  go_wp2
  refine bodyPost_ret (v := newV no 1 s) (by simp [results, Try.results50, go_sem, newV, newI]) rfl ⟨rfl, ?_⟩
  exact (((E0).alloc _).alloc _).alloc _
set_option maxHeartbeats 2000000 in
theorem inode_New_2 (no : Int) (s : ByteArray) (hsz : s.size ≤ 9223372036854775807) (h : FH) (w : World) (hs : Sits h w) :
    Calls Try.prog 50 #[.int .i64 no, .int .i64 2, .string s] w fun e w' => e = .returned (newV no 2 s) ∧ Ext h w h w' := by
  have E0 := Ext.refl hs
  go_enter Try.func50, Try.ntmps50
  go_wp2
  refine bodyPost_ret (v := newV no 2 s) (by simp [results, Try.results50, go_sem, newV, newI]) rfl ⟨rfl, ?_⟩
  exact (((E0).alloc _).alloc _).alloc _
set_option maxHeartbeats 2000000 in
theorem inode_New_3 (no : Int) (s : ByteArray) (hsz : s.size ≤ 9223372036854775807) (h : FH) (w : World) (hs : Sits h w) :
    Calls Try.prog 50 #[.int .i64 no, .int .i64 3, .string s] w fun e w' => e = .returned (newV no 3 s) ∧ Ext h w h w' := by
  have E0 := Ext.refl hs
  go_enter Try.func50, Try.ntmps50
  go_wp2
  refine bodyPost_ret (v := newV no 3 s) (by simp [results, Try.results50, go_sem, newV, newI]) rfl ⟨rfl, ?_⟩
  exact (((E0).alloc _).alloc _).alloc _
set_option maxHeartbeats 2000000 in
theorem inode_New_0 (no kind : Int) (k1 : ¬ kind = 1) (k2 : ¬ kind = 2) (k3 : ¬ kind = 3) (s : ByteArray) (hsz : s.size ≤ 9223372036854775807) (h : FH) (w : World) (hs : Sits h w) :
    Calls Try.prog 50 #[.int .i64 no, .int .i64 kind, .string s] w fun e w' => e = .returned (newV no kind s) ∧ Ext h w h w' := by
  have E0 := Ext.refl hs
  have g2 : (kind == 2) = false := by simpa using k2
  have g3 : (kind == 3) = false := by simpa using k3
  have hk : newV no kind s = .agg #[.int .i64 no, .int .i64 kind, .int .i64 1, .int .i64 0, .string ⟨#[]⟩, .slice none 0 0, .slice none 0 0] := by unfold newV newI; simp only [if_neg k2, if_neg k3]
  have HK := hid hk
  clear hk
  by_cases hp : kind ≤ 0
  · have hp1 : ¬ 0 < kind := by omega
    clear k1 k2 k3 hp
    go_enter Try.func50, Try.ntmps50
    go_wp2
    refine bodyPost_ret (v := .agg #[.int .i64 no, .int .i64 kind, .int .i64 1, .int .i64 0, .string ⟨#[]⟩, .slice none 0 0, .slice none 0 0]) (by simp [results, Try.results50, go_sem]) rfl ⟨by rw [HK.out], ?_⟩
    exact (((E0).alloc _).alloc _).alloc _
  · have hp1 : 0 < kind := by omega
    have hp2 : ¬ kind < 4 := by omega
    clear k1 k2 k3 hp
    go_enter Try.func50, Try.ntmps50
    go_wp2
    refine bodyPost_ret (v := .agg #[.int .i64 no, .int .i64 kind, .int .i64 1, .int .i64 0, .string ⟨#[]⟩, .slice none 0 0, .slice none 0 0]) (by simp [results, Try.results50, go_sem]) rfl ⟨by rw [HK.out], ?_⟩
    exact (((E0).alloc _).alloc _).alloc _
theorem inode_New (no kind : Int) (s : ByteArray) (hsz : s.size ≤ 9223372036854775807) (h : FH) (w : World) (hs : Sits h w) :
    Calls Try.prog 50 #[.int .i64 no, .int .i64 kind, .string s] w fun e w' => e = .returned (newV no kind s) ∧ Ext h w h w' := by
  by_cases k1 : kind = 1
  · subst k1; exact inode_New_1 no s hsz h w hs
  by_cases k2 : kind = 2
  · subst k2; exact inode_New_2 no s hsz h w hs
  by_cases k3 : kind = 3
  · subst k3; exact inode_New_3 no s hsz h w hs
  exact inode_New_0 no kind k1 k2 k3 s hsz h w hs
set_option maxHeartbeats 2000000 in
theorem ref_NewInode_1 (no : Int) (s : ByteArray) (hsz : s.size ≤ 9223372036854775807) (h : FH) (w : World) (hs : Sits h w) :
    Calls Try.prog 51 #[.int .i64 no, .int .i64 1, .string s] w fun e w' => e = .returned (newV no 1 s) ∧ Ext h w h w' := by
  have E0 := Ext.refl hs
  go_enter Try.func51, Try.ntmps51
  go_wp2
  refine bodyPost_ret (v := newV no 1 s) (by simp [results, Try.results51, go_sem, newV, newI]) rfl ⟨rfl, ?_⟩
  exact ((E0).alloc _).alloc _
set_option maxHeartbeats 2000000 in
theorem ref_NewInode_2 (no : Int) (s : ByteArray) (hsz : s.size ≤ 9223372036854775807) (h : FH) (w : World) (hs : Sits h w) :
    Calls Try.prog 51 #[.int .i64 no, .int .i64 2, .string s] w fun e w' => e = .returned (newV no 2 s) ∧ Ext h w h w' := by
  have E0 := Ext.refl hs
  go_enter Try.func51, Try.ntmps51
  go_wp2
  refine bodyPost_ret (v := newV no 2 s) (by simp [results, Try.results51, go_sem, newV, newI]) rfl ⟨rfl, ?_⟩
  exact ((E0).alloc _).alloc _
set_option maxHeartbeats 2000000 in
theorem ref_NewInode_3 (no : Int) (s : ByteArray) (hsz : s.size ≤ 9223372036854775807) (h : FH) (w : World) (hs : Sits h w) :
    Calls Try.prog 51 #[.int .i64 no, .int .i64 3, .string s] w fun e w' => e = .returned (newV no 3 s) ∧ Ext h w h w' := by
  have E0 := Ext.refl hs
  go_enter Try.func51, Try.ntmps51
  go_wp2
  refine bodyPost_ret (v := newV no 3 s) (by simp [results, Try.results51, go_sem, newV, newI]) rfl ⟨rfl, ?_⟩
  exact ((E0).alloc _).alloc _
set_option maxHeartbeats 2000000 in
theorem ref_NewInode_0 (no kind : Int) (k1 : ¬ kind = 1) (k2 : ¬ kind = 2) (k3 : ¬ kind = 3) (s : ByteArray) (hsz : s.size ≤ 9223372036854775807) (h : FH) (w : World) (hs : Sits h w) :
    Calls Try.prog 51 #[.int .i64 no, .int .i64 kind, .string s] w fun e w' => e = .returned (newV no kind s) ∧ Ext h w h w' := by
  have E0 := Ext.refl hs
  have g2 : (kind == 2) = false := by simpa using k2
  have g3 : (kind == 3) = false := by simpa using k3
  have hk : newV no kind s = .agg #[.int .i64 no, .int .i64 kind, .int .i64 1, .int .i64 0, .string ⟨#[]⟩, .slice none 0 0, .slice none 0 0] := by unfold newV newI; simp only [if_neg k2, if_neg k3]
  have HK := hid hk
  clear hk
  clear k1 k2 k3
  go_enter Try.func51, Try.ntmps51
  go_wp2
  refine bodyPost_ret (v := .agg #[.int .i64 no, .int .i64 kind, .int .i64 1, .int .i64 0, .string ⟨#[]⟩, .slice none 0 0, .slice none 0 0]) (by simp [results, Try.results51, go_sem]) rfl ⟨by rw [HK.out], ?_⟩
  exact ((E0).alloc _).alloc _
theorem ref_NewInode (no kind : Int) (s : ByteArray) (hsz : s.size ≤ 9223372036854775807) (h : FH) (w : World) (hs : Sits h w) :
    Calls Try.prog 51 #[.int .i64 no, .int .i64 kind, .string s] w fun e w' => e = .returned (newV no kind s) ∧ Ext h w h w' := by
  by_cases k1 : kind = 1
  · subst k1; exact ref_NewInode_1 no s hsz h w hs
  by_cases k2 : kind = 2
  · subst k2; exact ref_NewInode_2 no s hsz h w hs
  by_cases k3 : kind = 3
  · subst k3; exact ref_NewInode_3 no s hsz h w hs
  exact ref_NewInode_0 no kind k1 k2 k3 s hsz h w hs
theorem newI_size (no kind : Int) (s : ByteArray) (hsz : s.size ≤ 9223372036854775807) : (newI no kind s).target.size ≤ 9223372036854775807 := by
  unfold newI
  simp only
  split
  · exact hsz
  · exact Nat.zero_le _
theorem newV_rep (h : FH) (no kind : Int) (s : ByteArray) (hsz : s.size ≤ 9223372036854775807) : ∃ cs : List Value, newV no kind s = .agg cs.toArray ∧ repInode h cs (newI no kind s) :=
  ⟨_, rfl, none, 0, none, 0, rfl, newI_size no kind s hsz, ⟨Nat.le_refl _, fun _ => rfl, by decide⟩, RowAt.nil _ _, ⟨Nat.le_refl _, fun _ => rfl, by decide⟩, RowAt.nil _ _⟩
end Go.Proofs.Ytkglaofiencfdaa

namespace Go.Proofs.Ytkglaofiencfdaa
open Go.RowKit Go.Sort
set_option linter.unusedVariables false
def statV (x : Inode) : Value := .agg #[.int .i64 x.no, .int .i64 x.kind, .int .i64 x.links, .int .i64 (if x.kind = 2 then (x.entries.length : Int) else x.size), .int .i64 ((pagesR x.runs).length : Int)]
theorem Ext.row {h h1 : FH} {w w1 : World} {b : Nat} {o : Obj} (E : Ext h w h1 w1) (hb : w.heap[b]? = some o) : w1.heap[b]? = some o := by
  rw [E.below.block b (Array.getElem?_eq_some_iff.1 hb).1]; exact hb
theorem Ext.more {h h2 h' h'' : FH} {w w1 wf : World} (E : Ext h w h2 w1) (Ef : Ext h' w1 h'' wf) : Ext h w h2 wf := E.trans (Ext.of_below E.sits Ef.below)
end Go.Proofs.Ytkglaofiencfdaa
