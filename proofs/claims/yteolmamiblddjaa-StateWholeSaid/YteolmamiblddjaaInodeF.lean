import Derived.Test.YteolmamiblddjaaEnt
import Derived.Test.YteolmamiblddjaaRefRuns
namespace Go.Proofs.Yteolmamiblddjaa
open Go.RowKit Go.Sort
set_option linter.unusedVariables false
/-! ### what inodes mean -/
def noText (s : ByteArray) : Bool := s.toList.isEmpty
def fileB (x : Inode) : Bool := decide (0 ≤ x.size) && decide (x.size ≤ 16384) && rightB x.runs && noText x.target && ((x.entries.length : Int) == 0)
def dirB (x : Inode) : Bool := (x.size == 0) && rightE x.entries && noText x.target && ((x.runs.length : Int) == 0)
set_option maxHeartbeats 2000000 in
set_option maxRecDepth 100000 in
theorem inode_file (x : Inode) (cs : List Value) (t : Bool) (ht : fileB x = t) (h : FH) (w : World) (hs : Sits h w) (r : repInode h cs x) :
    Calls Try.prog 101 #[.agg cs.toArray] w fun e w' => e = .returned (.bool t) ∧ Ext h w h w' := by
  obtain ⟨A5, c5, A6, c6, rfl, s0, s1, s2, s3, s4⟩ := r
  have hlE := s2.1
  have hlR := s4.1
  have HT := hid ht
  have E0 := (Ext.refl hs).alloc (.cells #[.int .i64 x.no, .int .i64 x.kind, .int .i64 x.links, .int .i64 x.size, .string x.target, .slice A5 x.entries.length c5, .slice A6 x.runs.length c6] 37)
  clear ht
  obtain ⟨q, hq⟩ : ∃ q, rightB x.runs = q := ⟨_, rfl⟩
  have HQ := hid hq
  clear hq
  have K := hid (fun w hs => runs_Right x.runs A6 c6 q HQ.out h w hs s4)
  have z0 : (w.alloc (.cells #[.int .i64 x.no, .int .i64 x.kind, .int .i64 x.links, .int .i64 x.size, .string x.target, .slice A5 x.entries.length c5, .slice A6 x.runs.length c6] 37)).cell? ⟨w.heap.size, 0, none⟩ = some (.int .i64 x.no) := by go_simp
  have z1 : (w.alloc (.cells #[.int .i64 x.no, .int .i64 x.kind, .int .i64 x.links, .int .i64 x.size, .string x.target, .slice A5 x.entries.length c5, .slice A6 x.runs.length c6] 37)).cell? ⟨w.heap.size, 1, none⟩ = some (.int .i64 x.kind) := by go_simp
  have z2 : (w.alloc (.cells #[.int .i64 x.no, .int .i64 x.kind, .int .i64 x.links, .int .i64 x.size, .string x.target, .slice A5 x.entries.length c5, .slice A6 x.runs.length c6] 37)).cell? ⟨w.heap.size, 2, none⟩ = some (.int .i64 x.links) := by go_simp
  have z3 : (w.alloc (.cells #[.int .i64 x.no, .int .i64 x.kind, .int .i64 x.links, .int .i64 x.size, .string x.target, .slice A5 x.entries.length c5, .slice A6 x.runs.length c6] 37)).cell? ⟨w.heap.size, 3, none⟩ = some (.int .i64 x.size) := by go_simp
  have z4 : (w.alloc (.cells #[.int .i64 x.no, .int .i64 x.kind, .int .i64 x.links, .int .i64 x.size, .string x.target, .slice A5 x.entries.length c5, .slice A6 x.runs.length c6] 37)).cell? ⟨w.heap.size, 4, none⟩ = some (.string x.target) := by go_simp
  have z5 : (w.alloc (.cells #[.int .i64 x.no, .int .i64 x.kind, .int .i64 x.links, .int .i64 x.size, .string x.target, .slice A5 x.entries.length c5, .slice A6 x.runs.length c6] 37)).cell? ⟨w.heap.size, 5, none⟩ = some (.slice A5 x.entries.length c5) := by go_simp
  have z6 : (w.alloc (.cells #[.int .i64 x.no, .int .i64 x.kind, .int .i64 x.links, .int .i64 x.size, .string x.target, .slice A5 x.entries.length c5, .slice A6 x.runs.length c6] 37)).cell? ⟨w.heap.size, 6, none⟩ = some (.slice A6 x.runs.length c6) := by go_simp
  go_enter Try.func101, Try.ntmps101
  go_upto_region 1 with (fail)
  generalize (w.alloc (.cells #[.int .i64 x.no, .int .i64 x.kind, .int .i64 x.links, .int .i64 x.size, .string x.target, .slice A5 x.entries.length c5, .slice A6 x.runs.length c6] 37)) = W1 at *
  generalize w.heap.size = g at *
  go_wp2_with (go_at_call 110; refine (K.out _ E0.sits).mono ?_; rintro e w1 ⟨rfl, E1⟩; have y0 := E1.keep z0; have y1 := E1.keep z1; have y2 := E1.keep z2; have y3 := E1.keep z3; have y4 := E1.keep z4; have y5 := E1.keep z5; have y6 := E1.keep z6)
  all_goals
    go_ret
    refine ⟨ret_bool (by rw [← HT.out]; simp [fileB, noText, HQ.out, *] <;> (intros; omega)), ?_⟩
    first | exact E0.trans E1 | exact E0
set_option maxHeartbeats 2000000 in
set_option maxRecDepth 100000 in
theorem inode_dir (x : Inode) (cs : List Value) (t : Bool) (ht : dirB x = t) (h : FH) (w : World) (hs : Sits h w) (r : repInode h cs x) :
    Calls Try.prog 102 #[.agg cs.toArray] w fun e w' => e = .returned (.bool t) ∧ Ext h w h w' := by
  obtain ⟨A5, c5, A6, c6, rfl, s0, s1, s2, s3, s4⟩ := r
  have hlE := s2.1
  have hlR := s4.1
  have HT := hid ht
  have E0 := (Ext.refl hs).alloc (.cells #[.int .i64 x.no, .int .i64 x.kind, .int .i64 x.links, .int .i64 x.size, .string x.target, .slice A5 x.entries.length c5, .slice A6 x.runs.length c6] 37)
  clear ht
  obtain ⟨q, hq⟩ : ∃ q, rightE x.entries = q := ⟨_, rfl⟩
  have HQ := hid hq
  clear hq
  have K := hid (fun w hs => entries_Right x.entries A5 c5 q HQ.out h w hs s2)
  have z0 : (w.alloc (.cells #[.int .i64 x.no, .int .i64 x.kind, .int .i64 x.links, .int .i64 x.size, .string x.target, .slice A5 x.entries.length c5, .slice A6 x.runs.length c6] 37)).cell? ⟨w.heap.size, 0, none⟩ = some (.int .i64 x.no) := by go_simp
  have z1 : (w.alloc (.cells #[.int .i64 x.no, .int .i64 x.kind, .int .i64 x.links, .int .i64 x.size, .string x.target, .slice A5 x.entries.length c5, .slice A6 x.runs.length c6] 37)).cell? ⟨w.heap.size, 1, none⟩ = some (.int .i64 x.kind) := by go_simp
  have z2 : (w.alloc (.cells #[.int .i64 x.no, .int .i64 x.kind, .int .i64 x.links, .int .i64 x.size, .string x.target, .slice A5 x.entries.length c5, .slice A6 x.runs.length c6] 37)).cell? ⟨w.heap.size, 2, none⟩ = some (.int .i64 x.links) := by go_simp
  have z3 : (w.alloc (.cells #[.int .i64 x.no, .int .i64 x.kind, .int .i64 x.links, .int .i64 x.size, .string x.target, .slice A5 x.entries.length c5, .slice A6 x.runs.length c6] 37)).cell? ⟨w.heap.size, 3, none⟩ = some (.int .i64 x.size) := by go_simp
  have z4 : (w.alloc (.cells #[.int .i64 x.no, .int .i64 x.kind, .int .i64 x.links, .int .i64 x.size, .string x.target, .slice A5 x.entries.length c5, .slice A6 x.runs.length c6] 37)).cell? ⟨w.heap.size, 4, none⟩ = some (.string x.target) := by go_simp
  have z5 : (w.alloc (.cells #[.int .i64 x.no, .int .i64 x.kind, .int .i64 x.links, .int .i64 x.size, .string x.target, .slice A5 x.entries.length c5, .slice A6 x.runs.length c6] 37)).cell? ⟨w.heap.size, 5, none⟩ = some (.slice A5 x.entries.length c5) := by go_simp
  have z6 : (w.alloc (.cells #[.int .i64 x.no, .int .i64 x.kind, .int .i64 x.links, .int .i64 x.size, .string x.target, .slice A5 x.entries.length c5, .slice A6 x.runs.length c6] 37)).cell? ⟨w.heap.size, 6, none⟩ = some (.slice A6 x.runs.length c6) := by go_simp
  go_enter Try.func102, Try.ntmps102
  go_upto_region 1 with (fail)
  generalize (w.alloc (.cells #[.int .i64 x.no, .int .i64 x.kind, .int .i64 x.links, .int .i64 x.size, .string x.target, .slice A5 x.entries.length c5, .slice A6 x.runs.length c6] 37)) = W1 at *
  generalize w.heap.size = g at *
  go_wp2_with (go_at_call 111; refine (K.out _ E0.sits).mono ?_; rintro e w1 ⟨rfl, E1⟩; have y0 := E1.keep z0; have y1 := E1.keep z1; have y2 := E1.keep z2; have y3 := E1.keep z3; have y4 := E1.keep z4; have y5 := E1.keep z5; have y6 := E1.keep z6)
  all_goals
    go_ret
    refine ⟨ret_bool (by rw [← HT.out]; simp [dirB, noText, HQ.out, *] <;> (intros; omega)), ?_⟩
    first | exact E0.trans E1 | exact E0
def noZero (s : ByteArray) : Bool := s.data.toList.all (fun c => !(c == 0))
theorem firstIdx_none {s : ByteArray} (h : noZero s = true) : firstIdx s 0 = -1 := by
  unfold firstIdx
  split
  · rename_i i hi
    have h1 := List.find?_some hi
    have h2 : i < s.size := by simpa using List.mem_of_find?_eq_some hi
    unfold noZero at h
    rw [List.all_eq_true] at h
    have h3 := h (s.data[i]'h2) (by simp)
    have h4 : s[i]! = s.data[i]'h2 := getElem!_pos s i h2
    rw [h4] at h1
    simp_all
  · rfl
theorem firstIdx_some {s : ByteArray} (h : noZero s = false) : ∃ n : Nat, firstIdx s 0 = n := by
  unfold firstIdx
  split
  · rename_i i hi; exact ⟨i, rfl⟩
  · rename_i hi
    rw [List.find?_eq_none] at hi
    unfold noZero at h
    rw [List.all_eq_false] at h
    obtain ⟨c, hc, h0⟩ := h
    obtain ⟨i, hl, rfl⟩ := List.mem_iff_getElem.1 hc
    have hl2 : i < s.size := by simpa using hl
    have h3 := hi i (by simpa using hl2)
    have h4 : s[i]! = s.data[i]'hl2 := getElem!_pos s i hl2
    rw [h4] at h3
    simp_all
theorem extern_index (s : ByteArray) (w : World) : (callFunc 121 #[.string s, .int .u8 0]).run Try.prog w = .ok (.value (.int .i64 (firstIdx s 0))) w := by
  rw [run_callFunc_extern (P := Try.prog) (f := 121) (e := Extern.BytealgIndexByte.indexByte) Try.func121 (by kernel_rfl) (by kernel_rfl) (by kernel_rfl) (by kernel_rfl), run_indexByte_string]
  rfl
theorem strings_IndexByte0 (s : ByteArray) (v : Int) (hv : firstIdx s 0 = v) (h : FH) (w : World) (hs : Sits h w) :
    Calls Try.prog 112 #[.string s, .int .u8 0] w fun e w' => e = .returned (.int .i64 v) ∧ Ext h w h w' := by
  have hx := fun w => extern_index s w
  rw [hv] at hx
  go_enter Try.func112, Try.ntmps112
  go_wp2
  go_ret
  exact ⟨rfl, Ext.refl hs⟩
def linkB (x : Inode) : Bool := decide ((1 : Int) ≤ x.target.size) && decide ((x.target.size : Int) ≤ 200) && noZero x.target && (x.size == (x.target.size : Int)) && ((x.entries.length : Int) == 0) && ((x.runs.length : Int) == 0)
set_option maxHeartbeats 2000000 in
set_option maxRecDepth 100000 in
theorem inode_link_a (x : Inode) (cs : List Value) (t : Bool) (hz : noZero x.target = true) (ht : linkB x = t) (h : FH) (w : World) (hs : Sits h w) (r : repInode h cs x) :
    Calls Try.prog 103 #[.agg cs.toArray] w fun e w' => e = .returned (.bool t) ∧ Ext h w h w' := by
  obtain ⟨A5, c5, A6, c6, rfl, s0, s1, s2, s3, s4⟩ := r
  have hlE := s2.1
  have hlR := s4.1
  have HT := hid ht
  have E0 := (Ext.refl hs).alloc (.cells #[.int .i64 x.no, .int .i64 x.kind, .int .i64 x.links, .int .i64 x.size, .string x.target, .slice A5 x.entries.length c5, .slice A6 x.runs.length c6] 37)
  clear ht
  have HZ := hid hz
  clear hz
  have K := hid (fun w hs => strings_IndexByte0 x.target (-1) (firstIdx_none HZ.out) h w hs)
  have z0 : (w.alloc (.cells #[.int .i64 x.no, .int .i64 x.kind, .int .i64 x.links, .int .i64 x.size, .string x.target, .slice A5 x.entries.length c5, .slice A6 x.runs.length c6] 37)).cell? ⟨w.heap.size, 0, none⟩ = some (.int .i64 x.no) := by go_simp
  have z1 : (w.alloc (.cells #[.int .i64 x.no, .int .i64 x.kind, .int .i64 x.links, .int .i64 x.size, .string x.target, .slice A5 x.entries.length c5, .slice A6 x.runs.length c6] 37)).cell? ⟨w.heap.size, 1, none⟩ = some (.int .i64 x.kind) := by go_simp
  have z2 : (w.alloc (.cells #[.int .i64 x.no, .int .i64 x.kind, .int .i64 x.links, .int .i64 x.size, .string x.target, .slice A5 x.entries.length c5, .slice A6 x.runs.length c6] 37)).cell? ⟨w.heap.size, 2, none⟩ = some (.int .i64 x.links) := by go_simp
  have z3 : (w.alloc (.cells #[.int .i64 x.no, .int .i64 x.kind, .int .i64 x.links, .int .i64 x.size, .string x.target, .slice A5 x.entries.length c5, .slice A6 x.runs.length c6] 37)).cell? ⟨w.heap.size, 3, none⟩ = some (.int .i64 x.size) := by go_simp
  have z4 : (w.alloc (.cells #[.int .i64 x.no, .int .i64 x.kind, .int .i64 x.links, .int .i64 x.size, .string x.target, .slice A5 x.entries.length c5, .slice A6 x.runs.length c6] 37)).cell? ⟨w.heap.size, 4, none⟩ = some (.string x.target) := by go_simp
  have z5 : (w.alloc (.cells #[.int .i64 x.no, .int .i64 x.kind, .int .i64 x.links, .int .i64 x.size, .string x.target, .slice A5 x.entries.length c5, .slice A6 x.runs.length c6] 37)).cell? ⟨w.heap.size, 5, none⟩ = some (.slice A5 x.entries.length c5) := by go_simp
  have z6 : (w.alloc (.cells #[.int .i64 x.no, .int .i64 x.kind, .int .i64 x.links, .int .i64 x.size, .string x.target, .slice A5 x.entries.length c5, .slice A6 x.runs.length c6] 37)).cell? ⟨w.heap.size, 6, none⟩ = some (.slice A6 x.runs.length c6) := by go_simp
  go_enter Try.func103, Try.ntmps103
  go_upto_region 1 with (fail)
  generalize (w.alloc (.cells #[.int .i64 x.no, .int .i64 x.kind, .int .i64 x.links, .int .i64 x.size, .string x.target, .slice A5 x.entries.length c5, .slice A6 x.runs.length c6] 37)) = W1 at *
  generalize w.heap.size = g at *
  go_wp2_with (go_at_call 112; refine (K.out _ E0.sits).mono ?_; rintro e w1 ⟨rfl, E1⟩; have y0 := E1.keep z0; have y1 := E1.keep z1; have y2 := E1.keep z2; have y3 := E1.keep z3; have y4 := E1.keep z4; have y5 := E1.keep z5; have y6 := E1.keep z6)
  all_goals
    go_ret
    refine ⟨ret_bool (by rw [← HT.out]; simp [linkB, HZ.out, *] <;> (intros; omega)), ?_⟩
    first | exact E0.trans E1 | exact E0
set_option maxHeartbeats 2000000 in
set_option maxRecDepth 100000 in
theorem inode_link_b (x : Inode) (cs : List Value) (t : Bool) (hz : noZero x.target = false) (ht : linkB x = t) (h : FH) (w : World) (hs : Sits h w) (r : repInode h cs x) :
    Calls Try.prog 103 #[.agg cs.toArray] w fun e w' => e = .returned (.bool t) ∧ Ext h w h w' := by
  obtain ⟨A5, c5, A6, c6, rfl, s0, s1, s2, s3, s4⟩ := r
  have hlE := s2.1
  have hlR := s4.1
  have HT := hid ht
  have E0 := (Ext.refl hs).alloc (.cells #[.int .i64 x.no, .int .i64 x.kind, .int .i64 x.links, .int .i64 x.size, .string x.target, .slice A5 x.entries.length c5, .slice A6 x.runs.length c6] 37)
  clear ht
  have HZ := hid hz
  clear hz
  obtain ⟨n, hn⟩ := firstIdx_some HZ.out
  have hn0 : (0 : Int) ≤ (n : Int) := by omega
  have K := hid (fun w hs => strings_IndexByte0 x.target n hn h w hs)
  clear hn
  have z0 : (w.alloc (.cells #[.int .i64 x.no, .int .i64 x.kind, .int .i64 x.links, .int .i64 x.size, .string x.target, .slice A5 x.entries.length c5, .slice A6 x.runs.length c6] 37)).cell? ⟨w.heap.size, 0, none⟩ = some (.int .i64 x.no) := by go_simp
  have z1 : (w.alloc (.cells #[.int .i64 x.no, .int .i64 x.kind, .int .i64 x.links, .int .i64 x.size, .string x.target, .slice A5 x.entries.length c5, .slice A6 x.runs.length c6] 37)).cell? ⟨w.heap.size, 1, none⟩ = some (.int .i64 x.kind) := by go_simp
  have z2 : (w.alloc (.cells #[.int .i64 x.no, .int .i64 x.kind, .int .i64 x.links, .int .i64 x.size, .string x.target, .slice A5 x.entries.length c5, .slice A6 x.runs.length c6] 37)).cell? ⟨w.heap.size, 2, none⟩ = some (.int .i64 x.links) := by go_simp
  have z3 : (w.alloc (.cells #[.int .i64 x.no, .int .i64 x.kind, .int .i64 x.links, .int .i64 x.size, .string x.target, .slice A5 x.entries.length c5, .slice A6 x.runs.length c6] 37)).cell? ⟨w.heap.size, 3, none⟩ = some (.int .i64 x.size) := by go_simp
  have z4 : (w.alloc (.cells #[.int .i64 x.no, .int .i64 x.kind, .int .i64 x.links, .int .i64 x.size, .string x.target, .slice A5 x.entries.length c5, .slice A6 x.runs.length c6] 37)).cell? ⟨w.heap.size, 4, none⟩ = some (.string x.target) := by go_simp
  have z5 : (w.alloc (.cells #[.int .i64 x.no, .int .i64 x.kind, .int .i64 x.links, .int .i64 x.size, .string x.target, .slice A5 x.entries.length c5, .slice A6 x.runs.length c6] 37)).cell? ⟨w.heap.size, 5, none⟩ = some (.slice A5 x.entries.length c5) := by go_simp
  have z6 : (w.alloc (.cells #[.int .i64 x.no, .int .i64 x.kind, .int .i64 x.links, .int .i64 x.size, .string x.target, .slice A5 x.entries.length c5, .slice A6 x.runs.length c6] 37)).cell? ⟨w.heap.size, 6, none⟩ = some (.slice A6 x.runs.length c6) := by go_simp
  go_enter Try.func103, Try.ntmps103
  go_upto_region 1 with (fail)
  generalize (w.alloc (.cells #[.int .i64 x.no, .int .i64 x.kind, .int .i64 x.links, .int .i64 x.size, .string x.target, .slice A5 x.entries.length c5, .slice A6 x.runs.length c6] 37)) = W1 at *
  generalize w.heap.size = g at *
  go_wp2_with (go_at_call 112; refine (K.out _ E0.sits).mono ?_; rintro e w1 ⟨rfl, E1⟩; have y0 := E1.keep z0; have y1 := E1.keep z1; have y2 := E1.keep z2; have y3 := E1.keep z3; have y4 := E1.keep z4; have y5 := E1.keep z5; have y6 := E1.keep z6)
  all_goals
    go_ret
    refine ⟨ret_bool (by rw [← HT.out]; simp [linkB, HZ.out, *] <;> (intros; omega)), ?_⟩
    first | exact E0.trans E1 | exact E0
theorem inode_link (x : Inode) (cs : List Value) (t : Bool) (ht : linkB x = t) (h : FH) (w : World) (hs : Sits h w) (r : repInode h cs x) :
    Calls Try.prog 103 #[.agg cs.toArray] w fun e w' => e = .returned (.bool t) ∧ Ext h w h w' := by
  cases hz : noZero x.target with
  | true => exact inode_link_a x cs t hz ht h w hs r
  | false => exact inode_link_b x cs t hz ht h w hs r
def targetB (s : ByteArray) : Bool := noZero s && decide ((1 : Int) ≤ s.size) && decide ((s.size : Int) ≤ 200)
theorem zero_step {s : ByteArray} {k : Nat} {c : UInt8} (h : (s.data.toList.take k).all (fun c => !(c == 0)) = true) (hc : s.data[k]? = some c) (h1 : ¬ c = 0) : (s.data.toList.take (k + 1)).all (fun c => !(c == 0)) = true := by
  rw [List.take_add_one, List.all_append, h, show s.data.toList[k]? = some c by simpa using hc]
  simp [h1]
theorem noZero_bad {s : ByteArray} {k : Nat} (hc : s.data[k]? = some 0) : noZero s = false := by
  unfold noZero
  rw [List.all_eq_false]
  exact ⟨0, List.mem_of_getElem? (i := k) (by simpa using hc), by simp⟩
set_option maxHeartbeats 2000000 in
theorem ref_RightTarget (s : ByteArray) (hsz : s.size ≤ 9223372036854775807) (t : Bool) (ht : targetB s = t) (h : FH) (w : World) (hs : Sits h w) :
    Calls Try.prog 85 #[.string s] w fun e w' => e = .returned (.bool t) ∧ Ext h w h w' := by
  have HT := hid ht
  have E2 := Ext.refl hs
  clear ht
  go_enter Try.func85, Try.ntmps85
  go_wp2_with fail
  go_loop [3] (fun i => ∃ k : Nat, k ≤ s.size ∧ i = .int .i64 k ∧ Hid ((s.data.toList.take k).all (fun c => !(c == 0)) = true)) (fun i => s.size - (intOf i).toNat)
  case atStart => exact ⟨0, Nat.zero_le _, rfl, rfl⟩
  case round =>
    obtain ⟨k, hk, rfl, HN⟩ := hrel
    by_cases hlt : k < s.size
    · obtain ⟨c, hc⟩ : ∃ c, s.data[k]? = some c := ⟨s.data[k]'hlt, Array.getElem?_eq_getElem _⟩
      have hidx := fun w => index_str 9 Try.underlying9 hc .i64 w
      by_cases hz : c = 0
      · subst hz
        have HF := hid (show targetB s = false by unfold targetB; rw [noZero_bad hc]; rfl)
        clear hc
        rw [show ((0 : UInt8).toNat : Int) = 0 from rfl] at hidx
        go_wp2
        go_ret
        exact ⟨ret_bool (by rw [← HT.out, HF.out]), E2⟩
      · have e0 : ((c.toNat : Int) == 0) = false := by
          simp
          intro e
          exact hz (UInt8.toNat_inj.1 (by simpa using e))
        have HST := hid (zero_step HN.out hc hz)
        clear hz hc
        go_wp2
        go_round
        case rel => exact ⟨k + 1, by omega, by go_num, HST⟩
        case measure => simp [intOf]; omega
    · obtain rfl : k = s.size := by omega
      have HB2 := hid (show noZero s = true by have h1 := HN.out; rwa [List.take_of_length_le (by simp)] at h1)
      go_wp2
      all_goals
        go_ret
        exact ⟨ret_bool (by rw [← HT.out]; unfold targetB; rw [HB2.out]; simp [*] <;> omega), E2⟩
theorem linkB_target (x : Inode) : linkB x = (targetB x.target && (x.size == (x.target.size : Int)) && ((x.entries.length : Int) == 0) && ((x.runs.length : Int) == 0)) := by
  unfold linkB targetB
  generalize noZero x.target = a
  generalize decide ((1 : Int) ≤ x.target.size) = b
  generalize decide ((x.target.size : Int) ≤ 200) = c
  cases a <;> cases b <;> cases c <;> simp
def rightI (x : Inode) : Bool := decide (0 < x.no) && decide (0 ≤ x.links) && decide (x.links ≤ 100) && (if x.kind = 1 then fileB x else if x.kind = 2 then dirB x else if x.kind = 3 then linkB x else false)
set_option maxHeartbeats 2000000 in
set_option maxRecDepth 100000 in
theorem inode_Right (x : Inode) (cs : List Value) (t : Bool) (ht : rightI x = t) (h : FH) (w : World) (hs : Sits h w) (r : repInode h cs x) :
    Calls Try.prog 68 #[.agg cs.toArray] w fun e w' => e = .returned (.bool t) ∧ Ext h w h w' := by
  obtain ⟨A5, c5, A6, c6, rfl, s0, s1, s2, s3, s4⟩ := r
  have hlE := s2.1
  have hlR := s4.1
  have HT := hid ht
  have E0 := (Ext.refl hs).alloc (.cells #[.int .i64 x.no, .int .i64 x.kind, .int .i64 x.links, .int .i64 x.size, .string x.target, .slice A5 x.entries.length c5, .slice A6 x.runs.length c6] 37)
  clear ht
  have K1 := hid (fun w hs => inode_file x _ (fileB x) rfl h w hs ⟨A5, c5, A6, c6, rfl, s0, s1, s2, s3, s4⟩)
  have K2 := hid (fun w hs => inode_dir x _ (dirB x) rfl h w hs ⟨A5, c5, A6, c6, rfl, s0, s1, s2, s3, s4⟩)
  have K3 := hid (fun w hs => inode_link x _ (linkB x) rfl h w hs ⟨A5, c5, A6, c6, rfl, s0, s1, s2, s3, s4⟩)
  have z0 : (w.alloc (.cells #[.int .i64 x.no, .int .i64 x.kind, .int .i64 x.links, .int .i64 x.size, .string x.target, .slice A5 x.entries.length c5, .slice A6 x.runs.length c6] 37)).cell? ⟨w.heap.size, 0, none⟩ = some (.int .i64 x.no) := by go_simp
  have z1 : (w.alloc (.cells #[.int .i64 x.no, .int .i64 x.kind, .int .i64 x.links, .int .i64 x.size, .string x.target, .slice A5 x.entries.length c5, .slice A6 x.runs.length c6] 37)).cell? ⟨w.heap.size, 1, none⟩ = some (.int .i64 x.kind) := by go_simp
  have z2 : (w.alloc (.cells #[.int .i64 x.no, .int .i64 x.kind, .int .i64 x.links, .int .i64 x.size, .string x.target, .slice A5 x.entries.length c5, .slice A6 x.runs.length c6] 37)).cell? ⟨w.heap.size, 2, none⟩ = some (.int .i64 x.links) := by go_simp
  have z3 : (w.alloc (.cells #[.int .i64 x.no, .int .i64 x.kind, .int .i64 x.links, .int .i64 x.size, .string x.target, .slice A5 x.entries.length c5, .slice A6 x.runs.length c6] 37)).cell? ⟨w.heap.size, 3, none⟩ = some (.int .i64 x.size) := by go_simp
  have z4 : (w.alloc (.cells #[.int .i64 x.no, .int .i64 x.kind, .int .i64 x.links, .int .i64 x.size, .string x.target, .slice A5 x.entries.length c5, .slice A6 x.runs.length c6] 37)).cell? ⟨w.heap.size, 4, none⟩ = some (.string x.target) := by go_simp
  have z5 : (w.alloc (.cells #[.int .i64 x.no, .int .i64 x.kind, .int .i64 x.links, .int .i64 x.size, .string x.target, .slice A5 x.entries.length c5, .slice A6 x.runs.length c6] 37)).cell? ⟨w.heap.size, 5, none⟩ = some (.slice A5 x.entries.length c5) := by go_simp
  have z6 : (w.alloc (.cells #[.int .i64 x.no, .int .i64 x.kind, .int .i64 x.links, .int .i64 x.size, .string x.target, .slice A5 x.entries.length c5, .slice A6 x.runs.length c6] 37)).cell? ⟨w.heap.size, 6, none⟩ = some (.slice A6 x.runs.length c6) := by go_simp
  go_enter Try.func68, Try.ntmps68
  go_upto_region 1 with (fail)
  generalize (w.alloc (.cells #[.int .i64 x.no, .int .i64 x.kind, .int .i64 x.links, .int .i64 x.size, .string x.target, .slice A5 x.entries.length c5, .slice A6 x.runs.length c6] 37)) = W1 at *
  generalize w.heap.size = g at *
  by_cases k1 : x.kind = 1
  · have g1 : (x.kind == 1) = true := by simpa using k1
    have HK := hid k1
    clear k1
    go_wp2_with (go_at_call 101; refine (K1.out _ E0.sits).mono ?_; rintro e w1 ⟨rfl, E1⟩)
    all_goals
      go_ret
      refine ⟨ret_bool (by rw [← HT.out]; simp [rightI, HK.out, *] <;> (intros; omega)), ?_⟩
      first | exact E0.trans E1 | exact E0
  · have g1 : (x.kind == 1) = false := by simpa using k1
    by_cases k2 : x.kind = 2
    · have g2 : (x.kind == 2) = true := by simpa using k2
      have HK := hid k2
      clear k2 k1
      go_wp2_with (go_at_call 102; refine (K2.out _ E0.sits).mono ?_; rintro e w1 ⟨rfl, E1⟩)
      all_goals
        go_ret
        refine ⟨ret_bool (by rw [← HT.out]; simp [rightI, HK.out, *] <;> (intros; omega)), ?_⟩
        first | exact E0.trans E1 | exact E0
    · have g2 : (x.kind == 2) = false := by simpa using k2
      by_cases k3 : x.kind = 3
      · have g3 : (x.kind == 3) = true := by simpa using k3
        have HK := hid k3
        clear k3 k2 k1
        go_wp2_with (go_at_call 103; refine (K3.out _ E0.sits).mono ?_; rintro e w1 ⟨rfl, E1⟩)
        all_goals
          go_ret
          refine ⟨ret_bool (by rw [← HT.out]; simp [rightI, HK.out, *] <;> (intros; omega)), ?_⟩
          first | exact E0.trans E1 | exact E0
      · have g3 : (x.kind == 3) = false := by simpa using k3
        have HK := hid (And.intro k1 (And.intro k2 k3))
        clear k3 k2 k1
        go_wp2_with (fail)
        all_goals
          go_ret
          refine ⟨ret_bool (by rw [← HT.out]; simp [rightI, HK.out.1, HK.out.2.1, HK.out.2.2, *] <;> (intros; omega)), ?_⟩
          first | exact E0.trans E1 | exact E0
set_option maxHeartbeats 2000000 in
set_option maxRecDepth 100000 in
theorem ref_RightInode (x : Inode) (cs : List Value) (t : Bool) (ht : rightI x = t) (h : FH) (w : World) (hs : Sits h w) (r : repInode h cs x) :
    Calls Try.prog 52 #[.agg cs.toArray] w fun e w' => e = .returned (.bool t) ∧ Ext h w h w' := by
  obtain ⟨A5, c5, A6, c6, rfl, s0, s1, s2, s3, s4⟩ := r
  have hlE := s2.1
  have hlR := s4.1
  have HT := hid ht
  have E0 := (Ext.refl hs).alloc (.cells #[.int .i64 x.no, .int .i64 x.kind, .int .i64 x.links, .int .i64 x.size, .string x.target, .slice A5 x.entries.length c5, .slice A6 x.runs.length c6] 37)
  clear ht
  have K1 := hid (fun w hs => ref_RightRuns x.runs A6 c6 (rightB x.runs) rfl h w hs s4)
  have K2 := hid (fun w hs => ref_RightEntries x.entries A5 c5 (rightE x.entries) rfl h w hs s2)
  have K3 := hid (fun w hs => ref_RightTarget x.target s0 (targetB x.target) rfl h w hs)
  have HLK := hid (linkB_target x)
  have z0 : (w.alloc (.cells #[.int .i64 x.no, .int .i64 x.kind, .int .i64 x.links, .int .i64 x.size, .string x.target, .slice A5 x.entries.length c5, .slice A6 x.runs.length c6] 37)).cell? ⟨w.heap.size, 0, none⟩ = some (.int .i64 x.no) := by go_simp
  have z1 : (w.alloc (.cells #[.int .i64 x.no, .int .i64 x.kind, .int .i64 x.links, .int .i64 x.size, .string x.target, .slice A5 x.entries.length c5, .slice A6 x.runs.length c6] 37)).cell? ⟨w.heap.size, 1, none⟩ = some (.int .i64 x.kind) := by go_simp
  have z2 : (w.alloc (.cells #[.int .i64 x.no, .int .i64 x.kind, .int .i64 x.links, .int .i64 x.size, .string x.target, .slice A5 x.entries.length c5, .slice A6 x.runs.length c6] 37)).cell? ⟨w.heap.size, 2, none⟩ = some (.int .i64 x.links) := by go_simp
  have z3 : (w.alloc (.cells #[.int .i64 x.no, .int .i64 x.kind, .int .i64 x.links, .int .i64 x.size, .string x.target, .slice A5 x.entries.length c5, .slice A6 x.runs.length c6] 37)).cell? ⟨w.heap.size, 3, none⟩ = some (.int .i64 x.size) := by go_simp
  have z4 : (w.alloc (.cells #[.int .i64 x.no, .int .i64 x.kind, .int .i64 x.links, .int .i64 x.size, .string x.target, .slice A5 x.entries.length c5, .slice A6 x.runs.length c6] 37)).cell? ⟨w.heap.size, 4, none⟩ = some (.string x.target) := by go_simp
  have z5 : (w.alloc (.cells #[.int .i64 x.no, .int .i64 x.kind, .int .i64 x.links, .int .i64 x.size, .string x.target, .slice A5 x.entries.length c5, .slice A6 x.runs.length c6] 37)).cell? ⟨w.heap.size, 5, none⟩ = some (.slice A5 x.entries.length c5) := by go_simp
  have z6 : (w.alloc (.cells #[.int .i64 x.no, .int .i64 x.kind, .int .i64 x.links, .int .i64 x.size, .string x.target, .slice A5 x.entries.length c5, .slice A6 x.runs.length c6] 37)).cell? ⟨w.heap.size, 6, none⟩ = some (.slice A6 x.runs.length c6) := by go_simp
  go_enter Try.func52, Try.ntmps52
  go_upto_region 1 with (fail)
  generalize (w.alloc (.cells #[.int .i64 x.no, .int .i64 x.kind, .int .i64 x.links, .int .i64 x.size, .string x.target, .slice A5 x.entries.length c5, .slice A6 x.runs.length c6] 37)) = W1 at *
  generalize w.heap.size = g at *
  by_cases k1 : x.kind = 1
  · have g1 : (x.kind == 1) = true := by simpa using k1
    have HK := hid k1
    clear k1
    go_wp2_with (go_at_call 63; refine (K1.out _ E0.sits).mono ?_; rintro e w1 ⟨rfl, E1⟩; have y0 := E1.keep z0; have y1 := E1.keep z1; have y2 := E1.keep z2; have y3 := E1.keep z3; have y4 := E1.keep z4; have y5 := E1.keep z5; have y6 := E1.keep z6)
    all_goals
      go_ret
      refine ⟨ret_bool (by rw [← HT.out]; simp [rightI, HK.out, fileB, noText, *] <;> (intros; omega)), ?_⟩
      first | exact E0.trans E1 | exact E0
  · have g1 : (x.kind == 1) = false := by simpa using k1
    by_cases k2 : x.kind = 2
    · have g2 : (x.kind == 2) = true := by simpa using k2
      have HK := hid k2
      clear k2 k1
      go_wp2_with (go_at_call 84; refine (K2.out _ E0.sits).mono ?_; rintro e w1 ⟨rfl, E1⟩; have y0 := E1.keep z0; have y1 := E1.keep z1; have y2 := E1.keep z2; have y3 := E1.keep z3; have y4 := E1.keep z4; have y5 := E1.keep z5; have y6 := E1.keep z6)
      all_goals
        go_ret
        refine ⟨ret_bool (by rw [← HT.out]; simp [rightI, HK.out, dirB, noText, *] <;> (intros; omega)), ?_⟩
        first | exact E0.trans E1 | exact E0
    · have g2 : (x.kind == 2) = false := by simpa using k2
      by_cases k3 : x.kind = 3
      · have g3 : (x.kind == 3) = true := by simpa using k3
        have HK := hid k3
        clear k3 k2 k1
        go_wp2_with (go_at_call 85; refine (K3.out _ E0.sits).mono ?_; rintro e w1 ⟨rfl, E1⟩; have y0 := E1.keep z0; have y1 := E1.keep z1; have y2 := E1.keep z2; have y3 := E1.keep z3; have y4 := E1.keep z4; have y5 := E1.keep z5; have y6 := E1.keep z6)
        all_goals
          go_ret
          refine ⟨ret_bool (by rw [← HT.out]; simp [rightI, HK.out, HLK.out, *] <;> (intros; omega)), ?_⟩
          first | exact E0.trans E1 | exact E0
      · have g3 : (x.kind == 3) = false := by simpa using k3
        have HK := hid (And.intro k1 (And.intro k2 k3))
        clear k3 k2 k1
        go_wp2_with (fail)
        all_goals
          go_ret
          refine ⟨ret_bool (by rw [← HT.out]; simp [rightI, HK.out.1, HK.out.2.1, HK.out.2.2, *] <;> (intros; omega)), ?_⟩
          first | exact E0.trans E1 | exact E0
end Go.Proofs.Yteolmamiblddjaa
