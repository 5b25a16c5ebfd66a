import Derived.Test.YtkglaofiencfdaaCore
import Derived.Deep.WholeRow
import Derived.Deep.MidRow
namespace Go.Proofs.Ytkglaofiencfdaa
open Go.RowKit Go.Sort
set_option linter.unusedVariables false
/-! ### a string's bytes -/
theorem index_str {P : Program} (t : TypeId) (ht : P.underlying t = some .string) {s : ByteArray} {n : Nat} {c : UInt8} (hc : s.data[n]? = some c) (k : IntKind) (w : World) : (Instr.index t (.string s) (.int k n)).run P w = .ok (.int .u8 c.toNat) w := by
  obtain ⟨h1, h2⟩ := Array.getElem?_eq_some_iff.1 hc
  have hn : n < s.size := h1
  rw [run_index_string w t s k n ht, dif_pos ⟨by omega, by omega⟩]
  have e : s[(n : Int).toNat]'(by simpa using hn) = c := h2
  rw [e]
/-- s[n], its byte under a name. -/
theorem wpList_indexS {P : Program} {w : World} {ops : Array Oper} {rest : List Oper} {o : Oper} {a : Act} {Q : Exit → Act → World → Prop} (hgd : o.guard = none) (t : TypeId) (x y : Operand) (ho : o.op = .index t x y) (ht : P.underlying t = some .string)
    (s : ByteArray) (hx : a.eval x = .string s) (k : IntKind) (n : Nat) (hy : a.eval y = .int k n) (c : UInt8) (hc : s.data[n]? = some c)
    (h : wpList P ops Q rest (a.put o.dst (.int .u8 c.toNat)) w) : wpList P ops Q (o :: rest) a w := by
  refine wpList_plain hgd fun K hK => ?_
  obtain ⟨h1, h2⟩ := Array.getElem?_eq_some_iff.1 hc
  have hn : n < s.size := h1
  have hr : (Instr.index t (.string s) (.int k n)).run P w = .ok (.int .u8 c.toNat) w := by
    rw [run_index_string w t s k n ht, dif_pos ⟨by omega, by omega⟩]
    have e : s[(n : Int).toNat]'(by simpa using hn) = c := h2
    rw [e]
  unfold Oper.wp
  simp [execOp, ho, hx, hy, hr, Result.andThen]
  exact hK _ _ h
theorem byte_lt (c : UInt8) : (c.toNat : Int) < 256 := by have := c.toNat_lt; omega
end Go.Proofs.Ytkglaofiencfdaa

namespace Go.Proofs.Ytkglaofiencfdaa
open Go.RowKit Go.Sort
set_option linter.unusedVariables false
/-! ### package name -/
def badA : Array Value := ((Array.replicate 256 (Value.int .i64 0)).setIfInBounds 0 (.int .i64 1)).setIfInBounds 47 (.int .i64 1)
def zc256 : Array Value := Array.replicate 256 (Value.int .i64 0)
theorem zc256_ne : zc256 ≠ #[] := by intro h; have := congrArg Array.size h; simp [zc256] at this
theorem zc256_run (w : World) : (zeroValue 149).run Try.prog w = .ok (.agg zc256) w := by kernel_rfl
attribute [local go_sem ↓] zc256_run
theorem zeroA_size : zc256.size = 256 := by kernel_rfl
theorem zeroA_0 : zc256[0]? = some (.int .i64 0) := by kernel_rfl
theorem zeroA_47 : zc256[47]? = some (.int .i64 0) := by kernel_rfl
theorem zeroA_eq : zc256 = Array.replicate 256 (Value.int .i64 0) := by kernel_rfl
theorem cell_new2 (w : World) (cs : Array Value) (o : Obj) (t : TypeId) {j : Nat} {v : Value} (h : cs[j]? = some v) : ((w.alloc o).alloc (.cells cs t)).cell? ⟨w.heap.size + 1, j, none⟩ = some v := by
  rw [cell_of_row _ _ j cs t (0, 0) (heap_alloc2_new w _ _)]; exact h
theorem badA_size : badA.size = 256 := by simp [badA]
theorem badA_one : badA.all (·.oneCell') = true := by decide +kernel
theorem badA_info : (Try.prog.info? 149).map (·.size) = some badA.size := by kernel_rfl
/-- Whole rows: what is written lies there. -/
theorem setCells_row {w : World} {g : Nat} {cs : Array Value} {t : TypeId} (vs : List Value) (hg : w.heap[g]? = some (.cells cs t (0, 0))) (hl : vs.length = cs.size) : (w.setCells g 0 vs).heap[g]? = some (.cells vs.toArray t (0, 0)) := by
  obtain ⟨cur', h1, h2, h3⟩ := heap_setCells g t (0, 0) vs 0 w cs hg
  rw [h1]
  congr 2
  apply Array.ext_getElem?
  intro i
  by_cases hi : i < cs.size
  · rw [h3 i hi, if_pos (by omega)]; simp
  · rw [Array.getElem?_eq_none (by omega), Array.getElem?_eq_none (by simp; omega)]
theorem there_row {w : World} {g : Nat} {cs : Array Value} {t : TypeId} (hg : w.heap[g]? = some (.cells cs t (0, 0))) : w.there g 0 cs.size := fun j hj => by
  rw [cell_of_row w g _ cs t (0, 0) hg]
  exact ⟨by simp [hj], frozen_of_row w g _ cs t hg⟩
set_option maxHeartbeats 1000000 in
set_option maxRecDepth 100000 in
theorem name_bad0 (h : FH) (w : World) (hs : Sits h w) :
    Calls Try.prog 118 #[] w fun e w' => e = .returned (.agg badA) ∧ Ext h w h w' := by
  have k0 := cell_new2 w zc256 (.cells zc256 149) 149 zeroA_0
  have k47 := cell_new2 w zc256 (.cells zc256 149) 149 zeroA_47
  have hzv := zc256_run
  have hzn := zc256_ne
  have hn := hs.none (g := w.heap.size) (Nat.le_refl _)
  go_enter Try.func118, Try.ntmps118
  go_upto_region 3 with (fail)
  rw [show (zc256.setIfInBounds 0 (Value.int .i64 1)).setIfInBounds 47 (.int .i64 1) = badA by rw [zeroA_eq]; rfl]
  have E1 := ((Ext.refl hs).alloc (.cells zc256 149)).alloc (.cells badA 149)
  have g1 := heap_alloc2_new w (.cells zc256 149) (.cells badA 149)
  have g0 := heap_alloc2_old w (.cells zc256 149) (.cells badA 149)
  generalize ((w.alloc (.cells zc256 149)).alloc (.cells badA 149)) = w2 at *
  have hz : badA.toList.length = zc256.size := by rw [zeroA_size, Array.length_toList, badA_size]
  have E2 := Ext.setCells (Nat.le_refl _) hn badA.toList 0 w2 E1
  have g2 := setCells_row badA.toList g0 hz
  have ht := there_row g0
  rw [Array.toArray_toList] at g2
  rw [← hz, Array.length_toList] at ht
  clear k0 k47 hn
  go_wp2_with (first | (refine wpList_load_row rfl 149 _ rfl (w.heap.size + 1) rfl 149 badA (0, 0) _ g1 Try.underlying149 rfl badA_info ?_) | (refine wpList_store_mid rfl 149 _ _ rfl w.heap.size 0 badA rfl rfl ht badA_info badA_one ?_))
  refine bodyPost_ret (v := .agg badA) ?_ rfl ⟨rfl, E2⟩
  exact results_cell_row (p := 0) (ty := 149) (by kernel_rfl) _ _ w.heap.size 149 badA (0, 0) _ (by simp [Act.put]) g2 Try.underlying149 rfl badA_info
def okByte (c : UInt8) : Bool := !(c == 0 || c == 47)
def bytesOk (s : ByteArray) : Bool := s.data.toList.all okByte
def dot1 : ByteArray := ⟨#[46]⟩
def dot2 : ByteArray := ⟨#[46, 46]⟩
def nameB (s : ByteArray) : Bool := bytesOk s && decide ((1 : Int) ≤ s.size) && decide ((s.size : Int) ≤ 32) && !(s.toList == [46]) && !(s.toList == [46, 46])
/-- Which bytes may not be, one by one. -/
structure BadOk (B : Array Value) : Prop where
  info : (Try.prog.info? 149).map (·.size) = some B.size
  one : B.all (·.oneCell') = true
  size : B.size = 256
  at_ : ∀ c : UInt8, B[c.toNat]? = some (.int .i64 (if okByte c = true then 0 else 1))
theorem badA_ok : BadOk badA := ⟨badA_info, badA_one, badA_size, fun c => by
  have h1 : c.toNat < 256 := c.toNat_lt
  have e0 : c = 0 ↔ c.toNat = 0 := by rw [← UInt8.toNat_inj]; rfl
  have e1 : c = 47 ↔ c.toNat = 47 := by rw [← UInt8.toNat_inj]; rfl
  unfold badA okByte
  rw [Array.getElem?_setIfInBounds, Array.getElem?_setIfInBounds]
  by_cases h2 : c.toNat = 47
  · have h3 := e1.2 h2
    rw [if_pos h2.symm]
    subst h3
    simp
  · by_cases h3 : c.toNat = 0
    · have h4 := e0.2 h3
      rw [if_neg (fun e => h2 e.symm), if_pos h3.symm]
      subst h4
      simp
    · rw [if_neg (fun e => h2 e.symm), if_neg (fun e => h3 e.symm)]
      have n0 : ¬ c = 0 := fun e => h3 (e0.1 e)
      have n1 : ¬ c = 47 := fun e => h2 (e1.1 e)
      simp [h1, n0, n1]⟩
theorem name_bad (h : FH) (w : World) (hs : Sits h w) :
    Calls Try.prog 118 #[] w fun e w' => ∃ B, e = .returned (.agg B) ∧ BadOk B ∧ Ext h w h w' :=
  (name_bad0 h w hs).mono fun e w' ⟨he, hE⟩ => ⟨badA, he, badA_ok, hE⟩
theorem take_all_step {s : ByteArray} {k : Nat} {c : UInt8} (h : (s.data.toList.take k).all okByte = true) (hc : s.data[k]? = some c) : okByte c = true → (s.data.toList.take (k + 1)).all okByte = true := fun h1 => by
  rw [List.take_add_one, List.all_append, h, show s.data.toList[k]? = some c by simpa using hc]
  simp [h1]
theorem nameB_bad {s : ByteArray} {k : Nat} {c : UInt8} (hc : s.data[k]? = some c) (h : okByte c = false) : nameB s = false := by
  have : bytesOk s = false := by
    unfold bytesOk
    rw [List.all_eq_false]
    exact ⟨c, List.mem_of_getElem? (i := k) (by simpa using hc), by simp [h]⟩
  simp [nameB, this]
set_option maxHeartbeats 2000000 in
theorem name_Right (s : ByteArray) (hsz : s.size ≤ 9223372036854775807) (t : Bool) (ht : nameB s = t) (h : FH) (w : World) (hs : Sits h w) :
    Calls Try.prog 114 #[.string s] w fun e w' => e = .returned (.bool t) ∧ Ext h w h w' := by
  have HT := hid ht
  clear ht
  have KB := hid (name_bad h w hs)
  have AT : ∀ (w1 : World) (B : Array Value), BadOk B → (w1.alloc (.cells zc256 149)).there w1.heap.size 0 B.size := fun w1 B hB => by
    have := there_row (heap_alloc_new w1 (.cells zc256 149))
    rwa [zeroA_size, ← hB.size] at this
  have HA := hid AT
  clear AT
  go_enter Try.func114, Try.ntmps114
  go_upto_region 1 with (fail)
  go_wp2_with fail
  refine KB.out.mono ?_
  rintro e w1 ⟨B, rfl, HB, E1⟩
  have HB := hid HB
  go_wp2_with (refine wpList_store_mid rfl 149 _ _ rfl w1.heap.size 0 B rfl rfl (HA.out w1 B HB.out) HB.out.info HB.out.one ?_)
  have gz := heap_alloc_new w1 (.cells zc256 149)
  have E2 := Ext.setCells E1.size (E1.sits.none (g := w1.heap.size) (Nat.le_refl _)) B.toList 0 _ (E1.alloc (.cells zc256 149))
  have g2 := setCells_row B.toList gz (by rw [zeroA_size, Array.length_toList, HB.out.size])
  rw [Array.toArray_toList] at g2
  generalize hW2 : (w1.alloc (.cells zc256 149)).setCells w1.heap.size 0 B.toList = w2 at *
  generalize w1.heap.size = g at *
  clear hW2 gz
  have HC : ∀ c : UInt8, w2.cell? ⟨g, c.toNat, none⟩ = some (.int .i64 (if okByte c = true then 0 else 1)) := fun c => by
    rw [cell_of_row w2 g _ B _ (0, 0) g2]; exact HB.out.at_ c
  have HC2 := hid HC
  clear HC g2
  go_loop [4, 8] (fun s4 i => ∃ k : Nat, k ≤ s.size ∧ i = .int .i64 k ∧ Hid ((s.data.toList.take k).all okByte = true)) (fun _ i => s.size - (intOf i).toNat)
  case atStart => exact ⟨0, Nat.zero_le _, rfl, rfl⟩
  case round =>
    obtain ⟨k, hk, rfl, HN⟩ := hrel
    by_cases hlt : k < s.size
    · obtain ⟨c, hc⟩ : ∃ c, s.data[k]? = some c := ⟨s.data[k]'hlt, Array.getElem?_eq_getElem _⟩
      have HCH := hid hc
      have hcl := byte_lt c
      have hc0 : (0 : Int) ≤ c.toNat := by omega
      have HST := hid (take_all_step HN.out hc)
      have hcell := HC2.out c
      clear hc
      obtain ⟨q, hq⟩ : ∃ q, okByte c = q := ⟨_, rfl⟩
      rw [hq] at hcell
      have HQ := hid hq
      clear hq
      cases q
      · have hcell : w2.cell? ⟨g, c.toNat, none⟩ = some (.int .i64 1) := hcell
        have HF := hid (show nameB s = false from nameB_bad HCH.out HQ.out)
        go_wp2_with (refine wpList_indexS rfl 9 _ _ rfl Try.underlying9 s rfl .i64 k rfl c HCH.out ?_)
        go_ret
        exact ⟨ret_bool (by rw [← HT.out, HF.out]), E2⟩
      · have hcell : w2.cell? ⟨g, c.toNat, none⟩ = some (.int .i64 0) := hcell
        go_wp2_with (refine wpList_indexS rfl 9 _ _ rfl Try.underlying9 s rfl .i64 k rfl c HCH.out ?_)
        go_round
        case rel => exact ⟨k + 1, by omega, by go_num, HST.out HQ.out⟩
        case measure => simp [intOf]; omega
    · obtain rfl : k = s.size := by omega
      have HB2 := hid (show bytesOk s = true by have h1 := HN.out; rwa [List.take_of_length_le (by simp)] at h1)
      go_wp2
      all_goals
        go_ret
        exact ⟨ret_bool (by rw [← HT.out]; unfold nameB; rw [HB2.out]; simp [*] <;> omega), E2⟩
end Go.Proofs.Ytkglaofiencfdaa

namespace Go.Proofs.Ytkglaofiencfdaa
open Go.RowKit Go.Sort
set_option linter.unusedVariables false
theorem okByte_false {c : UInt8} (h : okByte c = false) : c.toNat = 0 ∨ c.toNat = 47 := by
  unfold okByte at h
  simp at h
  by_cases h0 : c = 0
  · subst h0; exact .inl rfl
  · have := h h0; subst this; exact .inr rfl
theorem okByte_true {c : UInt8} (h : okByte c = true) : ((c.toNat : Int) == 0) = false ∧ ((c.toNat : Int) == 47) = false := by
  unfold okByte at h
  simp at h
  obtain ⟨h0, h1⟩ := h
  refine ⟨?_, ?_⟩
  · simp
    intro e
    exact h0 (UInt8.toNat_inj.1 (by simpa using e))
  · simp
    intro e
    exact h1 (UInt8.toNat_inj.1 (by show c.toNat = 47; omega))
set_option maxHeartbeats 2000000 in
theorem ref_RightName (s : ByteArray) (hsz : s.size ≤ 9223372036854775807) (t : Bool) (ht : nameB s = t) (h : FH) (w : World) (hs : Sits h w) :
    Calls Try.prog 107 #[.string s] w fun e w' => e = .returned (.bool t) ∧ Ext h w h w' := by
  have HT := hid ht
  have E2 := Ext.refl hs
  clear ht
  go_enter Try.func107, Try.ntmps107
  go_wp2_with fail
  go_loop [3] (fun i => ∃ k : Nat, k ≤ s.size ∧ i = .int .i64 k ∧ Hid ((s.data.toList.take k).all okByte = true)) (fun i => s.size - (intOf i).toNat)
  case atStart => exact ⟨0, Nat.zero_le _, rfl, rfl⟩
  case round =>
    obtain ⟨k, hk, rfl, HN⟩ := hrel
    by_cases hlt : k < s.size
    · obtain ⟨c, hc⟩ : ∃ c, s.data[k]? = some c := ⟨s.data[k]'hlt, Array.getElem?_eq_getElem _⟩
      have HCH := hid hc
      have hidx := fun w => index_str 9 Try.underlying9 hc .i64 w
      have hc0 : (0 : Int) ≤ c.toNat := by omega
      have HST := hid (take_all_step HN.out hc)
      clear hc
      obtain ⟨q, hq⟩ : ∃ q, okByte c = q := ⟨_, rfl⟩
      have HQ := hid hq
      cases q
      · have HF := hid (show nameB s = false from nameB_bad HCH.out HQ.out)
        rcases okByte_false hq with e | e
        · rw [e] at hidx
          clear hq e
          go_wp2
          go_ret
          exact ⟨ret_bool (by rw [← HT.out, HF.out]), E2⟩
        · rw [e] at hidx
          clear hq e
          go_wp2
          go_ret
          exact ⟨ret_bool (by rw [← HT.out, HF.out]), E2⟩
      · obtain ⟨e0, e1⟩ := okByte_true hq
        clear hq
        go_wp2
        go_round
        case rel => exact ⟨k + 1, by omega, by go_num, HST.out HQ.out⟩
        case measure => simp [intOf]; omega
    · obtain rfl : k = s.size := by omega
      have HB2 := hid (show bytesOk s = true by have h1 := HN.out; rwa [List.take_of_length_le (by simp)] at h1)
      go_wp2
      all_goals
        go_ret
        exact ⟨ret_bool (by rw [← HT.out]; unfold nameB; rw [HB2.out]; simp [*] <;> omega), E2⟩
end Go.Proofs.Ytkglaofiencfdaa
