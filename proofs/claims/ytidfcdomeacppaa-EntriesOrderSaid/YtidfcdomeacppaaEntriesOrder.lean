/- The walk of the law EntriesOrder: it returns true, and writes nothing that was there. -/
import Derived.Test.YtidfcdomeacppaaEntLaw
import Derived.Test.YtidfcdomeacppaaEntPlain
import Derived.Test.YtidfcdomeacppaaConv
import Derived.Test.YtidfcdomeacppaaRuns6
namespace Go.Proofs.Ytidfcdomeacppaa
open Go.RowKit Go.Sort
set_option linter.unusedVariables false
def cntTo (m : Nat) : List Int := (List.range m).map fun (i : Nat) => (i : Int)
theorem cntTo_snoc (m : Nat) : cntTo (m + 1) = cntTo m ++ [(m : Int)] := by unfold cntTo; rw [List.range_succ, List.map_append]; rfl
theorem cntTo_len (m : Nat) : (cntTo m).length = m := by simp [cntTo]
theorem cntTo_nodup (n : Nat) : (cntTo n).Nodup := by
  induction n with
  | zero => simp [cntTo]
  | succ n ih =>
    rw [cntTo_snoc, List.nodup_append]
    refine ⟨ih, by simp, fun a ha b hb => ?_⟩
    obtain ⟨i, hi, rfl⟩ := List.mem_map.1 ha
    simp at hb hi
    omega
theorem cntTo_mem {n : Nat} {x : Int} (h : x ∈ cntTo n) : 0 ≤ x ∧ x < n := by
  obtain ⟨i, hi, rfl⟩ := List.mem_map.1 h
  simp at hi
  omega
theorem perm_swap {os : List Int} {a b : Nat} {x y : Int} (ha : os[a]? = some x) (hb : os[b]? = some y) : ((os.set a y).set b x).Perm os := by
  obtain ⟨la, ea⟩ := List.getElem?_eq_some_iff.1 ha
  obtain ⟨lb, eb⟩ := List.getElem?_eq_some_iff.1 hb
  have h := Array.swap_perm (xs := os.toArray) (i := a) (j := b) (by simpa using la) (by simpa using lb)
  have h2 := Array.perm_iff_toList_perm.1 h
  simpa [Array.swap, ea, eb] using h2
/-- The entries of the law. -/
def nmO (x : Int) : ByteArray := ⟨#[UInt8.ofNat (97 + x).toNat]⟩
def entO (x : Int) : Entry := ⟨nmO x, x + 1⟩
def listO (n : Nat) : List Entry := (cntTo n).map entO
theorem listO_len (n : Nat) : (listO n).length = n := by simp [listO, cntTo_len]
theorem nmO_ok0 : ∀ k, k < 40 → nameB (nmO (k : Nat)) = true := by decide +kernel
theorem nmO_ok {x : Int} (h : 0 ≤ x ∧ x < 40) : nameB (nmO x) = true := by
  obtain ⟨k, rfl⟩ := Int.eq_ofNat_of_zero_le h.1
  exact nmO_ok0 k (by omega)
theorem nmO_lt {x y : Int} (hx : 0 ≤ x) (hxy : x < y) (hy : y < 40) : ltE (entO x) (entO y) := by
  show (nmO x).toList < (nmO y).toList
  unfold nmO
  rw [ByteArray.toList_eq, ByteArray.toList_eq]
  show [UInt8.ofNat (97 + x).toNat] < [UInt8.ofNat (97 + y).toNat]
  rw [List.cons_lt_cons_iff]
  left
  rw [UInt8.lt_iff_toNat_lt]
  simp only [UInt8.toNat_ofNat']
  omega
theorem nmO_inj {x y : Int} (hx : 0 ≤ x ∧ x < 40) (hy : 0 ≤ y ∧ y < 40) (h : nmO x = nmO y) : x = y := by
  rcases Int.lt_trichotomy x y with h1 | h1 | h1
  · have := nmO_lt hx.1 h1 hy.2
    unfold ltE entO at this
    simp only [h] at this
    exact absurd this (lex_irr _)
  · exact h1
  · have := nmO_lt hy.1 h1 hx.2
    unfold ltE entO at this
    simp only [h] at this
    exact absurd this (lex_irr _)
theorem listO_lt {k : Nat} (hk : k < 40) : ∀ x ∈ listO k, ltE x (entO k) := fun x hx => by
  obtain ⟨i, hi, rfl⟩ := List.mem_map.1 hx
  have := cntTo_mem hi
  exact nmO_lt this.1 this.2 (by omega)
theorem listO_succ (k : Nat) : listO (k + 1) = listO k ++ [entO k] := by
  unfold listO
  rw [cntTo_snoc, List.map_append]; rfl
theorem addC_ok {xs : List Entry} {e : Entry} (h1 : nameB e.name = true) (h2 : 0 < e.no) (h3 : findE xs e.name = none) (h4 : xs.length < 100) : addC xs e = 0 ∧ addL xs e = insE xs e := by
  have hc : addC xs e = 0 := by
    unfold addC
    rw [h1, h3, if_neg (by decide), if_neg (by omega), if_neg (by decide), if_neg (by omega)]
  exact ⟨hc, by unfold addL; rw [if_pos hc]⟩
theorem listO_add {k : Nat} (hk : k < 40) : addC (listO k) (entO k) = 0 ∧ addL (listO k) (entO k) = listO (k + 1) := by
  obtain ⟨h1, h2⟩ := insE_last (listO_lt hk)
  obtain ⟨h3, h4⟩ := addC_ok (xs := listO k) (e := entO k) (nmO_ok (by omega)) (by show (0 : Int) < (k : Int) + 1; omega) h2 (by rw [listO_len]; omega)
  exact ⟨h3, by rw [h4, h1, listO_succ]⟩
theorem listO_right {n : Nat} (hn : n ≤ 40) : rightE (listO n) = true := by
  induction n with
  | zero => decide +kernel
  | succ k ih =>
    have h := ih (by omega)
    obtain ⟨h1, h2⟩ := insE_last (listO_lt (k := k) (by omega))
    have := insE_right h h2 (nmO_ok (by omega)) (by show (0 : Int) < (k : Int) + 1; omega) (by rw [listO_len]; omega)
    rwa [h1, ← listO_succ] at this
/-- So many of the order are there. -/
def Some_ (os : List Int) (k : Nat) (bs : List Entry) : Prop := rightE bs = true ∧ bs.Perm ((os.take k).map entO)
theorem some_step {n : Nat} (hn : n ≤ 40) {os : List Int} (ho : os.Perm (cntTo n)) {k : Nat} {bs : List Entry} (h : Some_ os k bs) {x : Int} (hx : os[k]? = some x) :
    addC bs (entO x) = 0 ∧ ∃ cs, addL bs (entO x) = cs ∧ cs.length = bs.length + 1 ∧ Some_ os (k + 1) cs := by
  obtain ⟨h1, h2⟩ := h
  have hxm := cntTo_mem (ho.mem_iff.1 (List.mem_of_getElem? hx))
  have hnd : os.Nodup := ho.nodup_iff.2 (cntTo_nodup n)
  have hk := (List.getElem?_eq_some_iff.1 hx).1
  have hol : os.length = n := by rw [ho.length_eq, cntTo_len]
  have htk : os.take (k + 1) = os.take k ++ [x] := by rw [List.take_add_one, hx]; rfl
  have hno : findE bs (entO x).name = none := findE_none_of fun y hy he => by
    obtain ⟨z, hz, rfl⟩ := List.mem_map.1 (h2.mem_iff.1 hy)
    have hzm := cntTo_mem (ho.mem_iff.1 (List.mem_of_mem_take hz))
    have hzx : z = x := nmO_inj (by omega) (by omega) he
    subst hzx
    have hs := List.nodup_append.1 (htk ▸ hnd.sublist (List.take_sublist (k + 1) os))
    exact hs.2.2 _ hz _ (by simp) rfl
  have hlen : bs.length = k := by rw [h2.length_eq, List.length_map, List.length_take]; omega
  have hok := nmO_ok (x := x) (by omega)
  obtain ⟨h3, h4⟩ := addC_ok (xs := bs) (e := entO x) hok (by show (0 : Int) < x + 1; omega) hno (by omega)
  refine ⟨h3, _, h4, insE_len _ _, insE_right h1 hno hok (by show (0 : Int) < x + 1; omega) (by omega), ?_⟩
  rw [htk, List.map_append]
  exact (insE_perm _ _).trans ((h2.cons _).trans (List.perm_append_singleton (entO x) _).symm)
theorem some_all {n : Nat} (hn : n ≤ 40) {os : List Int} (ho : os.Perm (cntTo n)) {bs : List Entry} (h : Some_ os n bs) : bs = listO n := by
  have hol : os.length = n := by rw [ho.length_eq, cntTo_len]
  refine sorted_eq ((rightE_iff _).1 h.1).2.1 ((rightE_iff _).1 (listO_right hn)).2.1 ?_
  have h2 := h.2
  rw [List.take_of_length_le (by omega)] at h2
  exact h2.trans (ho.map _)
theorem listO_out {n ot : Nat} (hn : n ≤ 40) (ho : ot < n) : remC (listO n) (nmO ot) = 0 ∧ ∃ cs, remE (listO n) (nmO ot) = cs ∧ cs.length + 1 = n ∧ addC cs (entO ot) = 0 ∧ addL cs (entO ot) = listO n := by
  have hr := listO_right hn
  have hget : (listO n)[ot]? = some (entO ot) := by
    unfold listO cntTo
    rw [List.getElem?_map, List.getElem?_map, List.getElem?_range ho]; rfl
  have hsome : (findE (listO n) (nmO ot)).isSome = true := by
    cases hq : findE (listO n) (nmO ot) with
    | some _ => rfl
    | none => exact absurd rfl (findE_none hq (entO ot) (List.mem_of_getElem? hget))
  obtain ⟨k1, k2, k3⟩ := remE_right hr hsome
  rw [listO_len] at k2
  obtain ⟨h3, h4⟩ := addC_ok (xs := remE (listO n) (nmO ot)) (e := entO ot) (nmO_ok (by omega)) (by show (0 : Int) < (ot : Int) + 1; omega) k3 (by omega)
  refine ⟨by unfold remC; rw [if_pos hsome], _, rfl, k2, h3, ?_⟩
  rw [h4]
  exact (rem_ins hr hget).2
set_option maxHeartbeats 16000000 in
set_option maxRecDepth 100000 in
theorem EntriesOrder_walk (n : Int) (ts : List Int) (A : Option Addr) (c : Nat) (out : Int) (W : World) (rt : RowAt (fhOf W) A ts) :
    Calls Try.prog 10 #[.int .i64 n, .slice A ts.length c, .int .i64 out] W fun e w' => e = .returned (.bool true) ∧ Ext (fhOf W) W (fhOf W) w' := by
  have hs := Sits.all W
  have hlt0 := rt.1
  have HN := hid (hs.none (g := W.heap.size) (Nat.le_refl _))
  obtain ⟨q1, hq1, hq1'⟩ : ∃ q : Nat, (IntKind.u64.wrap n).tmod 40 = q ∧ q < 40 := by
    rw [Int.tmod_eq_emod_of_nonneg (wrap_u64_nonneg n)]
    have := wrap_u64_nonneg n
    exact ⟨(IntKind.u64.wrap n % 40).toNat, by omega, by omega⟩
  obtain ⟨i, hi, hz0, hz1, hz2⟩ := info_parts (P := Try.prog) (e := 3) (z := .int .i64 0) (size := Enc.sz Int) (bytes := 8) (by kernel_rfl)
  have HI := hid hi
  clear hi
  go_enter Try.func10, Try.ntmps10
  go_upto_region 1 with (fail)
  go_cut [0] (fun s0 wx => ∃ nn : Nat, s0 = .int .i64 nn ∧ 1 ≤ nn ∧ nn ≤ 40 ∧ W = wx)
  case first =>
    go_wp2
    go_meet
    exact ⟨q1 + 1, by go_num, by omega, by omega, rfl⟩
  case rest =>
    obtain ⟨nn, rfl, hn1, hn2, rfl⟩ := hcut
    clear hq1 hq1'
    have hwn : IntKind.u64.wrap (nn : Int) = nn := by rw [IntKind.wrap_u64]; omega
    have hnz : (nn : Int) ≠ 0 := by omega
    have hnz2 : nn ≠ 0 := by omega
    go_wp2_with (at_make; refine wpList_make_full _ rfl _ _ 43 rfl W.heap.size 3 i _ _ Try.underlying43 HI.out hz0 hz1 _ _ _ _ nn rfl rfl rfl rfl (by rw [hz2]; omega) (by unfold maxLen; omega) (Nat.le_refl _) ?_)
    intro w1 O1 hg1
    have E1 := (Ext.refl hs).grown hg1 (fun k hk => by cases hk)
    have O2 : OwnL (fhOf W) w1 W.heap.size 3 (.slice (some ⟨W.heap.size, 0, none⟩) 0 nn) ([] : List Int) := ⟨⟨[], own_zero' O1, rfl⟩, fun g hg => by simp [Value.ownBlock] at hg; subst hg; exact HN.out⟩
    clear O1 hg1
    go_wp2_with fail
    go_loopw [8, 29] (fun s12 i wr => ∃ k : Nat, k ≤ nn ∧ i = .int .i64 k ∧ OwnL (fhOf W) wr W.heap.size 3 (.slice (some ⟨W.heap.size, 0, none⟩) k nn) (cntTo k) ∧ Ext (fhOf W) W (fhOf W) wr) (fun _ i _ => nn - (intOf i).toNat)
    case atStart => exact ⟨0, Nat.zero_le _, rfl, O2, E1⟩
    case round =>
      obtain ⟨k, hk, rfl, O, E⟩ := hrel
      by_cases hlt : k < nn
      · have hlen : (cntTo k).length = k := by simp [cntTo]
        have P := O.push (y := (k : Int)) (cs := [.int .i64 k]) rfl (by omega)
        rw [hlen] at P
        obtain ⟨O4, T4⟩ := P
        have E4 := Ext.setCells (Nat.le_refl _) HN.out [.int .i64 k] (k * Enc.sz Int) _ E
        rw [show k * Enc.sz Int = k from Nat.mul_one k] at O4 T4 E4
        obtain ⟨u, hu⟩ := Option.isSome_iff_exists.1 (T4 0 Enc.pos).1
        have hf := (T4 0 Enc.pos).2
        rw [Nat.add_zero] at hu hf
        rw [← cntTo_snoc] at O4
        have O5 := hid O4
        clear hlen O O4
        go_wp2_with fail
        go_roundw
        case rel => exact ⟨k + 1, by omega, by go_num, O5.out, E4⟩
        case measure => simp [intOf]; omega
      · obtain rfl : nn = k := by omega
        have HWh := hid (List.Perm.refl (cntTo nn))
        obtain ⟨os0, hos0⟩ : ∃ os, os = cntTo nn := ⟨_, rfl⟩
        rw [← hos0] at O
        have HWh := hid (show os0.Perm (cntTo nn) from hos0 ▸ List.Perm.refl _)
        clear hos0
        go_wp2_with fail
        go_loopw [9, 10] (fun i s14 wr => ∃ (k : Nat) (os : List Int), k ≤ ts.length ∧ k ≤ 40 ∧ i = .int .i64 k ∧ OwnL (fhOf W) wr W.heap.size 3 (.slice (some ⟨W.heap.size, 0, none⟩) nn nn) os ∧ Hid (os.Perm (cntTo nn)) ∧ Ext (fhOf W) W (fhOf W) wr) (fun i _ _ => 40 - (intOf i).toNat)
        case atStart => exact ⟨0, os0, Nat.zero_le _, by omega, rfl, O, HWh, E⟩
        case round =>
          obtain ⟨k, os, hk1, hk2, rfl, O, HWo, E⟩ := hrel
          have hol : os.length = nn := by rw [HWo.out.length_eq, cntTo_len]
          go_upto_region 9 with (fail)
          go_cut [44] (fun s wx => s = .bool (decide (k < ts.length) && decide (k < 40)) ∧ wr = wx)
          case first =>
            by_cases hl1 : k < ts.length
            · have hl1' : decide (k < ts.length) = true := by simpa using hl1
              have g1 := hid (show decide ((k : Int) < 40) = (decide (k < ts.length) && decide (k < 40)) by rw [Bool.eq_iff_iff]; simp [hl1]; omega)
              go_wp2
              go_meet
              exact ⟨ret_val6 g1.out, rfl⟩
            · have g1 := hid (show false = (decide (k < ts.length) && decide (k < 40)) by simp [hl1])
              go_wp2
              go_meet
              exact ⟨ret_val6 g1.out, rfl⟩
          case rest =>
          obtain ⟨rfl, rfl⟩ := hcut
          by_cases hin : k < ts.length ∧ k < 40
          · obtain ⟨hlt1, hlt2⟩ := hin
            rw [show (decide (k < ts.length) && decide (k < 40)) = true by simp [hlt1, hlt2]]
            · obtain ⟨x, hx⟩ : ∃ x, ts[k]? = some x := ⟨ts[k], by simp [hlt1]⟩
              obtain ⟨b, off, rfl, c0⟩ := rt.int hx E.sits
              clear hx
              obtain ⟨q, hq, hqn⟩ : ∃ q : Nat, (IntKind.u64.wrap x).tmod nn = q ∧ q < nn := by
                have h1 := wrap_u64_nonneg x
                rw [Int.tmod_eq_emod_of_nonneg h1]
                have g1 := Int.emod_nonneg (IntKind.u64.wrap x) hnz
                have g2 := Int.emod_lt_of_pos (IntKind.u64.wrap x) (show (0 : Int) < nn by omega)
                exact ⟨(IntKind.u64.wrap x % nn).toNat, by omega, by omega⟩
              obtain ⟨a, hak, han⟩ : ∃ a : Nat, (k : Int).tmod nn = a ∧ a < nn := by
                rw [Int.tmod_eq_emod_of_nonneg (by omega)]
                have g1 := Int.emod_nonneg (k : Int) hnz
                have g2 := Int.emod_lt_of_pos (k : Int) (show (0 : Int) < nn by omega)
                exact ⟨((k : Int) % nn).toNat, by omega, by omega⟩
              obtain ⟨y, hy⟩ : ∃ y, os[q]? = some y := ⟨os[q]'(by omega), List.getElem?_eq_getElem _⟩
              obtain ⟨z, hz⟩ : ∃ z, os[a]? = some z := ⟨os[a]'(by omega), List.getElem?_eq_getElem _⟩
              obtain ⟨g1, cap1, cs1, hv1, _, _, _, hr1, hc1, hf1⟩ := O.get hy
              rw [hol] at hv1
              obtain ⟨rfl, -⟩ : W.heap.size = g1 ∧ nn = cap1 := by simpa using hv1
              have hr1 : cs1 = [.int .i64 y] := hr1
              subst hr1
              have d1 : wr.cell? ⟨W.heap.size, q, none⟩ = some (.int .i64 y) := by have := hc1 0 _ rfl; rwa [show q * Enc.sz Int + 0 = q from Nat.mul_one q] at this
              obtain ⟨g2, cap2, cs2, hv2, _, _, _, hr2, hc2, hf2⟩ := O.get hz
              rw [hol] at hv2
              obtain ⟨rfl, -⟩ : W.heap.size = g2 ∧ nn = cap2 := by simpa using hv2
              have hr2 : cs2 = [.int .i64 z] := hr2
              subst hr2
              have d2 : wr.cell? ⟨W.heap.size, a, none⟩ = some (.int .i64 z) := by have := hc2 0 _ rfl; rwa [show a * Enc.sz Int + 0 = a from Nat.mul_one a] at this
              have f1 := hf1 q
              have f2 := hf1 a
              have P1 := O.setCell (y := y) (j := 0) (u := .int .i64 y) hz (by decide) (fun cs hcs => by have hcs : cs = [.int .i64 z] := hcs; subst hcs; exact (rfl : _ = _))
              rw [show a * Enc.sz Int + 0 = a from Nat.mul_one a] at P1
              have e2 : ∃ y2, (os.set a y)[q]? = some y2 := ⟨(os.set a y)[q]'(by simp; omega), List.getElem?_eq_getElem _⟩
              obtain ⟨y2, hy2⟩ := e2
              obtain ⟨g3, cap3, cs3, hv3, _, _, _, hr3, hc3, _⟩ := P1.get hy2
              rw [List.length_set, hol] at hv3
              obtain ⟨rfl, -⟩ : W.heap.size = g3 ∧ nn = cap3 := by simpa using hv3
              have hr3 : cs3 = [.int .i64 y2] := hr3
              subst hr3
              have d3 : (wr.setCell ⟨W.heap.size, a, none⟩ (.int .i64 y)).cell? ⟨W.heap.size, q, none⟩ = some (.int .i64 y2) := by have := hc3 0 _ rfl; rwa [show q * Enc.sz Int + 0 = q from Nat.mul_one q] at this
              have P2 := P1.setCell (y := z) (j := 0) (u := .int .i64 z) hy2 (by decide) (fun cs hcs => by have hcs : cs = [.int .i64 y2] := hcs; subst hcs; exact (rfl : _ = _))
              rw [show q * Enc.sz Int + 0 = q from Nat.mul_one q] at P2
              have F1 := E.setCell (p := ⟨W.heap.size, a, none⟩) (Nat.le_refl _) HN.out (.int .i64 y)
              have F2 := F1.setCell (p := ⟨W.heap.size, q, none⟩) (Nat.le_refl _) HN.out (.int .i64 z)
              have i0 : (0 : Int) ≤ (a : Int) := by omega
              have i1 : (a : Int) < (nn : Int) := by omega
              have i2 : (0 : Int) ≤ (q : Int) := by omega
              have i3 : (q : Int) < (nn : Int) := by omega
              have HW2 := hid ((perm_swap hz hy).trans HWo.out)
              have P3 := hid P2.drew
              have F3 := hid F2.drew
              clear P1 P2 F1 F2 hc1 hc2 hf1 hf2 hy hz hy2 hv1 hv2 hv3 hc3 O
              go_upto_region 12 with (fail)
              go_region
              all_goals
                have P4 := hid P3
                clear P3
                go_wp2_with fail
                go_roundw
                case rel => exact ⟨k + 1, _, by omega, by omega, by go_num, P4.out, HW2, F3⟩
                case measure => simp [intOf]; omega
          · rw [show (decide (k < ts.length) && decide (k < 40)) = false by simp; omega]
            rw [← hol] at O
            obtain ⟨h2, A1, c1, hv, r1, l1, E2⟩ := O.stay E (Nat.le_refl _) (by omega)
            rw [hol] at hv
            obtain ⟨rfl, e2⟩ : A1 = some ⟨W.heap.size, 0, none⟩ ∧ c1 = nn := by
              have := hv.symm
              simp at this
              exact this
            clear hv O E e2
            go_wp2_with fail
            go_loopw [11, 12, 13, 14, 15] (fun av bv ev fv iv wr => ∃ (k : Nat) (h' : FH) (Aa Ab : Option Addr) (ca cb : Nat) (bs : List Entry), k ≤ nn ∧ iv = .int .i64 k ∧ av = .slice Aa k ca ∧ bv = .slice Ab k cb ∧ ev = .int .i64 0 ∧ fv = .int .i64 0 ∧ RowAt h' Aa (listO k) ∧ RowAt h' Ab bs ∧ bs.length = k ∧ FLe h2 h' ∧ Ext (fhOf W) W h' wr ∧ Hid (Some_ os k bs)) (fun _ _ _ _ iv _ => nn - (intOf iv).toNat)
            case atStart => exact ⟨0, h2, none, none, 0, 0, [], Nat.zero_le _, rfl, rfl, rfl, rfl, rfl, RowAt.nil _ _, RowAt.nil _ _, rfl, FLe.refl _, E2, hid ⟨by decide +kernel, by simp⟩⟩
            case round =>
              obtain ⟨k, h3, Aa, Ab, ca, cb, bs, hk, rfl, rfl, rfl, rfl, rfl, ra, rb, hbl, l3, E, HS⟩ := hrel
              by_cases hlt : k < nn
              · obtain ⟨x, hx⟩ : ∃ x, os[k]? = some x := ⟨os[k]'(by omega), List.getElem?_eq_getElem _⟩
                obtain ⟨x0, x1⟩ := cntTo_mem (HWo.out.mem_iff.1 (List.mem_of_getElem? hx))
                obtain ⟨hC, cs, hL, hcl, hS⟩ := some_step hn2 HWo.out HS.out hx
                obtain ⟨hC1, hL1⟩ := listO_add (k := k) (by omega)
                have HS2 := hid hS
                have KA := hid (fun (h : FH) A c w hs r => entries_Add (listO k) A c (by rw [listO_len]; omega) (entO k) (by show (nmO _).size ≤ _; rw [show (nmO (k : Int)).size = 1 from rfl]; decide) h w hs r)
                have KB := hid (fun (h : FH) A c w hs r => entries_Add bs A c (by omega) (entO x) (by show (nmO _).size ≤ _; rw [show (nmO x).size = 1 from rfl]; decide) h w hs r)
                have KA := KA.out
                rw [hC1, hL1, listO_len] at KA
                have KA := hid KA
                have KB := KB.out
                rw [hC, hL, hbl] at KB
                have KB := hid KB
                have hcl2 : cs.length = k + 1 := by omega
                have hcv := fun w => conv1 w (97 + (k : Int)) 1 (nmO k) rfl
                have hcw := fun w => conv1d w (97 + x) 1 (nmO x) rfl
                have E1 := E.alloc (.cells #[.int .u8 (97 + (k : Int))] 5)
                obtain ⟨b, off, hb, _⟩ := (r1.mono l3).int hx E.sits
                obtain ⟨rfl, rfl⟩ : W.heap.size = b ∧ 0 = off := by simpa using hb
                have hrx := hid hx
                clear hx hC hL hC1 hL1 hS hcl hb
                go_upto_region 20 with (fail)
                go_wp2_with fail
                refine (KA.out _ _ _ _ E1.sits ra).mono ?_
                rintro e w2 R
                obtain ⟨A2, c2, h4, rfl, hc2, r2, F2⟩ := R.stay (by rw [listO_len]; omega)
                rw [listO_len]
                have E2 := E1.trans F2
                have rb2 := rb.mono F2.le
                have l4 := l3.trans F2.le
                have ro := r1.mono l4
                clear F2 R E1 hcv E
                have hc : ∀ w' : World, Ext (fhOf W) W h4 w' → w'.cell? ⟨W.heap.size, k, none⟩ = some (.int .i64 x) := fun w' E => by
                  obtain ⟨b, off, hb, hcc⟩ := ro.int hrx.out E.sits
                  obtain ⟨rfl, rfl⟩ : W.heap.size = b ∧ 0 = off := by simpa using hb
                  rwa [Nat.zero_add] at hcc
                have i0 : (0 : Int) ≤ (k : Int) := by omega
                have i1 : (k : Int) < (nn : Int) := by omega
                have i2 : IntKind.i64.wrap (x + 1) = x + 1 := by rw [IntKind.wrap_i64]; omega
                have i3 : IntKind.u8.wrap x = x := by rw [IntKind.wrap_u8]; omega
                have i4 : IntKind.u8.wrap (97 + x) = 97 + x := by rw [IntKind.wrap_u8]; omega
                have E2d := E2.drew
                have E3 := (Ext.alloc E2 (.cells #[.int .u8 (97 + x)] 5)).drew
                go_upto_region 20 with (fail)
                go_region_held (fun w' => Ext (fhOf W) W h4 w') (first | with_reducible assumption) (first | (go_at_call 23; refine (KB.out _ _ _ _ E3.sits rb2).mono ?_; rintro e' w5 R5; obtain ⟨A5, c5, h5, rfl, hc5, r5, F5⟩ := R5.stay (by omega); have E5 := E3.trans F5; have E6 := E3.more F5))
                all_goals
                  go_wp2_with fail
                  go_roundw
                  case rel => exact ⟨k + 1, h5, A2, A5, c2, c5, cs, by omega, by go_num, rfl, rfl, rfl, rfl, r2.mono F5.le, r5, hcl2, l4.trans F5.le, E5, HS2⟩
                  case measure => simp [intOf]; omega
              · obtain rfl : nn = k := by omega
                have hbs := some_all hn2 HWo.out HS.out
                subst hbs
                obtain ⟨ot, hq4, hot⟩ : ∃ q : Nat, (IntKind.u64.wrap out).tmod nn = q ∧ q < nn := by
                  have h1 := wrap_u64_nonneg out
                  rw [Int.tmod_eq_emod_of_nonneg h1]
                  have g1 := Int.emod_nonneg (IntKind.u64.wrap out) hnz
                  have g2 := Int.emod_lt_of_pos (IntKind.u64.wrap out) (show (0 : Int) < nn by omega)
                  exact ⟨(IntKind.u64.wrap out % nn).toNat, by omega, by omega⟩
                obtain ⟨o1, cs, o2, o3, o4, o5⟩ := listO_out hn2 hot
                have KR := hid (fun (h : FH) A c w hs r => entries_Remove (listO nn) A c (by rw [listO_len]; omega) (nmO ot) (by rw [show (nmO (ot : Int)).size = 1 from rfl]; decide) h w hs r)
                have KA := hid (fun (h : FH) A c w hs r => entries_Add cs A c (by omega) (entO ot) (by show (nmO _).size ≤ _; rw [show (nmO (ot : Int)).size = 1 from rfl]; decide) h w hs r)
                have KR := KR.out
                rw [o1, o2, listO_len] at KR
                have KR := hid KR
                have KA := KA.out
                rw [o4, o5] at KA
                have KA := hid KA
                have KP := hid (fun (h : FH) A c B d w hs r r' => plain_Entry (listO nn) (listO nn) A B c d true (by simp) h w hs r r')
                have KP := KP.out
                rw [listO_len] at KP
                have KP := hid KP
                have KT := hid (fun (h : FH) A c w hs r => entries_Right (listO nn) A c true (listO_right hn2) h w hs r)
                have KT := KT.out
                rw [listO_len] at KT
                have KT := hid KT
                have hcv := fun w => conv1 w (97 + (ot : Int)) 1 (nmO ot) rfl
                have E1 := E.alloc (.cells #[.int .u8 (97 + (ot : Int))] 5)
                have ol : (cs.length : Int) = (nn : Int) - 1 := by omega
                have ol2 := hid ol
                have ol3 : cs.length ≤ 40 := by omega
                clear o1 o2 o3 o4 o5 ol
                go_wp2_with fail
                refine (KR.out _ _ _ _ E1.sits ra).mono ?_
                rintro e w2 R
                obtain ⟨A2, c2, h4, rfl, hc2, r2, F2⟩ := R.stay (by omega)
                have E2 := E1.trans F2
                have ra := ra.mono F2.le
                have rb := rb.mono F2.le
                have E3 := E2.alloc (.cells #[.int .u8 (97 + (ot : Int))] 5)
                clear F2 R E1 E2
                go_wp2_with fail
                refine (KA.out _ _ _ _ E3.sits r2).mono ?_
                rintro e w4 R
                obtain ⟨A5, c5, h5, rfl, hc5, r5, F5⟩ := R.stay (by rw [listO_len]; omega)
                rw [listO_len]
                have E5 := E3.trans F5
                have ra := ra.mono F5.le
                have rb := rb.mono F5.le
                clear F5 R E3
                go_wp2_with fail
                refine (law11_awake _ _ E5.sits).mono ?_
                rintro e w6 ⟨rfl, F6⟩
                have E6 := E5.trans F6
                clear F6 E5
                go_wp2_with fail
                refine (KP.out _ _ _ _ _ _ E6.sits ra rb).mono ?_
                rintro e w7 ⟨rfl, F7⟩
                have E7 := E6.trans F7
                clear F7 E6
                go_wp2_with fail
                refine (KT.out _ _ _ _ E7.sits ra).mono ?_
                rintro e w8 ⟨rfl, F8⟩
                have E8 := E7.trans F8
                clear F8 E7
                have ol4 : ((cs.length : Int) == (nn : Int) - 1) = true := by rw [ol2.out]; simp
                go_wp2_with fail
                refine (KP.out _ _ _ _ _ _ E8.sits r5 ra).mono ?_
                rintro e w9 ⟨rfl, F9⟩
                have E9 := E8.trans F9
                clear F9 E8
                go_wp2_with fail
                go_ret
                exact ⟨rfl, E9.back⟩
end Go.Proofs.Ytidfcdomeacppaa
