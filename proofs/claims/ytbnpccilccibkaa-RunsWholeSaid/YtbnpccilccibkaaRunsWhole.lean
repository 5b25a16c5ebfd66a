/- The walk of the law RunsWhole. -/
import Derived.Test.YtbnpccilccibkaaRunsPlain2
import Derived.Test.YtbnpccilccibkaaAwakeR
import Derived.Test.YtbnpccilccibkaaPadBase
namespace Go.Proofs.Ytbnpccilccibkaa
open Go.RowKit Go.Sort
set_option linter.unusedVariables false
/-- All numbers below n stand there, and no others. -/
def Whole (n : Nat) (os : List Int) : Prop := os.length = n ∧ (∀ (i : Nat) (x : Int), os[i]? = some x → 0 ≤ x ∧ x < n) ∧ ∀ v : Nat, v < n → ∃ i, i < n ∧ os[i]? = some (v : Int)
def cntTo (m : Nat) : List Int := (List.range m).map fun (i : Nat) => (i : Int)
theorem cntTo_snoc (m : Nat) : cntTo (m + 1) = cntTo m ++ [(m : Int)] := by unfold cntTo; rw [List.range_succ, List.map_append]; rfl
theorem cntTo_get (m i : Nat) (h : i < m) : (cntTo m)[i]? = some (i : Int) := by
  unfold cntTo
  rw [List.getElem?_map, List.getElem?_range h]; rfl
theorem whole_cntTo (n : Nat) : Whole n (cntTo n) := by
  have hl : (cntTo n).length = n := by simp [cntTo]
  refine ⟨hl, fun i x hx => ?_, fun v hv => ⟨v, hv, cntTo_get n v hv⟩⟩
  have hi := (List.getElem?_eq_some_iff.1 hx).1
  rw [cntTo_get n i (by omega)] at hx
  cases hx
  omega
theorem whole_swap {n : Nat} {os : List Int} (h : Whole n os) {a b : Nat} {x y : Int} (ha : os[a]? = some x) (hb : os[b]? = some y) : Whole n ((os.set a y).set b x) := by
  obtain ⟨hl, h2, h3⟩ := h
  have la := (List.getElem?_eq_some_iff.1 ha).1
  have lb := (List.getElem?_eq_some_iff.1 hb).1
  have key : ∀ i, ((os.set a y).set b x)[i]? = if i = b then some x else if i = a then some y else os[i]? := fun i => by
    rw [List.getElem?_set, List.getElem?_set]
    simp only [List.length_set]
    by_cases h4 : i = b
    · subst h4; simp [lb]
    · rw [if_neg (fun e => h4 e.symm), if_neg h4]
      by_cases h5 : i = a
      · subst h5; rw [if_pos rfl, if_pos rfl, if_pos la]
      · rw [if_neg (fun e => h5 e.symm), if_neg h5]
  refine ⟨by simp [hl], fun i z hz => ?_, fun v hv => ?_⟩
  · rw [key] at hz
    split at hz
    · cases hz; exact h2 a x ha
    · split at hz
      · cases hz; exact h2 b y hb
      · exact h2 i z hz
  · obtain ⟨i, hi, hv2⟩ := h3 v hv
    by_cases h4 : i = a
    · subst h4
      rw [ha] at hv2
      exact ⟨b, by omega, by rw [key, if_pos rfl, hv2]⟩
    · by_cases h5 : i = b
      · subst h5
        rw [hb] at hv2
        exact ⟨a, by omega, by rw [key, if_neg (fun e => h4 e.symm), if_pos rfl, hv2]⟩
      · exact ⟨i, hi, by rw [key, if_neg h5, if_neg h4, hv2]⟩
/-- So many are set. -/
def Built (fr ac nn : Nat) (os : List Int) (k : Nat) (xs : List Run) : Prop :=
  rightB xs = true ∧ (∀ (j : Nat) (v : Int), j < k → os[j]? = some v → getB xs (fr + v) = some (ac + v)) ∧ ∀ q v : Int, 0 ≤ q → q < 64 → getB xs q = some v → v = ac + (q - fr) ∧ (fr : Int) ≤ q ∧ q < fr + nn
theorem built_nil (fr ac nn : Nat) (os : List Int) : Built fr ac nn os 0 [] := ⟨rfl, fun j v h => by omega, fun q v _ _ h => by cases h⟩
theorem built_step {fr ac nn : Nat} {os : List Int} {k : Nat} {xs : List Run} (h : Built fr ac nn os k xs) (hW : Whole nn os) (hf : fr < 40) (ha : ac < 100000) (hn : nn ≤ 22) {x : Int} (hx : os[k]? = some x) : Built fr ac nn os (k + 1) (setR xs (fr + x) (ac + x)) := by
  obtain ⟨h1, h2, h3⟩ := h
  obtain ⟨x0, x1⟩ := hW.2.1 k x hx
  obtain ⟨s1, s2⟩ := set_right xs h1 (i := fr + x) (a := ac + x) (by omega) (by omega) (by omega) (by omega)
  refine ⟨s1, fun j v hj hv => ?_, fun q v q0 q1 hv => ?_⟩
  · obtain ⟨v0, v1⟩ := hW.2.1 j v hv
    rw [s2 _ (by omega) (by omega)]
    by_cases hjk : j = k
    · subst hjk; rw [hx] at hv; cases hv; rw [if_pos rfl]
    · by_cases hvx : (fr : Int) + v = fr + x
      · rw [if_pos hvx]; congr 1; omega
      · rw [if_neg hvx]; exact h2 j v (by omega) hv
  · rw [s2 q q0 q1] at hv
    split at hv
    · simp at hv; omega
    · exact h3 q v q0 q1 hv
theorem built_all {fr ac nn : Nat} {os : List Int} {xs : List Run} (h : Built fr ac nn os nn xs) (hW : Whole nn os) (hf : fr < 40) (ha : ac < 100000) (hn1 : 3 ≤ nn) (hn : nn ≤ 22) : xs = [⟨fr, ac, nn⟩] := by
  obtain ⟨h1, h2, h3⟩ := h
  have hok : ok1 ⟨fr, ac, nn⟩ = true := (ok1_iff _).2 (by simp only; omega)
  refine right_same h1 ((rightB_snoc [] _).2 ⟨rfl, hok, fun h => by simp at h⟩) (fun q q0 q1 => ?_)
  have e : getB [(⟨fr, ac, nn⟩ : Run)] q = _ := getB_snoc [] ⟨fr, ac, nn⟩ hok q0 q1
  rw [e]
  show _ = (none : Option Int).or _
  rw [Option.none_or]
  simp only
  by_cases hq : (fr : Int) ≤ q ∧ q < (fr : Int) + nn
  · rw [if_pos hq]
    obtain ⟨j, hj, hv⟩ := hW.2.2 (q - fr).toNat (by omega)
    have := h2 j _ hj hv
    rw [show (fr : Int) + ((q - fr).toNat : Int) = q from by omega, show (ac : Int) + ((q - fr).toNat : Int) = ac + (q - fr) from by omega] at this
    exact this
  · rw [if_neg hq]
    cases hv : getB xs q with
    | none => rfl
    | some v => have := h3 q v q0 q1 hv; omega
set_option maxHeartbeats 8000000 in
set_option maxRecDepth 100000 in
theorem RunsWhole_walk (n from_ at_ out : Int) (ts : List Int) (A : Option Addr) (c : Nat) (W : World) (rt : RowAt (fhOf W) A ts) :
    Calls Try.prog 4 #[.int .i64 n, .int .i64 from_, .int .i64 at_, .int .i64 out, .slice A ts.length c] W fun e w' => e = .returned (.bool true) ∧ Ext (fhOf W) W (fhOf W) w' := by
  have hs := Sits.all W
  have hlt0 := rt.1
  have HN := hid (hs.none (g := W.heap.size) (Nat.le_refl _))
  obtain ⟨q1, hq1, hq1'⟩ : ∃ q : Nat, (IntKind.u64.wrap n).tmod 20 = q ∧ q < 20 := by
    rw [Int.tmod_eq_emod_of_nonneg (wrap_u64_nonneg n)]
    have := wrap_u64_nonneg n
    exact ⟨(IntKind.u64.wrap n % 20).toNat, by omega, by omega⟩
  obtain ⟨fr, hq2, hfr⟩ : ∃ q : Nat, (IntKind.u64.wrap from_).tmod 40 = q ∧ q < 40 := by
    rw [Int.tmod_eq_emod_of_nonneg (wrap_u64_nonneg from_)]
    have := wrap_u64_nonneg from_
    exact ⟨(IntKind.u64.wrap from_ % 40).toNat, by omega, by omega⟩
  obtain ⟨ac, hq3, hac⟩ : ∃ q : Nat, (IntKind.u64.wrap at_).tmod 100000 = q ∧ q < 100000 := by
    rw [Int.tmod_eq_emod_of_nonneg (wrap_u64_nonneg at_)]
    have := wrap_u64_nonneg at_
    exact ⟨(IntKind.u64.wrap at_ % 100000).toNat, by omega, by omega⟩
  obtain ⟨i, hi, hz0, hz1, hz2⟩ := info_parts (P := Try.prog) (e := 3) (z := .int .i64 0) (size := Enc.sz Int) (bytes := 8) (by kernel_rfl)
  have HI := hid hi
  clear hi
  go_enter Try.func4, Try.ntmps4
  go_upto_region 1 with (fail)
  go_cut [0, 1, 2] (fun s0 s1 s2 wx => ∃ nn : Nat, s0 = .int .i64 nn ∧ 3 ≤ nn ∧ nn ≤ 22 ∧ s1 = .int .i64 fr ∧ s2 = .int .i64 ac ∧ W = wx)
  case first =>
    go_wp2
    go_meet
    exact ⟨q1 + 3, by go_num, by omega, by omega, rfl, rfl, rfl⟩
  case rest =>
    obtain ⟨nn, rfl, hn1, hn2, rfl, rfl, rfl⟩ := hcut
    clear hq1 hq1' hq2 hq3
    have hwn : IntKind.u64.wrap (nn : Int) = nn := by rw [IntKind.wrap_u64]; omega
    have hnz : (nn : Int) ≠ 0 := by omega
    have hnz2 : nn ≠ 0 := by omega
    obtain ⟨ot, hq4, hot⟩ : ∃ q : Nat, (IntKind.u64.wrap out).tmod nn = q ∧ q < nn := by
      have h1 := wrap_u64_nonneg out
      rw [Int.tmod_eq_emod_of_nonneg h1]
      have g1 := Int.emod_nonneg (IntKind.u64.wrap out) hnz
      have g2 := Int.emod_lt_of_pos (IntKind.u64.wrap out) (show (0 : Int) < nn by omega)
      exact ⟨(IntKind.u64.wrap out % nn).toNat, by omega, by omega⟩
    go_upto_region 2 with (fail)
    go_cut [3] (fun s wx => s = .int .i64 ot ∧ W = wx)
    case first =>
      go_wp2
      go_meet
      exact ⟨rfl, rfl⟩
    case rest =>
      obtain ⟨rfl, rfl⟩ := hcut
      go_wp2_with (at_make; refine wpList_make_full _ rfl _ _ 26 rfl W.heap.size 3 i _ _ Try.underlying26 HI.out hz0 hz1 _ _ _ _ nn rfl rfl rfl rfl (by rw [hz2]; omega) (by unfold maxLen; omega) (Nat.le_refl _) ?_)
      intro w1 O1 hg1
      have E1 := (Ext.refl hs).grown hg1 (fun k hk => by cases hk)
      have O2 : OwnL (fhOf W) w1 W.heap.size 3 (.slice (some ⟨W.heap.size, 0, none⟩) 0 nn) ([] : List Int) := ⟨⟨[], own_zero' O1, rfl⟩, fun g hg => by simp [Value.ownBlock] at hg; subst hg; exact HN.out⟩
      clear O1 hg1
      go_wp2_with fail
      go_loopw [12, 42] (fun s12 i wr => ∃ k : Nat, k ≤ nn ∧ i = .int .i64 k ∧ OwnL (fhOf W) wr W.heap.size 3 (.slice (some ⟨W.heap.size, 0, none⟩) k nn) (cntTo k) ∧ Ext (fhOf W) W (fhOf W) wr) (fun _ i _ => nn - (intOf i).toNat)
      case atStart => exact ⟨0, Nat.zero_le _, rfl, O2, E1⟩
      case round =>
        obtain ⟨k, hk, rfl, O, E⟩ := hrel
        by_cases hlt : k < nn
        · have hlen : (cntTo k).length = k := by simp [cntTo]
          have P := O.push (y := (k : Int)) (cs := [.int .i64 k]) rfl (by omega)
          rw [hlen] at P
          obtain ⟨O4, T4⟩ := P
          have E4 := Ext.setCells (Nat.le_refl _) HN.out [.int .i64 k] (k * Enc.sz Int) _ E
          rw [show k * Enc.sz Int = k from Nat.mul_one k] at O4 T4 E4
          obtain ⟨u, hu⟩ := Option.isSome_iff_exists.1 (T4 0 Enc.pos).1
          have hf := (T4 0 Enc.pos).2
          rw [Nat.add_zero] at hu hf
          rw [← cntTo_snoc] at O4
          have O5 := hid O4
          clear hlen O O4
          go_wp2_with fail
          go_roundw
          case rel => exact ⟨k + 1, by omega, by go_num, O5.out, E4⟩
          case measure => simp [intOf]; omega
        · obtain rfl : nn = k := by omega
          have HWh := hid (whole_cntTo nn)
          generalize cntTo nn = os0 at *
          go_wp2_with fail
          go_loopw [13, 14] (fun i s14 wr => ∃ (k : Nat) (os : List Int), k ≤ ts.length ∧ k ≤ 30 ∧ i = .int .i64 k ∧ OwnL (fhOf W) wr W.heap.size 3 (.slice (some ⟨W.heap.size, 0, none⟩) nn nn) os ∧ Hid (Whole nn os) ∧ Ext (fhOf W) W (fhOf W) wr) (fun i _ _ => 30 - (intOf i).toNat)
          case atStart => exact ⟨0, os0, Nat.zero_le _, by omega, rfl, O, HWh, E⟩
          case round =>
            obtain ⟨k, os, hk1, hk2, rfl, O, HWo, E⟩ := hrel
            have hol := HWo.out.1
            go_upto_region 10 with (fail)
            go_cut [57] (fun s wx => s = .bool (decide (k < ts.length) && decide (k < 30)) ∧ wr = wx)
            case first =>
              by_cases hl1 : k < ts.length
              · have hl1' : decide (k < ts.length) = true := by simpa using hl1
                have g1 := hid (show decide ((k : Int) < 30) = (decide (k < ts.length) && decide (k < 30)) by rw [Bool.eq_iff_iff]; simp [hl1]; omega)
                go_wp2
                go_meet
                exact ⟨ret_val6 g1.out, rfl⟩
              · have g1 := hid (show false = (decide (k < ts.length) && decide (k < 30)) by simp [hl1])
                go_wp2
                go_meet
                exact ⟨ret_val6 g1.out, rfl⟩
            case rest =>
            obtain ⟨rfl, rfl⟩ := hcut
            by_cases hin : k < ts.length ∧ k < 30
            · obtain ⟨hlt1, hlt2⟩ := hin
              rw [show (decide (k < ts.length) && decide (k < 30)) = true by simp [hlt1, hlt2]]
              · obtain ⟨x, hx⟩ : ∃ x, ts[k]? = some x := ⟨ts[k], by simp [hlt1]⟩
                obtain ⟨b, off, rfl, c0⟩ := rt.int hx E.sits
                clear hx
                obtain ⟨q, hq, hqn⟩ : ∃ q : Nat, (IntKind.u64.wrap x).tmod nn = q ∧ q < nn := by
                  have h1 := wrap_u64_nonneg x
                  rw [Int.tmod_eq_emod_of_nonneg h1]
                  have g1 := Int.emod_nonneg (IntKind.u64.wrap x) hnz
                  have g2 := Int.emod_lt_of_pos (IntKind.u64.wrap x) (show (0 : Int) < nn by omega)
                  exact ⟨(IntKind.u64.wrap x % nn).toNat, by omega, by omega⟩
                obtain ⟨a, hak, han⟩ : ∃ a : Nat, (k : Int).tmod nn = a ∧ a < nn := by
                  rw [Int.tmod_eq_emod_of_nonneg (by omega)]
                  have g1 := Int.emod_nonneg (k : Int) hnz
                  have g2 := Int.emod_lt_of_pos (k : Int) (show (0 : Int) < nn by omega)
                  exact ⟨((k : Int) % nn).toNat, by omega, by omega⟩
                obtain ⟨y, hy⟩ : ∃ y, os[q]? = some y := ⟨os[q]'(by omega), List.getElem?_eq_getElem _⟩
                obtain ⟨z, hz⟩ : ∃ z, os[a]? = some z := ⟨os[a]'(by omega), List.getElem?_eq_getElem _⟩
                obtain ⟨g1, cap1, cs1, hv1, _, _, _, hr1, hc1, hf1⟩ := O.get hy
                rw [hol] at hv1
                obtain ⟨rfl, -⟩ : W.heap.size = g1 ∧ nn = cap1 := by simpa using hv1
                have hr1 : cs1 = [.int .i64 y] := hr1
                subst hr1
                have d1 : wr.cell? ⟨W.heap.size, q, none⟩ = some (.int .i64 y) := by have := hc1 0 _ rfl; rwa [show q * Enc.sz Int + 0 = q from Nat.mul_one q] at this
                obtain ⟨g2, cap2, cs2, hv2, _, _, _, hr2, hc2, hf2⟩ := O.get hz
                rw [hol] at hv2
                obtain ⟨rfl, -⟩ : W.heap.size = g2 ∧ nn = cap2 := by simpa using hv2
                have hr2 : cs2 = [.int .i64 z] := hr2
                subst hr2
                have d2 : wr.cell? ⟨W.heap.size, a, none⟩ = some (.int .i64 z) := by have := hc2 0 _ rfl; rwa [show a * Enc.sz Int + 0 = a from Nat.mul_one a] at this
                have f1 := hf1 q
                have f2 := hf1 a
                have P1 := O.setCell (y := y) (j := 0) (u := .int .i64 y) hz (by decide) (fun cs hcs => by have hcs : cs = [.int .i64 z] := hcs; subst hcs; exact (rfl : _ = _))
                rw [show a * Enc.sz Int + 0 = a from Nat.mul_one a] at P1
                have e2 : ∃ y2, (os.set a y)[q]? = some y2 := ⟨(os.set a y)[q]'(by simp; omega), List.getElem?_eq_getElem _⟩
                obtain ⟨y2, hy2⟩ := e2
                obtain ⟨g3, cap3, cs3, hv3, _, _, _, hr3, hc3, _⟩ := P1.get hy2
                rw [List.length_set, hol] at hv3
                obtain ⟨rfl, -⟩ : W.heap.size = g3 ∧ nn = cap3 := by simpa using hv3
                have hr3 : cs3 = [.int .i64 y2] := hr3
                subst hr3
                have d3 : (wr.setCell ⟨W.heap.size, a, none⟩ (.int .i64 y)).cell? ⟨W.heap.size, q, none⟩ = some (.int .i64 y2) := by have := hc3 0 _ rfl; rwa [show q * Enc.sz Int + 0 = q from Nat.mul_one q] at this
                have P2 := P1.setCell (y := z) (j := 0) (u := .int .i64 z) hy2 (by decide) (fun cs hcs => by have hcs : cs = [.int .i64 y2] := hcs; subst hcs; exact (rfl : _ = _))
                rw [show q * Enc.sz Int + 0 = q from Nat.mul_one q] at P2
                have F1 := E.setCell (p := ⟨W.heap.size, a, none⟩) (Nat.le_refl _) HN.out (.int .i64 y)
                have F2 := F1.setCell (p := ⟨W.heap.size, q, none⟩) (Nat.le_refl _) HN.out (.int .i64 z)
                have i0 : (0 : Int) ≤ (a : Int) := by omega
                have i1 : (a : Int) < (nn : Int) := by omega
                have i2 : (0 : Int) ≤ (q : Int) := by omega
                have i3 : (q : Int) < (nn : Int) := by omega
                have HW2 := hid (whole_swap HWo.out hz hy)
                have P3 := hid P2.drew
                have F3 := hid F2.drew
                clear P1 P2 F1 F2 hc1 hc2 hf1 hf2 hy hz hy2 hv1 hv2 hv3 hc3 O
                go_upto_region 13 with (fail)
                go_region
                all_goals
                  have P4 := hid P3
                  clear P3
                  go_wp2_with fail
                  go_roundw
                  case rel => exact ⟨k + 1, _, by omega, by omega, by go_num, P4.out, HW2, F3⟩
                  case measure => simp [intOf]; omega
            · rw [show (decide (k < ts.length) && decide (k < 30)) = false by simp; omega]
              rw [← hol] at O
              obtain ⟨h2, A1, c1, hv, r1, l1, E2⟩ := O.stay E (Nat.le_refl _) (by omega)
              rw [hol] at hv
              obtain ⟨rfl, e2⟩ : A1 = some ⟨W.heap.size, 0, none⟩ ∧ c1 = nn := by
                have := hv.symm
                simp at this
                exact this
              clear hv O E e2
              go_wp2_with fail
              go_loopw [15, 16] (fun s15 i wr => ∃ (k : Nat) (h' : FH) (B : Option Addr) (d : Nat) (xs : List Run), k ≤ nn ∧ i = .int .i64 k ∧ s15 = .slice B xs.length d ∧ RowAt h' B xs ∧ FLe h2 h' ∧ Ext (fhOf W) W h' wr ∧ Hid (Built fr ac nn os k xs)) (fun _ i _ => nn - (intOf i).toNat)
              case atStart => exact ⟨0, h2, none, 0, [], Nat.zero_le _, rfl, rfl, RowAt.nil _ _, FLe.refl _, E2, built_nil _ _ _ _⟩
              case round =>
                obtain ⟨k, h3, B, d, xs, hk, rfl, rfl, rx, l3, E, HBu⟩ := hrel
                by_cases hlt : k < nn
                · obtain ⟨x, hx⟩ : ∃ x, os[k]? = some x := ⟨os[k]'(by omega), List.getElem?_eq_getElem _⟩
                  have hxb := HWo.out.2.1 k x hx
                  obtain ⟨x0, x1⟩ := hxb
                  obtain ⟨b, off, hb, c0⟩ := (r1.mono l3).int hx E.drew.sits
                  obtain ⟨rfl, rfl⟩ : W.heap.size = b ∧ 0 = off := by simpa using hb
                  have HB2 := hid (built_step HBu.out HWo.out hfr hac hn2 hx)
                  have i1 : IntKind.i64.wrap ((fr : Int) + x) = fr + x := by rw [IntKind.wrap_i64]; omega
                  have i2 : IntKind.i64.wrap ((ac : Int) + x) = ac + x := by rw [IntKind.wrap_i64]; omega
                  have KS := hid (runs_Set xs B d (fr + x) (ac + x) h3 _ E.drew.sits rx)
                  clear hx hb
                  rw [Nat.zero_add] at c0
                  go_upto_region 18 with (fail)
                  go_region_with (go_at_call 10; refine KS.out.mono ?_; rintro e w2 ⟨v, rfl, O, E3⟩)
                  all_goals
                    have E4 := E.drew.trans E3
                    have hlen := right_len HB2.out.1
                    obtain ⟨h4, A4, c4, rfl, r4, l4, E5⟩ := O.stay E4 E.size (by omega)
                    clear O E3 E4 c0 KS
                    go_wp2_with fail
                    go_roundw
                    case rel => exact ⟨k + 1, h4, A4, c4, _, by omega, by go_num, rfl, r4, l3.trans l4, E5, HB2⟩
                    case measure => simp [intOf]; omega
                · obtain rfl : nn = k := by omega
                  have hxs := built_all HBu.out HWo.out hfr hac hn1 hn2
                  subst hxs
                  obtain ⟨m, hm1, hm2, hm3, hm4⟩ := whole_back hfr hac hn1 hn2 hot
                  go_wp2_with fail
                  refine (runs_Set [⟨fr, ac, nn⟩] B d (fr + ot) (ac + nn + 7) h3 _ E.sits rx).mono ?_
                  rintro e w2 ⟨v, rfl, O, E3⟩
                  rw [hm1] at O
                  obtain ⟨h4, A4, c4, hv, r4, l4, E5⟩ := O.stay (E.trans E3) E.size (by rw [hm3]; split <;> omega)
                  clear O E3 E
                  subst hv
                  have HS2 := hid (fun (w : World) (hs : Sits h4 w) => runs_Set m A4 c4 (fr + ot) (ac + ot) h4 w hs r4)
                  have HC2 := hid (fun (w : World) (hs : Sits h4 w) => runs_Count m A4 c4 nn hm4 h4 w hs r4)
                  rw [hm2] at HS2
                  have HM3 := hid hm3
                  clear hm1 hm2 hm3 hm4
                  go_upto_region 21 with (fail)
                  go_cut [122] (fun s wx => s = .bool (decide (ot = 0 ∨ ot = nn - 1)) ∧ w2 = wx)
                  case first =>
                    as_aux_lemma =>
                      clear HS2 HC2
                      by_cases h0 : ot = 0
                      · have h0' : ((ot : Int) == 0) = true := by simpa using h0
                        have e := hid (show true = decide (ot = 0 ∨ ot = nn - 1) by simp [h0])
                        clear h0
                        go_wp2
                        go_meet
                        exact ⟨ret_val6 e.out, rfl⟩
                      · have h0' : ((ot : Int) == 0) = false := by simpa using h0
                        by_cases h1 : ot = nn - 1
                        · have e := hid (show ((ot : Int) == (nn : Int) - 1) = decide (ot = 0 ∨ ot = nn - 1) by rw [Bool.eq_iff_iff]; simp; omega)
                          clear h0 h1
                          go_wp2
                          go_meet
                          exact ⟨ret_val6 e.out, rfl⟩
                        · have e := hid (show ((ot : Int) == (nn : Int) - 1) = decide (ot = 0 ∨ ot = nn - 1) by rw [Bool.eq_iff_iff]; simp; omega)
                          clear h0 h1
                          go_wp2
                          go_meet
                          exact ⟨ret_val6 e.out, rfl⟩
                  case rest =>
                  obtain ⟨rfl, rfl⟩ := hcut
                  go_upto_if 122 with (fail)
                  go_cut [18] (fun s wx => s = .int .i64 m.length ∧ w2 = wx)
                  case first =>
                    as_aux_lemma =>
                      clear HS2 HC2
                      by_cases h0 : ot = 0 ∨ ot = nn - 1
                      · have e := hid (show (2 : Int) = m.length by rw [HM3.out, if_pos h0]; rfl)
                        have e2 : decide (ot = 0 ∨ ot = nn - 1) = true := by simpa using h0
                        clear HM3
                        rw [e2]
                        clear h0 e2
                        go_wp2
                        go_meet
                        exact ⟨by rw [e.out], rfl⟩
                      · have e := hid (show (3 : Int) = m.length by rw [HM3.out, if_neg h0]; rfl)
                        have e2 : decide (ot = 0 ∨ ot = nn - 1) = false := by simpa using h0
                        clear HM3
                        rw [e2]
                        clear h0 e2
                        go_wp2
                        go_meet
                        exact ⟨by rw [e.out], rfl⟩
                  case rest =>
                  obtain ⟨rfl, rfl⟩ := hcut
                  clear HM3
                  go_wp2_with fail
                  refine (law09_awake _ _ E5.sits).mono ?_
                  rintro e w3 ⟨rfl, E6'⟩
                  have E6 := E5.trans E6'
                  clear E6' E5
                  have E7' := E6.alloc (.cells #[.int .i64 fr, .int .i64 ac, .int .i64 nn] 38)
                  have E7 := E7'.add (heap_new w3 _) (E6.sits.none (Nat.le_refl _)) E6.size
                  have r5 : RowAt (h4.add w3.heap.size (.cells #[.int .i64 fr, .int .i64 ac, .int .i64 nn] 38)) (some ⟨w3.heap.size, 0, none⟩) [(⟨fr, ac, nn⟩ : Run)] := RowAt.of_block (FH.add_same _ _ _) ⟨_, _, rfl, rfl, rfl⟩ (by simp)
                  have hfl := FLe.add (E6.sits.none (Nat.le_refl _)) (.cells #[.int .i64 fr, .int .i64 ac, .int .i64 nn] 38)
                  have rx5 := (rx.mono l4).mono hfl
                  have K1 := hid (fun w hs => plain_Run [⟨fr, ac, nn⟩] [⟨fr, ac, nn⟩] B (some ⟨w3.heap.size, 0, none⟩) d 1 true (decide_eq_true rfl) _ w hs rx5 r5)
                  clear E7'
                  go_wp2_with fail
                  refine (K1.out _ E7.sits).mono ?_
                  rintro e w4 ⟨rfl, E8'⟩
                  have E8 : Ext (fhOf W) W h4 w4 := ⟨E6.le, fun b x hx => (E7.trans E8').sits b x (hfl b x hx), (E7.trans E8').below, E6.fresh⟩
                  clear E8' E7 E6 K1 r5 rx5 hfl
                  go_wp2_with fail
                  refine (HS2.out _ E8.sits).mono ?_
                  rintro e w5 ⟨v5, rfl, O5, E9'⟩
                  obtain ⟨h5, A5, c5, hv5, r6, l5, E9⟩ := O5.stay (E8.trans E9') E8.size (by simp)
                  have hv5 : v5 = .slice A5 1 c5 := hv5
                  subst hv5
                  clear O5 E8 E9'
                  have K2 := hid (fun w hs => plain_Run [⟨fr, ac, nn⟩] [⟨fr, ac, nn⟩] A5 B c5 d true (decide_eq_true rfl) h5 w hs r6 ((rx.mono l4).mono l5))
                  go_wp2_with fail
                  refine (K2.out _ E9.sits).mono ?_
                  rintro e w6 ⟨rfl, E10'⟩
                  have E10 := E9.trans E10'
                  have S10 : Sits h4 w6 := fun b x hx => E10.sits b x (l5 b x hx)
                  clear E9 E10' K2
                  go_wp2_with fail
                  refine (HC2.out _ S10).mono ?_
                  rintro e w7 ⟨rfl, E11'⟩
                  have E11 : Ext (fhOf W) W (fhOf W) w7 := E10.back.trans (Ext.of_below E10.back.sits E11'.below)
                  go_wp2_with fail
                  go_ret
                  exact ⟨rfl, E11⟩
end Go.Proofs.Ytbnpccilccibkaa
