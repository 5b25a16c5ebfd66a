/- The walk of the law RunsPlay. -/
import Derived.Test.YtbnpccilccibkaaRunsPlain3
import Derived.Test.YtbnpccilccibkaaAwakeR
import Derived.Test.YtbnpccilccibkaaPadBase
namespace Go.Proofs.Ytbnpccilccibkaa
open Go.RowKit Go.Sort
set_option linter.unusedVariables false
/-- Page by page what the runs are. -/
def Plays (xs : List Run) (ps : List Int) : Prop := ps.length = 64 ∧ ∀ j : Nat, j < 64 → ps[j]? = some ((getB xs j).getD (-1))
theorem plays_nil : Plays [] (List.replicate 64 (-1)) := ⟨by simp, fun j hj => by
  rw [List.getElem?_replicate, if_pos hj]; rfl⟩
/-- The places that are cut so far. -/
def CutTo (ps qs : List Int) (n k : Nat) : Prop := qs.length = 64 ∧ ∀ j : Nat, j < 64 → qs[j]? = if n ≤ j ∧ j < k then some (-1) else ps[j]?
theorem cutTo_zero {ps : List Int} (h : ps.length = 64) (n : Nat) : CutTo ps ps n n := ⟨h, fun j _ => by rw [if_neg (by omega)]⟩
theorem cutTo_step {ps qs : List Int} {n k : Nat} (h : CutTo ps qs n k) (hn : n ≤ k) (hk : k < 64) : CutTo ps (qs.set k (-1)) n (k + 1) := by
  obtain ⟨h1, h2⟩ := h
  refine ⟨by simp [h1], fun j hj => ?_⟩
  rw [List.getElem?_set]
  by_cases e : k = j
  · subst e; rw [if_pos rfl, if_pos (by omega), if_pos (by omega)]
  · rw [if_neg e, h2 j hj]
    by_cases h3 : n ≤ j ∧ j < k
    · rw [if_pos h3, if_pos (by omega)]
    · rw [if_neg h3, if_neg (by omega)]
theorem plays_cut {xs : List Run} {ps qs : List Int} {n : Nat} (hR : rightB xs = true) (h : Plays xs ps) (hc : CutTo ps qs n 64) (hn : n ≤ 64) : rightB (cutR xs n) = true ∧ Plays (cutR xs n) qs := by
  have e : cutR xs n = cutL xs n := by unfold cutR; rw [if_pos hR]
  obtain ⟨h1, h2⟩ := cut_right xs n hR
  rw [e]
  refine ⟨h1, hc.1, fun j hj => ?_⟩
  rw [hc.2 j hj, h2 j (by omega) (by omega)]
  by_cases h3 : n ≤ j
  · rw [if_pos ⟨h3, hj⟩, if_neg (by omega)]; rfl
  · rw [if_neg (by omega), if_pos (by omega), h.2 j hj]
theorem plays_set {xs : List Run} {ps : List Int} {i a : Nat} (hR : rightB xs = true) (h : Plays xs ps) (hi : i < 64) (ha : a < 2147483648) : rightB (setR xs i a) = true ∧ Plays (setR xs i a) (ps.set i a) := by
  obtain ⟨h1, h2⟩ := set_right xs hR (i := (i : Int)) (a := (a : Int)) (by omega) (by omega) (by omega) (by omega)
  refine ⟨h1, by simp [h.1], fun j hj => ?_⟩
  rw [h2 j (by omega) (by omega), List.getElem?_set]
  by_cases e : i = j
  · subst e; rw [if_pos rfl, if_pos rfl, if_pos (by rw [h.1]; exact hi)]; rfl
  · rw [if_neg e, if_neg (by omega), h.2 j hj]
theorem startsG_le (g : Int → Option Int) : ∀ k, startsG g k ≤ k
  | 0 => Nat.le_refl _
  | k + 1 => by
    have := startsG_le g k
    unfold startsG
    split <;> omega
theorem cntG_le (g : Int → Option Int) : ∀ k, cntG g k ≤ k
  | 0 => Nat.le_refl _
  | k + 1 => by
    have := cntG_le g k
    unfold cntG
    split <;> omega
theorem cell_int {h : FH} {w : World} {base : Nat} {e : TypeId} {g n cap : Nat} {xs : List Int} (o : OwnL h w base e (.slice (some ⟨g, 0, none⟩) n cap) xs) {i : Nat} {x : Int} (hx : xs[i]? = some x) :
    w.cell? ⟨g, i, none⟩ = some (.int .i64 x) ∧ w.frozen? ⟨g, i, none⟩ = false ∧ h g = none ∧ base ≤ g := by
  obtain ⟨g1, cap1, cs1, hv1, hb, _, hn, hr1, hc1, hf1⟩ := o.get hx
  obtain ⟨rfl, -⟩ : g = g1 ∧ _ := by simpa using hv1
  have hr1 : cs1 = [.int .i64 x] := hr1
  subst hr1
  have := hc1 0 _ rfl
  rw [show i * Enc.sz Int + 0 = i from Nat.mul_one i] at this
  exact ⟨this, hf1 i, hn, hb⟩
theorem put_int {h : FH} {w : World} {base : Nat} {e : TypeId} {g n cap : Nat} {xs : List Int} (o : OwnL h w base e (.slice (some ⟨g, 0, none⟩) n cap) xs) {i : Nat} {x : Int} (hx : xs[i]? = some x) (y : Int) :
    OwnL h (w.setCell ⟨g, i, none⟩ (.int .i64 y)) base e (.slice (some ⟨g, 0, none⟩) n cap) (xs.set i y) := by
  have P1 := o.setCell (y := y) (j := 0) (u := .int .i64 y) hx (by decide) (fun cs hcs => by have hcs : cs = [.int .i64 x] := hcs; subst hcs; exact (rfl : _ = _))
  rwa [show i * Enc.sz Int + 0 = i from Nat.mul_one i] at P1
theorem startB_zero {g : Int → Option Int} {v : Int} (h : g ((0 : Nat) : Int) = some v) : startB g 0 = true := by unfold startB; rw [h]; rfl
theorem startB_none {g : Int → Option Int} {m : Nat} {v : Int} (h : g ((m + 1 : Nat) : Int) = some v) (h2 : g m = none) : startB g (m + 1) = true := by
  unfold startB
  rw [h, show ((m + 1 : Nat) : Int) - 1 = m by omega, h2]; simp
theorem startB_some {g : Int → Option Int} {m : Nat} {v u : Int} (h : g ((m + 1 : Nat) : Int) = some v) (h2 : g m = some u) : startB g (m + 1) = !decide (u + 1 = v) := by
  unfold startB
  rw [h, show ((m + 1 : Nat) : Int) - 1 = m by omega, h2, Bool.eq_iff_iff]
  simp
  omega
set_option maxHeartbeats 8000000 in
set_option maxRecDepth 100000 in
theorem RunsPlay_walk (ts : List ROp) (A : Option Addr) (c : Nat) (W : World) (rt : RowAt (fhOf W) A ts) :
    Calls Try.prog 5 #[.slice A ts.length c] W fun e w' => e = .returned (.bool true) ∧ Ext (fhOf W) W (fhOf W) w' := by
  have hs := Sits.all W
  have hlt0 := rt.1
  have HN := hid (hs.none (g := W.heap.size) (Nat.le_refl _))
  obtain ⟨i, hi, hz0, hz1, hz2⟩ := info_parts (P := Try.prog) (e := 3) (z := .int .i64 0) (size := Enc.sz Int) (bytes := 8) (by kernel_rfl)
  have HI := hid hi
  clear hi
  go_enter Try.func5, Try.ntmps5
  go_wp2_with (at_make; refine wpList_make_full _ rfl _ _ 26 rfl W.heap.size 3 i _ _ Try.underlying26 HI.out hz0 hz1 _ _ _ _ 64 rfl rfl rfl rfl (by rw [hz2]; omega) (by unfold maxLen; omega) (Nat.le_refl _) ?_)
  intro w1 O1 hg1
  have E1 := (Ext.refl hs).grown hg1 (fun k hk => by cases hk)
  have O2 : OwnL (fhOf W) w1 W.heap.size 3 (.slice (some ⟨W.heap.size, 0, none⟩) 0 64) ([] : List Int) := ⟨⟨[], own_zero' O1, rfl⟩, fun g hg => by simp [Value.ownBlock] at hg; subst hg; exact HN.out⟩
  clear O1 hg1
  go_wp2_with fail
  go_loopw [5, 20] (fun s5 i wr => ∃ k : Nat, k ≤ 64 ∧ i = .int .i64 k ∧ OwnL (fhOf W) wr W.heap.size 3 (.slice (some ⟨W.heap.size, 0, none⟩) k 64) (List.replicate k (-1)) ∧ Ext (fhOf W) W (fhOf W) wr) (fun _ i _ => 64 - (intOf i).toNat)
  case atStart => exact ⟨0, Nat.zero_le _, rfl, O2, E1⟩
  case round =>
    obtain ⟨k, hk, rfl, O, E⟩ := hrel
    by_cases hlt : k < 64
    · have hlen : (List.replicate k (-1 : Int)).length = k := by simp
      have P := O.push (y := (-1 : Int)) (cs := [.int .i64 (-1)]) rfl (by omega)
      rw [hlen] at P
      obtain ⟨O4, T4⟩ := P
      have E4 := Ext.setCells (Nat.le_refl _) HN.out [.int .i64 (-1)] (k * Enc.sz Int) _ E
      rw [show k * Enc.sz Int = k from Nat.mul_one k] at O4 T4 E4
      obtain ⟨u, hu⟩ := Option.isSome_iff_exists.1 (T4 0 Enc.pos).1
      have hf := (T4 0 Enc.pos).2
      rw [Nat.add_zero] at hu hf
      rw [← List.replicate_succ'] at O4
      have O5 := hid O4
      clear hlen O O4
      go_wp2_with fail
      go_roundw
      case rel => exact ⟨k + 1, by omega, by go_num, O5.out, E4⟩
      case measure => simp [intOf]; omega
    · obtain rfl : k = 64 := by omega
      have HP0 := hid plays_nil
      generalize List.replicate 64 (-1 : Int) = ps0 at *
      go_wp2_with fail
      go_loopw [3, 6] (fun s3 i wr => ∃ (k : Nat) (h' : FH) (B : Option Addr) (d : Nat) (xs : List Run) (ps : List Int), k ≤ ts.length ∧ k ≤ 80 ∧ i = .int .i64 k ∧ s3 = .slice B xs.length d ∧ RowAt h' B xs ∧ Hid (rightB xs = true) ∧ OwnL h' wr W.heap.size 3 (.slice (some ⟨W.heap.size, 0, none⟩) 64 64) ps ∧ Hid (Plays xs ps) ∧ Ext (fhOf W) W h' wr) (fun _ i _ => 80 - (intOf i).toNat)
      case atStart => exact ⟨0, fhOf W, none, 0, [], ps0, Nat.zero_le _, by omega, rfl, rfl, RowAt.nil _ _, hid rfl, O, HP0, E⟩
      case round =>
        obtain ⟨k, h', B, d, xs, ps, hk1, hk2, rfl, rfl, rx, HR, O, HP, E⟩ := hrel
        go_upto_region 9 with (fail)
        go_cut [34] (fun s wx => s = .bool (decide (k < ts.length) && decide (k < 80)) ∧ wr = wx)
        case first =>
          as_aux_lemma =>
            by_cases hl1 : k < ts.length
            · have hl1' : decide (k < ts.length) = true := by simpa using hl1
              have g1 := hid (show decide ((k : Int) < 80) = (decide (k < ts.length) && decide (k < 80)) by rw [Bool.eq_iff_iff]; simp [hl1]; omega)
              go_wp2
              go_meet
              exact ⟨ret_val6 g1.out, rfl⟩
            · have g1 := hid (show false = (decide (k < ts.length) && decide (k < 80)) by simp [hl1])
              go_wp2
              go_meet
              exact ⟨ret_val6 g1.out, rfl⟩
        case rest =>
        obtain ⟨rfl, rfl⟩ := hcut
        by_cases hin : k < ts.length ∧ k < 80
        · obtain ⟨hlt1, hlt2⟩ := hin
          rw [show (decide (k < ts.length) && decide (k < 80)) = true by simp [hlt1, hlt2]]
          obtain ⟨x, hx⟩ : ∃ x, ts[k]? = some x := ⟨ts[k], by simp [hlt1]⟩
          obtain ⟨b, off, rfl, c0, c1, c2⟩ := (rt.mono E.le).rop hx E.sits
          clear hx
          have O2 := O.alloc (.cells #[.int .i64 x.index, .int .i64 x.at_, .int .i64 x.n] 43)
          have E2 := E.alloc (.cells #[.int .i64 x.index, .int .i64 x.at_, .int .i64 x.n] 43)
          have z0 : (wr.alloc (.cells #[.int .i64 x.index, .int .i64 x.at_, .int .i64 x.n] 43)).cell? ⟨wr.heap.size, 0, none⟩ = some (.int .i64 x.index) := by go_simp
          have z1 : (wr.alloc (.cells #[.int .i64 x.index, .int .i64 x.at_, .int .i64 x.n] 43)).cell? ⟨wr.heap.size, 1, none⟩ = some (.int .i64 x.at_) := by go_simp
          have z2 : (wr.alloc (.cells #[.int .i64 x.index, .int .i64 x.at_, .int .i64 x.n] 43)).cell? ⟨wr.heap.size, 2, none⟩ = some (.int .i64 x.n) := by go_simp
          go_upto_region 12 with (fail)
          generalize (wr.alloc (.cells #[.int .i64 x.index, .int .i64 x.at_, .int .i64 x.n] 43)) = W2 at *
          generalize wr.heap.size = gg at *
          clear O E c0 c1 c2
          go_upto_if 43 with (fail)
          go_cut [3] (fun s3 wx => ∃ (h4 : FH) (B : Option Addr) (d : Nat) (xs2 : List Run) (ps2 : List Int), s3 = .slice B xs2.length d ∧ RowAt h4 B xs2 ∧ Hid (rightB xs2 = true) ∧ OwnL h4 wx W.heap.size 3 (.slice (some ⟨W.heap.size, 0, none⟩) 64 64) ps2 ∧ Hid (Plays xs2 ps2) ∧ Ext (fhOf W) W h4 wx)
          case first =>
            by_cases hN : x.n < 0
            · obtain ⟨q, hq, hq9⟩ : ∃ q : Nat, (IntKind.u64.wrap x.index).tmod 65 = q ∧ q < 65 := by
                rw [Int.tmod_eq_emod_of_nonneg (wrap_u64_nonneg x.index)]
                have := wrap_u64_nonneg x.index
                exact ⟨(IntKind.u64.wrap x.index % 65).toNat, by omega, by omega⟩
              have KC := hid (runs_Cut xs B d q (by omega) h' _ E2.sits rx)
              have HL := hid (cutL_len xs q)
              have hll := rx.1
              go_wp2_with fail
              refine KC.out.mono ?_
              rintro e w2 ⟨v, rfl, O3, E3⟩
              have hl4 : (cutR xs q).length ≤ 9223372036854775807 := by
                have h1 := HL.out
                unfold cutR
                split
                · omega
                · simp
              obtain ⟨h4, A4, c4, rfl, r4, l4, E4⟩ := O3.stay E3 (Nat.le_refl _) hl4
              have OP := O2.ext E4
              have E5 := E2.trans E4
              clear O3 E3 E4 KC O2 E2 hl4 HL
              have HQ0 := hid (cutTo_zero HP.out.1 q)
              have HF0 := hid (fun qs hqs => plays_cut (n := q) (qs := qs) HR.out HP.out hqs (by omega))
              go_wp2_with fail
              go_loopw [9] (fun s9 wi => ∃ (j : Nat) (qs : List Int), q ≤ j ∧ j ≤ 64 ∧ s9 = .int .i64 j ∧ OwnL h4 wi W.heap.size 3 (.slice (some ⟨W.heap.size, 0, none⟩) 64 64) qs ∧ Hid (CutTo ps qs q j) ∧ Ext (fhOf W) W h4 wi) (fun s9 _ => 64 - (intOf s9).toNat)
              case atStart => exact ⟨q, ps, Nat.le_refl _, by omega, rfl, OP, HQ0, E5⟩
              case round =>
                obtain ⟨j, qs, hj1, hj2, rfl, OQ, HQ, E6⟩ := hrel
                by_cases hj : j < 64
                · obtain ⟨y, hy⟩ : ∃ y, qs[j]? = some y := ⟨qs[j]'(by rw [HQ.out.1]; exact hj), List.getElem?_eq_getElem _⟩
                  obtain ⟨d0, f0, n0, b0⟩ := cell_int OQ hy
                  have OQ2 := hid (put_int OQ hy (-1))
                  have E7 := E6.setCell (p := ⟨W.heap.size, j, none⟩) b0 n0 (.int .i64 (-1))
                  have HQ2 := hid (cutTo_step HQ.out hj1 hj)
                  clear hy OQ
                  go_wp2_with fail
                  go_roundw
                  case rel => exact ⟨j + 1, _, by omega, by omega, by go_num, OQ2.out, HQ2, E7⟩
                  case measure => simp [intOf]; omega
                · obtain rfl : j = 64 := by omega
                  obtain ⟨hR2, hP2⟩ := HF0.out _ HQ.out
                  go_wp2_with fail
                  go_meet
                  exact ⟨h4, A4, c4, _, _, rfl, r4, hR2, OQ, hP2, E6⟩
            · obtain ⟨q, hq, hq9⟩ : ∃ q : Nat, (IntKind.u64.wrap x.index).tmod 64 = q ∧ q < 64 := by
                rw [Int.tmod_eq_emod_of_nonneg (wrap_u64_nonneg x.index)]
                have := wrap_u64_nonneg x.index
                exact ⟨(IntKind.u64.wrap x.index % 64).toNat, by omega, by omega⟩
              obtain ⟨a, ha, ha9⟩ : ∃ a : Nat, (IntKind.u64.wrap x.at_).tmod 2147483648 = a ∧ a < 2147483648 := by
                rw [Int.tmod_eq_emod_of_nonneg (wrap_u64_nonneg x.at_)]
                have := wrap_u64_nonneg x.at_
                exact ⟨(IntKind.u64.wrap x.at_ % 2147483648).toNat, by omega, by omega⟩
              have KC := hid (runs_Set xs B d q a h' _ E2.sits rx)
              have HF := hid (plays_set (i := q) (a := a) HR.out HP.out hq9 ha9)
              obtain ⟨y, hy⟩ : ∃ y, ps[q]? = some y := ⟨ps[q]'(by rw [HP.out.1]; exact hq9), List.getElem?_eq_getElem _⟩
              have HY := hid hy
              clear hy
              go_wp2_with fail
              refine KC.out.mono ?_
              rintro e w2 ⟨v, rfl, O3, E3⟩
              have hl4 := right_len HF.out.1
              obtain ⟨h4, A4, c4, rfl, r4, l4, E4⟩ := O3.stay E3 (Nat.le_refl _) (by omega)
              have OP := O2.ext E4
              have E5 := E2.trans E4
              clear O3 E3 E4 KC O2 E2 hl4
              obtain ⟨d0, f0, n0, b0⟩ := cell_int OP HY.out
              have OQ2 := hid (put_int OP HY.out a)
              have E7 := E5.setCell (p := ⟨W.heap.size, q, none⟩) b0 n0 (.int .i64 a)
              clear OP
              go_wp2_with fail
              go_meet
              exact ⟨h4, A4, c4, _, _, rfl, r4, HF.out.1, OQ2.out, HF.out.2, E7⟩
          case rest =>
            obtain ⟨h4, B, d, ys, qs, rfl, rx, HR, O, HP, E⟩ := hcut
            clear O2 E2 z0 z1 z2
            go_wp2_with fail
            go_loopw [12, 13, 14] (fun s12 s13 s14 wi => ∃ j a b : Nat, j ≤ 64 ∧ s14 = .int .i64 j ∧ s12 = .int .i64 a ∧ s13 = .int .i64 b ∧ Hid (a = startsG (getB ys) j) ∧ Hid (b = cntG (getB ys) j) ∧ OwnL h4 wi W.heap.size 3 (.slice (some ⟨W.heap.size, 0, none⟩) 64 64) qs ∧ Ext (fhOf W) W h4 wi) (fun _ _ s14 _ => 64 - (intOf s14).toNat)
            case atStart => exact ⟨0, 0, 0, by omega, rfl, rfl, rfl, rfl, rfl, O, E⟩
            case round =>
              obtain ⟨j, a, bb, hj1, rfl, rfl, rfl, HA, HB, O, E⟩ := hrel
              by_cases hj : j < 64
              · have KG := runs_Get ys B d j h4 _ E.sits rx
                have HE := hid (HP.out.2 j hj)
                have hbA : a ≤ j := by rw [HA.out]; exact startsG_le _ _
                have hbB : bb ≤ j := by rw [HB.out]; exact cntG_le _ _
                have HA2 : Hid (startsG (getB ys) (j + 1) = a + if startB (getB ys) j then 1 else 0) := by rw [HA.out]; rfl
                have HB2 : Hid (cntG (getB ys) (j + 1) = bb + if (getB ys j).isSome then 1 else 0) := by rw [HB.out]; rfl
                cases hg : getB ys (j : Int) with
                | none =>
                  rw [hg] at KG HE HB2
                  have hs0 : startB (getB ys) j = false := by unfold startB; rw [hg]
                  rw [hs0] at HA2
                  simp only [Option.getD_none, Option.isSome_none] at KG HE HB2
                  have HA3 := hid (show a = startsG (getB ys) (j + 1) by rw [HA2.out]; rfl)
                  have HB3 := hid (show bb = cntG (getB ys) (j + 1) by rw [HB2.out]; rfl)
                  clear hg hs0 HA HB HA2 HB2
                  have KG := hid KG
                  go_wp2_with fail
                  refine KG.out.mono ?_
                  rintro e w2 ⟨rfl, E2⟩
                  have OP := O.ext E2
                  have E3 := E.trans E2
                  obtain ⟨d0, _, _, _⟩ := cell_int OP HE.out
                  clear KG O E2 E
                  go_wp2_with fail
                  go_roundw
                  case rel => first | exact ⟨j + 1, _, _, by omega, by go_num, rfl, rfl, HA3, HB3, OP, E3⟩ | ((repeat apply Exists.intro); exact ⟨⟨j + 1, _, _, by omega, by go_num, rfl, rfl, HA3, HB3, OP, E3⟩, rfl⟩)
                  case measure => simp [intOf]; omega
                | some v =>
                  obtain ⟨v0, v1⟩ := getB_bound ys (by omega) (by omega) HR.out hg
                  rw [hg] at KG HE HB2
                  simp only [Option.getD_some, Option.isSome_some, if_true] at KG HE HB2
                  have HG := hid hg
                  obtain ⟨t, ht⟩ : ∃ t, startB (getB ys) j = t := ⟨_, rfl⟩
                  rw [ht] at HA2
                  have HT := hid ht
                  have HB3 := hid (show bb + 1 = cntG (getB ys) (j + 1) from HB2.out.symm)
                  have KG := hid KG
                  clear hg ht HA HB HB2
                  go_wp2_with fail
                  refine KG.out.mono ?_
                  rintro e w2 ⟨rfl, E2⟩
                  have OP := O.ext E2
                  have E3 := E.trans E2
                  obtain ⟨d0, _, _, _⟩ := cell_int OP HE.out
                  clear KG O E2 E
                  have q0 := fun d os => cell_regrown d0 d os
                  go_upto_region 32 with (fail)
                  go_cut [131] (fun s wx => s = .bool t ∧ ∃ d os, wx = grow (redrawn w2 d) os)
                  case first =>
                    as_aux_lemma =>
                      clear HA2 HB3
                      cases j with
                      | zero =>
                        obtain rfl : true = t := by rw [← HT.out]; exact (startB_zero HG.out).symm
                        refine wp_region_quiet_below (by kernel_rfl) (by kernel_rfl) ?_
                        repeat (go_big_quiet_step (fail))
                        refine wpQuiet_nil ?_
                        intro _ hw'
                        obtain ⟨⟨dq, osq⟩, hw''⟩ := hw'
                        subst hw''
                        go_wp2
                        go_meet
                        exact ⟨rfl, dq, osq, rfl⟩
                      | succ m =>
                        rw [show ((m + 1 : Nat) : Int) = (m : Int) + 1 from by omega]
                        have HE2 := HP.out.2 m (by omega)
                        have hz : ((m : Int) + 1 == 0) = false := by simp; omega
                        have i1 : (0 : Int) ≤ (m : Int) := by omega
                        have i2 : (m : Int) < 64 := by omega
                        cases hgm : getB ys (m : Int) with
                        | none =>
                          obtain rfl : true = t := by rw [← HT.out]; exact (startB_none HG.out hgm).symm
                          rw [hgm] at HE2
                          simp only [Option.getD_none] at HE2
                          clear hgm
                          obtain ⟨d1, _, _, _⟩ := cell_int OP HE2
                          have q1 := fun d os => cell_regrown d1 d os
                          clear d1 HE2
                          refine wp_region_quiet_below (by kernel_rfl) (by kernel_rfl) ?_
                          repeat (go_big_quiet_step (fail))
                          refine wpQuiet_nil ?_
                          intro _ hw'
                          obtain ⟨⟨dq, osq⟩, hw''⟩ := hw'
                          subst hw''
                          go_wp2
                          go_meet
                          exact ⟨rfl, dq, osq, rfl⟩
                        | some u =>
                          obtain ⟨u0, u1⟩ := getB_bound ys (by omega) (by omega) HR.out hgm
                          have hu : decide (u < 0) = false := by simp; omega
                          have hst := startB_some HG.out hgm
                          rw [HT.out] at hst
                          rw [hgm] at HE2
                          simp only [Option.getD_some] at HE2
                          clear hgm
                          obtain ⟨d1, _, _, _⟩ := cell_int OP HE2
                          have q1 := fun d os => cell_regrown d1 d os
                          clear d1 HE2
                          by_cases huv : u + 1 = v
                          · obtain rfl : t = false := by rw [hst]; simp [huv]
                            subst huv
                            clear hst
                            refine wp_region_quiet_below (by kernel_rfl) (by kernel_rfl) ?_
                            repeat (go_big_quiet_step (fail))
                            refine wpQuiet_nil ?_
                            intro _ hw'
                            obtain ⟨⟨dq, osq⟩, hw''⟩ := hw'
                            subst hw''
                            go_wp2
                            go_meet
                            exact ⟨rfl, dq, osq, rfl⟩
                          · obtain rfl : t = true := by rw [hst]; simp [huv]
                            have hne : ((u + 1) != v) = true := by simp [huv]
                            clear hst
                            refine wp_region_quiet_below (by kernel_rfl) (by kernel_rfl) ?_
                            repeat (go_big_quiet_step (fail))
                            refine wpQuiet_nil ?_
                            intro _ hw'
                            obtain ⟨⟨dq, osq⟩, hw''⟩ := hw'
                            subst hw''
                            go_wp2
                            go_meet
                            exact ⟨rfl, dq, osq, rfl⟩
                  case rest =>
                    obtain ⟨rfl, dq, osq, rfl⟩ := hcut
                    have E4 := E3.trans (Ext.quiet E3.sits dq osq)
                    have OP2 := OP.ext (Ext.quiet E3.sits dq osq)
                    clear OP E3 d0 q0
                    cases t
                    · have HA3 := hid (show a = startsG (getB ys) (j + 1) by rw [HA2.out]; rfl)
                      clear HA2
                      go_wp2_with fail
                      go_roundw
                      case rel => first | exact ⟨j + 1, _, _, by omega, by go_num, rfl, rfl, HA3, HB3, OP2, E4⟩ | ((repeat apply Exists.intro); exact ⟨⟨j + 1, _, bb + 1, by omega, by go_num, rfl, by go_num, HA3, HB3, OP2, E4⟩, rfl⟩)
                      case measure => simp [intOf]; omega
                    · have HA3 := hid (show a + 1 = startsG (getB ys) (j + 1) by rw [HA2.out]; rfl)
                      clear HA2
                      go_wp2_with fail
                      go_roundw
                      case rel => first | exact ⟨j + 1, _, _, by omega, by go_num, rfl, rfl, HA3, HB3, OP2, E4⟩ | ((repeat apply Exists.intro); exact ⟨⟨j + 1, a + 1, bb + 1, by omega, by go_num, by go_num, by go_num, HA3, HB3, OP2, E4⟩, rfl⟩)
                      case measure => simp [intOf]; omega
              · obtain rfl : j = 64 := by omega
                obtain ⟨t1, t2⟩ := right_told HR.out
                obtain rfl : ys.length = a := by rw [HA.out, t1]
                have KR := hid (fun (w : World) (hs : Sits h4 w) => runs_Right ys B d true HR.out h4 w hs rx)
                have KC := hid (fun (w : World) (hs : Sits h4 w) => runs_Count ys B d bb (by rw [t2, HB.out]) h4 w hs rx)
                have KP := hid (fun (w : World) (hs : Sits h4 w) => runs_Pages ys B d h4 w hs rx)
                have HPL := hid (show (pagesR ys).length = bb by rw [t2, HB.out])
                clear t1 t2 HA HB
                go_wp2_with fail
                refine (KR.out _ E.sits).mono ?_
                rintro e w2 ⟨rfl, E2⟩
                have E3 := E.trans E2
                have OP := O.ext E2
                clear O E2 E KR
                go_wp2_with fail
                refine (KC.out _ E3.sits).mono ?_
                rintro e w3 ⟨rfl, E2⟩
                have E4 := E3.trans E2
                have OP2 := OP.ext E2
                clear OP E2 E3 KC
                go_wp2_with fail
                refine (KP.out _ E4.sits).mono ?_
                rintro e w4 ⟨v, rfl, O3, E2⟩
                have E5 := E4.trans E2
                have OP3 := OP2.ext E2
                obtain ⟨A5, c5, hv, _⟩ := O3.slice
                rw [HPL.out] at hv
                subst hv
                clear OP2 E2 E4 KP O3
                go_wp2_with fail
                go_roundw
                case rel => first | exact ⟨k + 1, h4, B, d, _, _, by omega, by omega, by go_num, rfl, rx, HR, OP3, HP, E5⟩ | ((repeat apply Exists.intro); exact ⟨⟨k + 1, h4, B, d, _, _, by omega, by omega, by go_num, rfl, rx, HR, OP3, HP, E5⟩, rfl⟩)
                case measure => simp [intOf]; omega
        · rw [show (decide (k < ts.length) && decide (k < 80)) = false by simp; omega]
          go_wp2_with fail
          refine (law09_awake _ _ E.sits).mono ?_
          rintro e w3 ⟨rfl, E6⟩
          have E7 := E.trans E6
          go_wp2_with fail
          go_ret
          exact ⟨rfl, E7.back⟩
end Go.Proofs.Ytbnpccilccibkaa
