import Derived.Test.YteolmamiblddjaaInsT
namespace Go.Proofs.Yteolmamiblddjaa
open Go.RowKit Go.Sort
set_option linter.unusedVariables false
section
variable {α : Type} [Enc α]
theorem Sits.grown {h : FH} {w w' : World} (hs : Sits h w) {g : Nat} (G : w.grownBy w' (some g)) (hn : h g = Option.none) : Sits h w' := fun b x hb => by
  rw [G.block b (hs.lt (by rw [hb]; simp)) (fun e => by cases e; rw [hn] at hb; cases hb)]; exact hs b x hb
theorem Ext.grownBy {h h1 : FH} {w w1 : World} (E : Ext h w h1 w1) (r : Option Nat) : w.grownBy w1 r := grownBy_of_ext E r
theorem frozen_set {w : World} {g : Nat} {cells : Array Value} {t : TypeId} {fr : Nat × Nat} : True := trivial
/-- A whole element is written. -/
theorem OwnL.setElem {h : FH} {w : World} {base : Nat} {e : TypeId} {g n cap : Nat} {xs : List α} (o : OwnL h w base e (.slice (some ⟨g, 0, none⟩) n cap) xs) {i : Nat} {y : α} {cs : List Value} (hi : i < xs.length) (hy : Enc.rep h cs y) :
    OwnL h (w.setCells g (i * Enc.sz α) cs) base e (.slice (some ⟨g, 0, none⟩) n cap) (xs.set i y) := by
  obtain ⟨cells, hw, r⟩ := o.own
  have hcl : cells.length = xs.length * Enc.sz α := hw.1
  have hyl : cs.length = Enc.sz α := Enc.len hy
  have hlt : (i + 1) * Enc.sz α ≤ xs.length * Enc.sz α := Nat.mul_le_mul_right _ hi
  have hlt2 : i * Enc.sz α + Enc.sz α ≤ xs.length * Enc.sz α := by rw [Nat.add_mul] at hlt; omega
  refine ⟨⟨cells.take (i * Enc.sz α) ++ cs ++ cells.drop ((i + 1) * Enc.sz α), ⟨?_, ?_⟩, r.set hi hy⟩, o.free⟩
  · rw [List.length_set]; simp only [List.length_append, List.length_take, List.length_drop, hcl, hyl, Nat.add_mul, Nat.one_mul]; omega
  · rcases hw.2 with ⟨he, hn⟩ | ⟨g', cap', cur, he, hb, hg, hc, hm, hcs, htake⟩
    · cases he
    · cases he
      obtain ⟨cur2, m1, m2, m3⟩ := heap_setCells g e (0, 0) cs (i * Enc.sz α) w cur hg
      refine .inr ⟨g, cap, cur2, by rw [List.length_set], hb, m1, by rw [List.length_set]; exact hc, hm, by rw [m2]; exact hcs, ?_⟩
      have hcap : xs.length * Enc.sz α ≤ cap * Enc.sz α := Nat.mul_le_mul_right _ hc
      have hcs' : cur.size = cap * Enc.sz α := hcs
      rw [List.length_set]
      apply List.ext_getElem?
      intro j
      rw [List.getElem?_take]
      by_cases hj : j < xs.length * Enc.sz α
      · rw [if_pos hj, Array.getElem?_toList, m3 j (by omega), hyl]
        by_cases h1 : i * Enc.sz α ≤ j ∧ j < i * Enc.sz α + Enc.sz α
        · rw [if_pos h1, List.append_assoc, List.getElem?_append_right (by simp only [List.length_take, hcl]; omega), List.getElem?_append_left (by simp only [List.length_take, hcl, hyl]; omega)]
          congr 1
          simp only [List.length_take, hcl]; omega
        · rw [if_neg h1]
          have hcj : cur[j]? = cells[j]? := by rw [← htake, List.getElem?_take, if_pos hj, Array.getElem?_toList]
          rw [hcj]
          by_cases h2 : j < i * Enc.sz α
          · rw [List.append_assoc, List.getElem?_append_left (by simp only [List.length_take, hcl]; omega), List.getElem?_take, if_pos h2]
          · rw [List.getElem?_append_right (by simp only [List.length_append, List.length_take, hcl, hyl]; omega), List.getElem?_drop]
            congr 1
            simp only [List.length_append, List.length_take, hcl, hyl, Nat.add_mul, Nat.one_mul]; omega
      · rw [if_neg hj, List.getElem?_eq_none]
        simp only [List.length_append, List.length_take, List.length_drop, hcl, hyl, Nat.add_mul, Nat.one_mul]; omega
/-- What lies behind is written, and cut off. -/
theorem OwnL.cut {h : FH} {w : World} {base : Nat} {e : TypeId} {g n cap : Nat} {xs : List α} (o : OwnL h w base e (.slice (some ⟨g, 0, none⟩) n cap) xs) {i : Nat} (hi : i ≤ xs.length) (vs : List Value) :
    OwnL h (w.setCells g (i * Enc.sz α) vs) base e (.slice (some ⟨g, 0, none⟩) i cap) (xs.take i) := by
  obtain ⟨cells, hw, r⟩ := o.own
  have hcl : cells.length = xs.length * Enc.sz α := hw.1
  have hlt : i * Enc.sz α ≤ xs.length * Enc.sz α := Nat.mul_le_mul_right _ hi
  have hli : (xs.take i).length = i := by rw [List.length_take]; omega
  refine ⟨⟨cells.take (i * Enc.sz α), ⟨?_, ?_⟩, r.take i⟩, fun g' hg' => o.free g' hg'⟩
  · rw [hli, List.length_take, hcl]; omega
  · rcases hw.2 with ⟨he, hn⟩ | ⟨g', cap', cur, he, hb, hg, hc, hm, hcs, htake⟩
    · cases he
    · cases he
      obtain ⟨cur2, m1, m2, m3⟩ := heap_setCells g e (0, 0) vs (i * Enc.sz α) w cur hg
      have hcap : xs.length * Enc.sz α ≤ cap * Enc.sz α := Nat.mul_le_mul_right _ hc
      have hcs' : cur.size = cap * Enc.sz α := hcs
      refine .inr ⟨g, cap, cur2, by rw [hli], hb, m1, by rw [hli]; omega, hm, by rw [m2]; exact hcs, ?_⟩
      rw [hli]
      apply List.ext_getElem?
      intro j
      rw [List.getElem?_take, List.getElem?_take]
      by_cases hj : j < i * Enc.sz α
      · rw [if_pos hj, if_pos hj, Array.getElem?_toList, m3 j (by omega), if_neg (by omega), ← htake, List.getElem?_take, if_pos (by omega), Array.getElem?_toList]
      · rw [if_neg hj, if_neg hj]
end
def neI (no : Int) (x : Inode) : Bool := !isI no x
theorem keep_filter {p : Inode → Bool} {xs ys : List Inode} {i j : Nat} {x : Inode} (hl : ys.length = xs.length) (ht : ys.take i = (xs.take j).filter p) (hd : ys.drop j = xs.drop j) (hi : i < j) (hj : j < xs.length) (hx : ys[j]? = some x) :
    xs[j]? = some x ∧ (p x = false → ys.take i = (xs.take (j + 1)).filter p ∧ ys.drop (j + 1) = xs.drop (j + 1)) ∧ (p x = true → (ys.set i x).take (i + 1) = (xs.take (j + 1)).filter p ∧ (ys.set i x).drop (j + 1) = xs.drop (j + 1)) := by
  have hxj : xs[j]? = some x := by
    have : (ys.drop j)[0]? = (xs.drop j)[0]? := by rw [hd]
    rw [List.getElem?_drop, List.getElem?_drop, Nat.add_zero] at this
    rw [← this]; exact hx
  have hts : xs.take (j + 1) = xs.take j ++ [x] := by
    rw [List.take_add_one, hxj]; rfl
  have hd1 : ys.drop (j + 1) = xs.drop (j + 1) := by
    have : (ys.drop j).drop 1 = (xs.drop j).drop 1 := by rw [hd]
    rw [List.drop_drop, List.drop_drop] at this
    exact this
  refine ⟨hxj, fun hp => ⟨?_, hd1⟩, fun hp => ⟨?_, ?_⟩⟩
  · rw [hts, List.filter_append, ← ht]; simp [hp]
  · rw [hts, List.filter_append, ← ht]
    rw [List.take_add_one, List.getElem?_set_self (by omega)]
    have : (ys.set i x).take i = ys.take i := by rw [List.take_set_of_le (Nat.le_refl _)]
    rw [this]; simp [hp]
  · rw [List.drop_set_of_lt (by omega)]; exact hd1
theorem skip_filter {p : Inode → Bool} {xs : List Inode} {k : Nat} {x : Inode} (h : ∀ i y, i < k → xs[i]? = some y → p y = true) (hx : xs[k]? = some x) (hp : p x = false) : xs.take k = (xs.take (k + 1)).filter p := by
  have hk := (List.getElem?_eq_some_iff.1 hx).1
  rw [List.take_add_one, hx, List.filter_append]
  have : (xs.take k).filter p = xs.take k := List.filter_eq_self.2 fun y hy => by
    obtain ⟨i, hi, rfl⟩ := List.mem_iff_getElem.1 hy
    rw [List.length_take] at hi
    exact h i _ (by omega) (by rw [List.getElem_take]; exact List.getElem?_eq_getElem _)
  rw [this]; simp [hp]
theorem zero_Inode : ∀ w, (zeroValue 37).run Try.prog w = .ok (.agg #[.int .i64 0, .int .i64 0, .int .i64 0, .int .i64 0, .string ⟨#[]⟩, .slice none 0 0, .slice none 0 0]) w := fun w => by
  obtain ⟨i, hi, hz, _⟩ := info_parts (show (Try.prog.info? 37).map (fun i => (i.zero, i.size, i.bytes)) = some (some (.agg #[.int .i64 0, .int .i64 0, .int .i64 0, .int .i64 0, .string ⟨#[]⟩, .slice none 0 0, .slice none 0 0]), 7, 96) from by kernel_rfl)
  simp [zeroValue, typeInfo, hi, hz]
set_option maxHeartbeats 8000000 in
set_option maxRecDepth 100000 in
theorem deleteFunc_Inode (xs : List Inode) (no : Int) (hbig : xs.length ≤ 1000) (h : FH) (w : World) (hs : Sits h w) (base : Nat) (v : Value) (O : OwnL h w base 37 v xs) (p : Nat) (hp : h.cell ⟨p, 1, none⟩ = some (.int .i64 no)) :
    Calls Try.prog 43 #[v, .func (.func 44) #[] #[.pointer (some ⟨p, 0, none⟩)]] w fun e w' => ∃ v', e = .returned v' ∧ OwnL h w' base 37 v' (xs.filter (neI no)) ∧ w.grownBy w' v.ownBlock := by
  obtain ⟨h', A, c, hv, hc', rA, le', hs', fr'⟩ := O.freeze hs (by omega)
  have KI := hid (index_Apply1 xs A c no h' p (le'.cell hp) w hs' rA)
  have HP := hid hp
  have HS := hid hs
  clear hs' fr' le' rA hp
  cases hix : xs.findIdx? (isI no) with
  | none =>
    have HI := hid (show ixB (isI no) xs = -1 by unfold ixB; rw [hix])
    have HF := hid (show xs.filter (neI no) = xs from List.filter_eq_self.2 fun y hy => by
      have := List.findIdx?_eq_none_iff.1 hix y hy
      unfold neI; rw [this]; rfl)
    clear hix
    subst hv
    have OO := hid O
    clear O
    go_enter Try.func43, Try.ntmps43
    go_wp2_with (go_at_call 72; refine KI.out.mono ?_; rintro e w1 ⟨rfl, E1⟩; rw [HI.out])
    have E2 := Ext.of_below HS.out E1.below
    go_ret
    exact ⟨_, rfl, by rw [HF.out]; exact OO.out.ext E2, E2.grownBy _⟩
  | some k =>
    obtain ⟨hk, hpk, hbefore⟩ := List.findIdx?_eq_some_iff_getElem.1 hix
    have HI := hid (show ixB (isI no) xs = (k : Int) by unfold ixB; rw [hix])
    have HF0 := hid (show xs.take k = (xs.take (k + 1)).filter (neI no) from skip_filter (x := xs[k]) (fun i y hi hy => by
      obtain ⟨h1, rfl⟩ := List.getElem?_eq_some_iff.1 hy
      have := hbefore i hi
      unfold neI; simpa using this) (by simp) (by unfold neI; rw [hpk]; rfl))
    clear hix hpk hbefore
    obtain ⟨cells, hw, R⟩ := O.own
    rcases hw.2 with ⟨he, hn⟩ | ⟨g0, cap, cur, he, hb0, hg0, hlc, hcm, hcs, htk⟩
    · omega
    rw [he] at hv
    simp only [Value.slice.injEq, true_and] at hv
    obtain ⟨rfl, rfl⟩ := hv
    subst he
    have HN0 := hid (show h g0 = none from O.free g0 rfl)
    have hcm' : cap ≤ 9223372036854775807 := by unfold maxLen at hcm; omega
    have OO := hid O
    clear O hw R hg0 hcs htk hcm hc'
    go_enter Try.func43, Try.ntmps43
    go_wp2_with (go_at_call 72; refine KI.out.mono ?_; rintro e w1 ⟨rfl, E1⟩; rw [HI.out])
    have E2 := Ext.of_below HS.out E1.below
    have i0 : ¬ ((k : Int) = -1) := by omega
    have O2 := hid (OO.out.ext E2)
    have G2 := hid (E2.grownBy (some g0))
    clear E1 KI
    go_loopw [5, 6] (fun s5 s6 wr => ∃ (i j : Nat) (ys : List Inode), s5 = .int .i64 i ∧ s6 = .int .i64 j ∧ i < j ∧ j ≤ xs.length ∧ Hid (ys.length = xs.length ∧ ys.take i = (xs.take j).filter (neI no) ∧ ys.drop j = xs.drop j) ∧ Hid (OwnL h wr base 37 (.slice (some ⟨g0, 0, none⟩) xs.length cap) ys) ∧ Hid (w.grownBy wr (some g0))) (fun _ s6 _ => xs.length - (intOf s6).toNat)
    case atStart => exact ⟨k, k + 1, xs, rfl, by go_num, by omega, by omega, hid ⟨rfl, HF0.out, rfl⟩, O2, G2⟩
    case round =>
      obtain ⟨i, j, ys, rfl, rfl, hij, hj, HY, OY, GR⟩ := hrel
      have HSr := hid (HS.out.grown GR.out HN0.out)
      by_cases hlt : j < xs.length
      · obtain ⟨y, hy⟩ : ∃ y, ys[j]? = some y := ⟨ys[j]'(by have := HY.out.1; omega), List.getElem?_eq_getElem _⟩
        obtain ⟨g1, cap1, cs, hv1, _, _, _, ry, hcc, hfr⟩ := OY.out.get hy
        obtain ⟨rfl, hq8, rfl⟩ : g0 = g1 ∧ xs.length = ys.length ∧ cap = cap1 := by simpa using hv1
        clear hq8 hv1
        obtain ⟨A5, c5, A6, c6, rfl, s0, s1, s2, s3, s4⟩ := ry
        have RY := hid (show repInode h [.int .i64 y.no, .int .i64 y.kind, .int .i64 y.links, .int .i64 y.size, .string y.target, .slice A5 y.entries.length c5, .slice A6 y.runs.length c6] y from ⟨A5, c5, A6, c6, rfl, s0, s1, s2, s3, s4⟩)
        have KF := hid (keep_filter HY.out.1 HY.out.2.1 HY.out.2.2 hij hlt hy)
        have d0 : wr.cell? ⟨g0, j * 7, none⟩ = some (.int .i64 y.no) := hcc 0 _ rfl
        have d1 : wr.cell? ⟨g0, j * 7 + 1, none⟩ = some (.int .i64 y.kind) := hcc 1 _ rfl
        have d2 : wr.cell? ⟨g0, j * 7 + 2, none⟩ = some (.int .i64 y.links) := hcc 2 _ rfl
        have d3 : wr.cell? ⟨g0, j * 7 + 3, none⟩ = some (.int .i64 y.size) := hcc 3 _ rfl
        have d4 : wr.cell? ⟨g0, j * 7 + 4, none⟩ = some (.string y.target) := hcc 4 _ rfl
        have d5 : wr.cell? ⟨g0, j * 7 + 5, none⟩ = some (.slice A5 y.entries.length c5) := hcc 5 _ rfl
        have d6 : wr.cell? ⟨g0, j * 7 + 6, none⟩ = some (.slice A6 y.runs.length c6) := hcc 6 _ rfl
        clear hcc
        have HFR := hid hfr
        clear hy hfr
        go_upto_region 8 with (fail)
        have EB := hid ((Ext.refl HSr.out).alloc (.cells #[.int .i64 y.no, .int .i64 y.kind, .int .i64 y.links, .int .i64 y.size, .string y.target, .slice A5 y.entries.length c5, .slice A6 y.runs.length c6] 37))
        have HBX := hid (heap_new wr (.cells #[.int .i64 y.no, .int .i64 y.kind, .int .i64 y.links, .int .i64 y.size, .string y.target, .slice A5 y.entries.length c5, .slice A6 y.runs.length c6] 37))
        generalize hgb : wr.heap.size = gb at *
        generalize (wr.alloc (.cells #[.int .i64 y.no, .int .i64 y.kind, .int .i64 y.links, .int .i64 y.size, .string y.target, .slice A5 y.entries.length c5, .slice A6 y.runs.length c6] 37)) = W1 at *
        have HB := HBX.out
        have e0 : W1.cell? ⟨gb, 0, none⟩ = some (.int .i64 y.no) := box_cell (j := 0) HB rfl
        have e1 : W1.cell? ⟨gb, 1, none⟩ = some (.int .i64 y.kind) := box_cell (j := 1) HB rfl
        have e2 : W1.cell? ⟨gb, 2, none⟩ = some (.int .i64 y.links) := box_cell (j := 2) HB rfl
        have e3 : W1.cell? ⟨gb, 3, none⟩ = some (.int .i64 y.size) := box_cell (j := 3) HB rfl
        have e4 : W1.cell? ⟨gb, 4, none⟩ = some (.string y.target) := box_cell (j := 4) HB rfl
        have e5 : W1.cell? ⟨gb, 5, none⟩ = some (.slice A5 y.entries.length c5) := box_cell (j := 5) HB rfl
        have e6 : W1.cell? ⟨gb, 6, none⟩ = some (.slice A6 y.runs.length c6) := box_cell (j := 6) HB rfl
        have O1 := hid (OY.out.ext EB.out)
        obtain ⟨q, hq⟩ : ∃ q, isI no y = q := ⟨_, rfl⟩
        have K := hid (clo_Apply1 y _ no q hq h p HP.out W1 EB.out.sits RY.out)
        have HQ := hid hq
        clear hq d0 d1 d2 d3 d4 d5 d6
        cases q
        · have HY2 := hid (KF.out.2.2 (by unfold neI; rw [HQ.out]; rfl))
          obtain ⟨z, hz⟩ : ∃ z, ys[i]? = some z := ⟨ys[i]'(by have := HY.out.1; omega), List.getElem?_eq_getElem _⟩
          have HZ := hid hz
          clear hz
          have i1 : (0 : Int) ≤ (i : Int) := by omega
          have i2 : (i : Int) < (xs.length : Int) := by omega
          go_wp2_with (go_at_call 44; refine K.out.mono ?_; rintro e w2 ⟨rfl, F2⟩; have f0 := F2.keep e0; have f1 := F2.keep e1; have f2 := F2.keep e2; have f3 := F2.keep e3; have f4 := F2.keep e4; have f5 := F2.keep e5; have f6 := F2.keep e6; have O2 := hid (O1.out.ext F2); obtain ⟨g2, cap2, cs2, hv2, _, _, _, rz, hcc2, hfr2⟩ := O2.out.get HZ.out; obtain ⟨rfl, hq9, rfl⟩ : g0 = g2 ∧ xs.length = ys.length ∧ cap = cap2 := (by simpa using hv2); clear hq9; obtain ⟨A7, c7, A8, c8, rfl, _⟩ := rz; have b0 : w2.cell? ⟨g0, i * 7, none⟩ = some (.int .i64 z.no) := hcc2 0 _ rfl; have b1 : w2.cell? ⟨g0, i * 7 + 1, none⟩ = some (.int .i64 z.kind) := hcc2 1 _ rfl; have b2 : w2.cell? ⟨g0, i * 7 + 2, none⟩ = some (.int .i64 z.links) := hcc2 2 _ rfl; have b3 : w2.cell? ⟨g0, i * 7 + 3, none⟩ = some (.int .i64 z.size) := hcc2 3 _ rfl; have b4 : w2.cell? ⟨g0, i * 7 + 4, none⟩ = some (.string z.target) := hcc2 4 _ rfl; have b5 : w2.cell? ⟨g0, i * 7 + 5, none⟩ = some (.slice A7 z.entries.length c7) := hcc2 5 _ rfl; have b6 : w2.cell? ⟨g0, i * 7 + 6, none⟩ = some (.slice A8 z.runs.length c8) := hcc2 6 _ rfl; have r0 := hfr2 (i * 7); have r1 := hfr2 (i * 7 + 1); have r2 := hfr2 (i * 7 + 2); have r3 := hfr2 (i * 7 + 3); have r4 := hfr2 (i * 7 + 4); have r5 := hfr2 (i * 7 + 5); have r6 := hfr2 (i * 7 + 6); clear hcc2 hv2 hfr2)
          have O3 := hid (O2.out.setElem (i := i) (y := y) (by have := HY.out.1; omega) RY.out)
          go_roundw
          case rel => ((repeat apply Exists.intro); exact ⟨⟨i + 1, j + 1, ys.set i y, by go_num, by go_num, by omega, by omega, hid ⟨by rw [List.length_set]; exact HY.out.1, HY2.out⟩, O3, hid (grown_setCells g0 [.int .i64 y.no, .int .i64 y.kind, .int .i64 y.links, .int .i64 y.size, .string y.target, .slice A5 y.entries.length c5, .slice A6 y.runs.length c6] (i * 7) _ ((GR.out.trans (EB.out.grownBy _)).trans (F2.grownBy _)))⟩, rfl⟩)
          case measure => simp [intOf]; omega
        · have HY2 := hid (KF.out.2.1 (by unfold neI; rw [HQ.out]; rfl))
          go_wp2_with (go_at_call 44; refine K.out.mono ?_; rintro e w2 ⟨rfl, F2⟩)
          go_roundw
          case rel => ((repeat apply Exists.intro); exact ⟨⟨i, j + 1, ys, rfl, by go_num, by omega, by omega, hid ⟨HY.out.1, HY2.out⟩, hid (O1.out.ext F2), hid ((GR.out.trans (EB.out.grownBy _)).trans (F2.grownBy _))⟩, rfl⟩)
          case measure => simp [intOf]; omega
      · have hjl : j = xs.length := by omega
        obtain ⟨Z, hZ⟩ : ∃ Z, Z = (Builtin.zeroCells (Value.agg #[.int .i64 0, .int .i64 0, .int .i64 0, .int .i64 0, .string ⟨#[]⟩, .slice none 0 0, .slice none 0 0]).cells (xs.length - i)).toList := ⟨_, rfl⟩
        have hcr : ∀ ty c, (Builtin.clear_ #[28] ty #[.slice (some ⟨g0, i * 7, none⟩) (xs.length - i) c]).run Try.prog wr = .ok (.tuple #[]) (wr.setCells g0 (i * 7) Z) := fun ty c => by
          rw [hZ]
          obtain ⟨cells, hw, R⟩ := OY.out.own
          rcases hw.2 with ⟨he, hn⟩ | ⟨g0', cap', cur, he, hb0, hg0, hlc, hcm, hcs, htk⟩
          · cases he
          · obtain ⟨rfl, _, rfl⟩ : g0 = g0' ∧ xs.length = ys.length ∧ cap = cap' := by simpa using he
            have hcs : cur.size = cap * 7 := hcs
            exact run_clear_any wr 28 37 ty _ ty_Inode.und zero_Inode (fun v hv => by simp [Value.cells] at hv; rcases hv with rfl | rfl | rfl | rfl | rfl | rfl | rfl <;> rfl) (by decide) g0 (i * 7) (xs.length - i) c (by omega)
              (fun j hj => by
                have hj : j < (xs.length - i) * 7 := hj
                rw [cell_of_row _ _ _ _ _ _ hg0, Array.getElem?_eq_getElem (by omega)]; rfl)
              (fun j hj => by simp [World.frozen?, hg0])
        have OF := hid (OY.out.cut (i := i) (by have := HY.out.1; omega) Z)
        have HF := hid (show ys.take i = xs.filter (neI no) by rw [HY.out.2.1, hjl, List.take_length])
        have GF := hid (grown_setCells g0 Z (i * 7) _ GR.out)
        have i1 : (0 : Int) ≤ (i : Int) := by omega
        have i2 : (i : Int) ≤ (xs.length : Int) := by omega
        have i3 : ¬ (cap = i) := by omega
        have i4 : (xs.length : Int) ≤ (cap : Int) := by omega
        have i5 : (i : Int) ≤ (cap : Int) := by omega
        have HJ := hid hjl
        clear hZ hjl
        go_wp2_with fail
        go_ret
        exact ⟨_, rfl, by rw [← HF.out]; exact OF.out, GF.out⟩
end Go.Proofs.Yteolmamiblddjaa
