import Derived.Test.YtkglaofiencfdaaStB
import Derived.Test.YtkglaofiencfdaaInoAll
namespace Go.Proofs.Ytkglaofiencfdaa
open Go.RowKit Go.Sort
set_option linter.unusedVariables false
def inB (v lo hi : Int) : Bool := decide (lo ≤ v) && decide (v ≤ hi)
def evB (v : Int) : Bool := v.tmod 2 == 0
def geoB (g : Geo) : Bool := evB g.sectors && inB g.sectors 2 16 && inB g.sector 256 4096 && inB g.blocks 4 64 && inB g.pages 2 32 && inB g.page 16 256
theorem evB_emod (v : Int) : (v % 2 == 0) = evB v := by
  unfold evB
  rw [Bool.eq_iff_iff]
  simp only [beq_iff_eq]
  constructor
  · intro h; exact Int.tmod_eq_zero_of_dvd (Int.dvd_of_emod_eq_zero h)
  · intro h; exact Int.emod_eq_zero_of_dvd (Int.dvd_of_tmod_eq_zero h)
set_option maxHeartbeats 1000000 in
theorem nor_within (v lo hi : Int) (t : Bool) (ht : inB v lo hi = t) (h : FH) (w : World) (hs : Sits h w) :
    Calls Try.prog 63 #[.int .i64 v, .int .i64 lo, .int .i64 hi] w fun e w' => e = .returned (.bool t) ∧ Ext h w h w' := by
  have E0 := Ext.refl hs
  have HT := hid ht
  clear ht
  by_cases h1 : lo ≤ v
  · go_enter Try.func63, Try.ntmps63
    go_wp2
    go_ret
    exact ⟨ret_bool (by rw [← HT.out]; unfold inB; rw [decide_eq_true h1]; rfl), E0⟩
  · have HF := hid (show inB v lo hi = false by unfold inB; rw [decide_eq_false h1]; rfl)
    go_enter Try.func63, Try.ntmps63
    go_wp2
    go_ret
    exact ⟨ret_bool (by rw [← HT.out, HF.out]), E0⟩
set_option maxHeartbeats 4000000 in
set_option maxRecDepth 100000 in
theorem nor_Right (g : Geo) (cs : List Value) (t : Bool) (ht : geoB g = t) (h : FH) (w : World) (hs : Sits h w) (r : repGeo h cs g) :
    Calls Try.prog 30 #[.agg cs.toArray] w fun e w' => e = .returned (.bool t) ∧ Ext h w h w' := by
  have hcs : cs = [.int .i64 g.sectors, .int .i64 g.sector, .int .i64 g.blocks, .int .i64 g.pages, .int .i64 g.page] := r
  subst hcs
  have HT := hid ht
  clear ht
  obtain ⟨h1, E1, hb1, le1, hh1⟩ := (Ext.refl hs).boxF #[.int .i64 g.sectors, .int .i64 g.sector, .int .i64 g.blocks, .int .i64 g.pages, .int .i64 g.page] 26
  clear hh1
  have hc : ∀ w' : World, Sits h1 w' → w'.cell? ⟨w.heap.size, 0, none⟩ = some (.int .i64 g.sectors) ∧ w'.cell? ⟨w.heap.size, 1, none⟩ = some (.int .i64 g.sector) ∧ w'.cell? ⟨w.heap.size, 2, none⟩ = some (.int .i64 g.blocks) ∧ w'.cell? ⟨w.heap.size, 3, none⟩ = some (.int .i64 g.pages) ∧ w'.cell? ⟨w.heap.size, 4, none⟩ = some (.int .i64 g.page) := fun w' hs' => ⟨Sits_at hs' hb1 rfl, Sits_at hs' hb1 rfl, Sits_at hs' hb1 rfl, Sits_at hs' hb1 rfl, Sits_at hs' hb1 rfl⟩
  have HC := hid hc
  clear hc
  obtain ⟨b0, hb0⟩ : ∃ b, evB g.sectors = b := ⟨_, rfl⟩
  have p0 : (g.sectors.tmod 2 == 0) = b0 := hb0
  have H0 := hid hb0
  clear hb0
  obtain ⟨b1, hb1⟩ : ∃ b, inB g.sectors 2 16 = b := ⟨_, rfl⟩
  have K1 := hid (fun w' hs' => nor_within g.sectors 2 16 b1 hb1 h1 w' hs')
  have H1 := hid hb1
  clear hb1
  obtain ⟨b2, hb2⟩ : ∃ b, inB g.sector 256 4096 = b := ⟨_, rfl⟩
  have K2 := hid (fun w' hs' => nor_within g.sector 256 4096 b2 hb2 h1 w' hs')
  have H2 := hid hb2
  clear hb2
  obtain ⟨b3, hb3⟩ : ∃ b, inB g.blocks 4 64 = b := ⟨_, rfl⟩
  have K3 := hid (fun w' hs' => nor_within g.blocks 4 64 b3 hb3 h1 w' hs')
  have H3 := hid hb3
  clear hb3
  obtain ⟨b4, hb4⟩ : ∃ b, inB g.pages 2 32 = b := ⟨_, rfl⟩
  have K4 := hid (fun w' hs' => nor_within g.pages 2 32 b4 hb4 h1 w' hs')
  have H4 := hid hb4
  clear hb4
  obtain ⟨b5, hb5⟩ : ∃ b, inB g.page 16 256 = b := ⟨_, rfl⟩
  have K5 := hid (fun w' hs' => nor_within g.page 16 256 b5 hb5 h1 w' hs')
  have H5 := hid hb5
  clear hb5
  cases b0
  · skip
    go_enter Try.func30, Try.ntmps30
    go_upto_region 1 with (fail)
    with_reducible generalize w.alloc (.cells #[.int .i64 g.sectors, .int .i64 g.sector, .int .i64 g.blocks, .int .i64 g.pages, .int .i64 g.page] 26) = w1 at E1 ⊢
    obtain ⟨c0, c1, c2, c3, c4⟩ := HC.out _ E1.sits
    go_wp2_with (first | (go_at_call 63; (with_reducible refine (K1.out _ E1.sits).mono ?_); rintro e w2 ⟨rfl, F1⟩; have E2 := E1.trans F1; obtain ⟨c0, c1, c2, c3, c4⟩ := HC.out _ E2.sits) | (go_at_call 63; (with_reducible refine (K2.out _ E2.sits).mono ?_); rintro e w3 ⟨rfl, F2⟩; have E3 := E2.trans F2; obtain ⟨c0, c1, c2, c3, c4⟩ := HC.out _ E3.sits) | (go_at_call 63; (with_reducible refine (K3.out _ E3.sits).mono ?_); rintro e w4 ⟨rfl, F3⟩; have E4 := E3.trans F3; obtain ⟨c0, c1, c2, c3, c4⟩ := HC.out _ E4.sits) | (go_at_call 63; (with_reducible refine (K4.out _ E4.sits).mono ?_); rintro e w5 ⟨rfl, F4⟩; have E5 := E4.trans F4; obtain ⟨c0, c1, c2, c3, c4⟩ := HC.out _ E5.sits) | (go_at_call 63; (with_reducible refine (K5.out _ E5.sits).mono ?_); rintro e w6 ⟨rfl, F5⟩; have E6 := E5.trans F5; obtain ⟨c0, c1, c2, c3, c4⟩ := HC.out _ E6.sits))
    go_ret
    exact ⟨ret_bool (by rw [← HT.out]; unfold geoB; rw [H0.out]; rfl), E1.back⟩
  · skip
    cases b1
    · skip
      go_enter Try.func30, Try.ntmps30
      go_upto_region 1 with (fail)
      with_reducible generalize w.alloc (.cells #[.int .i64 g.sectors, .int .i64 g.sector, .int .i64 g.blocks, .int .i64 g.pages, .int .i64 g.page] 26) = w1 at E1 ⊢
      obtain ⟨c0, c1, c2, c3, c4⟩ := HC.out _ E1.sits
      go_wp2_with (first | (go_at_call 63; (with_reducible refine (K1.out _ E1.sits).mono ?_); rintro e w2 ⟨rfl, F1⟩; have E2 := E1.trans F1; obtain ⟨c0, c1, c2, c3, c4⟩ := HC.out _ E2.sits) | (go_at_call 63; (with_reducible refine (K2.out _ E2.sits).mono ?_); rintro e w3 ⟨rfl, F2⟩; have E3 := E2.trans F2; obtain ⟨c0, c1, c2, c3, c4⟩ := HC.out _ E3.sits) | (go_at_call 63; (with_reducible refine (K3.out _ E3.sits).mono ?_); rintro e w4 ⟨rfl, F3⟩; have E4 := E3.trans F3; obtain ⟨c0, c1, c2, c3, c4⟩ := HC.out _ E4.sits) | (go_at_call 63; (with_reducible refine (K4.out _ E4.sits).mono ?_); rintro e w5 ⟨rfl, F4⟩; have E5 := E4.trans F4; obtain ⟨c0, c1, c2, c3, c4⟩ := HC.out _ E5.sits) | (go_at_call 63; (with_reducible refine (K5.out _ E5.sits).mono ?_); rintro e w6 ⟨rfl, F5⟩; have E6 := E5.trans F5; obtain ⟨c0, c1, c2, c3, c4⟩ := HC.out _ E6.sits))
      go_ret
      exact ⟨ret_bool (by rw [← HT.out]; unfold geoB; rw [H0.out, H1.out]; rfl), E2.back⟩
    · skip
      cases b2
      · skip
        go_enter Try.func30, Try.ntmps30
        go_upto_region 1 with (fail)
        with_reducible generalize w.alloc (.cells #[.int .i64 g.sectors, .int .i64 g.sector, .int .i64 g.blocks, .int .i64 g.pages, .int .i64 g.page] 26) = w1 at E1 ⊢
        obtain ⟨c0, c1, c2, c3, c4⟩ := HC.out _ E1.sits
        go_wp2_with (first | (go_at_call 63; (with_reducible refine (K1.out _ E1.sits).mono ?_); rintro e w2 ⟨rfl, F1⟩; have E2 := E1.trans F1; obtain ⟨c0, c1, c2, c3, c4⟩ := HC.out _ E2.sits) | (go_at_call 63; (with_reducible refine (K2.out _ E2.sits).mono ?_); rintro e w3 ⟨rfl, F2⟩; have E3 := E2.trans F2; obtain ⟨c0, c1, c2, c3, c4⟩ := HC.out _ E3.sits) | (go_at_call 63; (with_reducible refine (K3.out _ E3.sits).mono ?_); rintro e w4 ⟨rfl, F3⟩; have E4 := E3.trans F3; obtain ⟨c0, c1, c2, c3, c4⟩ := HC.out _ E4.sits) | (go_at_call 63; (with_reducible refine (K4.out _ E4.sits).mono ?_); rintro e w5 ⟨rfl, F4⟩; have E5 := E4.trans F4; obtain ⟨c0, c1, c2, c3, c4⟩ := HC.out _ E5.sits) | (go_at_call 63; (with_reducible refine (K5.out _ E5.sits).mono ?_); rintro e w6 ⟨rfl, F5⟩; have E6 := E5.trans F5; obtain ⟨c0, c1, c2, c3, c4⟩ := HC.out _ E6.sits))
        go_ret
        exact ⟨ret_bool (by rw [← HT.out]; unfold geoB; rw [H0.out, H1.out, H2.out]; rfl), E3.back⟩
      · skip
        cases b3
        · skip
          go_enter Try.func30, Try.ntmps30
          go_upto_region 1 with (fail)
          with_reducible generalize w.alloc (.cells #[.int .i64 g.sectors, .int .i64 g.sector, .int .i64 g.blocks, .int .i64 g.pages, .int .i64 g.page] 26) = w1 at E1 ⊢
          obtain ⟨c0, c1, c2, c3, c4⟩ := HC.out _ E1.sits
          go_wp2_with (first | (go_at_call 63; (with_reducible refine (K1.out _ E1.sits).mono ?_); rintro e w2 ⟨rfl, F1⟩; have E2 := E1.trans F1; obtain ⟨c0, c1, c2, c3, c4⟩ := HC.out _ E2.sits) | (go_at_call 63; (with_reducible refine (K2.out _ E2.sits).mono ?_); rintro e w3 ⟨rfl, F2⟩; have E3 := E2.trans F2; obtain ⟨c0, c1, c2, c3, c4⟩ := HC.out _ E3.sits) | (go_at_call 63; (with_reducible refine (K3.out _ E3.sits).mono ?_); rintro e w4 ⟨rfl, F3⟩; have E4 := E3.trans F3; obtain ⟨c0, c1, c2, c3, c4⟩ := HC.out _ E4.sits) | (go_at_call 63; (with_reducible refine (K4.out _ E4.sits).mono ?_); rintro e w5 ⟨rfl, F4⟩; have E5 := E4.trans F4; obtain ⟨c0, c1, c2, c3, c4⟩ := HC.out _ E5.sits) | (go_at_call 63; (with_reducible refine (K5.out _ E5.sits).mono ?_); rintro e w6 ⟨rfl, F5⟩; have E6 := E5.trans F5; obtain ⟨c0, c1, c2, c3, c4⟩ := HC.out _ E6.sits))
          go_ret
          exact ⟨ret_bool (by rw [← HT.out]; unfold geoB; rw [H0.out, H1.out, H2.out, H3.out]; rfl), E4.back⟩
        · skip
          cases b4
          · skip
            go_enter Try.func30, Try.ntmps30
            go_upto_region 1 with (fail)
            with_reducible generalize w.alloc (.cells #[.int .i64 g.sectors, .int .i64 g.sector, .int .i64 g.blocks, .int .i64 g.pages, .int .i64 g.page] 26) = w1 at E1 ⊢
            obtain ⟨c0, c1, c2, c3, c4⟩ := HC.out _ E1.sits
            go_wp2_with (first | (go_at_call 63; (with_reducible refine (K1.out _ E1.sits).mono ?_); rintro e w2 ⟨rfl, F1⟩; have E2 := E1.trans F1; obtain ⟨c0, c1, c2, c3, c4⟩ := HC.out _ E2.sits) | (go_at_call 63; (with_reducible refine (K2.out _ E2.sits).mono ?_); rintro e w3 ⟨rfl, F2⟩; have E3 := E2.trans F2; obtain ⟨c0, c1, c2, c3, c4⟩ := HC.out _ E3.sits) | (go_at_call 63; (with_reducible refine (K3.out _ E3.sits).mono ?_); rintro e w4 ⟨rfl, F3⟩; have E4 := E3.trans F3; obtain ⟨c0, c1, c2, c3, c4⟩ := HC.out _ E4.sits) | (go_at_call 63; (with_reducible refine (K4.out _ E4.sits).mono ?_); rintro e w5 ⟨rfl, F4⟩; have E5 := E4.trans F4; obtain ⟨c0, c1, c2, c3, c4⟩ := HC.out _ E5.sits) | (go_at_call 63; (with_reducible refine (K5.out _ E5.sits).mono ?_); rintro e w6 ⟨rfl, F5⟩; have E6 := E5.trans F5; obtain ⟨c0, c1, c2, c3, c4⟩ := HC.out _ E6.sits))
            go_ret
            exact ⟨ret_bool (by rw [← HT.out]; unfold geoB; rw [H0.out, H1.out, H2.out, H3.out, H4.out]; rfl), E5.back⟩
          · skip
            cases b5
            · skip
              go_enter Try.func30, Try.ntmps30
              go_upto_region 1 with (fail)
              with_reducible generalize w.alloc (.cells #[.int .i64 g.sectors, .int .i64 g.sector, .int .i64 g.blocks, .int .i64 g.pages, .int .i64 g.page] 26) = w1 at E1 ⊢
              obtain ⟨c0, c1, c2, c3, c4⟩ := HC.out _ E1.sits
              go_wp2_with (first | (go_at_call 63; (with_reducible refine (K1.out _ E1.sits).mono ?_); rintro e w2 ⟨rfl, F1⟩; have E2 := E1.trans F1; obtain ⟨c0, c1, c2, c3, c4⟩ := HC.out _ E2.sits) | (go_at_call 63; (with_reducible refine (K2.out _ E2.sits).mono ?_); rintro e w3 ⟨rfl, F2⟩; have E3 := E2.trans F2; obtain ⟨c0, c1, c2, c3, c4⟩ := HC.out _ E3.sits) | (go_at_call 63; (with_reducible refine (K3.out _ E3.sits).mono ?_); rintro e w4 ⟨rfl, F3⟩; have E4 := E3.trans F3; obtain ⟨c0, c1, c2, c3, c4⟩ := HC.out _ E4.sits) | (go_at_call 63; (with_reducible refine (K4.out _ E4.sits).mono ?_); rintro e w5 ⟨rfl, F4⟩; have E5 := E4.trans F4; obtain ⟨c0, c1, c2, c3, c4⟩ := HC.out _ E5.sits) | (go_at_call 63; (with_reducible refine (K5.out _ E5.sits).mono ?_); rintro e w6 ⟨rfl, F5⟩; have E6 := E5.trans F5; obtain ⟨c0, c1, c2, c3, c4⟩ := HC.out _ E6.sits))
              go_ret
              exact ⟨ret_bool (by rw [← HT.out]; unfold geoB; rw [H0.out, H1.out, H2.out, H3.out, H4.out, H5.out]; rfl), E6.back⟩
            · skip
              go_enter Try.func30, Try.ntmps30
              go_upto_region 1 with (fail)
              with_reducible generalize w.alloc (.cells #[.int .i64 g.sectors, .int .i64 g.sector, .int .i64 g.blocks, .int .i64 g.pages, .int .i64 g.page] 26) = w1 at E1 ⊢
              obtain ⟨c0, c1, c2, c3, c4⟩ := HC.out _ E1.sits
              go_wp2_with (first | (go_at_call 63; (with_reducible refine (K1.out _ E1.sits).mono ?_); rintro e w2 ⟨rfl, F1⟩; have E2 := E1.trans F1; obtain ⟨c0, c1, c2, c3, c4⟩ := HC.out _ E2.sits) | (go_at_call 63; (with_reducible refine (K2.out _ E2.sits).mono ?_); rintro e w3 ⟨rfl, F2⟩; have E3 := E2.trans F2; obtain ⟨c0, c1, c2, c3, c4⟩ := HC.out _ E3.sits) | (go_at_call 63; (with_reducible refine (K3.out _ E3.sits).mono ?_); rintro e w4 ⟨rfl, F3⟩; have E4 := E3.trans F3; obtain ⟨c0, c1, c2, c3, c4⟩ := HC.out _ E4.sits) | (go_at_call 63; (with_reducible refine (K4.out _ E4.sits).mono ?_); rintro e w5 ⟨rfl, F4⟩; have E5 := E4.trans F4; obtain ⟨c0, c1, c2, c3, c4⟩ := HC.out _ E5.sits) | (go_at_call 63; (with_reducible refine (K5.out _ E5.sits).mono ?_); rintro e w6 ⟨rfl, F5⟩; have E6 := E5.trans F5; obtain ⟨c0, c1, c2, c3, c4⟩ := HC.out _ E6.sits))
              go_ret
              exact ⟨ret_bool (by rw [← HT.out]; unfold geoB; rw [H0.out, H1.out, H2.out, H3.out, H4.out, H5.out]; rfl), E6.back⟩
/-! ### numbers that rise -/
def okR (nx : Int) (xs : List Inode) (i : Nat) : Bool := rightI (xs.getD i default) && decide ((xs.getD i default).no < nx) && (i == 0 || decide ((xs.getD (i - 1) default).no < (xs.getD i default).no))
def okZ (bl : Int) (xs : List Int) (i : Nat) : Bool := decide (0 ≤ xs.getD i default) && decide (xs.getD i default < bl) && (i == 0 || decide (xs.getD (i - 1) default < xs.getD i default))
def allR (nx : Int) (xs : List Inode) : Bool := (List.range xs.length).all (okR nx xs)
def allZ (bl : Int) (xs : List Int) : Bool := (List.range xs.length).all (okZ bl xs)
def riseB (s : State) (g : Geo) : Bool := allR s.next s.inodes && allZ g.blocks s.bads && decide ((s.inodes.length : Int) ≤ 200) && decide (s.next ≤ 2147483647)
theorem riseB_z {s : State} {g : Geo} (h : allZ g.blocks s.bads = false) : riseB s g = false := by unfold riseB; rw [h]; simp
theorem range_all {p : Nat → Bool} {n : Nat} (h : ∀ i, i < n → p i = true) : (List.range n).all p = true := by
  rw [List.all_eq_true]; intro i hi; exact h i (by simpa using hi)
theorem range_not {p : Nat → Bool} {n i : Nat} (hi : i < n) (h : p i = false) : (List.range n).all p = false := by
  rw [List.all_eq_false]; exact ⟨i, by simpa using hi, by simp [h]⟩
theorem getD_of {α : Type} [Inhabited α] {xs : List α} {i : Nat} {x : α} (h : xs[i]? = some x) : xs.getD i default = x := by rw [List.getD_eq_getElem?_getD, h]; rfl
theorem okR_a {nx : Int} {xs : List Inode} {k : Nat} {x : Inode} (hx : xs[k]? = some x) (h : rightI x = false) : okR nx xs k = false := by simp only [okR, getD_of hx, h]; rfl
theorem okR_b {nx : Int} {xs : List Inode} {k : Nat} {x : Inode} (hx : xs[k]? = some x) (h : nx ≤ x.no) : okR nx xs k = false := by
  have : decide (x.no < nx) = false := by simp; omega
  simp only [okR, getD_of hx, this, Bool.and_false, Bool.false_and]
theorem okR_c {nx : Int} {xs : List Inode} {x : Inode} (hx : xs[0]? = some x) (h : rightI x = true) (h1 : x.no < nx) : okR nx xs 0 = true := by
  have : decide (x.no < nx) = true := by simpa using h1
  simp only [okR, getD_of hx, h, this]; rfl
theorem okR_d {nx : Int} {xs : List Inode} {m : Nat} {x y : Inode} (hx : xs[m + 1]? = some x) (hy : xs[m]? = some y) (h : rightI x = true) (h1 : x.no < nx) : okR nx xs (m + 1) = decide (y.no < x.no) := by
  have : decide (x.no < nx) = true := by simpa using h1
  simp only [okR, getD_of hx, Nat.add_sub_cancel, getD_of hy, h, this]; simp
theorem okZ_at {bl : Int} {xs : List Int} {m : Nat} {x y : Int} (hx : xs[m + 1]? = some x) (hy : xs[m]? = some y) : okZ bl xs (m + 1) = (decide (0 ≤ x) && decide (x < bl) && decide (y < x)) := by
  simp only [okZ, getD_of hx, Nat.add_sub_cancel, getD_of hy]; simp
theorem okZ_0 {bl : Int} {xs : List Int} {x : Int} (hx : xs[0]? = some x) : okZ bl xs 0 = (decide (0 ≤ x) && decide (x < bl)) := by
  simp only [okZ, getD_of hx]; simp
set_option maxHeartbeats 8000000 in
set_option maxRecDepth 100000 in
theorem state_rising (s : State) (g : Geo) (cs cg : List Value) (t : Bool) (ht : riseB s g = t) (hbl : 0 ≤ g.blocks) (h : FH) (w : World) (hs : Sits h w) (r : repState h cs s) (rg : repGeo h cg g) :
    Calls Try.prog 31 #[.agg cs.toArray, .agg cg.toArray] w fun e w' => e = .returned (.bool t) ∧ Ext h w h w' := by
  have hcs : cg = [.int .i64 g.sectors, .int .i64 g.sector, .int .i64 g.blocks, .int .i64 g.pages, .int .i64 g.page] := rg
  subst hcs
  obtain ⟨A1, c1, A2, c2, rfl, l1, r1, l2, r2⟩ := r
  have hlI := r1.1
  have hlB := r2.1
  have HT := hid ht
  clear ht rg
  obtain ⟨h1, E1, hb1, le1, hh1⟩ := (Ext.refl hs).boxF #[.int .i64 s.next, .slice A1 s.inodes.length c1, .slice A2 s.bads.length c2] 31
  obtain ⟨h2, E2, hb2, le2, hh2⟩ := E1.boxF #[.int .i64 g.sectors, .int .i64 g.sector, .int .i64 g.blocks, .int .i64 g.pages, .int .i64 g.page] 26
  rw [show (w.alloc (.cells #[.int .i64 s.next, .slice A1 s.inodes.length c1, .slice A2 s.bads.length c2] 31)).heap.size = w.heap.size + 1 by simp] at hb2
  have hb1 := le2 _ _ hb1
  have le1 := le1.trans le2
  clear hh1 hh2 E1
  go_enter Try.func31, Try.ntmps31
  go_upto_region 1 with (fail)
  with_reducible generalize (w.alloc (.cells #[.int .i64 s.next, .slice A1 s.inodes.length c1, .slice A2 s.bads.length c2] 31)).alloc (.cells #[.int .i64 g.sectors, .int .i64 g.sector, .int .i64 g.blocks, .int .i64 g.pages, .int .i64 g.page] 26) = w1 at E2 ⊢
  obtain ⟨gS, hgS⟩ : ∃ gS, gS = w.heap.size := ⟨_, rfl⟩
  obtain ⟨gG, hgG⟩ : ∃ gG, gG = w.heap.size + 1 := ⟨_, rfl⟩
  rw [← hgG] at hb2 ⊢
  rw [← hgS] at hb1 ⊢
  clear hgS hgG
  have y1 : w1.cell? ⟨gS, 1, none⟩ = some (.slice A1 s.inodes.length c1) := Sits_at E2.sits hb1 rfl
  have r1 := r1.mono le1
  have r2 := r2.mono le1
  go_wp2_with fail
  go_loopw [6, 12] (fun s6 i wr => ∃ k : Nat, k ≤ s.inodes.length ∧ i = .int .i64 k ∧ Hid (∀ i, i < k → okR s.next s.inodes i = true) ∧ Hid (Ext h w h2 wr)) (fun _ i _ => s.inodes.length - (intOf i).toNat)
  case atStart => exact ⟨0, Nat.zero_le _, rfl, hid (fun i hi => by omega), hid E2⟩
  case round =>
    obtain ⟨k, hk, rfl, HN, E⟩ := hrel
    clear y1
    by_cases hlt : k < s.inodes.length
    · obtain ⟨x, hx⟩ : ∃ x, s.inodes[k]? = some x := ⟨s.inodes[k], by simp [hlt]⟩
      obtain ⟨b, off, A5, c5, A6, c6, rfl, d0, d1, d2, d3, d4, d5, d6, s0, s1, s2, s3, s4⟩ := r1.inode hx E.out.sits
      have HX := hid hx
      have RX := hid (show repInode h2 [.int .i64 x.no, .int .i64 x.kind, .int .i64 x.links, .int .i64 x.size, .string x.target, .slice A5 x.entries.length c5, .slice A6 x.runs.length c6] x from ⟨A5, c5, A6, c6, rfl, s0, s1, s2, s3, s4⟩)
      clear hx
      go_upto_region 4 with (fail)
      have E2 := hid (E.out.alloc (.cells #[.int .i64 x.no, .int .i64 x.kind, .int .i64 x.links, .int .i64 x.size, .string x.target, .slice A5 x.entries.length c5, .slice A6 x.runs.length c6] 37))
      have HBX := hid (heap_new wr (.cells #[.int .i64 x.no, .int .i64 x.kind, .int .i64 x.links, .int .i64 x.size, .string x.target, .slice A5 x.entries.length c5, .slice A6 x.runs.length c6] 37))
      generalize hgb : wr.heap.size = gb at *
      with_reducible generalize wr.alloc (.cells #[.int .i64 x.no, .int .i64 x.kind, .int .i64 x.links, .int .i64 x.size, .string x.target, .slice A5 x.entries.length c5, .slice A6 x.runs.length c6] 37) = W2 at E2 HBX ⊢
      have e0 : W2.cell? ⟨gb, 0, none⟩ = some (.int .i64 x.no) := box_cell (j := 0) HBX.out rfl
      have u0 := fun d os => cell_regrown e0 d os
      have e1 : W2.cell? ⟨gb, 1, none⟩ = some (.int .i64 x.kind) := box_cell (j := 1) HBX.out rfl
      have u1 := fun d os => cell_regrown e1 d os
      have e2 : W2.cell? ⟨gb, 2, none⟩ = some (.int .i64 x.links) := box_cell (j := 2) HBX.out rfl
      have u2 := fun d os => cell_regrown e2 d os
      have e3 : W2.cell? ⟨gb, 3, none⟩ = some (.int .i64 x.size) := box_cell (j := 3) HBX.out rfl
      have u3 := fun d os => cell_regrown e3 d os
      have e4 : W2.cell? ⟨gb, 4, none⟩ = some (.string x.target) := box_cell (j := 4) HBX.out rfl
      have u4 := fun d os => cell_regrown e4 d os
      have e5 : W2.cell? ⟨gb, 5, none⟩ = some (.slice A5 x.entries.length c5) := box_cell (j := 5) HBX.out rfl
      have u5 := fun d os => cell_regrown e5 d os
      have e6 : W2.cell? ⟨gb, 6, none⟩ = some (.slice A6 x.runs.length c6) := box_cell (j := 6) HBX.out rfl
      have u6 := fun d os => cell_regrown e6 d os
      have yn : W2.cell? ⟨gS, 0, none⟩ = some (.int .i64 s.next) := Sits_at E2.out.sits hb1 rfl
      have un := fun d os => cell_regrown yn d os
      have yi : W2.cell? ⟨gS, 1, none⟩ = some (.slice (some ⟨b, off, none⟩) s.inodes.length c1) := Sits_at E2.out.sits hb1 rfl
      have ui := fun d os => cell_regrown yi d os
      have i1 : (0 : Int) ≤ (k : Int) := by omega
      have i2 : (k : Int) < (s.inodes.length : Int) := by omega
      clear e0 e1 e2 e3 e4 e5 e6 yn yi d0 d1 d2 d3 d4 d5 d6
      go_cut [42] (fun u wx => u = .bool (!okR s.next s.inodes k) ∧ Ext h w h2 wx)
      case first =>
        obtain ⟨q, hq⟩ : ∃ q, rightI x = q := ⟨_, rfl⟩
        have HQ := hid hq
        clear hq
        cases q
        · have G := hid (okR_a (nx := s.next) HX.out HQ.out)
          refine wp_region_quiet_below (by kernel_rfl) (by kernel_rfl) ?_
          repeat (go_big_quiet_step (exact quietCall (inode_Right x _ false HQ.out h2 _ (Ext.quiet E2.out.sits _ _).sits RX.out)))
          refine wpQuiet_nil ?_
          intro _ hw'
          obtain ⟨⟨dq, osq⟩, hw''⟩ := hw'
          subst hw''
          go_wp2
          go_meet
          exact ⟨ret_val3 (by rw [G.out]; first | rfl | (rw [Bool.not_not]; rfl) | (rw [← decide_not]; exact decide_eq_decide.2 (by omega))), E2.out.trans (Ext.quiet E2.out.sits _ _)⟩
        · by_cases hno : s.next ≤ x.no
          · have G := hid (okR_b HX.out hno)
            have hno2 : decide (s.next ≤ x.no) = true := by simpa using hno
            have hno3 : decide (x.no < s.next) = false := by simp; omega
            clear hno
            refine wp_region_quiet_below (by kernel_rfl) (by kernel_rfl) ?_
            repeat (go_big_quiet_step (exact quietCall (inode_Right x _ true HQ.out h2 _ (Ext.quiet E2.out.sits _ _).sits RX.out)))
            refine wpQuiet_nil ?_
            intro _ hw'
            obtain ⟨⟨dq, osq⟩, hw''⟩ := hw'
            subst hw''
            go_wp2
            go_meet
            exact ⟨ret_val3 (by rw [G.out]; first | rfl | (rw [Bool.not_not]; rfl) | (rw [← decide_not]; exact decide_eq_decide.2 (by omega))), E2.out.trans (Ext.quiet E2.out.sits _ _)⟩
          · have hno2 : decide (s.next ≤ x.no) = false := by simpa using hno
            have hno3 : decide (x.no < s.next) = true := by simp; omega
            cases k with
            | zero =>
                have G := hid (okR_c (nx := s.next) HX.out HQ.out (by omega))
                clear hno
                try simp only [Nat.zero_mul, Nat.add_zero] at u0 u1
                refine wp_region_quiet_below (by kernel_rfl) (by kernel_rfl) ?_
                repeat (go_big_quiet_step (exact quietCall (inode_Right x _ true HQ.out h2 _ (Ext.quiet E2.out.sits _ _).sits RX.out)))
                refine wpQuiet_nil ?_
                intro _ hw'
                obtain ⟨⟨dq, osq⟩, hw''⟩ := hw'
                subst hw''
                go_wp2
                go_meet
                exact ⟨ret_val3 (by rw [G.out]; first | rfl | (rw [Bool.not_not]; rfl) | (rw [← decide_not]; exact decide_eq_decide.2 (by omega))), E2.out.trans (Ext.quiet E2.out.sits _ _)⟩
            | succ m =>
                obtain ⟨y, hy⟩ : ∃ y, s.inodes[m]? = some y := ⟨s.inodes[m]'(by omega), List.getElem?_eq_getElem _⟩
                obtain ⟨b', off', _, _, _, _, e0, d0, _⟩ := r1.inode hy E2.out.sits
                obtain ⟨rfl, rfl⟩ : b = b' ∧ off = off' := by simpa using e0
                have G := hid (okR_d (nx := s.next) HX.out hy HQ.out (by omega))
                have v0 := fun d os => cell_regrown d0 d os
                have e1 : ((m + 1 : Nat) : Int) = (m : Int) + 1 := by omega
                rw [e1] at i1 i2
                rw [e1]
                have hz : decide (0 < (m : Int) + 1) = true := decide_eq_true (by omega)
                have i3 : (0 : Int) ≤ (m : Int) := by omega
                have i4 : (m : Int) < (s.inodes.length : Int) := by omega
                clear hy e0 d0 e1 hno
                refine wp_region_quiet_below (by kernel_rfl) (by kernel_rfl) ?_
                repeat (go_big_quiet_step (exact quietCall (inode_Right x _ true HQ.out h2 _ (Ext.quiet E2.out.sits _ _).sits RX.out)))
                refine wpQuiet_nil ?_
                intro _ hw'
                obtain ⟨⟨dq, osq⟩, hw''⟩ := hw'
                subst hw''
                go_wp2
                go_meet
                exact ⟨ret_val3 (by rw [G.out]; first | rfl | (rw [Bool.not_not]; rfl) | (rw [← decide_not]; exact decide_eq_decide.2 (by omega))), E2.out.trans (Ext.quiet E2.out.sits _ _)⟩
      case rest =>
        obtain ⟨rfl, E3⟩ := hcut
        obtain ⟨q, hq⟩ : ∃ q, okR s.next s.inodes k = q := ⟨_, rfl⟩
        have HG := hid hq
        have E3 := hid E3
        rw [hq]
        clear hq
        cases q
        · have HF := hid (show riseB s g = false by unfold riseB allR; rw [range_not hlt HG.out]; rfl)
          go_wp2
          go_ret
          exact ⟨ret_bool (by rw [← HT.out, HF.out]), E3.out.back⟩
        · have HN2 := hid (show ∀ i, i < k + 1 → okR s.next s.inodes i = true from fun i hi => by
            by_cases hik : i = k
            · rw [hik, HG.out]
            · exact HN.out i (by omega))
          go_wp2
          go_roundw
          case rel => exact ⟨k + 1, by omega, by go_num, HN2, E3⟩
          case measure => simp [intOf]; omega
    · have HA := hid (show allR s.next s.inodes = true from range_all (fun i hi => HN.out i (by omega)))
      have y2 : wr.cell? ⟨gS, 2, none⟩ = some (.slice A2 s.bads.length c2) := Sits_at E.out.sits hb1 rfl
      clear HN
      go_wp2_with fail
      go_loopw [8, 47] (fun s8 i wr => ∃ k : Nat, k ≤ s.bads.length ∧ i = .int .i64 k ∧ Hid (∀ i, i < k → okZ g.blocks s.bads i = true) ∧ Hid (Ext h w h2 wr)) (fun _ i _ => s.bads.length - (intOf i).toNat)
      case atStart => exact ⟨0, Nat.zero_le _, rfl, hid (fun i hi => by omega), E⟩
      case round =>
        obtain ⟨k, hk, rfl, HN, E⟩ := hrel
        clear y2
        have y1 : wr.cell? ⟨gS, 1, none⟩ = some (.slice A1 s.inodes.length c1) := Sits_at E.out.sits hb1 rfl
        have y0 : wr.cell? ⟨gS, 0, none⟩ = some (.int .i64 s.next) := Sits_at E.out.sits hb1 rfl
        have y2 : wr.cell? ⟨gS, 2, none⟩ = some (.slice A2 s.bads.length c2) := Sits_at E.out.sits hb1 rfl
        have yg : wr.cell? ⟨gG, 2, none⟩ = some (.int .i64 g.blocks) := Sits_at E.out.sits hb2 rfl
        by_cases hlt : k < s.bads.length
        · obtain ⟨x, hx⟩ : ∃ x, s.bads[k]? = some x := ⟨s.bads[k], by simp [hlt]⟩
          obtain ⟨b, off, rfl, d0⟩ := r2.int hx E.out.sits
          obtain ⟨q, hq⟩ : ∃ q, okZ g.blocks s.bads k = q := ⟨_, rfl⟩
          have HG := hid hq
          have HN2 : Hid (q = true → ∀ i, i < k + 1 → okZ g.blocks s.bads i = true) := hid (fun hqt i hi => by
            by_cases hik : i = k
            · rw [hik, HG.out, hqt]
            · exact HN.out i (by omega))
          have HF : Hid (q = false → riseB s g = false) := hid (fun hqf => riseB_z (by unfold allZ; rw [range_not hlt (HG.out.trans hqf)]))
          cases k with
          | zero =>
            have HZ := hid (hq.symm.trans (okZ_0 (bl := g.blocks) hx))
            clear hq hx
            rw [Nat.add_zero] at d0
            by_cases a1 : x < 0
            · have HQ := hid (show q = false by rw [HZ.out]; simp; omega)
              go_wp2
              go_ret
              exact ⟨ret_bool (by rw [← HT.out, HF.out HQ.out]), E.out.back⟩
            · by_cases a2 : g.blocks ≤ x
              · have HQ := hid (show q = false by rw [HZ.out]; simp; omega)
                go_wp2
                go_ret
                exact ⟨ret_bool (by rw [← HT.out, HF.out HQ.out]), E.out.back⟩
              · have HQ := hid (show q = true by rw [HZ.out]; simp; omega)
                go_wp2
                go_roundw
                case rel => exact ⟨0 + 1, by omega, by go_num, hid (HN2.out HQ.out), E⟩
                case measure => simp [intOf]; omega
          | succ m =>
            obtain ⟨y, hy⟩ : ∃ y, s.bads[m]? = some y := ⟨s.bads[m]'(by omega), List.getElem?_eq_getElem _⟩
            obtain ⟨b', off', e0, d1⟩ := r2.int hy E.out.sits
            obtain ⟨rfl, rfl⟩ : b = b' ∧ off = off' := by simpa using e0
            have HZ := hid (hq.symm.trans (okZ_at (bl := g.blocks) hx hy))
            clear hq hx hy e0
            have e1 : ((m + 1 : Nat) : Int) = (m : Int) + 1 := by omega
            have i1 : (0 : Int) < (m : Int) + 1 := by omega
            have i2 : (m : Int) + 1 < (s.bads.length : Int) := by omega
            have i3 : (0 : Int) ≤ (m : Int) := by omega
            have i4 : (m : Int) < (s.bads.length : Int) := by omega
            rw [e1]
            clear e1
            by_cases a1 : x < 0
            · have HQ := hid (show q = false by rw [HZ.out]; simp; omega)
              go_wp2
              go_ret
              exact ⟨ret_bool (by rw [← HT.out, HF.out HQ.out]), E.out.back⟩
            · by_cases a2 : g.blocks ≤ x
              · have HQ := hid (show q = false by rw [HZ.out]; simp; omega)
                go_wp2
                go_ret
                exact ⟨ret_bool (by rw [← HT.out, HF.out HQ.out]), E.out.back⟩
              · by_cases a3 : x ≤ y
                · have HQ := hid (show q = false by rw [HZ.out]; simp; omega)
                  go_wp2
                  go_ret
                  exact ⟨ret_bool (by rw [← HT.out, HF.out HQ.out]), E.out.back⟩
                · have HQ := hid (show q = true by rw [HZ.out]; simp; omega)
                  go_wp2
                  go_roundw
                  case rel => exact ⟨m + 1 + 1, by omega, by go_num, hid (HN2.out HQ.out), E⟩
                  case measure => simp [intOf]; omega
        · have HZ := hid (show allZ g.blocks s.bads = true from range_all (fun i hi => HN.out i (by omega)))
          have HR := hid (show riseB s g = (decide ((s.inodes.length : Int) ≤ 200) && decide (s.next ≤ 2147483647)) by unfold riseB; rw [HA.out, HZ.out]; rfl)
          clear HN
          by_cases a1 : (s.inodes.length : Int) ≤ 200
          · have HQ := hid (decide_eq_true a1)
            go_wp2
            go_ret
            exact ⟨ret_bool (by rw [← HT.out, HR.out, HQ.out]; rfl), E.out.back⟩
          · have HQ := hid (decide_eq_false a1)
            go_wp2
            go_ret
            exact ⟨ret_bool (by rw [← HT.out, HR.out, HQ.out]; rfl), E.out.back⟩
end Go.Proofs.Ytkglaofiencfdaa
