import Derived.Test.YtidfcdomeacppaaPadBase
namespace Go.Proofs.Ytidfcdomeacppaa
open Go.RowKit Go.Sort
set_option linter.unusedVariables false
theorem ret_val4 {a b : Bool} (h : a = b) : Value.bool a = .bool b := by rw [h]
set_option maxHeartbeats 4000000 in
set_option maxRecDepth 100000 in
theorem own_Entry (xs : List Entry) (A : Option Addr) (c : Nat) (f : Entry) (hfs : f.name.size ≤ 9223372036854775807) (hb : xs.length ≤ 1000) (h : FH) (w : World) (hs : Sits h w) (r : RowAt h A xs) :
    Calls Try.prog 25 #[.slice A xs.length c, .agg #[.string f.name, .int .i64 f.no]] w fun e w' => RetPad h w 38 xs f e w' := by
  have hl := r.1
  obtain ⟨i, z, hi, hz0, hz1, hz2, hz3⟩ := ty_Entry.info
  have HI := hid hi
  clear hi
  have Hn := hs.none (g := w.heap.size) (Nat.le_refl _)
  obtain ⟨h1, hh1⟩ : ∃ h1, h1 = h.add w.heap.size (.cells #[.string f.name, .int .i64 f.no] 38) := ⟨_, rfl⟩
  have E0 : Ext h w h1 (w.alloc (.cells #[.string f.name, .int .i64 f.no] 38)) := by rw [hh1]; exact ((Ext.refl hs).alloc _).add (heap_new _ _) Hn (Nat.le_refl _)
  have b0 : h1.cell ⟨w.heap.size, 0, none⟩ = some (.string f.name) := by rw [hh1]; exact FH.add_cell _ _ _ _ _ rfl
  have b1 : h1.cell ⟨w.heap.size, 1, none⟩ = some (.int .i64 f.no) := by rw [hh1]; exact FH.add_cell _ _ _ _ _ rfl
  have HF := hid ((E0.sits).none (g := (w.alloc (.cells #[.string f.name, .int .i64 f.no] 38)).heap.size) (Nat.le_refl _))
  have HSZ := hid (show (w.alloc (.cells #[.string f.name, .int .i64 f.no] 38)).heap.size = w.heap.size + 1 by simp)
  rw [HSZ.out] at HF
  have r1 := r.mono E0.le
  clear hh1 Hn
  go_enter Try.func25, Try.ntmps25
  go_wp2_with (at_make; refine wpList_make_own _ rfl _ _ 22 rfl w.heap.size 38 i z _ Try.underlying22 HI.out hz0 hz1 _ _ _ (xs.length + 3) rfl rfl (by omega) (by rw [hz2]; omega) (by unfold maxLen; omega) (by first | exact Nat.le_refl _ | (simp)) ?_)
  intro w1 O1 hg1
  have E1 := E0.grown hg1 (fun k hk => by cases hk)
  have O2 : OwnL h1 w1 w.heap.size 38 (.slice (some ⟨(w.heap.size + 1), 0, none⟩) 0 (xs.length + 3)) ([] : List Entry) := ⟨⟨[], by simpa using O1, rfl⟩, fun g hg => by simp [Value.ownBlock] at hg; subst hg; exact HF.out⟩
  clear O1 hg1
  go_wp2_with (at_builtin; refine wpList_appendIn rfl _ _ 22 rfl w.heap.size 38 24 ty_Entry _ _ [] xs rfl O2 rfl E1.sits A _ c rfl rfl r1 (by simp) ?_)
  intro w2 O3 hg2
  have E2 := E1.grown hg2 (fun k hk => by cases hk; exact ⟨by omega, HF.out⟩)
  change OwnL _ _ _ _ _ xs at O3
  clear hg2
  go_wp2_with fail
  go_loopw [7] (fun i wr => ∃ k : Nat, xs.length ≤ k ∧ k ≤ xs.length + 3 ∧ i = .int .i64 k ∧ OwnL h1 wr w.heap.size 38 (.slice (some ⟨(w.heap.size + 1), 0, none⟩) k (xs.length + 3)) (xs ++ List.replicate (k - xs.length) f) ∧ Ext h w h1 wr) (fun i _ => xs.length + 3 - (intOf i).toNat)
  case atStart => exact ⟨xs.length, Nat.le_refl _, by omega, rfl, by simpa using O3, E2⟩
  case round =>
    obtain ⟨k, hk1, hk2, rfl, O, E⟩ := hrel
    by_cases hlt : k < xs.length + 3
    · have hlen : (xs ++ List.replicate (k - xs.length) f).length = k := by simp; omega
      have P := O.push (y := f) (cs := [.string f.name, .int .i64 f.no]) ⟨rfl, hfs⟩ (by omega)
      rw [hlen] at P
      obtain ⟨O4, T4⟩ := P
      have E4 := Ext.setCells (by omega) HF.out [.string f.name, .int .i64 f.no] (k * Enc.sz Entry) _ E
      change OwnL _ (wr.setCells _ (k * 2) _) _ _ _ _ at O4
      change wr.there _ (k * 2) 2 at T4
      change Ext _ _ _ (wr.setCells _ (k * 2) _) at E4
      have z0 := E.sits.cell b0
      have z1 := E.sits.cell b1
      obtain ⟨u0, hu0⟩ := Option.isSome_iff_exists.1 (T4 0 (by decide)).1
      have hf0 := (T4 0 (by decide)).2
      obtain ⟨u1, hu1⟩ := Option.isSome_iff_exists.1 (T4 1 (by decide)).1
      have hf1 := (T4 1 (by decide)).2
      have hu0 : wr.cell? ⟨w.heap.size + 1, k * 2, none⟩ = some u0 := hu0
      have hf0 : wr.frozen? ⟨w.heap.size + 1, k * 2, none⟩ = false := hf0
      have hrep : xs ++ List.replicate (k - xs.length) f ++ [f] = xs ++ List.replicate (k + 1 - xs.length) f := by
        rw [List.append_assoc, ← List.replicate_succ', show k - xs.length + 1 = k + 1 - xs.length from by omega]
      rw [hrep] at O4
      have O5 := hid O4
      clear hlen hrep O O4
      clear T4
      go_wp2_with fail
      go_roundw
      case rel => exact ⟨k + 1, by omega, by omega, by go_num, O5.out, E4⟩
      case measure => simp [intOf]; omega
    · obtain rfl : k = xs.length + 3 := by omega
      have hlen : (xs ++ List.replicate (xs.length + 3 - xs.length) f) = xs ++ List.replicate 3 f := by rw [show xs.length + 3 - xs.length = 3 from by omega]
      rw [hlen] at O
      have hlen2 : (xs ++ List.replicate 3 f).length = xs.length + 3 := by simp
      rw [← hlen2] at O
      obtain ⟨h2, A1, c1, hv1, _, r2, l1, s1, f1⟩ := O.freeze E.sits (by simp; omega)
      have e1 : (some ⟨(w.heap.size + 1), 0, none⟩ : Option Addr) = A1 := by simpa using (Value.slice.injEq .. ▸ hv1).1
      have R1 := hid (e1 ▸ r2)
      have E3 : Ext h w h2 wr := ⟨E.le.trans l1, s1, E.below, fun b hb => by
        rcases f1 b hb with h3 | h3
        · exact E.fresh b h3
        · exact .inr h3⟩
      clear hlen hlen2 hv1 O r2 e1
      go_wp2_with fail
      go_ret
      exact ⟨_, h2, rfl, R1.out, E3⟩
set_option maxHeartbeats 4000000 in
set_option maxRecDepth 100000 in
theorem kept_Entry (xs : List Entry) (A B : Option Addr) (c d : Nat) (f : Entry) (hb : xs.length ≤ 1000) (hc : xs.length + 3 ≤ c) (h : FH) (w : World) (hs : Sits h w) (r : RowAt h A (xs ++ List.replicate 3 f)) (r' : RowAt h B xs) :
    Calls Try.prog 33 #[.slice A xs.length c, .slice B xs.length d, .agg #[.string f.name, .int .i64 f.no]] w fun e w' => e = .returned (.bool true) ∧ Ext h w h w' := by
  have hlc : ¬ (c : Int) < (xs.length : Int) + 3 := by omega
  have Hn := hs.none (g := w.heap.size) (Nat.le_refl _)
  obtain ⟨h1, hh1⟩ : ∃ h1, h1 = h.add w.heap.size (.cells #[.string f.name, .int .i64 f.no] 38) := ⟨_, rfl⟩
  have E0 : Ext h w h1 (w.alloc (.cells #[.string f.name, .int .i64 f.no] 38)) := by rw [hh1]; exact ((Ext.refl hs).alloc _).add (heap_new _ _) Hn (Nat.le_refl _)
  have b0 : h1.cell ⟨w.heap.size, 0, none⟩ = some (.string f.name) := by rw [hh1]; exact FH.add_cell _ _ _ _ _ rfl
  have b1 : h1.cell ⟨w.heap.size, 1, none⟩ = some (.int .i64 f.no) := by rw [hh1]; exact FH.add_cell _ _ _ _ _ rfl
  have r1 := r.mono E0.le
  have r2 := r'.mono E0.le
  clear hh1 Hn r r'
  have r0 := r1.take
  have HP := hid (fun (w : World) (hs : Sits h1 w) => plain_Entry xs xs A B c d true (by simp) h1 w hs r0 r2)
  obtain ⟨b, off, rfl, _⟩ := r1.2 (by simp)
  clear r0
  go_enter Try.func33, Try.ntmps33
  go_wp2_with fail
  refine (HP.out _ E0.sits).mono ?_
  rintro e w1 ⟨rfl, E1⟩
  go_wp2_with fail
  go_loopw [8] (fun i wr => ∃ k : Nat, xs.length ≤ k ∧ k ≤ xs.length + 3 ∧ i = .int .i64 k ∧ Ext h w h1 wr) (fun i _ => xs.length + 3 - (intOf i).toNat)
  case atStart => exact ⟨xs.length, Nat.le_refl _, by omega, rfl, E0.trans E1⟩
  case round =>
    obtain ⟨k, hk1, hk2, rfl, E⟩ := hrel
    by_cases hlt : k < xs.length + 3
    · have hx : (xs ++ List.replicate 3 f)[k]? = some f := by
        rw [List.getElem?_append_right hk1, List.getElem?_replicate, if_pos (by omega)]
      obtain ⟨b', off', hbo, c0, c1, _⟩ := r1.entry hx E.sits
      obtain ⟨rfl, rfl⟩ : b = b' ∧ off = off' := by simpa using hbo
      clear hx hbo HP E1
      have z0 := E.sits.cell b0
      have z1 := E.sits.cell b1
      go_upto_region 7 with (fail)
      go_cut [39] (fun s wx => s = .bool false ∧ Ext h w h1 wx)
      case first =>
        as_aux_lemma =>
            have e0 := fun d os => cell_regrown c0 d os
            have e1 := fun d os => cell_regrown c1 d os
            have y0 := fun d os => cell_regrown z0 d os
            have y1 := fun d os => cell_regrown z1 d os
            refine wp_region_quiet_below (by kernel_rfl) (by kernel_rfl) ?_
            repeat (go_big_quiet_step (fail))
            refine wpQuiet_nil ?_
            intro _ hw'
            obtain ⟨⟨dq, osq⟩, hw''⟩ := hw'
            subst hw''
            go_wp2
            go_meet
            exact ⟨ret_val4 (by simp), E.trans (Ext.quiet E.sits _ _)⟩
      case rest =>
        obtain ⟨rfl, E2⟩ := hcut
        go_wp2_with fail
        go_roundw
        case rel => exact ⟨k + 1, by omega, by omega, by go_num, E2⟩
        case measure => simp [intOf]; omega
    · obtain rfl : k = xs.length + 3 := by omega
      go_wp2_with fail
      go_ret
      exact ⟨rfl, E.back⟩
end Go.Proofs.Ytidfcdomeacppaa
