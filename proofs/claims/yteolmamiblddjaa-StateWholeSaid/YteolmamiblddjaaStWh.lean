import Derived.Test.YteolmamiblddjaaStSd
namespace Go.Proofs.Yteolmamiblddjaa
open Go.RowKit Go.Sort
set_option linter.unusedVariables false
def wholeL (s : State) : List Deed := [⟨1, s.next, zeroI⟩] ++ s.inodes.map (fun x => ⟨2, 0, x⟩) ++ s.bads.map fun n => ⟨4, n, zeroI⟩
theorem OwnL.made1 {α : Type} [Enc α] {h : FH} {w : World} (hs : Sits h w) {cs : List Value} {x : α} (T : TypeId) (r : Enc.rep h cs x) : OwnL h (w.alloc (.cells cs.toArray T)) w.heap.size T (.slice (some ⟨w.heap.size, 0, none⟩) 1 1) [x] := by
  have hl := Enc.len r
  refine ⟨⟨cs, ⟨by simp [hl], .inr ⟨w.heap.size, 1, cs.toArray, rfl, Nat.le_refl _, heap_new _ _, Nat.le_refl _, by unfold maxLen; omega, by simp [hl], by simp; exact List.take_of_length_le (by omega)⟩⟩, Reps.single r⟩, fun g hg => ?_⟩
  have : g = w.heap.size := by simpa [Value.ownBlock] using hg.symm
  rw [this]; exact hs.none (Nat.le_refl _)
set_option maxHeartbeats 8000000 in
set_option maxRecDepth 100000 in
theorem state_Whole (s : State) (cs : List Value) (hfit : ∀ x ∈ s.inodes, fitI x) (hb1 : s.inodes.length ≤ 900) (hb2 : s.bads.length ≤ 900) (h : FH) (w : World) (hs : Sits h w) (r : repState h cs s) :
    Calls Try.prog 21 #[.agg cs.toArray] w fun e w' => RetOwnX h w 39 (wholeL s) e w' := by
  obtain ⟨A1, c1, A2, c2, rfl, l1, r1, l2, r2⟩ := r
  have hl1 := r1.1
  have hl2 := r2.1
  have HF := hid hfit
  clear hfit
  obtain ⟨h1, E1, hS, le1, hh1⟩ := (Ext.refl hs).boxF #[.int .i64 s.next, .slice A1 s.inodes.length c1, .slice A2 s.bads.length c2] 31
  have r1 := r1.mono le1
  have r2 := r2.mono le1
  clear hh1
  go_enter Try.func21, Try.ntmps21
  go_upto_region 1 with (fail)
  generalize hgS : w.heap.size = gS at *
  have hwS := hid (Nat.le_of_eq hgS)
  with_reducible generalize w.alloc (.cells #[.int .i64 s.next, .slice A1 s.inodes.length c1, .slice A2 s.bads.length c2] 31) = w1 at E1 ⊢
  have s0 : w1.cell? ⟨gS, 0, none⟩ = some (.int .i64 s.next) := Sits_at E1.sits hS rfl
  have s1 : w1.cell? ⟨gS, 1, none⟩ = some (.slice A1 s.inodes.length c1) := Sits_at E1.sits hS rfl
  have O0 := OwnL.made1 E1.sits 39 (show Enc.rep h1 [.int .i64 1, .int .i64 s.next, .int .i64 0, .int .i64 0, .int .i64 0, .int .i64 0, .string ⟨#[]⟩, .slice none 0 0, .slice none 0 0] (⟨1, s.next, zeroI⟩ : Deed) from ⟨none, 0, none, 0, rfl, Nat.zero_le _, ⟨Nat.le_refl _, fun _ => rfl, by decide⟩, RowAt.nil _ _, ⟨Nat.le_refl _, fun _ => rfl, by decide⟩, RowAt.nil _ _⟩)
  have E2 := E1.alloc (.cells #[.int .i64 1, .int .i64 s.next, .int .i64 0, .int .i64 0, .int .i64 0, .int .i64 0, .string ⟨#[]⟩, .slice none 0 0, .slice none 0 0] 39)
  have O0 := hid (O0.rebase (base' := w.heap.size) E1.size)
  have hgS' := hid hgS
  clear hgS
  go_upto_region 2 with (fail)
  have s1' : (w1.alloc (.cells #[.int .i64 1, .int .i64 s.next, .int .i64 0, .int .i64 0, .int .i64 0, .int .i64 0, .string ⟨#[]⟩, .slice none 0 0, .slice none 0 0] 39)).cell? ⟨gS, 1, none⟩ = some (.slice A1 s.inodes.length c1) := Sits_at E2.sits hS rfl
  have E2 := hid E2
  clear s0 s1 E1
  with_reducible generalize w1.alloc (.cells #[.int .i64 1, .int .i64 s.next, .int .i64 0, .int .i64 0, .int .i64 0, .int .i64 0, .string ⟨#[]⟩, .slice none 0 0, .slice none 0 0] 39) = w2 at O0 E2 s1' ⊢
  generalize w1.heap.size = g2 at *
  go_wp2_with fail
  go_loopw [3, 15] (fun s3 i wr => ∃ (k : Nat) (h' : FH), k ≤ s.inodes.length ∧ i = .int .i64 k ∧ Hid (OwnL h' wr w.heap.size 39 s3 ([(⟨1, s.next, zeroI⟩ : Deed)] ++ (s.inodes.take k).map (fun x => (⟨2, 0, x⟩ : Deed)))) ∧ Hid (Ext h w h' wr) ∧ Hid (FLe h1 h')) (fun _ i _ => s.inodes.length - (intOf i).toNat)
  case atStart => exact ⟨0, h1, Nat.zero_le _, rfl, O0, E2, hid (FLe.refl _)⟩
  case round =>
    obtain ⟨k, h', hk, rfl, O, E, LE⟩ := hrel
    clear s1'
    by_cases hlt : k < s.inodes.length
    · obtain ⟨x, hx⟩ : ∃ x, s.inodes[k]? = some x := ⟨s.inodes[k], by simp [hlt]⟩
      obtain ⟨b, off, A5, c5, A6, c6, rfl, d0, d1, d2, d3, d4, d5, d6, t0, t1, t2, t3, t4⟩ := (r1.mono LE.out).inode hx E.out.sits
      have HX := hid hx
      have HFX := hid (HF.out x (List.mem_of_getElem? hx))
      have HB := hid (show (([(⟨1, s.next, zeroI⟩ : Deed)] ++ (s.inodes.take k).map (fun x => (⟨2, 0, x⟩ : Deed))).length + 1) * 112 ≤ 140737488355328 by simp; omega)
      have RX := hid (show repInode h' [.int .i64 x.no, .int .i64 x.kind, .int .i64 x.links, .int .i64 x.size, .string x.target, .slice A5 x.entries.length c5, .slice A6 x.runs.length c6] x from ⟨A5, c5, A6, c6, rfl, t0, t1, t2, t3, t4⟩)
      clear hx
      go_upto_region 5 with (fail)
      have E3 := hid (E.out.alloc (.cells #[.int .i64 x.no, .int .i64 x.kind, .int .i64 x.links, .int .i64 x.size, .string x.target, .slice A5 x.entries.length c5, .slice A6 x.runs.length c6] 37))
      have HBX := hid (heap_new wr (.cells #[.int .i64 x.no, .int .i64 x.kind, .int .i64 x.links, .int .i64 x.size, .string x.target, .slice A5 x.entries.length c5, .slice A6 x.runs.length c6] 37))
      have O1 := hid (O.out.alloc (.cells #[.int .i64 x.no, .int .i64 x.kind, .int .i64 x.links, .int .i64 x.size, .string x.target, .slice A5 x.entries.length c5, .slice A6 x.runs.length c6] 37))
      generalize hgb : wr.heap.size = gb at *
      with_reducible generalize wr.alloc (.cells #[.int .i64 x.no, .int .i64 x.kind, .int .i64 x.links, .int .i64 x.size, .string x.target, .slice A5 x.entries.length c5, .slice A6 x.runs.length c6] 37) = W1 at E3 HBX O1 ⊢
      have e0 : W1.cell? ⟨gb, 0, none⟩ = some (.int .i64 x.no) := box_cell (j := 0) HBX.out rfl
      have e1 : W1.cell? ⟨gb, 1, none⟩ = some (.int .i64 x.kind) := box_cell (j := 1) HBX.out rfl
      have e2 : W1.cell? ⟨gb, 2, none⟩ = some (.int .i64 x.links) := box_cell (j := 2) HBX.out rfl
      have e3 : W1.cell? ⟨gb, 3, none⟩ = some (.int .i64 x.size) := box_cell (j := 3) HBX.out rfl
      have e4 : W1.cell? ⟨gb, 4, none⟩ = some (.string x.target) := box_cell (j := 4) HBX.out rfl
      have e5 : W1.cell? ⟨gb, 5, none⟩ = some (.slice A5 x.entries.length c5) := box_cell (j := 5) HBX.out rfl
      have e6 : W1.cell? ⟨gb, 6, none⟩ = some (.slice A6 x.runs.length c6) := box_cell (j := 6) HBX.out rfl
      have K := hid (state_own x _ HFX.out.1 HFX.out.2 h' W1 E3.out.sits RX.out)
      clear d0 d1 d2 d3 d4 d5 d6
      go_wp2_with (first | (go_at_call 39; refine K.out.mono ?_; rintro e w3 ⟨cs2, h2, rfl, ⟨A7, c7, A8, c8, rfl, u0, u1, u2, u3, u4⟩, F2⟩; have RY := hid (show repDeed h2 [.int .i64 2, .int .i64 0, .int .i64 x.no, .int .i64 x.kind, .int .i64 x.links, .int .i64 x.size, .string x.target, .slice A7 x.entries.length c7, .slice A8 x.runs.length c8] ⟨2, 0, x⟩ from ⟨A7, c7, A8, c8, rfl, u0, u1, u2, u3, u4⟩); have F2 := hid F2) | (at_builtin; refine wpList_append1At rfl _ _ 40 rfl w.heap.size 39 112 ty_Deed _ _ rfl ((O1.out.ext F2.out).alloc _) (F2.out.sits.alloc _) _ rfl _ (⟨2, 0, x⟩ : Deed) RY.out (cells_of_box (heap_new _ _)) HB.out (by decide) ((E3.out.trans F2.out).alloc _).size ?_; intro v3 w4 O3 hg3; have O3 := hid O3; have E4 := hid (((E3.out.trans F2.out).alloc _).grown hg3 (fun k hk => ⟨((O1.out.ext F2.out).lt k hk).1, (O1.out.ext F2.out).free k hk⟩)); clear hg3))
      go_roundw
      case rel => exact ⟨k + 1, h2, by omega, by go_num, hid (by rw [take_snoc HX.out, List.map_append, ← List.append_assoc]; exact O3.out), E4, hid (LE.out.trans F2.out.le)⟩
      case measure => simp [intOf]; omega
    · have hkl : s.inodes.take k = s.inodes := List.take_of_length_le (by omega)
      rw [hkl] at O
      have s2 : wr.cell? ⟨gS, 2, none⟩ = some (.slice A2 s.bads.length c2) := Sits_at E.out.sits (LE.out _ _ hS) rfl
      have O := hid (show OwnL h' wr w.heap.size 39 u3 (([(⟨1, s.next, zeroI⟩ : Deed)] ++ s.inodes.map (fun x => (⟨2, 0, x⟩ : Deed))) ++ (s.bads.take 0).map (fun n => (⟨4, n, zeroI⟩ : Deed))) by simpa using O.out)
      obtain ⟨ps, hps⟩ : ∃ ps, [(⟨1, s.next, zeroI⟩ : Deed)] ++ s.inodes.map (fun x => (⟨2, 0, x⟩ : Deed)) = ps := ⟨_, rfl⟩
      have HPL := hid (show ps.length ≤ 901 by rw [← hps]; simp; omega)
      have HW := hid (show wholeL s = ps ++ s.bads.map (fun n => ⟨4, n, zeroI⟩) by unfold wholeL; rw [hps])
      rw [hps] at O
      have r2' := r2.mono LE.out
      clear hkl hps
      go_wp2_with fail
      go_loopw [3, 7, 29] (fun s3 s7 i wr => ∃ (j : Nat), j ≤ s.bads.length ∧ i = .int .i64 j ∧ Hid (OwnL h' wr w.heap.size 39 s3 (ps ++ (s.bads.take j).map (fun n => (⟨4, n, zeroI⟩ : Deed)))) ∧ Hid (Ext h w h' wr)) (fun _ _ i _ => s.bads.length - (intOf i).toNat)
      case atStart => exact ⟨0, Nat.zero_le _, rfl, O, E⟩
      case round =>
        obtain ⟨j, hj, rfl, O5, E5⟩ := hrel
        clear s2
        by_cases hjt : j < s.bads.length
        · obtain ⟨y, hy⟩ : ∃ y, s.bads[j]? = some y := ⟨s.bads[j], by simp [hjt]⟩
          obtain ⟨b2, off2, rfl, d0⟩ := r2'.int hy E5.out.sits
          have HB := hid (show ((ps ++ (s.bads.take j).map (fun n => (⟨4, n, zeroI⟩ : Deed))).length + 1) * 112 ≤ 140737488355328 by have := HPL.out; simp; omega)
          have HS := hid (take_snoc hy)
          have RY := hid (show repDeed h' [.int .i64 4, .int .i64 y, .int .i64 0, .int .i64 0, .int .i64 0, .int .i64 0, .string ⟨#[]⟩, .slice none 0 0, .slice none 0 0] ⟨4, y, zeroI⟩ from ⟨none, 0, none, 0, rfl, Nat.zero_le _, ⟨Nat.le_refl _, fun _ => rfl, by decide⟩, RowAt.nil _ _, ⟨Nat.le_refl _, fun _ => rfl, by decide⟩, RowAt.nil _ _⟩)
          clear hy
          go_wp2_with (at_builtin; refine wpList_append1At rfl _ _ 40 rfl w.heap.size 39 112 ty_Deed _ _ rfl (O5.out.alloc _) (E5.out.sits.alloc _) _ rfl _ (⟨4, y, zeroI⟩ : Deed) RY.out (cells_of_box (heap_new _ _)) HB.out (by decide) (E5.out.alloc _).size ?_; intro v3 w4 O3 hg3; have O3 := hid O3; have E6 := hid ((E5.out.alloc _).grown hg3 (fun k hk => ⟨(O5.out.lt k hk).1, O5.out.free k hk⟩)); clear hg3)
          go_roundw
          case rel => exact ⟨j + 1, by omega, by go_num, hid (by rw [HS.out, List.map_append, ← List.append_assoc]; exact O3.out), E6⟩
          case measure => simp [intOf]; omega
        · have hjl : s.bads.take j = s.bads := List.take_of_length_le (by omega)
          have HJ := hid hjl
          clear hjl
          go_wp2_with fail
          go_ret
          exact ⟨_, h', rfl, by rw [HW.out, ← HJ.out]; exact O5.out, E5.out⟩
end Go.Proofs.Yteolmamiblddjaa
