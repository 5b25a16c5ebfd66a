import Derived.Test.YteolmamiblddjaaStOwn
import Derived.Test.YteolmamiblddjaaDelF
namespace Go.Proofs.Yteolmamiblddjaa
open Go.RowKit Go.Sort
set_option linter.unusedVariables false
def fitI (x : Inode) : Prop := x.entries.length * 24 ≤ 140737488355328 ∧ x.runs.length * 24 ≤ 140737488355328
/-- An own row, whose elements' parts lie in what was made. -/
def RetOwnX {α : Type} [Enc α] (h : FH) (w : World) (T : TypeId) (xs : List α) (e : Ending) (w' : World) : Prop := ∃ v h1, e = .returned v ∧ OwnL h1 w' w.heap.size T v xs ∧ Ext h w h1 w'
theorem take_snoc {α : Type} {xs : List α} {k : Nat} {x : α} (hx : xs[k]? = some x) : xs.take (k + 1) = xs.take k ++ [x] := by
  rw [List.take_add_one, hx]; rfl
set_option maxHeartbeats 8000000 in
set_option maxRecDepth 100000 in
theorem state_copied (xs : List Inode) (A : Option Addr) (c : Nat) (hbig : xs.length ≤ 1000) (hfit : ∀ x ∈ xs, fitI x) (h : FH) (w : World) (hs : Sits h w) (r : RowAt h A xs) :
    Calls Try.prog 40 #[.slice A xs.length c] w fun e w' => RetOwnX h w 37 xs e w' := by
  have hl := r.1
  have HF := hid hfit
  clear hfit
  go_enter Try.func40, Try.ntmps40
  go_wp2_with fail
  go_loopw [3, 8] (fun s3 i wr => ∃ (k : Nat) (h' : FH), k ≤ xs.length ∧ i = .int .i64 k ∧ Hid (OwnL h' wr w.heap.size 37 s3 (xs.take k)) ∧ Hid (Ext h w h' wr)) (fun _ i _ => xs.length - (intOf i).toNat)
  case atStart => exact ⟨0, h, Nat.zero_le _, rfl, hid (OwnL.nil _ _ _ _), hid (Ext.refl hs)⟩
  case round =>
    obtain ⟨k, h', hk, rfl, O, E⟩ := hrel
    by_cases hlt : k < xs.length
    · obtain ⟨x, hx⟩ : ∃ x, xs[k]? = some x := ⟨xs[k], by simp [hlt]⟩
      obtain ⟨b, off, A5, c5, A6, c6, rfl, d0, d1, d2, d3, d4, d5, d6, s0, s1, s2, s3, s4⟩ := (r.mono E.out.le).inode hx E.out.sits
      have HX := hid hx
      have HFX := hid (HF.out x (List.mem_of_getElem? hx))
      have HB := hid (show ((xs.take k).length + 1) * 96 ≤ 140737488355328 by simp; omega)
      have RX := hid (show repInode h' [.int .i64 x.no, .int .i64 x.kind, .int .i64 x.links, .int .i64 x.size, .string x.target, .slice A5 x.entries.length c5, .slice A6 x.runs.length c6] x from ⟨A5, c5, A6, c6, rfl, s0, s1, s2, s3, s4⟩)
      clear hx
      go_upto_region 5 with (fail)
      have E1 := hid (E.out.alloc (.cells #[.int .i64 x.no, .int .i64 x.kind, .int .i64 x.links, .int .i64 x.size, .string x.target, .slice A5 x.entries.length c5, .slice A6 x.runs.length c6] 37))
      have EB := hid ((Ext.refl E.out.sits).alloc (.cells #[.int .i64 x.no, .int .i64 x.kind, .int .i64 x.links, .int .i64 x.size, .string x.target, .slice A5 x.entries.length c5, .slice A6 x.runs.length c6] 37))
      have HBX := hid (heap_new wr (.cells #[.int .i64 x.no, .int .i64 x.kind, .int .i64 x.links, .int .i64 x.size, .string x.target, .slice A5 x.entries.length c5, .slice A6 x.runs.length c6] 37))
      have O1 := hid (O.out.alloc (.cells #[.int .i64 x.no, .int .i64 x.kind, .int .i64 x.links, .int .i64 x.size, .string x.target, .slice A5 x.entries.length c5, .slice A6 x.runs.length c6] 37))
      generalize hgb : wr.heap.size = gb at *
      generalize (wr.alloc (.cells #[.int .i64 x.no, .int .i64 x.kind, .int .i64 x.links, .int .i64 x.size, .string x.target, .slice A5 x.entries.length c5, .slice A6 x.runs.length c6] 37)) = W1 at *
      have HB1 := HBX.out
      have e0 : W1.cell? ⟨gb, 0, none⟩ = some (.int .i64 x.no) := box_cell (j := 0) HB1 rfl
      have e1 : W1.cell? ⟨gb, 1, none⟩ = some (.int .i64 x.kind) := box_cell (j := 1) HB1 rfl
      have e2 : W1.cell? ⟨gb, 2, none⟩ = some (.int .i64 x.links) := box_cell (j := 2) HB1 rfl
      have e3 : W1.cell? ⟨gb, 3, none⟩ = some (.int .i64 x.size) := box_cell (j := 3) HB1 rfl
      have e4 : W1.cell? ⟨gb, 4, none⟩ = some (.string x.target) := box_cell (j := 4) HB1 rfl
      have e5 : W1.cell? ⟨gb, 5, none⟩ = some (.slice A5 x.entries.length c5) := box_cell (j := 5) HB1 rfl
      have e6 : W1.cell? ⟨gb, 6, none⟩ = some (.slice A6 x.runs.length c6) := box_cell (j := 6) HB1 rfl
      have K := hid (state_own x _ HFX.out.1 HFX.out.2 h' W1 E1.out.sits RX.out)
      clear d0 d1 d2 d3 d4 d5 d6 HB1
      go_wp2_with (first | (go_at_call 39; refine K.out.mono ?_; rintro e w2 ⟨cs2, h2, rfl, ⟨A7, c7, A8, c8, rfl, t0, t1, t2, t3, t4⟩, F2⟩; have RY := hid (show repInode h2 [.int .i64 x.no, .int .i64 x.kind, .int .i64 x.links, .int .i64 x.size, .string x.target, .slice A7 x.entries.length c7, .slice A8 x.runs.length c8] x from ⟨A7, c7, A8, c8, rfl, t0, t1, t2, t3, t4⟩); have F2 := hid F2) | (at_builtin; refine wpList_append1At rfl _ _ 28 rfl w.heap.size 37 96 ty_Inode _ (xs.take k) rfl ((O1.out.ext F2.out).alloc _) (F2.out.sits.alloc _) _ rfl _ x RY.out (cells_of_box (heap_new _ _)) HB.out (by decide) ((E1.out.trans F2.out).alloc _).size ?_; intro v3 w3 O3 hg3; have O3 := hid O3; have E3 := hid (((E1.out.trans F2.out).alloc _).grown hg3 (fun k hk => ⟨((O1.out.ext F2.out).lt k hk).1, (O1.out.ext F2.out).free k hk⟩)); clear hg3))
      go_roundw
      case rel => exact ⟨k + 1, h2, by omega, by go_num, hid (by rw [take_snoc HX.out]; exact O3.out), E3⟩
      case measure => simp [intOf]; omega
    · have hkl : xs.take k = xs := List.take_of_length_le (by omega)
      have HK := hid hkl
      clear hkl
      go_wp2_with fail
      go_ret
      exact ⟨_, h', rfl, by rw [← HK.out]; exact O.out, E.out⟩
end Go.Proofs.Yteolmamiblddjaa
