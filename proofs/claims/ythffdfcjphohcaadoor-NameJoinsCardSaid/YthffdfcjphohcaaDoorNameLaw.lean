import Derived.Test.YthffdfcjphohcaaDoorRefParts
import Derived.Test.YthffdfcjphohcaaDoorPlainS
namespace Go.Proofs.YthffdfcjphohcaaDoor
open Go.RowKit Go.Sort
set_option linter.unusedVariables false
/-! ### the laws of layer 10: awake -/
theorem str_row2 {h : FH} {g : Nat} {a b : ByteArray} {t : TypeId} (hb : h g = some (.cells #[.string a, .string b] t (0, 0))) (ha : a.size ≤ 9223372036854775807) (hb2 : b.size ≤ 9223372036854775807) : RowAt h (some ⟨g, 0, none⟩) [a, b] :=
  RowAt.of_block hb ⟨[.string a], [.string b], rfl, ⟨rfl, ha⟩, [.string b], [], rfl, ⟨rfl, hb2⟩, rfl⟩ (by simp)
set_option maxHeartbeats 4000000 in
set_option maxRecDepth 100000 in
theorem law10_awake (h : FH) (w : World) (hs : Sits h w) : Calls Tryd.prog 8 #[] w fun e w' => e = .returned (.bool true) ∧ Ext h w h w' := by
  have h1 : waysXs ⟨#[47, 97, 47, 47, 98]⟩ = [⟨#[97]⟩, ⟨#[98]⟩] := by decide +kernel
  have h2 : waysCode ⟨#[47, 97, 47, 47, 98]⟩ = 0 := by decide +kernel
  have K := hid (name_Split ⟨#[47, 97, 47, 47, 98]⟩ (by decide) h w hs)
  have K := K.out
  rw [h1, h2] at K
  have K := hid K
  have KA := hid (fun (h : FH) w hs => name_Right ⟨#[97]⟩ (by decide) true (by decide +kernel) h w hs)
  have KB := hid (fun (h : FH) w hs => name_Right ⟨#[46, 46]⟩ (by decide) false (by decide +kernel) h w hs)
  clear h1 h2
  go_enter Tryd.func8, Tryd.ntmps8
  go_wp2_with fail
  refine K.out.mono ?_
  rintro e w1 R
  obtain ⟨A1, c1, h1, rfl, hc1, r1, E1⟩ := R.stay (by decide)
  clear R
  go_wp2_with fail
  have E2 := (E1.alloc (.cells #[.string ⟨#[97]⟩, .string ⟨#[98]⟩] 9)).add (heap_new _ _) (E1.sits.none (Nat.le_refl _)) E1.size
  have r2 := r1.mono (FLe.add (E1.sits.none (g := w1.heap.size) (Nat.le_refl _)) (.cells #[.string ⟨#[97]⟩, .string ⟨#[98]⟩] 9))
  have r3 := str_row2 (h := h1.add w1.heap.size (.cells #[.string ⟨#[97]⟩, .string ⟨#[98]⟩] 9)) (g := w1.heap.size) (FH.add_same _ _ _) (by decide) (by decide)
  refine (plain_Str [⟨#[97]⟩, ⟨#[98]⟩] [⟨#[97]⟩, ⟨#[98]⟩] _ _ _ _ true (by simp) _ _ E2.sits r2 r3).mono ?_
  rintro e w3 ⟨rfl, F3⟩
  have E3 := E2.trans F3
  go_wp2_with fail
  refine (KA.out _ _ E3.sits).mono ?_
  rintro e w4 ⟨rfl, F4⟩
  have E4 := E3.trans F4
  go_wp2_with fail
  refine (KB.out _ _ E4.sits).mono ?_
  rintro e w5 ⟨rfl, F5⟩
  have E5 := E4.trans F5
  go_wp2_with fail
  go_ret
  exact ⟨rfl, E5.back⟩
end Go.Proofs.YthffdfcjphohcaaDoor
