import Derived.Test.YtdiaibkpcnknbaaDoorREnt
namespace Go.Proofs.YtdiaibkpcnknbaaDoor
open Go.RowKit Go.Sort
set_option linter.unusedVariables false
def takenR (a b : Inode) : Int := if a.kind = 2 ∧ b.kind ≠ 2 then 13 else if a.kind ≠ 2 ∧ b.kind = 2 then 14 else if 0 < b.entries.length then 15 else 0
theorem thereS_found {xs : List Inode} {path : ByteArray} {p : Spot} (h : thereS xs path = (p, 0)) : (findE p.dir.entries p.name).isSome = true ∧ p.is = true := by
  unfold thereS at h
  by_cases h1 : (findS xs path).2 = 0 ∧ (findS xs path).1.is = false
  · rw [if_pos h1] at h; have q : (11 : Int) = 0 := congrArg Prod.snd h; exact absurd q (by decide)
  · rw [if_neg h1] at h
    rw [h] at h1
    have hi : p.is = true := by
      cases e : p.is with
      | true => rfl
      | false => exact absurd ⟨rfl, e⟩ h1
    unfold findS at h
    by_cases h2 : (parentP xs path).2.2 ≠ 0
    · rw [if_pos h2] at h; exact absurd (congrArg Prod.snd h) h2
    · rw [if_neg h2] at h
      have hp : atS xs (parentP xs path).1 (parentP xs path).2.1 = p := congrArg Prod.fst h
      rw [← hp]
      rw [(atS_dir _ _ _).1, (atS_dir _ _ _).2]
      refine ⟨?_, by rw [hp]; exact hi⟩
      cases hz : findE ((findI xs (parentP xs path).1).getD zeroI).entries (parentP xs path).2.1 with
      | some t => rfl
      | none =>
        exfalso
        have q := atS_miss rfl hz (.inl rfl)
        rw [hp] at q
        rw [q] at hi
        cases hi
theorem withoutP_found {d : Inode} {name : ByteArray} (h : (findE d.entries name).isSome = true) : withoutP d name = { d with entries := remE d.entries name } := by
  unfold withoutP remC
  rw [if_pos h, if_pos rfl]

end Go.Proofs.YtdiaibkpcnknbaaDoor

namespace Go.Proofs.YtdiaibkpcnknbaaDoor
open Go.RowKit Go.Sort
set_option linter.unusedVariables false
end Go.Proofs.YtdiaibkpcnknbaaDoor
