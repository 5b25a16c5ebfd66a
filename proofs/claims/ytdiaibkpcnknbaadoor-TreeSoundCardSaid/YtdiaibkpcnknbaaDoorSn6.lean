import Derived.Test.YtdiaibkpcnknbaaDoorSnA
import Derived.Test.YtdiaibkpcnknbaaDoorTrRen
namespace Go.Proofs.YtdiaibkpcnknbaaDoor
open Go.RowKit Go.Sort
set_option linter.unusedVariables false
/-! ### the program's words and the reference's words say the same in sound states -/
theorem Snd.bare {s : State} (S : Snd s) : bareI s.inodes := fun x hx hk => rightI_bare (S.ok.ok x.no x (findI_of_mem S.rise hx)).2.2 hk
theorem Snd.ents {s : State} (S : Snd s) : ∀ x ∈ s.inodes, x.entries.length ≤ 100 := fun x hx => by
  have h := (S.ok.ok x.no x (findI_of_mem S.rise hx)).2.2
  by_cases hk : x.kind = 2
  · exact ((rightE_iff _).1 (rightI_dir h hk).2.2.2.2.1).2.2
  · rw [rightI_bare h hk]; decide
theorem findS_bad {xs : List Inode} {path : ByteArray} (h : (findS xs path).2 ≠ 0) : (findS xs path).1 = zeroSpot := by
  unfold findS at h ⊢
  split at h
  · rename_i h1; rw [if_pos h1]
  · exact absurd rfl h
theorem freshS_bad {xs : List Inode} {path : ByteArray} (h : (parentP xs path).2.2 ≠ 0) : freshS xs path = (zeroSpot, (parentP xs path).2.2) := by
  have e : findS xs path = (zeroSpot, (parentP xs path).2.2) := by unfold findS; rw [if_pos h]
  unfold freshS
  rw [e, if_pos h]
theorem freshS_at {xs : List Inode} {path : ByteArray} (h : ¬ (parentP xs path).2.2 ≠ 0) : freshS xs path = (atS xs (parentP xs path).1 (parentP xs path).2.1, if (findE ((findI xs (parentP xs path).1).getD zeroI).entries (parentP xs path).2.1).isSome = true then 12 else 0) := by
  have e : findS xs path = (atS xs (parentP xs path).1 (parentP xs path).2.1, 0) := by unfold findS; rw [if_neg h]
  have ea := atS_dirB xs (parentP xs path).1 (parentP xs path).2.1
  unfold freshS
  rw [e, if_neg (by simp)]
  simp only [ea.1, ea.2]
  split <;> rfl
theorem hard_eq {s : State} (S : Snd s) (old path : ByteArray) : linkP s old path = hardP s old path := by
  unfold linkP hardP
  by_cases h1 : (resolveP s.inodes old false).2 ≠ 0
  · rw [if_pos h1, if_pos h1]
  · rw [if_neg h1, if_neg h1]
    obtain ⟨x, hx⟩ := S.resolve (path := old) (f := false) (by simpa using h1)
    rw [hx]
    show (if x.kind = 2 then _ else _) = if x.kind = 2 then _ else _
    by_cases h2 : x.kind = 2
    · rw [if_pos h2, if_pos h2]
    · rw [if_neg h2, if_neg h2]
      unfold linkT hardU
      by_cases h3 : (parentP s.inodes path).2.2 ≠ 0
      · rw [freshS_bad h3, if_pos h3, if_pos h3]
      · rw [freshS_at h3, if_neg h3]
        have ea := atS_dirB s.inodes (parentP s.inodes path).1 (parentP s.inodes path).2.1
        unfold hardT
        simp only [ea.1, ea.2]
        by_cases h4 : (findE ((findI s.inodes (parentP s.inodes path).1).getD zeroI).entries (parentP s.inodes path).2.1).isSome = true
        · simp [h4]
        · simp [h4]
/-- Where something goes, in the program's words. -/
theorem moved_to {a b x y : Inode} {was name : ByteArray} {xn yn : Int} {th : Bool} (hr : rightE a.entries = true) (hab : a.no = b.no → a = b) (hfa : findE a.entries was = some xn) (hth : if th = true then findE b.entries name = some yn ∧ yn ≠ xn else findE b.entries name = none) :
    withoutP (if a.no = b.no then withoutP a was else b) name = { b with entries := rrB ⟨a, was, x, true⟩ ⟨b, name, y, th⟩ th } := by
  by_cases hs : a.no = b.no
  · have e := hab hs
    subst e
    rw [if_pos rfl, without_of hfa]
    unfold rrB rrA rrT
    rw [if_pos rfl, if_pos rfl]
    cases th with
    | false =>
      simp only [Bool.false_eq_true, if_false] at hth ⊢
      have hn : findE (remE a.entries was) name = none := by
        obtain ⟨en, _, _, _, hp⟩ := rem_perm hfa
        exact findE_none_of fun z hz => findE_none hth z (hp.mem_iff.2 (by simp [hz]))
      unfold withoutP remC
      rw [hn]
      rfl
    | true =>
      simp only [if_true] at hth ⊢
      have hne : was ≠ name := fun q => by
        rw [q, hth.1] at hfa; exact hth.2 (by simpa using hfa)
      rw [without_of (d := { a with entries := remE a.entries was }) (t := yn) (by show findE (remE a.entries was) name = some yn; rw [findE_rem hr (by rw [hfa]; rfl) (fun q => hne q.symm)]; exact hth.1)]
      show ({ a with entries := remE (remE a.entries was) name } : Inode) = _
      rw [rem_comm hr (by rw [hfa]; rfl) (by rw [hth.1]; rfl) hne]
  · rw [if_neg hs]
    unfold rrB rrT
    rw [if_neg hs]
    cases th with
    | false =>
      simp only [Bool.false_eq_true, if_false] at hth ⊢
      unfold withoutP remC
      rw [hth]
      rfl
    | true =>
      simp only [if_true] at hth ⊢
      rw [without_of hth.1]
theorem ren_eq {a b x y : Inode} {was name : ByteArray} {xn yn : Int} {th : Bool} (os : List Int) (hr : rightE a.entries = true) (hab : a.no = b.no → a = b) (hfa : findE a.entries was = some xn) (hxn : x.no = xn) (hth : if th = true then findE b.entries name = some yn ∧ yn ≠ xn else findE b.entries name = none)
    (hkk : th = true → (x.kind = 2 ↔ y.kind = 2)) :
    (if (movedP ⟨a, was, x, true⟩ ⟨b, name, y, th⟩).2.2 ≠ 0 then ([], (movedP ⟨a, was, x, true⟩ ⟨b, name, y, th⟩).2.2) else renE ⟨a, was, x, true⟩ ⟨b, name, y, th⟩ (movedP ⟨a, was, x, true⟩ ⟨b, name, y, th⟩).1 (movedP ⟨a, was, x, true⟩ ⟨b, name, y, th⟩).2.1 os) = rrM ⟨a, was, x, true⟩ ⟨b, name, y, th⟩ th os := by
  have ht := moved_to (x := x) (y := y) hr hab hfa hth
  obtain ⟨E, hE⟩ : ∃ E, rrB ⟨a, was, x, true⟩ ⟨b, name, y, th⟩ th = E := ⟨_, rfl⟩
  rw [hE] at ht
  have hM : movedP ⟨a, was, x, true⟩ ⟨b, name, y, th⟩ = if addC E ⟨name, x.no⟩ ≠ 0 then (withoutP a was, { b with entries := E }, addC E ⟨name, x.no⟩) else (withoutP a was, { b with entries := addL E ⟨name, x.no⟩ }, 0) := by
    unfold movedP
    simp only [ht]
  unfold rrM
  rw [hE, hM]
  show _ = if addC E ⟨name, x.no⟩ ≠ 0 then ([], addC E ⟨name, x.no⟩) else _
  by_cases hc : addC E ⟨name, x.no⟩ ≠ 0
  · rw [if_pos hc, if_pos hc, if_pos hc]
  · rw [if_neg hc, if_neg hc, if_neg (by simp)]
    show renE ⟨a, was, x, true⟩ ⟨b, name, y, th⟩ (withoutP a was) { b with entries := addL E ⟨name, x.no⟩ } os = rrE ⟨a, was, x, true⟩ ⟨b, name, y, th⟩ th (addL E ⟨name, x.no⟩) os
    have hg : goesI ⟨b, name, y, th⟩ = if x.kind = 2 ∧ th = true then 1 else 0 := by
      unfold goesI
      cases th with
      | false => simp
      | true => simp [hkk rfl]
    have hL : renL ⟨a, was, x, true⟩ ⟨b, name, y, th⟩ (withoutP a was) { b with entries := addL E ⟨name, x.no⟩ } = rrL ⟨a, was, x, true⟩ ⟨b, name, y, th⟩ th (addL E ⟨name, x.no⟩) := by
      unfold renL rrL
      rw [hg]
      by_cases hs : a.no = b.no
      · rw [if_pos hs, if_pos hs]
        show [putD ({ b with entries := addL E ⟨name, x.no⟩, links := b.links + (comesI ⟨a, was, x, true⟩ - (if x.kind = 2 ∧ th = true then 1 else 0)) - comesI ⟨a, was, x, true⟩ } : Inode)] = [putD ({ b with entries := addL E ⟨name, x.no⟩, links := b.links - (if x.kind = 2 ∧ th = true then 1 else 0) } : Inode)]
        rw [show b.links + (comesI ⟨a, was, x, true⟩ - (if x.kind = 2 ∧ th = true then 1 else 0)) - comesI ⟨a, was, x, true⟩ = b.links - (if x.kind = 2 ∧ th = true then 1 else 0) by omega]
      · rw [if_neg hs, if_neg hs, without_of hfa]
        have hA : rrA ⟨a, was, x, true⟩ ⟨b, name, y, th⟩ th = remE a.entries was := by unfold rrA; rw [if_neg hs]
        rw [hA]
        show [putD ({ a with entries := remE a.entries was, links := a.links - comesI ⟨a, was, x, true⟩ } : Inode), putD ({ b with entries := addL E ⟨name, x.no⟩, links := b.links + (comesI ⟨a, was, x, true⟩ - (if x.kind = 2 ∧ th = true then 1 else 0)) } : Inode)] = [putD ({ a with entries := remE a.entries was, links := a.links - (if x.kind = 2 then 1 else 0) } : Inode), putD ({ b with entries := addL E ⟨name, x.no⟩, links := b.links + (if x.kind = 2 ∧ th = false then 1 else 0) } : Inode)]
        have hcm : comesI ⟨a, was, x, true⟩ = if x.kind = 2 then 1 else 0 := rfl
        rw [hcm, show (if x.kind = 2 then (1 : Int) else 0) - (if x.kind = 2 ∧ th = true then 1 else 0) = (if x.kind = 2 ∧ th = false then 1 else 0) by cases th <;> by_cases q : x.kind = 2 <;> simp [q]]
    unfold renE rrE
    rw [hL, hg]
    cases th with
    | false => rfl
    | true =>
      by_cases q : x.kind = 2
      · simp [q]
      · simp [q]
theorem rename_eq {s : State} (S : Snd s) (hl : s.inodes.length + 1 ≤ 200) (old path : ByteArray) (os : List Int) : renameP s old path os = rrenameP s old path os := by
  have hin : ∀ m n, insideP s.inodes m n = insideR s.inodes m n := fun m n => inside_eq S.bare (fun x hx => Nat.le_trans (S.ents x hx) (by decide)) hl m n
  unfold renameP rrenameP
  by_cases h1 : (thereS s.inodes old).2 ≠ 0
  · rw [if_pos h1, if_pos h1]
  rw [if_neg h1, if_neg h1]
  obtain ⟨an, a, was, xn, x, hda, hak, han, hapos, e1, hfa, hx, hxn, hx1⟩ := thereS_zero S (path := old) (by simpa using h1)
  rw [e1]
  have hra := (rightI_dir (S.ok.ok an a hda).2.2 hak).2.2.2.2.1
  by_cases h2 : (findS s.inodes path).2 ≠ 0
  · rw [if_pos h2]
    have e2 : thereS s.inodes path = findS s.inodes path := by unfold thereS; rw [if_neg (fun q => h2 q.1)]
    rw [e2]
    unfold rrP
    rw [if_pos (.inr (by rw [findS_bad h2]; rfl))]
  rw [if_neg h2]
  have h2 : (findS s.inodes path).2 = 0 := by simpa using h2
  obtain ⟨bn, b, name, hdb, hbk, hbn, hbpos, hcase⟩ := S.spot h2
  have hab : a.no = b.no → a = b := fun q => by
    have : an = bn := by rw [← han, ← hbn, q]
    rw [this, hdb] at hda
    exact (by simpa using hda : b = a).symm
  rcases hcase with ⟨e2, hn⟩ | ⟨yn, y, e2, hfb, hy, hyn, hy1⟩
  · have e3 : thereS s.inodes path = (⟨b, name, zeroI, false⟩, 11) := by unfold thereS; rw [if_pos ⟨h2, by rw [e2]⟩, e2]
    rw [e2, e3]
    unfold renB rrP
    rw [if_neg (by simp)]
    rw [if_neg (show ¬ (((11 : Int) ≠ 0 ∧ (11 : Int) ≠ 11) ∨ b.no = 0) by rw [hbn]; omega), if_neg (show ¬ ((11 : Int) = 0 ∧ zeroI.no = x.no) from fun q => absurd q.1 (by decide))]
    show (if mayP s ⟨a, was, x, true⟩ ⟨b, name, zeroI, false⟩ ≠ 0 then _ else _) = (if x.kind = 2 ∧ insideR s.inodes b.no x.no = true then _ else if rrV ⟨a, was, x, true⟩ ⟨b, name, zeroI, false⟩ false ≠ 0 then _ else rrM ⟨a, was, x, true⟩ ⟨b, name, zeroI, false⟩ false os)
    have hm : mayP s ⟨a, was, x, true⟩ ⟨b, name, zeroI, false⟩ = if x.kind = 2 ∧ insideR s.inodes b.no x.no = true then 22 else rrV ⟨a, was, x, true⟩ ⟨b, name, zeroI, false⟩ false := by
      unfold mayP rrV
      simp only [hin, Bool.false_eq_true, if_false]
    rw [hm]
    by_cases hi : x.kind = 2 ∧ insideR s.inodes b.no x.no = true
    · rw [if_pos hi, if_pos hi, if_pos (by decide)]
    · rw [if_neg hi, if_neg hi]
      by_cases hv : rrV ⟨a, was, x, true⟩ ⟨b, name, zeroI, false⟩ false ≠ 0
      · rw [if_pos hv, if_pos hv]; first | done | rfl
      · rw [if_neg hv, if_neg hv]
        exact ren_eq (yn := 0) os hra hab hfa hxn (by simpa using hn) (fun h => by cases h)
  · have e3 : thereS s.inodes path = (⟨b, name, y, true⟩, 0) := by
      unfold thereS
      rw [if_neg (fun q => by rw [e2] at q; cases q.2)]
      exact Prod.ext e2 h2
    rw [e2, e3]
    unfold renB rrP
    rw [if_neg (show ¬ (((0 : Int) ≠ 0 ∧ (0 : Int) ≠ 11) ∨ b.no = 0) by rw [hbn]; omega)]
    show (if true = true ∧ y.no = x.no then _ else _) = (if (0 : Int) = 0 ∧ y.no = x.no then _ else _)
    by_cases hyx : y.no = x.no
    · rw [if_pos ⟨rfl, hyx⟩, if_pos ⟨rfl, hyx⟩]
    rw [if_neg (show ¬ (true = true ∧ y.no = x.no) from fun q => hyx q.2), if_neg (show ¬ ((0 : Int) = 0 ∧ y.no = x.no) from fun q => hyx q.2)]
    show (if mayP s ⟨a, was, x, true⟩ ⟨b, name, y, true⟩ ≠ 0 then _ else _) = (if x.kind = 2 ∧ insideR s.inodes b.no x.no = true then _ else if rrV ⟨a, was, x, true⟩ ⟨b, name, y, true⟩ true ≠ 0 then _ else rrM ⟨a, was, x, true⟩ ⟨b, name, y, true⟩ true os)
    have hyo := S.ok.ok yn y hy
    have htk : takenP x y = takenR x y := by
      unfold takenP takenR
      by_cases q : y.kind = 2
      · simp [q]
      · simp [q, rightI_bare hyo.2.2 q]
    have hm : mayP s ⟨a, was, x, true⟩ ⟨b, name, y, true⟩ = if x.kind = 2 ∧ insideR s.inodes b.no x.no = true then 22 else rrV ⟨a, was, x, true⟩ ⟨b, name, y, true⟩ true := by
      unfold mayP rrV
      simp only [hin, if_true, htk]
    rw [hm]
    by_cases hi : x.kind = 2 ∧ insideR s.inodes b.no x.no = true
    · rw [if_pos hi, if_pos hi, if_pos (by decide)]
    · rw [if_neg hi, if_neg hi]
      by_cases hv : rrV ⟨a, was, x, true⟩ ⟨b, name, y, true⟩ true ≠ 0
      · rw [if_pos hv, if_pos hv]; first | done | rfl
      · rw [if_neg hv, if_neg hv]
        refine ren_eq os hra hab hfa hxn (by simp only [if_true]; exact ⟨hfb, fun q => hyx (by rw [hyn, hxn, q])⟩) (fun _ => ?_)
        have hv2 : takenR x y = 0 := by
          have : rrV ⟨a, was, x, true⟩ ⟨b, name, y, true⟩ true = takenR x y := rfl
          rw [this] at hv; simpa using hv
        unfold takenR at hv2
        by_cases q1 : x.kind = 2
        · by_cases q2 : y.kind = 2
          · simp [q1, q2]
          · rw [if_pos ⟨q1, q2⟩] at hv2; exact absurd hv2 (by decide)
        · by_cases q2 : y.kind = 2
          · rw [if_neg (fun h => q1 h.1), if_pos ⟨q1, q2⟩] at hv2; exact absurd hv2 (by decide)
          · simp [q1, q2]
end Go.Proofs.YtdiaibkpcnknbaaDoor
