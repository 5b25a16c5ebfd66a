import Derived.Test.YtcnbnehammbncaaDoorGrP
import Derived.Test.YtcnbnehammbncaaDoorPkInA
namespace Go.Proofs.YtcnbnehammbncaaDoor
open Go.RowKit Go.Sort
set_option linter.unusedVariables false
/-! ### two ways to ask what is inside of what, and one answer -/
def kidsOf (xs : List Inode) (d : Int) : List Int := (entsOf xs d).filterMap (kidE xs)
theorem kidE_some {xs : List Inode} {e : Entry} {k : Int} : kidE xs e = some k ↔ e.no = k ∧ ((findI xs k).getD zeroI).kind = 2 := by
  unfold kidE
  cases h : findI xs e.no with
  | none =>
    constructor
    · intro q; cases q
    · rintro ⟨rfl, q⟩; rw [h] at q; exact absurd q (by decide)
  | some y =>
    have hy : y.no = e.no := by
      have := List.find?_some h
      unfold isI at this
      simpa using this
    show (if y.kind = 2 then some y.no else none) = some k ↔ _
    constructor
    · intro q
      split at q
      · rename_i h2
        have : y.no = k := by simpa using q
        refine ⟨by omega, ?_⟩
        rw [show k = e.no by omega, h]; exact h2
      · cases q
    · rintro ⟨rfl, q⟩
      rw [h] at q
      rw [if_pos (show y.kind = 2 from q), hy]
theorem mem_kids {xs : List Inode} {d k : Int} : k ∈ kidsOf xs d ↔ ∃ e ∈ entsOf xs d, e.no = k ∧ ((findI xs k).getD zeroI).kind = 2 := by
  unfold kidsOf
  rw [List.mem_filterMap]
  constructor
  · rintro ⟨e, he, q⟩; exact ⟨e, he, kidE_some.1 q⟩
  · rintro ⟨e, he, q⟩; exact ⟨e, he, kidE_some.2 q⟩
theorem kid_there {xs : List Inode} {d k : Int} (h : k ∈ kidsOf xs d) : (findI xs k).isSome = true := by
  obtain ⟨e, _, _, q⟩ := mem_kids.1 h
  cases h : findI xs k with
  | none => rw [h] at q; exact absurd q (by decide)
  | some _ => rfl
inductive ReachI (xs : List Inode) (dir : Int) : Int → Prop
  | refl : ReachI xs dir dir
  | step {d k : Int} : ReachI xs dir d → k ∈ kidsOf xs d → ReachI xs dir k
theorem ReachI.there {xs : List Inode} {dir a : Int} (r : ReachI xs dir a) : a = dir ∨ (findI xs a).isSome = true := by
  cases r with
  | refl => exact .inl rfl
  | step _ h => exact .inr (kid_there h)
theorem ReachI.closed {xs : List Inode} {dir no : Int} {seen : List Int} (h0 : dir ∈ seen) (h : ∀ a ∈ seen, a ≠ no ∧ ∀ k ∈ kidsOf xs a, k ∈ seen) : ¬ ReachI xs dir no := fun r => by
  have hall : ∀ a, ReachI xs dir a → a ∈ seen := fun a r => by
    induction r with
    | refl => exact h0
    | step _ hk ih => exact (h _ ih).2 _ hk
  exact (h no (hall no r)).1 rfl
/-- Only directories have entries. -/
def bareI (xs : List Inode) : Prop := ∀ x ∈ xs, x.kind ≠ 2 → x.entries = []
theorem kidsR_eq {xs : List Inode} (hb : bareI xs) (d : Int) : kidsR xs d = kidsOf xs d := by
  unfold kidsR kidsOf entsOf
  split
  · rfl
  · rename_i hk
    cases h : findI xs d with
    | none => rfl
    | some x =>
      rw [h] at hk
      have := hb x (mem_of_findI h) hk
      show [] = List.filterMap (kidE xs) x.entries
      rw [this]; rfl
theorem kids_len {xs : List Inode} (hl : ∀ x ∈ xs, x.entries.length ≤ 1000) (d : Int) : (kidsOf xs d).length ≤ 1000 := by
  unfold kidsOf entsOf
  refine Nat.le_trans (List.length_filterMap_le _ _) ?_
  cases h : findI xs d with
  | none => decide
  | some x => exact hl x (mem_of_findI h)
theorem seen_len {xs : List Inode} {dir : Int} {seen : List Int} (hn : seen.Nodup) (hs : ∀ a ∈ seen, a = dir ∨ (findI xs a).isSome = true) : seen.length ≤ xs.length + 1 :=
  (SeenOk.len (xs := xs) (dir := dir) (seen := seen) (next := []) ⟨hn, hs, by simp, fun a ha => by simp at ha⟩).1
theorem insR_iff {xs : List Inode} (hb : bareI xs) (hl : ∀ x ∈ xs, x.entries.length ≤ 1000) (h2 : xs.length + 1 ≤ 200) (dir no : Int) : ∀ (n : Nat) (seen todo : List Int),
    (∀ a ∈ seen, ReachI xs dir a ∧ a ≠ no ∧ ∀ k ∈ kidsOf xs a, k ∈ seen ∨ k ∈ todo) → (∀ a ∈ todo, ReachI xs dir a) → (dir ∈ seen ∨ dir ∈ todo) → seen.Nodup →
    todo.length + (xs.length + 1 - seen.length) * 1000 < n → (insR n xs no seen todo = true ↔ ReachI xs dir no)
  | 0, _, _, _, _, _, _, h => absurd h (Nat.not_lt_zero _)
  | n + 1, seen, [], hs, _, hd, _, _ => by
    rw [insR_nil]
    constructor
    · intro q; cases q
    · intro r
      refine absurd r (ReachI.closed (seen := seen) (hd.resolve_right (by simp)) fun a ha => ⟨(hs a ha).2.1, fun k hk => ((hs a ha).2.2 k hk).resolve_right (by simp)⟩)
  | n + 1, seen, d :: rest, hs, ht, hd, hn, hf => by
    have hlen := seen_len (xs := xs) (dir := dir) hn (fun a ha => (hs a ha).1.there)
    rw [insR_cons, if_neg (by omega)]
    have hrd := ht d (by simp)
    by_cases hdn : d = no
    · rw [if_pos hdn]
      exact ⟨fun _ => hdn ▸ hrd, fun _ => rfl⟩
    · rw [if_neg hdn]
      rw [List.length_cons] at hf
      by_cases hc : seen.contains d = true
      · rw [if_pos hc]
        have hm : d ∈ seen := by simpa using hc
        refine insR_iff hb hl h2 dir no n seen rest (fun a ha => ⟨(hs a ha).1, (hs a ha).2.1, fun k hk => ?_⟩) (fun a ha => ht a (by simp [ha])) ?_ hn (by omega)
        · rcases (hs a ha).2.2 k hk with h | h
          · exact .inl h
          · rcases List.mem_cons.1 h with rfl | h
            · exact .inl hm
            · exact .inr h
        · rcases hd with h | h
          · exact .inl h
          · rcases List.mem_cons.1 h with rfl | h
            · exact .inl hm
            · exact .inr h
      · rw [if_neg hc]
        have hm : d ∉ seen := by simpa using hc
        have hn2 : (seen ++ [d]).Nodup := by
          rw [List.nodup_append]
          exact ⟨hn, by simp, fun a ha b hb e => by
            have : b = d := by simpa using hb
            subst this; subst e; exact hm ha⟩
        have hlen2 := seen_len (xs := xs) (dir := dir) hn2 (fun a ha => by
          rcases List.mem_append.1 ha with ha | ha
          · exact (hs a ha).1.there
          · have : a = d := by simpa using ha
            rw [this]; exact hrd.there)
        have hkl := kids_len hl d
        rw [kidsR_eq hb]
        rw [List.length_append, List.length_singleton] at hlen2
        refine insR_iff hb hl h2 dir no n (seen ++ [d]) (rest ++ kidsOf xs d) (fun a ha => ?_) (fun a ha => ?_) ?_ hn2 ?_
        · rcases List.mem_append.1 ha with ha | ha
          · refine ⟨(hs a ha).1, (hs a ha).2.1, fun k hk => ?_⟩
            rcases (hs a ha).2.2 k hk with h | h
            · exact .inl (List.mem_append_left _ h)
            · rcases List.mem_cons.1 h with rfl | h
              · exact .inl (by simp)
              · exact .inr (List.mem_append_left _ h)
          · have : a = d := by simpa using ha
            subst this
            exact ⟨hrd, hdn, fun k hk => .inr (List.mem_append_right _ hk)⟩
        · rcases List.mem_append.1 ha with ha | ha
          · exact ht a (by simp [ha])
          · exact hrd.step ha
        · rcases hd with h | h
          · exact .inl (List.mem_append_left _ h)
          · rcases List.mem_cons.1 h with rfl | h
            · exact .inl (by simp)
            · exact .inr (List.mem_append_left _ h)
        · rw [List.length_append, List.length_append, List.length_singleton]
          omega
theorem insideR_iff {xs : List Inode} (hb : bareI xs) (hl : ∀ x ∈ xs, x.entries.length ≤ 1000) (h2 : xs.length + 1 ≤ 200) (dir no : Int) : insideR xs no dir = true ↔ ReachI xs dir no :=
  insR_iff hb hl h2 dir no 202000 [] [dir] (fun a ha => by simp at ha) (fun a ha => by
    have : a = dir := by simpa using ha
    rw [this]; exact .refl) (.inr (by simp)) (by simp) (by simp; omega)
/-- What a level's look leaves. -/
structure LookI (xs : List Inode) (dir : Int) (seen next : List Int) (p : List Int × List Int) : Prop where
  ok : SeenOk xs dir p.1 p.2
  re : ∀ a ∈ p.1, ReachI xs dir a
  up : ∀ a ∈ seen, a ∈ p.1
  nx : ∀ a ∈ next, a ∈ p.2
  out : ∀ a ∈ p.1, a ∈ seen ∨ a ∈ p.2
  len : p.1.length + next.length = seen.length + p.2.length
theorem scanE_look {xs : List Inode} {dir d : Int} (hd : ReachI xs dir d) : ∀ (es : List Entry) (seen next : List Int), (∀ e ∈ es, e ∈ entsOf xs d) → SeenOk xs dir seen next → (∀ a ∈ seen, ReachI xs dir a) →
    LookI xs dir seen next (scanE xs es (seen, next)) ∧ ∀ e ∈ es, ((findI xs e.no).getD zeroI).kind = 2 → e.no ∈ (scanE xs es (seen, next)).1
  | [], seen, next, _, S, hr => ⟨⟨S, hr, fun _ h => h, fun _ h => h, fun _ h => .inl h, rfl⟩, fun e he => by simp at he⟩
  | e :: es, seen, next, hsub, S, hr => by
    show LookI xs dir seen next (scanE xs es (if dirE xs seen e.no = true then (seen ++ [e.no], next ++ [e.no]) else (seen, next))) ∧ _
    have e2 : scanE xs (e :: es) (seen, next) = scanE xs es (if dirE xs seen e.no = true then (seen ++ [e.no], next ++ [e.no]) else (seen, next)) := rfl
    rw [e2]
    by_cases h : dirE xs seen e.no = true
    · rw [if_pos h]
      have hk : ((findI xs e.no).getD zeroI).kind = 2 := by
        unfold dirE at h
        simp only [Bool.and_eq_true, decide_eq_true_eq] at h
        exact h.2
      have hre : ReachI xs dir e.no := hd.step (mem_kids.2 ⟨e, hsub e (by simp), rfl, hk⟩)
      obtain ⟨L, q⟩ := scanE_look hd es (seen ++ [e.no]) (next ++ [e.no]) (fun x hx => hsub x (by simp [hx])) (S.more h) (fun a ha => by
        rcases List.mem_append.1 ha with ha | ha
        · exact hr a ha
        · have : a = e.no := by simpa using ha
          rw [this]; exact hre)
      refine ⟨⟨L.ok, L.re, fun a ha => L.up a (List.mem_append_left _ ha), fun a ha => L.nx a (List.mem_append_left _ ha), fun a ha => ?_, ?_⟩, fun x hx hxk => ?_⟩
      · rcases L.out a ha with ha | ha
        · rcases List.mem_append.1 ha with ha | ha
          · exact .inl ha
          · exact .inr (L.nx a (List.mem_append_right _ ha))
        · exact .inr ha
      · have := L.len
        rw [List.length_append, List.length_append] at this
        omega
      · rcases List.mem_cons.1 hx with rfl | hx
        · exact L.up _ (by simp)
        · exact q x hx hxk
    · rw [if_neg h]
      obtain ⟨L, q⟩ := scanE_look hd es seen next (fun x hx => hsub x (by simp [hx])) S hr
      refine ⟨L, fun x hx hxk => ?_⟩
      rcases List.mem_cons.1 hx with rfl | hx
      · refine L.up _ ?_
        unfold dirE at h
        simp only [hxk, decide_true, Bool.and_true, Bool.not_eq_true', Bool.not_eq_false] at h
        simpa using h
      · exact q x hx hxk
theorem scanD_look {xs : List Inode} {dir no : Int} : ∀ (ds : List Int) (seen next : List Int), (∀ d ∈ ds, ReachI xs dir d) → SeenOk xs dir seen next → (∀ a ∈ seen, ReachI xs dir a) →
    (scanD xs no ds (seen, next) = none ∧ no ∈ ds) ∨ ∃ p, scanD xs no ds (seen, next) = some p ∧ no ∉ ds ∧ LookI xs dir seen next p ∧ ∀ d ∈ ds, ∀ k ∈ kidsOf xs d, k ∈ p.1
  | [], seen, next, _, S, hr => .inr ⟨(seen, next), rfl, by simp, ⟨S, hr, fun _ h => h, fun _ h => h, fun _ h => .inl h, rfl⟩, fun d hd => by simp at hd⟩
  | d :: ds, seen, next, hd, S, hr => by
    have e : scanD xs no (d :: ds) (seen, next) = if d = no then none else scanD xs no ds (scanE xs (entsOf xs d) (seen, next)) := rfl
    by_cases h : d = no
    · exact .inl ⟨by rw [e, if_pos h], by simp [h]⟩
    · rw [e, if_neg h]
      obtain ⟨L, q⟩ := scanE_look (hd d (by simp)) (entsOf xs d) seen next (fun _ h => h) S hr
      rcases scanD_look (no := no) ds (scanE xs (entsOf xs d) (seen, next)).1 (scanE xs (entsOf xs d) (seen, next)).2 (fun x hx => hd x (by simp [hx])) L.ok L.re with ⟨h1, h2⟩ | ⟨p, h1, h2, L2, h4⟩
      · exact .inl ⟨h1, by simp [h2]⟩
      · refine .inr ⟨p, h1, by simp only [List.mem_cons, not_or]; exact ⟨fun e => h e.symm, h2⟩, ⟨L2.ok, L2.re, fun a ha => L2.up a (L.up a ha), fun a ha => L2.nx a (L.nx a ha), fun a ha => ?_, ?_⟩, fun x hx k hk => ?_⟩
        · rcases L2.out a ha with ha | ha
          · rcases L.out a ha with ha | ha
            · exact .inl ha
            · exact .inr (L2.nx a ha)
          · exact .inr ha
        · have := L.len
          have := L2.len
          omega
        · rcases List.mem_cons.1 hx with rfl | hx
          · obtain ⟨e, he, rfl, hk2⟩ := mem_kids.1 hk
            exact L2.up _ (q e he hk2)
          · exact h4 x hx k hk
theorem levelF_iff {xs : List Inode} (dir no : Int) : ∀ (n : Nat) (seen now : List Int), SeenOk xs dir seen now → (∀ a ∈ seen, ReachI xs dir a) → dir ∈ seen → (∀ a ∈ seen, a ∈ now ∨ (a ≠ no ∧ ∀ k ∈ kidsOf xs a, k ∈ seen)) →
    (now ≠ [] → xs.length + 2 ≤ n + seen.length) → (levelF xs no n seen now = true ↔ ReachI xs dir no)
  | n, seen, [], S, hr, hd, hc, _ => by
    rw [levelF_nil]
    constructor
    · intro q; cases q
    · intro r
      exact absurd r (ReachI.closed hd fun a ha => (hc a ha).resolve_left (by simp))
  | 0, seen, d :: now, S, hr, hd, hc, hf => by
    have h1 := hf (by simp)
    have h2 := S.len.1
    omega
  | n + 1, seen, d :: now, S, hr, hd, hc, hf => by
    rw [levelF_more (by simp)]
    rcases scanD_look (no := no) (d :: now) seen [] (fun a ha => hr a (S.ns a ha)) S.fresh hr with ⟨h1, h2⟩ | ⟨p, h1, h2, L, h4⟩
    · rw [h1]
      exact ⟨fun _ => hr _ (S.ns _ h2), fun _ => rfl⟩
    · rw [h1]
      show levelF xs no n p.1 p.2 = true ↔ _
      refine levelF_iff dir no n p.1 p.2 L.ok L.re (L.up _ hd) (fun a ha => ?_) (fun hne => ?_)
      · rcases L.out a ha with h | h
        · refine .inr ?_
          rcases hc a h with h5 | h5
          · exact ⟨fun e => h2 (e ▸ h5), fun k hk => h4 a h5 k hk⟩
          · exact ⟨h5.1, fun k hk => L.up k (h5.2 k hk)⟩
        · exact .inl h
      · have h5 := hf (by simp)
        have h6 := L.len
        have h7 : 0 < p.2.length := List.length_pos_iff.2 hne
        simp only [List.length_nil] at h6
        omega
theorem insideP_iff {xs : List Inode} (h2 : xs.length ≤ 200) (dir no : Int) : insideP xs no dir = true ↔ ReachI xs dir no :=
  levelF_iff dir no 201 [dir] [dir] ⟨by simp, fun a ha => .inl (by simpa using ha), by simp, fun a ha => ha⟩ (fun a ha => by
    have : a = dir := by simpa using ha
    rw [this]; exact .refl) (by simp) (fun a ha => .inl ha) (fun _ => by simp; omega)
theorem inside_eq {xs : List Inode} (hb : bareI xs) (hl : ∀ x ∈ xs, x.entries.length ≤ 1000) (h2 : xs.length + 1 ≤ 200) (no dir : Int) : insideP xs no dir = insideR xs no dir := by
  rw [Bool.eq_iff_iff, insideP_iff (by omega), insideR_iff hb hl h2]
end Go.Proofs.YtcnbnehammbncaaDoor
