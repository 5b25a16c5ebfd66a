import Derived.Test.YtkglaofiencfdaaGrP
import Derived.Test.YtkglaofiencfdaaPkInA
import Derived.Test.YtkglaofiencfdaaRise
import Derived.Test.YtkglaofiencfdaaEntPlain
namespace Go.Proofs.Ytkglaofiencfdaa
open Go.RowKit Go.Sort
set_option linter.unusedVariables false
/-! ### two ways to ask what is inside of what, and one answer -/
def kidsOf (xs : List Inode) (d : Int) : List Int := (entsOf xs d).filterMap (kidE xs)
theorem kidE_some {xs : List Inode} {e : Entry} {k : Int} : kidE xs e = some k ↔ e.no = k ∧ ((findI xs k).getD zeroI).kind = 2 := by
  unfold kidE
  cases h : findI xs e.no with
  | none =>
    constructor
    · intro q; cases q
    · rintro ⟨rfl, q⟩; rw [h] at q; exact absurd q (by decide)
  | some y =>
    have hy : y.no = e.no := by
      have := List.find?_some h
      unfold isI at this
      simpa using this
    show (if y.kind = 2 then some y.no else none) = some k ↔ _
    constructor
    · intro q
      split at q
      · rename_i h2
        have : y.no = k := by simpa using q
        refine ⟨by omega, ?_⟩
        rw [show k = e.no by omega, h]; exact h2
      · cases q
    · rintro ⟨rfl, q⟩
      rw [h] at q
      rw [if_pos (show y.kind = 2 from q), hy]
theorem mem_kids {xs : List Inode} {d k : Int} : k ∈ kidsOf xs d ↔ ∃ e ∈ entsOf xs d, e.no = k ∧ ((findI xs k).getD zeroI).kind = 2 := by
  unfold kidsOf
  rw [List.mem_filterMap]
  constructor
  · rintro ⟨e, he, q⟩; exact ⟨e, he, kidE_some.1 q⟩
  · rintro ⟨e, he, q⟩; exact ⟨e, he, kidE_some.2 q⟩
theorem kid_there {xs : List Inode} {d k : Int} (h : k ∈ kidsOf xs d) : (findI xs k).isSome = true := by
  obtain ⟨e, _, _, q⟩ := mem_kids.1 h
  cases h : findI xs k with
  | none => rw [h] at q; exact absurd q (by decide)
  | some _ => rfl
inductive ReachI (xs : List Inode) (dir : Int) : Int → Prop
  | refl : ReachI xs dir dir
  | step {d k : Int} : ReachI xs dir d → k ∈ kidsOf xs d → ReachI xs dir k
theorem ReachI.there {xs : List Inode} {dir a : Int} (r : ReachI xs dir a) : a = dir ∨ (findI xs a).isSome = true := by
  cases r with
  | refl => exact .inl rfl
  | step _ h => exact .inr (kid_there h)
theorem ReachI.closed {xs : List Inode} {dir no : Int} {seen : List Int} (h0 : dir ∈ seen) (h : ∀ a ∈ seen, a ≠ no ∧ ∀ k ∈ kidsOf xs a, k ∈ seen) : ¬ ReachI xs dir no := fun r => by
  have hall : ∀ a, ReachI xs dir a → a ∈ seen := fun a r => by
    induction r with
    | refl => exact h0
    | step _ hk ih => exact (h _ ih).2 _ hk
  exact (h no (hall no r)).1 rfl
/-- Only directories have entries. -/
def bareI (xs : List Inode) : Prop := ∀ x ∈ xs, x.kind ≠ 2 → x.entries = []
theorem kidsR_eq {xs : List Inode} (hb : bareI xs) (d : Int) : kidsR xs d = kidsOf xs d := by
  unfold kidsR kidsOf entsOf
  split
  · rfl
  · rename_i hk
    cases h : findI xs d with
    | none => rfl
    | some x =>
      rw [h] at hk
      have := hb x (mem_of_findI h) hk
      show [] = List.filterMap (kidE xs) x.entries
      rw [this]; rfl
theorem kids_len {xs : List Inode} (hl : ∀ x ∈ xs, x.entries.length ≤ 1000) (d : Int) : (kidsOf xs d).length ≤ 1000 := by
  unfold kidsOf entsOf
  refine Nat.le_trans (List.length_filterMap_le _ _) ?_
  cases h : findI xs d with
  | none => decide
  | some x => exact hl x (mem_of_findI h)
theorem seen_len {xs : List Inode} {dir : Int} {seen : List Int} (hn : seen.Nodup) (hs : ∀ a ∈ seen, a = dir ∨ (findI xs a).isSome = true) : seen.length ≤ xs.length + 1 :=
  (SeenOk.len (xs := xs) (dir := dir) (seen := seen) (next := []) ⟨hn, hs, by simp, fun a ha => by simp at ha⟩).1
theorem insR_iff {xs : List Inode} (hb : bareI xs) (hl : ∀ x ∈ xs, x.entries.length ≤ 1000) (h2 : xs.length + 1 ≤ 200) (dir no : Int) : ∀ (n : Nat) (seen todo : List Int),
    (∀ a ∈ seen, ReachI xs dir a ∧ a ≠ no ∧ ∀ k ∈ kidsOf xs a, k ∈ seen ∨ k ∈ todo) → (∀ a ∈ todo, ReachI xs dir a) → (dir ∈ seen ∨ dir ∈ todo) → seen.Nodup →
    todo.length + (xs.length + 1 - seen.length) * 1000 < n → (insR n xs no seen todo = true ↔ ReachI xs dir no)
  | 0, _, _, _, _, _, _, h => absurd h (Nat.not_lt_zero _)
  | n + 1, seen, [], hs, _, hd, _, _ => by
    rw [insR_nil]
    constructor
    · intro q; cases q
    · intro r
      refine absurd r (ReachI.closed (seen := seen) (hd.resolve_right (by simp)) fun a ha => ⟨(hs a ha).2.1, fun k hk => ((hs a ha).2.2 k hk).resolve_right (by simp)⟩)
  | n + 1, seen, d :: rest, hs, ht, hd, hn, hf => by
    have hlen := seen_len (xs := xs) (dir := dir) hn (fun a ha => (hs a ha).1.there)
    rw [insR_cons, if_neg (by omega)]
    have hrd := ht d (by simp)
    by_cases hdn : d = no
    · rw [if_pos hdn]
      exact ⟨fun _ => hdn ▸ hrd, fun _ => rfl⟩
    · rw [if_neg hdn]
      rw [List.length_cons] at hf
      by_cases hc : seen.contains d = true
      · rw [if_pos hc]
        have hm : d ∈ seen := by simpa using hc
        refine insR_iff hb hl h2 dir no n seen rest (fun a ha => ⟨(hs a ha).1, (hs a ha).2.1, fun k hk => ?_⟩) (fun a ha => ht a (by simp [ha])) ?_ hn (by omega)
        · rcases (hs a ha).2.2 k hk with h | h
          · exact .inl h
          · rcases List.mem_cons.1 h with rfl | h
            · exact .inl hm
            · exact .inr h
        · rcases hd with h | h
          · exact .inl h
          · rcases List.mem_cons.1 h with rfl | h
            · exact .inl hm
            · exact .inr h
      · rw [if_neg hc]
        have hm : d ∉ seen := by simpa using hc
        have hn2 : (seen ++ [d]).Nodup := by
          rw [List.nodup_append]
          exact ⟨hn, by simp, fun a ha b hb e => by
            have : b = d := by simpa using hb
            subst this; subst e; exact hm ha⟩
        have hlen2 := seen_len (xs := xs) (dir := dir) hn2 (fun a ha => by
          rcases List.mem_append.1 ha with ha | ha
          · exact (hs a ha).1.there
          · have : a = d := by simpa using ha
            rw [this]; exact hrd.there)
        have hkl := kids_len hl d
        rw [kidsR_eq hb]
        rw [List.length_append, List.length_singleton] at hlen2
        refine insR_iff hb hl h2 dir no n (seen ++ [d]) (rest ++ kidsOf xs d) (fun a ha => ?_) (fun a ha => ?_) ?_ hn2 ?_
        · rcases List.mem_append.1 ha with ha | ha
          · refine ⟨(hs a ha).1, (hs a ha).2.1, fun k hk => ?_⟩
            rcases (hs a ha).2.2 k hk with h | h
            · exact .inl (List.mem_append_left _ h)
            · rcases List.mem_cons.1 h with rfl | h
              · exact .inl (by simp)
              · exact .inr (List.mem_append_left _ h)
          · have : a = d := by simpa using ha
            subst this
            exact ⟨hrd, hdn, fun k hk => .inr (List.mem_append_right _ hk)⟩
        · rcases List.mem_append.1 ha with ha | ha
          · exact ht a (by simp [ha])
          · exact hrd.step ha
        · rcases hd with h | h
          · exact .inl (List.mem_append_left _ h)
          · rcases List.mem_cons.1 h with rfl | h
            · exact .inl (by simp)
            · exact .inr (List.mem_append_left _ h)
        · rw [List.length_append, List.length_append, List.length_singleton]
          omega
theorem insideR_iff {xs : List Inode} (hb : bareI xs) (hl : ∀ x ∈ xs, x.entries.length ≤ 1000) (h2 : xs.length + 1 ≤ 200) (dir no : Int) : insideR xs no dir = true ↔ ReachI xs dir no :=
  insR_iff hb hl h2 dir no 202000 [] [dir] (fun a ha => by simp at ha) (fun a ha => by
    have : a = dir := by simpa using ha
    rw [this]; exact .refl) (.inr (by simp)) (by simp) (by simp; omega)
/-- What a level's look leaves. -/
structure LookI (xs : List Inode) (dir : Int) (seen next : List Int) (p : List Int × List Int) : Prop where
  ok : SeenOk xs dir p.1 p.2
  re : ∀ a ∈ p.1, ReachI xs dir a
  up : ∀ a ∈ seen, a ∈ p.1
  nx : ∀ a ∈ next, a ∈ p.2
  out : ∀ a ∈ p.1, a ∈ seen ∨ a ∈ p.2
  len : p.1.length + next.length = seen.length + p.2.length
theorem scanE_look {xs : List Inode} {dir d : Int} (hd : ReachI xs dir d) : ∀ (es : List Entry) (seen next : List Int), (∀ e ∈ es, e ∈ entsOf xs d) → SeenOk xs dir seen next → (∀ a ∈ seen, ReachI xs dir a) →
    LookI xs dir seen next (scanE xs es (seen, next)) ∧ ∀ e ∈ es, ((findI xs e.no).getD zeroI).kind = 2 → e.no ∈ (scanE xs es (seen, next)).1
  | [], seen, next, _, S, hr => ⟨⟨S, hr, fun _ h => h, fun _ h => h, fun _ h => .inl h, rfl⟩, fun e he => by simp at he⟩
  | e :: es, seen, next, hsub, S, hr => by
    show LookI xs dir seen next (scanE xs es (if dirE xs seen e.no = true then (seen ++ [e.no], next ++ [e.no]) else (seen, next))) ∧ _
    have e2 : scanE xs (e :: es) (seen, next) = scanE xs es (if dirE xs seen e.no = true then (seen ++ [e.no], next ++ [e.no]) else (seen, next)) := rfl
    rw [e2]
    by_cases h : dirE xs seen e.no = true
    · rw [if_pos h]
      have hk : ((findI xs e.no).getD zeroI).kind = 2 := by
        unfold dirE at h
        simp only [Bool.and_eq_true, decide_eq_true_eq] at h
        exact h.2
      have hre : ReachI xs dir e.no := hd.step (mem_kids.2 ⟨e, hsub e (by simp), rfl, hk⟩)
      obtain ⟨L, q⟩ := scanE_look hd es (seen ++ [e.no]) (next ++ [e.no]) (fun x hx => hsub x (by simp [hx])) (S.more h) (fun a ha => by
        rcases List.mem_append.1 ha with ha | ha
        · exact hr a ha
        · have : a = e.no := by simpa using ha
          rw [this]; exact hre)
      refine ⟨⟨L.ok, L.re, fun a ha => L.up a (List.mem_append_left _ ha), fun a ha => L.nx a (List.mem_append_left _ ha), fun a ha => ?_, ?_⟩, fun x hx hxk => ?_⟩
      · rcases L.out a ha with ha | ha
        · rcases List.mem_append.1 ha with ha | ha
          · exact .inl ha
          · exact .inr (L.nx a (List.mem_append_right _ ha))
        · exact .inr ha
      · have := L.len
        rw [List.length_append, List.length_append] at this
        omega
      · rcases List.mem_cons.1 hx with rfl | hx
        · exact L.up _ (by simp)
        · exact q x hx hxk
    · rw [if_neg h]
      obtain ⟨L, q⟩ := scanE_look hd es seen next (fun x hx => hsub x (by simp [hx])) S hr
      refine ⟨L, fun x hx hxk => ?_⟩
      rcases List.mem_cons.1 hx with rfl | hx
      · refine L.up _ ?_
        unfold dirE at h
        simp only [hxk, decide_true, Bool.and_true, Bool.not_eq_true', Bool.not_eq_false] at h
        simpa using h
      · exact q x hx hxk
theorem scanD_look {xs : List Inode} {dir no : Int} : ∀ (ds : List Int) (seen next : List Int), (∀ d ∈ ds, ReachI xs dir d) → SeenOk xs dir seen next → (∀ a ∈ seen, ReachI xs dir a) →
    (scanD xs no ds (seen, next) = none ∧ no ∈ ds) ∨ ∃ p, scanD xs no ds (seen, next) = some p ∧ no ∉ ds ∧ LookI xs dir seen next p ∧ ∀ d ∈ ds, ∀ k ∈ kidsOf xs d, k ∈ p.1
  | [], seen, next, _, S, hr => .inr ⟨(seen, next), rfl, by simp, ⟨S, hr, fun _ h => h, fun _ h => h, fun _ h => .inl h, rfl⟩, fun d hd => by simp at hd⟩
  | d :: ds, seen, next, hd, S, hr => by
    have e : scanD xs no (d :: ds) (seen, next) = if d = no then none else scanD xs no ds (scanE xs (entsOf xs d) (seen, next)) := rfl
    by_cases h : d = no
    · exact .inl ⟨by rw [e, if_pos h], by simp [h]⟩
    · rw [e, if_neg h]
      obtain ⟨L, q⟩ := scanE_look (hd d (by simp)) (entsOf xs d) seen next (fun _ h => h) S hr
      rcases scanD_look (no := no) ds (scanE xs (entsOf xs d) (seen, next)).1 (scanE xs (entsOf xs d) (seen, next)).2 (fun x hx => hd x (by simp [hx])) L.ok L.re with ⟨h1, h2⟩ | ⟨p, h1, h2, L2, h4⟩
      · exact .inl ⟨h1, by simp [h2]⟩
      · refine .inr ⟨p, h1, by simp only [List.mem_cons, not_or]; exact ⟨fun e => h e.symm, h2⟩, ⟨L2.ok, L2.re, fun a ha => L2.up a (L.up a ha), fun a ha => L2.nx a (L.nx a ha), fun a ha => ?_, ?_⟩, fun x hx k hk => ?_⟩
        · rcases L2.out a ha with ha | ha
          · rcases L.out a ha with ha | ha
            · exact .inl ha
            · exact .inr (L2.nx a ha)
          · exact .inr ha
        · have := L.len
          have := L2.len
          omega
        · rcases List.mem_cons.1 hx with rfl | hx
          · obtain ⟨e, he, rfl, hk2⟩ := mem_kids.1 hk
            exact L2.up _ (q e he hk2)
          · exact h4 x hx k hk
theorem levelF_iff {xs : List Inode} (dir no : Int) : ∀ (n : Nat) (seen now : List Int), SeenOk xs dir seen now → (∀ a ∈ seen, ReachI xs dir a) → dir ∈ seen → (∀ a ∈ seen, a ∈ now ∨ (a ≠ no ∧ ∀ k ∈ kidsOf xs a, k ∈ seen)) →
    (now ≠ [] → xs.length + 2 ≤ n + seen.length) → (levelF xs no n seen now = true ↔ ReachI xs dir no)
  | n, seen, [], S, hr, hd, hc, _ => by
    rw [levelF_nil]
    constructor
    · intro q; cases q
    · intro r
      exact absurd r (ReachI.closed hd fun a ha => (hc a ha).resolve_left (by simp))
  | 0, seen, d :: now, S, hr, hd, hc, hf => by
    have h1 := hf (by simp)
    have h2 := S.len.1
    omega
  | n + 1, seen, d :: now, S, hr, hd, hc, hf => by
    rw [levelF_more (by simp)]
    rcases scanD_look (no := no) (d :: now) seen [] (fun a ha => hr a (S.ns a ha)) S.fresh hr with ⟨h1, h2⟩ | ⟨p, h1, h2, L, h4⟩
    · rw [h1]
      exact ⟨fun _ => hr _ (S.ns _ h2), fun _ => rfl⟩
    · rw [h1]
      show levelF xs no n p.1 p.2 = true ↔ _
      refine levelF_iff dir no n p.1 p.2 L.ok L.re (L.up _ hd) (fun a ha => ?_) (fun hne => ?_)
      · rcases L.out a ha with h | h
        · refine .inr ?_
          rcases hc a h with h5 | h5
          · exact ⟨fun e => h2 (e ▸ h5), fun k hk => h4 a h5 k hk⟩
          · exact ⟨h5.1, fun k hk => L.up k (h5.2 k hk)⟩
        · exact .inl h
      · have h5 := hf (by simp)
        have h6 := L.len
        have h7 : 0 < p.2.length := List.length_pos_iff.2 hne
        simp only [List.length_nil] at h6
        omega
theorem insideP_iff {xs : List Inode} (h2 : xs.length ≤ 200) (dir no : Int) : insideP xs no dir = true ↔ ReachI xs dir no :=
  levelF_iff dir no 201 [dir] [dir] ⟨by simp, fun a ha => .inl (by simpa using ha), by simp, fun a ha => ha⟩ (fun a ha => by
    have : a = dir := by simpa using ha
    rw [this]; exact .refl) (by simp) (fun a ha => .inl ha) (fun _ => by simp; omega)
theorem inside_eq {xs : List Inode} (hb : bareI xs) (hl : ∀ x ∈ xs, x.entries.length ≤ 1000) (h2 : xs.length + 1 ≤ 200) (no dir : Int) : insideP xs no dir = insideR xs no dir := by
  rw [Bool.eq_iff_iff, insideP_iff (by omega), insideR_iff hb hl h2]
end Go.Proofs.Ytkglaofiencfdaa

namespace Go.Proofs.Ytkglaofiencfdaa
open Go.RowKit Go.Sort
set_option linter.unusedVariables false
/-! ### in states that grew only directories have entries -/
def bareX (x : Inode) : Prop := x.kind ≠ 2 → x.entries = []
def bareD (d : Deed) : Prop := d.kind = 2 → bareX d.inode
theorem bareD_put {x : Inode} (h : bareX x) : bareD (putD x) := fun _ => h
theorem bareD_drop (no : Int) : bareD ⟨3, no, zeroI⟩ := fun e => absurd e (by show (3 : Int) ≠ 2; decide)
theorem bareD_next (no : Int) : bareD ⟨1, no, zeroI⟩ := fun e => absurd e (by show (1 : Int) ≠ 2; decide)
theorem bareX_dir {x : Inode} (h : x.kind = 2) : bareX x := fun e => absurd h e
theorem bareX_zero : bareX zeroI := fun _ => rfl
theorem bare_one {s : State} (h : bareI s.inodes) {d : Deed} (hd : bareD d) : bareI (applyD s d).inodes := by
  unfold applyD
  split
  · exact h
  · split
    · rename_i h2
      intro x hx
      rcases mem_putI hx with rfl | hx
      · exact hd h2
      · exact h x hx
    · split
      · exact fun x hx => h x (List.mem_filter.1 hx).1
      · split
        · exact h
        · exact h
theorem bare_all : ∀ {ds : List Deed} {s : State}, bareI s.inodes → (∀ d ∈ ds, bareD d) → bareI (applyS s ds).inodes
  | [], s, h, _ => h
  | d :: ds, s, h, hd => bare_all (ds := ds) (bare_one h (hd d (by simp))) (fun e he => hd e (by simp [he]))
theorem bare_find {xs : List Inode} (h : bareI xs) (no : Int) : bareX ((findI xs no).getD zeroI) := by
  cases e : findI xs no with
  | none => exact bareX_zero
  | some x => exact h x (mem_of_findI e)
theorem parentL_kind {xs : List Inode} {l : List ByteArray} (h : (parentL xs l).2.2 = 0) : ((findI xs (parentL xs l).1).getD zeroI).kind = 2 := by
  unfold parentL at h ⊢
  split at h
  · exact absurd h (by decide)
  · rename_i a ha
    by_cases h1 : (a.toList == [46, 46]) = true
    · rw [if_pos h1] at h; exact absurd h (by decide)
    · rw [if_neg h1] at h ⊢
      by_cases h2 : (walkP xs l.dropLast true).2 ≠ 0
      · rw [if_pos h2] at h; exact absurd h h2
      · rw [if_neg h2] at h ⊢
        by_cases h3 : ((findI xs (walkP xs l.dropLast true).1).getD zeroI).kind = 2
        · rw [if_pos h3]; exact h3
        · rw [if_neg h3] at h; exact absurd h (by show (13 : Int) ≠ 0; decide)
theorem parentP_kind {xs : List Inode} {path : ByteArray} (h : (parentP xs path).2.2 = 0) : ((findI xs (parentP xs path).1).getD zeroI).kind = 2 := by
  unfold parentP at h ⊢
  split at h
  · rename_i h1; rw [if_pos h1]; exact parentL_kind h
  · rename_i h1; exact absurd h h1
theorem atS_dirB (xs : List Inode) (no : Int) (name : ByteArray) : (atS xs no name).dir = (findI xs no).getD zeroI ∧ (atS xs no name).name = name := by
  unfold atS; split <;> exact ⟨rfl, rfl⟩
theorem findS_dir (xs : List Inode) (path : ByteArray) : (findS xs path).1.dir.no ≠ 0 → (findS xs path).1.dir.kind = 2 := by
  unfold findS
  split
  · intro h; exact absurd rfl h
  · rename_i h
    intro _
    show (atS xs (parentP xs path).1 (parentP xs path).2.1).dir.kind = 2
    rw [(atS_dirB _ _ _).1]
    exact parentP_kind (by simpa using h)
theorem thereS_fst (xs : List Inode) (path : ByteArray) : (thereS xs path).1 = (findS xs path).1 := by
  unfold thereS; split <;> rfl
theorem thereS_dir0 {xs : List Inode} {path : ByteArray} (h : (thereS xs path).2 = 0) : (thereS xs path).1.dir.kind = 2 := by
  have h2 : (findS xs path).2 = 0 := by
    unfold thereS at h
    split at h
    · exact absurd h (by show (11 : Int) ≠ 0; decide)
    · exact h
  rw [thereS_fst]
  unfold findS at h2 ⊢
  split at h2
  · rename_i h3; exact absurd h2 h3
  · rename_i h3
    rw [if_neg h3]
    show (atS xs (parentP xs path).1 (parentP xs path).2.1).dir.kind = 2
    rw [(atS_dirB _ _ _).1]
    exact parentP_kind (by simpa using h3)
theorem bare_there {xs : List Inode} (h : bareI xs) (path : ByteArray) : bareX (thereS xs path).1.dir ∧ bareX (thereS xs path).1.x := by
  rw [thereS_fst]
  unfold findS
  split
  · exact ⟨bareX_zero, bareX_zero⟩
  · unfold atS
    split
    · exact ⟨bare_find h _, bareX_zero⟩
    · exact ⟨bare_find h _, bare_find h _⟩
theorem remE_nil (s : ByteArray) : remE [] s = [] := rfl
theorem bare_without {x : Inode} (h : bareX x) (name : ByteArray) : bareX (withoutP x name) := by
  unfold withoutP
  split
  · intro e
    show remE x.entries name = []
    rw [h e]; rfl
  · exact h
theorem bare_letGo {x : Inode} (h : bareX x) (os : List Int) : bareD (letGoP x os) := by
  unfold letGoP
  split
  · exact bareD_drop _
  · exact fun _ => h
theorem bare_make {s : State} (h : bareI s.inodes) (path : ByteArray) (kind : Int) (t : ByteArray) : ∀ d ∈ (makeP s path kind t).1, bareD d := by
  unfold makeP
  simp only
  repeat' split
  all_goals first | (intro d hd; simp at hd; done) | skip
  rename_i hp _ _ _ _
  intro d hd
  simp only [List.mem_cons, List.not_mem_nil, or_false] at hd
  rcases hd with rfl | rfl | rfl
  · exact bareD_next _
  · exact bareD_put (bareX_dir (parentP_kind (xs := s.inodes) (path := path) (by simpa using hp)))
  · exact bareD_put (fun _ => rfl)
theorem bare_hard {s : State} (h : bareI s.inodes) (old path : ByteArray) : ∀ d ∈ (hardP s old path).1, bareD d := by
  unfold hardP
  split
  · intro d hd; simp at hd
  split
  · intro d hd; simp at hd
  unfold hardU
  split
  · intro d hd; simp at hd
  rename_i hp
  unfold hardT
  repeat' split
  all_goals first | (intro d hd; simp at hd; done) | skip
  intro d hd
  simp only [List.mem_cons, List.not_mem_nil, or_false] at hd
  rcases hd with rfl | rfl
  · exact bareD_put (bareX_dir (parentP_kind (xs := s.inodes) (path := path) (by simpa using hp)))
  · exact bareD_put (bare_find h _)
theorem bare_unlink {s : State} (h : bareI s.inodes) (path : ByteArray) (os : List Int) : ∀ d ∈ (unlinkP s path os).1, bareD d := by
  obtain ⟨h1, h2⟩ := bare_there h path
  unfold unlinkP
  repeat' split
  all_goals first | (intro d hd; simp at hd; done) | skip
  intro d hd
  simp only [List.mem_cons, List.not_mem_nil, or_false] at hd
  rcases hd with rfl | rfl
  · exact bareD_put (bare_without h1 _)
  · exact bare_letGo h2 os
theorem bare_rmdir {s : State} (h : bareI s.inodes) (path : ByteArray) : ∀ d ∈ (rmdirP s path).1, bareD d := by
  obtain ⟨h1, h2⟩ := bare_there h path
  unfold rmdirP
  repeat' split
  all_goals first | (intro d hd; simp at hd; done) | skip
  intro d hd
  simp only [List.mem_cons, List.not_mem_nil, or_false] at hd
  rcases hd with rfl | rfl
  · exact bareD_put (bare_without h1 _)
  · exact bareD_drop _
theorem bare_rename {s : State} (h : bareI s.inodes) (old path : ByteArray) (os : List Int) : ∀ d ∈ (rrenameP s old path os).1, bareD d := by
  unfold rrenameP
  split
  · intro d hd; simp at hd
  rename_i hc
  have hp := thereS_dir0 (xs := s.inodes) (path := old) (by simpa using hc)
  have hx2 := (bare_there h path).2
  have hq : (thereS s.inodes path).1.dir.no ≠ 0 → (thereS s.inodes path).1.dir.kind = 2 := by rw [thereS_fst]; exact findS_dir _ _
  generalize (thereS s.inodes old).1 = p at hp
  generalize (thereS s.inodes path).2 = c
  generalize (thereS s.inodes path).1 = q at hq hx2
  unfold rrP
  split
  · intro d hd; simp at hd
  rename_i h0
  have hqk := hq (fun e => h0 (.inr e))
  repeat' split
  all_goals first | (intro d hd; simp at hd; done) | skip
  generalize (c == 0) = th
  unfold rrM
  split
  · intro d hd; simp at hd
  have hL : ∀ al, ∀ d ∈ rrL p q th al, bareD d := fun al d hd => by
    unfold rrL at hd
    split at hd
    · simp only [List.mem_cons, List.not_mem_nil, or_false] at hd
      subst hd; exact bareD_put (bareX_dir hqk)
    · simp only [List.mem_cons, List.not_mem_nil, or_false] at hd
      rcases hd with rfl | rfl
      · exact bareD_put (bareX_dir hp)
      · exact bareD_put (bareX_dir hqk)
  unfold rrE
  split
  · exact hL _
  · split
    · intro d hd
      rcases List.mem_append.1 hd with hd | hd
      · exact hL _ d hd
      · simp only [List.mem_cons, List.not_mem_nil, or_false] at hd
        subst hd; exact bareD_drop _
    · intro d hd
      rcases List.mem_append.1 hd with hd | hd
      · exact hL _ d hd
      · simp only [List.mem_cons, List.not_mem_nil, or_false] at hd
        subst hd; exact bare_letGo hx2 os
theorem bare_op {s : State} (h : bareI s.inodes) (o : POp) (os : List Int) : ∀ d ∈ opD s o os, bareD d := by
  unfold opD
  repeat' split
  · exact bare_make h _ _ _
  · exact bare_make h _ _ _
  · exact bare_make h _ _ _
  · exact bare_hard h _ _
  · exact bare_rename h _ _ _
  · exact bare_unlink h _ _
  · exact bare_rmdir h _
  · intro d hd; simp at hd
theorem bare_grow (os : List Int) : ∀ (ops : List POp) (s : State), bareI s.inodes → bareI (ops.foldl (growS os) s).inodes
  | [], s, h => h
  | o :: ops, s, h => bare_grow os ops _ (bare_all h (bare_op h o os))
theorem bare_new : bareI newS.inodes := fun x hx => by
  have : x = newI 1 2 ⟨#[]⟩ := by simpa [newS] using hx
  subst this
  exact fun _ => rfl
theorem grown_bare (os : List Int) (ops : List POp) : bareI (grownP os ops).inodes := bare_grow os _ _ bare_new
theorem grown_inside (os : List Int) (ops : List POp) (no dir : Int) : insideP (grownP os ops).inodes no dir = insideR (grownP os ops).inodes no dir := by
  have m : MidS 40 40 (grownP os ops) := by
    have q := grown_mid os ops 40 (Nat.le_refl _)
    exact q
  exact inside_eq (grown_bare os ops) (fun x hx => Nat.le_trans (m.ent x hx).1 (by decide)) (by have := m.len; omega) no dir
end Go.Proofs.Ytkglaofiencfdaa

namespace Go.Proofs.Ytkglaofiencfdaa
open Go.RowKit Go.Sort
set_option linter.unusedVariables false
/-! ### what is found, and what leads to it, behind a deed -/
theorem isI_iff {no : Int} {x : Inode} : isI no x = true ↔ x.no = no := by unfold isI; simp
theorem findI_no {xs : List Inode} {no : Int} {x : Inode} (h : findI xs no = some x) : x.no = no := isI_iff.1 (List.find?_some h)
theorem findI_none_iff {xs : List Inode} {no : Int} : findI xs no = none ↔ ∀ x ∈ xs, x.no ≠ no := by
  unfold findI
  rw [List.find?_eq_none]
  constructor
  · intro h x hx e; exact h x hx (isI_iff.2 e)
  · intro h x hx e; exact h x hx (isI_iff.1 e)
theorem findI_of_mem {xs : List Inode} (hr : riseI xs) {x : Inode} (h : x ∈ xs) : findI xs x.no = some x := by
  cases e : findI xs x.no with
  | none => exact absurd rfl (findI_none_iff.1 e x h)
  | some y =>
    have h1 := mem_of_findI e
    have h2 := findI_no e
    obtain ⟨i, hi, rfl⟩ := List.mem_iff_getElem.1 h
    obtain ⟨j, hj, rfl⟩ := List.mem_iff_getElem.1 h1
    unfold riseI at hr
    have key : ∀ a b (ha : a < xs.length) (hb : b < xs.length), a < b → xs[a].no < xs[b].no := fun a b ha hb hab =>
      pw_get hr (i := a) (j := b) (by rw [List.getElem?_map, List.getElem?_eq_getElem ha]; rfl) (by rw [List.getElem?_map, List.getElem?_eq_getElem hb]; rfl) hab
    rcases Nat.lt_trichotomy i j with q | q | q
    · have := key i j hi hj q; omega
    · subst q; rfl
    · have := key j i hj hi q; omega
theorem idx_findI {xs : List Inode} {no : Int} {i : Nat} (h : xs.findIdx? (isI no) = some i) : ∃ hi : i < xs.length, findI xs no = some xs[i] := by
  obtain ⟨hi, hp, hb⟩ := List.findIdx?_eq_some_iff_getElem.1 h
  refine ⟨hi, ?_⟩
  unfold findI
  rw [List.find?_eq_some_iff_getElem]
  exact ⟨hp, i, hi, rfl, fun j hj => by have := hb j hj; simpa using this⟩
theorem idx_findI_none {xs : List Inode} {no : Int} : xs.findIdx? (isI no) = none ↔ findI xs no = none := by
  rw [findI_none_iff, List.findIdx?_eq_none_iff]
  constructor
  · intro h x hx e; have := h x hx; rw [isI_iff.2 e] at this; cases this
  · intro h x hx
    cases e : isI no x with
    | false => rfl
    | true => exact absurd (isI_iff.1 e) (h x hx)
/-- How many of so many entries lead to a number. -/
def cntE (es : List Entry) (n : Int) : Int := ((es.countP fun e => e.no == n : Nat) : Int)
def leadsL : List Inode → Int → Int
  | [], _ => 0
  | x :: xs, n => cntE x.entries n + leadsL xs n
theorem leadsL_app (xs ys : List Inode) (n : Int) : leadsL (xs ++ ys) n = leadsL xs n + leadsL ys n := by
  induction xs with
  | nil => simp [leadsL]
  | cons x xs ih => simp [leadsL, ih]; omega
theorem leadsL_split {xs : List Inode} {i : Nat} (hi : i < xs.length) (n : Int) : leadsL xs n = leadsL (xs.take i) n + cntE xs[i].entries n + leadsL (xs.drop (i + 1)) n := by
  have e : xs = xs.take i ++ xs[i] :: xs.drop (i + 1) := by rw [List.getElem_cons_drop, List.take_append_drop]
  conv => lhs; rw [e]
  rw [leadsL_app]
  simp only [leadsL]
  omega
theorem cntE_nil (n : Int) : cntE [] n = 0 := rfl
theorem cntE_cons (e : Entry) (es : List Entry) (n : Int) : cntE (e :: es) n = cntE es n + if e.no = n then 1 else 0 := by
  unfold cntE
  rw [List.countP_cons]
  by_cases h : e.no = n
  · simp [h]
  · simp [h]
theorem cntE_perm {es fs : List Entry} (h : es.Perm fs) (n : Int) : cntE es n = cntE fs n := by unfold cntE; rw [h.countP_eq]
theorem cntE_nonneg (es : List Entry) (n : Int) : 0 ≤ cntE es n := by unfold cntE; omega
theorem leadsL_nonneg (xs : List Inode) (n : Int) : 0 ≤ leadsL xs n := by
  induction xs with
  | nil => exact Int.le_refl 0
  | cons x xs ih => have := cntE_nonneg x.entries n; show 0 ≤ cntE x.entries n + leadsL xs n; omega
theorem cntE_zero {es : List Entry} {n : Int} : cntE es n = 0 ↔ ∀ e ∈ es, e.no ≠ n := by
  unfold cntE
  have : ((List.countP (fun e => e.no == n) es : Nat) : Int) = 0 ↔ List.countP (fun e => e.no == n) es = 0 := by omega
  rw [this, List.countP_eq_zero]
  constructor
  · intro h e he q; exact h e he (by simp [q])
  · intro h e he q; exact h e he (by simpa using q)
theorem leadsL_zero {xs : List Inode} {n : Int} : leadsL xs n = 0 ↔ ∀ x ∈ xs, ∀ e ∈ x.entries, e.no ≠ n := by
  induction xs with
  | nil => simp [leadsL]
  | cons x xs ih =>
    have h1 := cntE_nonneg x.entries n
    have h2 := leadsL_nonneg xs n
    show cntE x.entries n + leadsL xs n = 0 ↔ _
    have : cntE x.entries n + leadsL xs n = 0 ↔ cntE x.entries n = 0 ∧ leadsL xs n = 0 := by omega
    rw [this, ih, cntE_zero]
    simp only [List.mem_cons, forall_eq_or_imp]
theorem find_put (xs : List Inode) (x : Inode) (n : Int) : findI (putI xs x) n = if n = x.no then some x else findI xs n := by
  unfold putI
  cases h : xs.findIdx? (isI x.no) with
  | some i =>
    obtain ⟨hi, hp, hb⟩ := List.findIdx?_eq_some_iff_getElem.1 h
    show (xs.set i x).find? (isI n) = _
    rw [List.set_eq_take_append_cons_drop, if_pos hi, List.find?_append]
    have e : xs = xs.take i ++ xs[i] :: xs.drop (i + 1) := by rw [List.getElem_cons_drop, List.take_append_drop]
    by_cases hn : n = x.no
    · subst hn
      rw [if_pos rfl]
      have h1 : (xs.take i).find? (isI x.no) = none := by
        rw [List.find?_eq_none]
        intro y hy
        obtain ⟨j, hj, rfl⟩ := List.mem_iff_getElem.1 hy
        rw [List.length_take] at hj
        rw [List.getElem_take]
        have := hb j (by omega)
        simpa using this
      rw [h1, List.find?_cons_of_pos (isI_iff.2 rfl)]; rfl
    · rw [if_neg hn, List.find?_cons_of_neg (fun q => hn (isI_iff.1 q).symm)]
      conv => rhs; unfold findI; rw [e, List.find?_append]
      rw [List.find?_cons_of_neg (p := isI n) (a := xs[i]) (fun q => hn (by rw [← isI_iff.1 q, isI_iff.1 hp]))]
  | none =>
    have hnone := findI_none_iff.1 (idx_findI_none.1 h)
    show (xs.take (posI xs x.no) ++ [x] ++ xs.drop (posI xs x.no)).find? (isI n) = _
    rw [List.find?_append, List.find?_append]
    by_cases hn : n = x.no
    · subst hn
      rw [if_pos rfl]
      have h1 : (xs.take (posI xs x.no)).find? (isI x.no) = none := by
        rw [List.find?_eq_none]
        intro y hy q
        exact hnone y (List.mem_of_mem_take hy) (isI_iff.1 q)
      rw [h1, List.find?_cons_of_pos (isI_iff.2 rfl)]; rfl
    · rw [if_neg hn, List.find?_cons_of_neg (fun q => hn (isI_iff.1 q).symm)]
      conv => rhs; unfold findI; rw [← List.take_append_drop (posI xs x.no) xs, List.find?_append]
      simp
theorem leads_put_old {xs : List Inode} {x x0 : Inode} (h : findI xs x.no = some x0) (n : Int) : leadsL (putI xs x) n + cntE x0.entries n = leadsL xs n + cntE x.entries n := by
  unfold putI
  cases e : xs.findIdx? (isI x.no) with
  | none => rw [idx_findI_none.1 e] at h; cases h
  | some i =>
    obtain ⟨hi, h2⟩ := idx_findI e
    rw [h2] at h
    obtain rfl : xs[i] = x0 := by simpa using h
    show leadsL (xs.set i x) n + _ = _
    rw [List.set_eq_take_append_cons_drop, if_pos hi, leadsL_app, leadsL_split hi n]
    simp only [leadsL]
    omega
theorem leads_put_new {xs : List Inode} {x : Inode} (h : findI xs x.no = none) (n : Int) : leadsL (putI xs x) n = leadsL xs n + cntE x.entries n := by
  unfold putI
  rw [idx_findI_none.2 h]
  show leadsL (xs.take (posI xs x.no) ++ [x] ++ xs.drop (posI xs x.no)) n = _
  rw [leadsL_app, leadsL_app]
  conv => rhs; rw [← List.take_append_drop (posI xs x.no) xs, leadsL_app]
  simp only [leadsL]
  omega
theorem find_drop (xs : List Inode) (no n : Int) : findI (xs.filter (neI no)) n = if n = no then none else findI xs n := by
  by_cases hn : n = no
  · rw [if_pos hn, findI_none_iff]
    intro x hx e
    have := (List.mem_filter.1 hx).2
    unfold neI at this
    rw [isI_iff.2 (e.trans hn)] at this
    cases this
  · rw [if_neg hn]
    unfold findI
    rw [List.find?_filter]
    congr 1
    funext x
    unfold neI
    cases h : isI n x with
    | false => simp
    | true =>
      have : isI no x = false := by
        cases h2 : isI no x with
        | false => rfl
        | true => exact absurd ((isI_iff.1 h).symm.trans (isI_iff.1 h2)) hn
      simp [this]
theorem leads_drop {xs : List Inode} (hr : riseI xs) {no : Int} {x0 : Inode} (h : findI xs no = some x0) (n : Int) : leadsL (xs.filter (neI no)) n + cntE x0.entries n = leadsL xs n := by
  induction xs with
  | nil => cases h
  | cons x xs ih =>
    have hr2 : riseI xs := (List.pairwise_cons.1 hr).2
    have hlt := (List.pairwise_cons.1 hr).1
    by_cases hx : x.no = no
    · have e1 : findI (x :: xs) no = some x := by unfold findI; rw [List.find?_cons_of_pos (isI_iff.2 hx)]
      rw [e1] at h
      obtain rfl : x = x0 := by simpa using h
      have e2 : (x :: xs).filter (neI no) = xs := by
        rw [List.filter_cons_of_neg (by unfold neI; rw [isI_iff.2 hx]; simp), List.filter_eq_self]
        intro y hy
        unfold neI
        cases h2 : isI no y with
        | false => rfl
        | true =>
          have q1 : x.no < y.no := hlt y.no (List.mem_map.2 ⟨y, hy, rfl⟩)
          have q2 := isI_iff.1 h2
          omega
      rw [e2]; show leadsL xs n + cntE x.entries n = cntE x.entries n + leadsL xs n; omega
    · have e1 : findI (x :: xs) no = findI xs no := by unfold findI; rw [List.find?_cons_of_neg (fun q => hx (isI_iff.1 q))]
      rw [e1] at h
      have := ih hr2 h
      have e2 : (x :: xs).filter (neI no) = x :: xs.filter (neI no) := by
        rw [List.filter_cons_of_pos (by
          unfold neI
          cases h2 : isI no x with
          | false => rfl
          | true => exact absurd (isI_iff.1 h2) hx)]
      rw [e2]; show cntE x.entries n + leadsL (xs.filter (neI no)) n + _ = cntE x.entries n + leadsL xs n; omega
theorem drop_rise {xs : List Inode} (h : riseI xs) (no : Int) : riseI (xs.filter (neI no)) := h.sublist (List.filter_sublist.map _)
theorem put_len {xs : List Inode} {x x0 : Inode} (h : findI xs x.no = some x0) : (putI xs x).length = xs.length := by
  unfold putI
  cases e : xs.findIdx? (isI x.no) with
  | none => rw [idx_findI_none.1 e] at h; cases h
  | some i => simp
end Go.Proofs.Ytkglaofiencfdaa

namespace Go.Proofs.Ytkglaofiencfdaa
open Go.RowKit Go.Sort
set_option linter.unusedVariables false
/-! ### a sound state, as what is found and what leads to it -/
def kindF (F : Int → Option Inode) (n : Int) : Int := ((F n).getD zeroI).kind
def dirsF (F : Int → Option Inode) (es : List Entry) : Int := ((es.countP fun e => decide (kindF F e.no = 2) : Nat) : Int)
def KidF (F : Int → Option Inode) (d k : Int) : Prop := ∃ e ∈ ((F d).getD zeroI).entries, e.no = k ∧ kindF F k = 2
inductive ReachF (F : Int → Option Inode) (a : Int) : Int → Prop
  | refl : ReachF F a a
  | step {d k : Int} : ReachF F a d → KidF F d k → ReachF F a k
theorem kidF_iff {xs : List Inode} {d k : Int} : KidF (findI xs) d k ↔ k ∈ kidsOf xs d := mem_kids.symm
theorem reachF_iff {xs : List Inode} {a n : Int} : ReachF (findI xs) a n ↔ ReachI xs a n := by
  constructor
  · intro r
    induction r with
    | refl => exact .refl
    | step _ h ih => exact ih.step (kidF_iff.1 h)
  · intro r
    induction r with
    | refl => exact .refl
    | step _ h ih => exact ih.step (kidF_iff.2 h)
theorem kindF_some {F : Int → Option Inode} {n : Int} {x : Inode} (h : F n = some x) : kindF F n = x.kind := by unfold kindF; rw [h]; rfl
theorem kindF_isSome {F : Int → Option Inode} {n : Int} (h : kindF F n = 2) : ∃ x, F n = some x ∧ x.kind = 2 := by
  cases e : F n with
  | none => unfold kindF at h; rw [e] at h; exact absurd h (by decide)
  | some x => exact ⟨x, rfl, by rw [kindF_some e] at h; exact h⟩
theorem kidF_some {F : Int → Option Inode} {d k : Int} {x : Inode} (h : F d = some x) : KidF F d k ↔ ∃ e ∈ x.entries, e.no = k ∧ kindF F k = 2 := by unfold KidF; rw [h]; rfl
theorem kidF_dir {F : Int → Option Inode} {d k : Int} (h : KidF F d k) : kindF F k = 2 := by obtain ⟨e, _, _, q⟩ := h; exact q
theorem kidF_par {F : Int → Option Inode} {d k : Int} (h : KidF F d k) : ∃ x, F d = some x ∧ x.entries ≠ [] := by
  obtain ⟨e, he, _⟩ := h
  cases q : F d with
  | none => rw [q] at he; exact absurd he (by simp [zeroI])
  | some x => rw [q] at he; exact ⟨x, rfl, fun h0 => by rw [show (Option.getD (some x) zeroI) = x from rfl, h0] at he; simp at he⟩
theorem dirsF_nil (F : Int → Option Inode) : dirsF F [] = 0 := rfl
theorem dirsF_cons (F : Int → Option Inode) (e : Entry) (es : List Entry) : dirsF F (e :: es) = dirsF F es + if kindF F e.no = 2 then 1 else 0 := by
  unfold dirsF
  rw [List.countP_cons]
  by_cases h : kindF F e.no = 2 <;> simp [h]
theorem dirsF_perm (F : Int → Option Inode) {es fs : List Entry} (h : es.Perm fs) : dirsF F es = dirsF F fs := by unfold dirsF; rw [h.countP_eq]
theorem dirsF_nonneg (F : Int → Option Inode) (es : List Entry) : 0 ≤ dirsF F es := by unfold dirsF; omega
theorem dirsF_congr {F G : Int → Option Inode} {es : List Entry} (h : ∀ e ∈ es, kindF G e.no = kindF F e.no) : dirsF G es = dirsF F es := by
  induction es with
  | nil => rfl
  | cons e es ih => rw [dirsF_cons, dirsF_cons, ih fun x hx => h x (by simp [hx]), h e (by simp)]
/-- How what leads somewhere is counted. -/
structure FitF (F : Int → Option Inode) (L : Int → Int) : Prop where
  no : ∀ n x, F n = some x → x.no = n
  one : ∀ n a x, F a = some x → cntE x.entries n ≤ L n
  two : ∀ n a b x y, F a = some x → F b = some y → a ≠ b → cntE x.entries n + cntE y.entries n ≤ L n
  zero : ∀ n, (∀ a x, F a = some x → cntE x.entries n = 0) → L n = 0
theorem leadsL_mem {xs : List Inode} {x : Inode} (h : x ∈ xs) (n : Int) : cntE x.entries n ≤ leadsL xs n := by
  induction xs with
  | nil => cases h
  | cons y ys ih =>
    have h1 := cntE_nonneg y.entries n
    have h2 := leadsL_nonneg ys n
    rcases List.mem_cons.1 h with rfl | h
    · show _ ≤ cntE x.entries n + leadsL ys n; omega
    · have := ih h; show _ ≤ cntE y.entries n + leadsL ys n; omega
theorem leadsL_two {xs : List Inode} {x y : Inode} (hx : x ∈ xs) (hy : y ∈ xs) (hne : x ≠ y) (n : Int) : cntE x.entries n + cntE y.entries n ≤ leadsL xs n := by
  induction xs with
  | nil => cases hx
  | cons z zs ih =>
    have h1 := cntE_nonneg z.entries n
    rcases List.mem_cons.1 hx with rfl | hx'
    · rcases List.mem_cons.1 hy with rfl | hy'
      · exact absurd rfl hne
      · have := leadsL_mem hy' n; show _ ≤ cntE x.entries n + leadsL zs n; omega
    · rcases List.mem_cons.1 hy with rfl | hy'
      · have := leadsL_mem hx' n; show _ ≤ cntE y.entries n + leadsL zs n; omega
      · have := ih hx' hy'; show _ ≤ cntE z.entries n + leadsL zs n; omega
theorem fit_list {xs : List Inode} (hr : riseI xs) : FitF (findI xs) (leadsL xs) :=
  ⟨fun n x h => findI_no h, fun n a x h => leadsL_mem (mem_of_findI h) n, fun n a b x y hx hy hab => leadsL_two (mem_of_findI hx) (mem_of_findI hy) (fun e => hab (by rw [← findI_no hx, ← findI_no hy, e])) n,
    fun n h => leadsL_zero.2 fun x hx e he => cntE_zero.1 (h x.no x (findI_of_mem hr hx)) e he⟩
theorem cntE_pos {es : List Entry} {e : Entry} (h : e ∈ es) : 1 ≤ cntE es e.no := by
  have h1 := cntE_nonneg es e.no
  have h2 : cntE es e.no ≠ 0 := fun q => cntE_zero.1 q e h rfl
  omega
structure SndF (F : Int → Option Inode) (L : Int → Int) (next : Int) : Prop where
  ok : ∀ n x, F n = some x → x.no = n ∧ n < next ∧ rightI x = true
  root : kindF F 1 = 2
  there : ∀ n x, F n = some x → ∀ e ∈ x.entries, e.no ≠ 1 ∧ (F e.no).isSome = true
  lnk : ∀ n x, F n = some x → x.kind ≠ 2 → x.links = L n
  dir : ∀ n x, F n = some x → x.kind = 2 → x.links = 2 + dirsF F x.entries
  one : ∀ n x, F n = some x → x.kind = 2 → n ≠ 1 → L n = 1
  reach : ∀ n, kindF F n = 2 → ReachF F 1 n
theorem SndF.edit {F F' : Int → Option Inode} {L L' : Int → Int} {next next' : Int} (S : SndF F L next) (T' : FitF F' L') (hn : next ≤ next') (C : Int → Prop)
    (same : ∀ n, ¬ C n → F' n = F n) (lsame : ∀ n, ¬ C n → (F n).isSome = true → L' n = L n)
    (kinds : ∀ n, (F n).isSome = true → (F' n).isSome = true → kindF F' n = kindF F n) (gone : ∀ n, (F n).isSome = true → F' n = none → L' n = 0)
    (root : (F' 1).isSome = true)
    (ch : ∀ n x, C n → F' n = some x → x.no = n ∧ n < next' ∧ rightI x = true ∧ (∀ e ∈ x.entries, e.no ≠ 1 ∧ (F' e.no).isSome = true) ∧ (x.kind ≠ 2 → x.links = L' n) ∧ (x.kind = 2 → x.links = 2 + dirsF F' x.entries) ∧ (x.kind = 2 → n ≠ 1 → L' n = 1))
    (reach : ∀ n, kindF F' n = 2 → ReachF F' 1 n) : SndF F' L' next' := by
  have old : ∀ n x, ¬ C n → F' n = some x → F n = some x := fun n x hc h => by rw [← same n hc]; exact h
  have ents : ∀ n x, ¬ C n → F' n = some x → ∀ e ∈ x.entries, (F' e.no).isSome = true ∧ kindF F' e.no = kindF F e.no := fun n x hc h e he => by
    have hf := (S.there n x (old n x hc h) e he).2
    have hs : (F' e.no).isSome = true := by
      cases q : F' e.no with
      | some _ => rfl
      | none =>
        have h1 := gone e.no hf q
        have h2 := T'.one e.no n x h
        have h3 := cntE_pos he
        omega
    exact ⟨hs, kinds e.no hf hs⟩
  refine ⟨fun n x h => ?_, ?_, fun n x h e he => ?_, fun n x h hk => ?_, fun n x h hk => ?_, fun n x h hk h1 => ?_, reach⟩
  · by_cases hc : C n
    · have := ch n x hc h; exact ⟨this.1, this.2.1, this.2.2.1⟩
    · have := S.ok n x (old n x hc h); exact ⟨this.1, by omega, this.2.2⟩
  · have h1 : (F 1).isSome = true := by obtain ⟨x, hx, _⟩ := kindF_isSome S.root; rw [hx]; rfl
    rw [kinds 1 h1 root]; exact S.root
  · by_cases hc : C n
    · exact (ch n x hc h).2.2.2.1 e he
    · exact ⟨(S.there n x (old n x hc h) e he).1, (ents n x hc h e he).1⟩
  · by_cases hc : C n
    · exact (ch n x hc h).2.2.2.2.1 hk
    · rw [S.lnk n x (old n x hc h) hk, lsame n hc (by rw [old n x hc h]; rfl)]
  · by_cases hc : C n
    · exact (ch n x hc h).2.2.2.2.2.1 hk
    · rw [S.dir n x (old n x hc h) hk, dirsF_congr fun e he => (ents n x hc h e he).2]
  · by_cases hc : C n
    · exact (ch n x hc h).2.2.2.2.2.2 hk h1
    · rw [lsame n hc (by rw [old n x hc h]; rfl)]; exact S.one n x (old n x hc h) hk h1
/-! ### what can be reached, behind a change -/
theorem reach_mono {F F' : Int → Option Inode} (h : ∀ d k, KidF F d k → KidF F' d k) {a n : Int} (r : ReachF F a n) : ReachF F' a n := by
  induction r with
  | refl => exact .refl
  | step _ q ih => exact ih.step (h _ _ q)
theorem reach_drop {F F' : Int → Option Inode} {Y : Int → Prop} (keep : ∀ d k, KidF F d k → ¬ Y k → KidF F' d k) (hY : ∀ d k, Y d → ¬ KidF F d k) {a n : Int} (r : ReachF F a n) (hn : ¬ Y n) : ReachF F' a n := by
  induction r with
  | refl => exact .refl
  | step _ q ih => exact (ih fun hy => hY _ _ hy q).step (keep _ _ q hn)
theorem reach_move {F F' : Int → Option Inode} {x b : Int} {Y : Int → Prop} (keep : ∀ d k, KidF F d k → k ≠ x → ¬ Y k → KidF F' d k) (hb : KidF F' b x) (hnb : ¬ ReachF F x b) (hY : ∀ d k, Y d → ¬ KidF F d k) (hbY : ¬ Y b) (hb1 : ReachF F 1 b)
    {n : Int} (r : ReachF F 1 n) (hn : ¬ Y n) : ReachF F' 1 n := by
  have out : ∀ m, ReachF F 1 m → ¬ ReachF F x m → ¬ Y m → ReachF F' 1 m := fun m r => by
    induction r with
    | refl => exact fun _ _ => .refl
    | step r q ih =>
      intro h1 h2
      exact (ih (fun h => h1 (h.step q)) (fun hy => hY _ _ hy q)).step (keep _ _ q (fun e => h1 (e ▸ .refl)) h2)
  have hx : ReachF F' 1 x := (out b hb1 hnb hbY).step hb
  have inn : ∀ m, ReachF F x m → ¬ Y m → ReachF F' 1 m := fun m r => by
    induction r with
    | refl => exact fun _ => hx
    | @step d k r q ih =>
      intro h2
      by_cases e : k = x
      · rw [e]; exact hx
      · exact (ih fun hy => hY _ _ hy q).step (keep _ _ q e h2)
  by_cases h : ReachF F x n
  · exact inn n h hn
  · exact out n r h hn
/-! ### entries -/
theorem rem_perm {es : List Entry} {name : ByteArray} {t : Int} (h : findE es name = some t) : ∃ e, e ∈ es ∧ e.name = name ∧ e.no = t ∧ es.Perm (e :: remE es name) := by
  obtain ⟨i, e, h1, h2, h3, h4⟩ := findIdx_of_find (xs := es) (s := name) (by rw [h]; rfl)
  rw [h] at h4
  obtain ⟨hi, rfl⟩ := List.getElem?_eq_some_iff.1 h2
  refine ⟨es[i], List.getElem_mem hi, h3, by simpa using h4.symm, ?_⟩
  rw [remE_at h1, List.eraseIdx_eq_take_drop_succ]
  conv => lhs; rw [← List.take_append_drop i es, ← List.getElem_cons_drop hi]
  exact List.perm_middle
theorem without_of {d : Inode} {name : ByteArray} {t : Int} (h : findE d.entries name = some t) : withoutP d name = { d with entries := remE d.entries name } := by
  unfold withoutP remC
  rw [h]
  rfl
theorem addC_ok {es : List Entry} {e : Entry} (h : addC es e = 0) : nameB e.name = true ∧ 0 < e.no ∧ findE es e.name = none ∧ es.length < 100 := by
  unfold addC at h
  split at h
  · exact absurd h (by decide)
  · rename_i h1
    split at h
    · exact absurd h (by decide)
    · rename_i h2
      split at h
      · exact absurd h (by decide)
      · rename_i h3
        split at h
        · exact absurd h (by decide)
        · rename_i h4
          exact ⟨by simpa using h1, by omega, by simpa using h3, by omega⟩
theorem addL_ok {es : List Entry} {e : Entry} (h : addC es e = 0) : addL es e = insE es e := if_pos h
theorem rightI_dir {x : Inode} (h : rightI x = true) (hk : x.kind = 2) : 0 < x.no ∧ 0 ≤ x.links ∧ x.links ≤ 100 ∧ x.size = 0 ∧ rightE x.entries = true ∧ noText x.target = true ∧ x.runs.length = 0 := by
  unfold rightI dirB at h
  rw [hk] at h
  simp only [Bool.and_eq_true, decide_eq_true_eq, if_true, if_neg (show ¬ ((2 : Int) = 1) by decide), beq_iff_eq] at h
  obtain ⟨⟨⟨h1, h2⟩, h3⟩, ⟨⟨h4, h5⟩, h6⟩, h7⟩ := h
  exact ⟨h1, h2, h3, h4, h5, h6, by omega⟩
theorem rightI_mk {x : Inode} (hk : x.kind = 2) (h : 0 < x.no) (h1 : 0 ≤ x.links) (h2 : x.links ≤ 100) (h3 : x.size = 0) (h4 : rightE x.entries = true) (h5 : noText x.target = true) (h6 : x.runs.length = 0) : rightI x = true := by
  unfold rightI dirB
  rw [hk]
  simp only [Bool.and_eq_true, decide_eq_true_eq, if_true, if_neg (show ¬ ((2 : Int) = 1) by decide), beq_iff_eq]
  exact ⟨⟨⟨h, h1⟩, h2⟩, ⟨⟨h3, h4⟩, h5⟩, by omega⟩
theorem rightI_links {x : Inode} (h : rightI x = true) {l : Int} (h1 : 0 ≤ l) (h2 : l ≤ 100) : rightI { x with links := l } = true := by
  unfold rightI at h ⊢
  simp only [Bool.and_eq_true, decide_eq_true_eq] at h ⊢
  exact ⟨⟨⟨h.1.1.1, h1⟩, h2⟩, h.2⟩
theorem rightI_bare {x : Inode} (h : rightI x = true) (hk : x.kind ≠ 2) : x.entries = [] := by
  unfold rightI at h
  simp only [Bool.and_eq_true, decide_eq_true_eq] at h
  have h4 := h.2
  split at h4
  · unfold fileB at h4
    simp only [Bool.and_eq_true, beq_iff_eq] at h4
    exact List.eq_nil_of_length_eq_zero (by have := h4.2; omega)
  · (first | rw [if_neg hk] at h4 | skip)
    split at h4
    · unfold linkB at h4
      simp only [Bool.and_eq_true, beq_iff_eq] at h4
      exact List.eq_nil_of_length_eq_zero (by have := h4.1.2; omega)
    · cases h4
theorem rightI_pos {x : Inode} (h : rightI x = true) : 0 < x.no ∧ 0 ≤ x.links ∧ x.links ≤ 100 := by
  unfold rightI at h
  simp only [Bool.and_eq_true, decide_eq_true_eq] at h
  exact ⟨h.1.1.1, h.1.1.2, h.1.2⟩
theorem remE_len1 {es : List Entry} {name : ByteArray} {t : Int} (h : findE es name = some t) : (remE es name).length + 1 = es.length := by
  obtain ⟨e, _, _, _, p⟩ := rem_perm h
  have := p.length_eq
  simp only [List.length_cons] at this
  omega
end Go.Proofs.Ytkglaofiencfdaa

namespace Go.Proofs.Ytkglaofiencfdaa
open Go.RowKit Go.Sort
set_option linter.unusedVariables false
/-! ### sound states stay sound: Make, Hard, Unlink, Rmdir -/
structure Snd (s : State) : Prop where
  rise : riseI s.inodes
  len : s.inodes.length ≤ 200
  ok : SndF (findI s.inodes) (leadsL s.inodes) s.next
theorem Snd.fit {s : State} (S : Snd s) : FitF (findI s.inodes) (leadsL s.inodes) := fit_list S.rise
theorem Snd.dirOf {s : State} {path : ByteArray} (h : (parentP s.inodes path).2.2 = 0) : ∃ d, findI s.inodes (parentP s.inodes path).1 = some d ∧ d.kind = 2 ∧ (findI s.inodes (parentP s.inodes path).1).getD zeroI = d := by
  have hk := parentP_kind h
  obtain ⟨d, hd, hk2⟩ := kindF_isSome (F := findI s.inodes) hk
  exact ⟨d, hd, hk2, by rw [hd]; rfl⟩
theorem Snd.no_next {s : State} (S : Snd s) : findI s.inodes s.next = none ∧ leadsL s.inodes s.next = 0 := by
  constructor
  · cases h : findI s.inodes s.next with
    | none => rfl
    | some x => have := (S.ok.ok _ _ h).2.1; omega
  · refine S.fit.zero _ fun a x h => cntE_zero.2 fun e he q => ?_
    have := (S.ok.there a x h e he).2
    obtain ⟨y, hy⟩ := Option.isSome_iff_exists.1 this
    have := (S.ok.ok _ _ hy).2.1
    omega
theorem Snd.root_lt {s : State} (S : Snd s) : 1 < s.next := by
  obtain ⟨x, hx, _⟩ := kindF_isSome S.ok.root
  exact (S.ok.ok _ _ hx).2.1
theorem Snd.root_some {s : State} (S : Snd s) : (findI s.inodes 1).isSome = true := by
  obtain ⟨x, hx, _⟩ := kindF_isSome S.ok.root
  rw [hx]; rfl
theorem noText_empty : noText ⟨#[]⟩ = true := by decide +kernel
theorem newI_right {no kind : Int} {t : ByteArray} (h0 : 0 < no) (hk : kind = 1 ∨ kind = 2 ∨ (kind = 3 ∧ targetB t = true)) : rightI (newI no kind t) = true := by
  rcases hk with rfl | rfl | ⟨rfl, ht⟩
  · simp [rightI, newI, fileB, rightB, noText_empty, h0]
  · exact rightI_mk rfl h0 (by show (0 : Int) ≤ 2; decide) (by show (2 : Int) ≤ 100; decide) rfl (by show rightE [] = true; decide) noText_empty rfl
  · unfold targetB at ht
    simp only [Bool.and_eq_true, decide_eq_true_eq] at ht
    simp [rightI, newI, linkB, h0, ht.1.1, ht.1.2, ht.2]
theorem applyS_two (s : State) (d e : Deed) : applyS s [d, e] = applyD (applyD s d) e := rfl
theorem applyD_put (s : State) (x : Inode) : applyD s (putD x) = { s with inodes := putI s.inodes x } := rfl
theorem applyD_drop (s : State) (no : Int) : applyD s ⟨3, no, zeroI⟩ = { s with inodes := s.inodes.filter (neI no) } := rfl
theorem applyD_next (s : State) (no : Int) : applyD s ⟨1, no, zeroI⟩ = { s with next := no } := rfl
/-- Make. -/
theorem Snd.make {s : State} (S : Snd s) {d : Inode} {dn : Int} {name t : ByteArray} {kind : Int} (hd : findI s.inodes dn = some d) (hdk : d.kind = 2) (hk : kind = 1 ∨ kind = 2 ∨ (kind = 3 ∧ targetB t = true))
    (hl : s.inodes.length < 200) (hlk : kind = 2 → d.links < 100) (ha : addC d.entries ⟨name, s.next⟩ = 0) : Snd (applyS s [⟨1, s.next + 1, zeroI⟩, putD (makeD d name s.next kind), putD (newI s.next kind t)]) := by
  obtain ⟨hnb, hpos, hfn, hl100⟩ := addC_ok ha
  obtain ⟨hnn, hn0⟩ := S.no_next
  have hdo := S.ok.ok dn d hd
  have hdno : d.no = dn := hdo.1
  have hD : makeD d name s.next kind = { d with entries := insE d.entries ⟨name, s.next⟩, links := if kind = 2 then d.links + 1 else d.links } := by unfold makeD; rw [addL_ok ha]
  obtain ⟨D, hDe⟩ : ∃ D, makeD d name s.next kind = D := ⟨_, rfl⟩
  have hDn : D.no = dn := by rw [← hDe, hD]; exact hdno
  have hDE : D.entries = insE d.entries ⟨name, s.next⟩ := by rw [← hDe, hD]
  have hDK : D.kind = 2 := by rw [← hDe, hD]; exact hdk
  have hDL : D.links = if kind = 2 then d.links + 1 else d.links := by rw [← hDe, hD]
  obtain ⟨N, hNe⟩ : ∃ N, newI s.next kind t = N := ⟨_, rfl⟩
  have hNn : N.no = s.next := by rw [← hNe]; rfl
  have hNE : N.entries = [] := by rw [← hNe]; rfl
  have hNK : N.kind = kind := by rw [← hNe]; rfl
  have hNL : N.links = if kind = 2 then 2 else 1 := by rw [← hNe]; rfl
  rw [hDe, hNe]
  have e : applyS s [⟨1, s.next + 1, zeroI⟩, putD D, putD N] = ⟨s.next + 1, putI (putI s.inodes D) N, s.bads⟩ := rfl
  rw [e]
  have hdn : dn ≠ s.next := fun q => by rw [← q, hd] at hnn; cases hnn
  have F' : ∀ n, findI (putI (putI s.inodes D) N) n = if n = s.next then some N else if n = dn then some D else findI s.inodes n := fun n => by rw [find_put, find_put, hNn, hDn]
  have hfd : findI s.inodes D.no = some d := by rw [hDn]; exact hd
  have hfN : findI (putI s.inodes D) N.no = none := by rw [find_put, hNn, hDn, if_neg (fun q => hdn q.symm)]; exact hnn
  have L' : ∀ n, leadsL (putI (putI s.inodes D) N) n = leadsL s.inodes n + if s.next = n then 1 else 0 := fun n => by
    have h1 := leads_put_new hfN n
    have h2 := leads_put_old hfd n
    rw [hNE, cntE_nil] at h1
    rw [hDE, cntE_perm (insE_perm d.entries ⟨name, s.next⟩), cntE_cons] at h2
    show leadsL _ _ = leadsL s.inodes n + if s.next = n then 1 else 0
    have h3 : (if (⟨name, s.next⟩ : Entry).no = n then (1 : Int) else 0) = if s.next = n then 1 else 0 := rfl
    omega
  have hrise := putI_rise (x := N) (putI_rise (x := D) S.rise)
  refine ⟨hrise, ?_, ?_⟩
  · have h1 := putI_len (putI s.inodes D) N
    rw [put_len hfd] at h1
    show (putI (putI s.inodes D) N).length ≤ 200
    omega
  have hG : ∀ n, (findI s.inodes n).isSome = true → (findI (putI (putI s.inodes D) N) n).isSome = true ∧ kindF (findI (putI (putI s.inodes D) N)) n = kindF (findI s.inodes) n := fun n h => by
    have h1 : n ≠ s.next := fun q => by rw [q, hnn] at h; cases h
    by_cases h2 : n = dn
    · subst h2
      unfold kindF
      rw [F', if_neg h1, if_pos rfl, hd]
      exact ⟨rfl, by show D.kind = d.kind; rw [hDK, hdk]⟩
    · unfold kindF
      rw [F', if_neg h1, if_neg h2]
      exact ⟨h, rfl⟩
  show SndF (findI (putI (putI s.inodes D) N)) (leadsL (putI (putI s.inodes D) N)) (s.next + 1)
  have hNew : findI (putI (putI s.inodes D) N) s.next = some N := by rw [F', if_pos rfl]
  have hDir : findI (putI (putI s.inodes D) N) dn = some D := by rw [F', if_neg hdn, if_pos rfl]
  refine SndF.edit S.ok (fit_list hrise) (by omega) (fun n => n = s.next ∨ n = dn) (fun n hc => ?_) (fun n hc h => ?_) (fun n h _ => (hG n h).2) (fun n h h2 => ?_) (hG 1 S.root_some).1 (fun n x hc hx => ?_) (fun n hn => ?_)
  · rw [F', if_neg (fun q => hc (.inl q)), if_neg (fun q => hc (.inr q))]
  · rw [L', if_neg (fun q => hc (.inl q.symm))]; omega
  · rw [Option.isSome_iff_ne_none] at *
    exact absurd h2 (by have := (hG n (Option.isSome_iff_ne_none.2 h)).1; rw [Option.isSome_iff_ne_none] at this; exact this)
  · rcases hc with rfl | rfl
    · rw [hNew] at hx
      obtain rfl : N = x := by simpa using hx
      refine ⟨hNn, by omega, by rw [← hNe]; exact newI_right hpos hk, fun e he => (by rw [hNE] at he; cases he), fun hk2 => ?_, fun hk2 => ?_, fun hk2 h1 => ?_⟩
      · rw [L', if_pos rfl, hn0, hNL, if_neg (by rw [← hNK]; exact hk2)]; rfl
      · rw [hNL, if_pos (by rw [← hNK]; exact hk2), hNE, dirsF_nil]; rfl
      · rw [L', if_pos rfl, hn0]; rfl
    · rw [hDir] at hx
      obtain rfl : D = x := by simpa using hx
      obtain ⟨r1, r2, r3, r4, r5, r6, r7⟩ := rightI_dir hdo.2.2 hdk
      have hdr : dirsF (findI (putI (putI s.inodes D) N)) D.entries = dirsF (findI s.inodes) d.entries + if kind = 2 then 1 else 0 := by
        rw [hDE, dirsF_perm _ (insE_perm d.entries ⟨name, s.next⟩), dirsF_cons, dirsF_congr (F := findI s.inodes) fun e he => (hG e.no (S.ok.there n d hd e he).2).2]
        show _ + (if kindF (findI (putI (putI s.inodes D) N)) s.next = 2 then 1 else 0) = _
        rw [kindF_some hNew, hNK]
      have hdl := S.ok.dir n d hd hdk
      refine ⟨hDn, by omega, ?_, fun e he => ?_, fun q => absurd hDK q, fun _ => ?_, fun _ h1 => ?_⟩
      · refine rightI_mk hDK (by rw [hDn, ← hdno]; exact r1) ?_ ?_ (by rw [← hDe, hD]; exact r4) (by rw [hDE]; exact insE_right r5 hfn hnb hpos hl100) (by rw [← hDe, hD]; exact r6) (by rw [← hDe, hD]; exact r7)
        · rw [hDL]; split <;> omega
        · rw [hDL]; split
          · have := hlk (by assumption); omega
          · omega
      · rw [hDE] at he
        rcases List.mem_cons.1 ((insE_perm _ _).mem_iff.1 he) with rfl | he
        · exact ⟨by show s.next ≠ 1; have := S.root_lt; omega, by show (findI (putI (putI s.inodes D) N) s.next).isSome = true; rw [hNew]; rfl⟩
        · have := S.ok.there n d hd e he
          exact ⟨this.1, (hG e.no this.2).1⟩
      · rw [hDL, hdr]; split <;> omega
      · rw [L', if_neg (fun q => hdn q.symm), S.ok.one n d hd hdk h1]; rfl
  · have hmono : ∀ a k, KidF (findI s.inodes) a k → KidF (findI (putI (putI s.inodes D) N)) a k := fun a k h => by
      obtain ⟨y, hy, _⟩ := kidF_par h
      obtain ⟨e, he, he2, he3⟩ := (kidF_some hy).1 h
      have hk3 : kindF (findI (putI (putI s.inodes D) N)) k = 2 := by
        obtain ⟨z, hz, _⟩ := kindF_isSome he3
        rw [(hG k (by rw [hz]; rfl)).2]; exact he3
      have hya : a ≠ s.next := fun q => by rw [q, hnn] at hy; cases hy
      by_cases h2 : a = dn
      · subst h2
        rw [hd] at hy
        obtain rfl : d = y := by simpa using hy
        exact (kidF_some hDir).2 ⟨e, by rw [hDE]; exact (insE_perm _ _).mem_iff.2 (by simp [he]), he2, hk3⟩
      · exact (kidF_some (by rw [F', if_neg hya, if_neg h2]; exact hy)).2 ⟨e, he, he2, hk3⟩
    have hdr : ReachF (findI (putI (putI s.inodes D) N)) 1 dn := reach_mono hmono (S.ok.reach dn (by rw [kindF_some hd]; exact hdk))
    by_cases hn2 : n = s.next
    · subst hn2
      exact hdr.step ((kidF_some hDir).2 ⟨⟨name, s.next⟩, by rw [hDE]; exact (insE_perm _ _).mem_iff.2 (by simp), rfl, hn⟩)
    · obtain ⟨y, hy, hyk⟩ := kindF_isSome hn
      rw [F', if_neg hn2] at hy
      refine reach_mono hmono (S.ok.reach n ?_)
      by_cases h2 : n = dn
      · subst h2; rw [kindF_some hd]; exact hdk
      · rw [if_neg h2] at hy; rw [kindF_some hy]; exact hyk
/-- A directory that is put in the place of what it was. -/
theorem dir_ob {G : Int → Option Inode} {d D : Inode} (hr : rightI d = true) (hdk : d.kind = 2) (e0 : D.no = d.no) (e1 : D.kind = d.kind) (e2 : D.size = d.size) (e3 : D.target = d.target) (e4 : D.runs = d.runs) (hE : rightE D.entries = true) (h0 : 0 ≤ D.links) (h1 : D.links ≤ 100) : rightI D = true := by
  obtain ⟨r1, r2, r3, r4, r5, r6, r7⟩ := rightI_dir hr hdk
  exact rightI_mk (e1.trans hdk) (by rw [e0]; exact r1) h0 h1 (e2.trans r4) hE (by rw [e3]; exact r6) (by rw [e4]; exact r7)
/-- Hard. -/
theorem Snd.hard {s : State} (S : Snd s) {d x : Inode} {dn xn : Int} {name : ByteArray} (hd : findI s.inodes dn = some d) (hdk : d.kind = 2) (hx : findI s.inodes xn = some x) (hxk : x.kind ≠ 2) (hxl : x.links < 100)
    (ha : addC d.entries ⟨name, xn⟩ = 0) : Snd (applyS s [putD { d with entries := addL d.entries ⟨name, xn⟩ }, putD { x with links := x.links + 1 }]) := by
  obtain ⟨hnb, hpos, hfn, hl100⟩ := addC_ok ha
  rw [addL_ok ha]
  have hdo := S.ok.ok dn d hd
  have hxo := S.ok.ok xn x hx
  have hne : dn ≠ xn := fun q => by rw [q, hx] at hd; obtain rfl : x = d := by simpa using hd
                                    exact hxk hdk
  obtain ⟨D, hDe⟩ : ∃ D : Inode, { d with entries := insE d.entries ⟨name, xn⟩ } = D := ⟨_, rfl⟩
  have hDn : D.no = dn := by rw [← hDe]; exact hdo.1
  have hDE : D.entries = insE d.entries ⟨name, xn⟩ := by rw [← hDe]
  have hDK : D.kind = 2 := by rw [← hDe]; exact hdk
  have hDL : D.links = d.links := by rw [← hDe]
  have hDr : rightI D = true := by
    obtain ⟨r1, r2, r3, r4, r5, r6, r7⟩ := rightI_dir hdo.2.2 hdk
    exact dir_ob (G := findI s.inodes) hdo.2.2 hdk (by rw [← hDe]) (by rw [← hDe]) (by rw [← hDe]) (by rw [← hDe]) (by rw [← hDe]) (by rw [hDE]; exact insE_right r5 hfn hnb hpos hl100) (by rw [hDL]; exact r2) (by rw [hDL]; exact r3)
  obtain ⟨X, hXe⟩ : ∃ X : Inode, { x with links := x.links + 1 } = X := ⟨_, rfl⟩
  have hXn : X.no = xn := by rw [← hXe]; exact hxo.1
  have hXE : X.entries = x.entries := by rw [← hXe]
  have hXK : X.kind = x.kind := by rw [← hXe]
  have hXL : X.links = x.links + 1 := by rw [← hXe]
  have hXr : rightI X = true := by rw [← hXe]; have := rightI_pos hxo.2.2; exact rightI_links hxo.2.2 (by omega) (by omega)
  have hxe : x.entries = [] := rightI_bare hxo.2.2 hxk
  rw [hDe, hXe]
  rw [show applyS s [putD D, putD X] = ⟨s.next, putI (putI s.inodes D) X, s.bads⟩ from rfl]
  have hfd : findI s.inodes D.no = some d := by rw [hDn]; exact hd
  have hfX : findI (putI s.inodes D) X.no = some x := by rw [find_put, hXn, hDn, if_neg (fun q => hne q.symm)]; exact hx
  have F' : ∀ n, findI (putI (putI s.inodes D) X) n = if n = xn then some X else if n = dn then some D else findI s.inodes n := fun n => by rw [find_put, find_put, hXn, hDn]
  have hrise := putI_rise (x := X) (putI_rise (x := D) S.rise)
  have hlen : (putI (putI s.inodes D) X).length = s.inodes.length := by rw [put_len hfX, put_len hfd]
  have L' : ∀ n, leadsL (putI (putI s.inodes D) X) n = leadsL s.inodes n + if xn = n then 1 else 0 := fun n => by
    have h1 := leads_put_old hfX n
    have h2 := leads_put_old hfd n
    rw [hXE] at h1
    rw [hDE, cntE_perm (insE_perm d.entries ⟨name, xn⟩), cntE_cons] at h2
    have h3 : (if (⟨name, xn⟩ : Entry).no = n then (1 : Int) else 0) = if xn = n then 1 else 0 := rfl
    omega
  generalize putI (putI s.inodes D) X = ys at F' L' hrise hlen ⊢
  have hXs : findI ys xn = some X := by rw [F', if_pos rfl]
  have hDs : findI ys dn = some D := by rw [F', if_neg hne, if_pos rfl]
  have hG : ∀ n, (findI s.inodes n).isSome = true → (findI ys n).isSome = true ∧ kindF (findI ys) n = kindF (findI s.inodes) n := fun n h => by
    by_cases h1 : n = xn
    · subst h1; unfold kindF; rw [hXs, hx]; exact ⟨rfl, hXK⟩
    · by_cases h2 : n = dn
      · subst h2; unfold kindF; rw [hDs, hd]; exact ⟨rfl, hDK.trans hdk.symm⟩
      · unfold kindF; rw [F', if_neg h1, if_neg h2]; exact ⟨h, rfl⟩
  refine ⟨hrise, by show ys.length ≤ 200; rw [hlen]; exact S.len, ?_⟩
  show SndF (findI ys) (leadsL ys) s.next
  refine SndF.edit S.ok (fit_list hrise) (Int.le_refl _) (fun n => n = xn ∨ n = dn) (fun n hc => ?_) (fun n hc h => ?_) (fun n h _ => (hG n h).2) (fun n h h2 => ?_) (hG 1 S.root_some).1 (fun n z hc hz => ?_) (fun n hn => ?_)
  · rw [F', if_neg (fun q => hc (.inl q)), if_neg (fun q => hc (.inr q))]
  · rw [L', if_neg (fun q => hc (.inl q.symm))]; omega
  · have := (hG n h).1; rw [h2] at this; cases this
  · rcases hc with rfl | rfl
    · rw [hXs] at hz
      obtain rfl : X = z := by simpa using hz
      refine ⟨hXn, hxo.2.1, hXr, fun e he => by rw [hXE, hxe] at he; simp at he, fun _ => ?_, fun q => absurd (hXK.symm.trans q) hxk, fun q => absurd (hXK.symm.trans q) hxk⟩
      rw [hXL, L', if_pos rfl, S.ok.lnk n x hx hxk]
    · rw [hDs] at hz
      obtain rfl : D = z := by simpa using hz
      have hxk2 : kindF (findI ys) xn ≠ 2 := by rw [kindF_some hXs, hXK]; exact hxk
      have hdr : dirsF (findI ys) D.entries = dirsF (findI s.inodes) d.entries := by
        rw [hDE, dirsF_perm _ (insE_perm d.entries ⟨name, xn⟩), dirsF_cons, dirsF_congr (F := findI s.inodes) fun e he => (hG e.no (S.ok.there n d hd e he).2).2]
        show _ + (if kindF (findI ys) xn = 2 then 1 else 0) = _
        rw [if_neg hxk2]; omega
      refine ⟨hDn, hdo.2.1, hDr, fun e he => ?_, fun q => absurd hDK q, fun _ => ?_, fun _ h1 => ?_⟩
      · rw [hDE] at he
        rcases List.mem_cons.1 ((insE_perm _ _).mem_iff.1 he) with rfl | he
        · refine ⟨fun (q : xn = 1) => ?_, by show (findI ys xn).isSome = true; rw [hXs]; rfl⟩
          rw [q] at hx
          exact hxk (by rw [← kindF_some hx]; exact S.ok.root)
        · have := S.ok.there n d hd e he
          exact ⟨this.1, (hG e.no this.2).1⟩
      · rw [hDL, hdr]; exact S.ok.dir n d hd hdk
      · rw [L', if_neg (fun q => hne q.symm), S.ok.one n d hd hdk h1]; rfl
  · have hmono : ∀ a k, KidF (findI s.inodes) a k → KidF (findI ys) a k := fun a k h => by
      obtain ⟨y, hy, hye⟩ := kidF_par h
      obtain ⟨e, he, he2, he3⟩ := (kidF_some hy).1 h
      have hk3 : kindF (findI ys) k = 2 := by
        obtain ⟨z, hz, _⟩ := kindF_isSome he3
        rw [(hG k (by rw [hz]; rfl)).2]; exact he3
      have h1 : a ≠ xn := fun q => by rw [q, hx] at hy; obtain rfl : x = y := by simpa using hy
                                      exact hye hxe
      by_cases h2 : a = dn
      · subst h2
        rw [hd] at hy
        obtain rfl : d = y := by simpa using hy
        exact (kidF_some hDs).2 ⟨e, by rw [hDE]; exact (insE_perm _ _).mem_iff.2 (by simp [he]), he2, hk3⟩
      · exact (kidF_some (by rw [F', if_neg h1, if_neg h2]; exact hy)).2 ⟨e, he, he2, hk3⟩
    refine reach_mono hmono (S.ok.reach n ?_)
    obtain ⟨y, hy, hyk⟩ := kindF_isSome hn
    rw [F'] at hy
    by_cases h1 : n = xn
    · rw [if_pos h1] at hy; obtain rfl : X = y := by simpa using hy
      exact absurd (hXK.symm.trans hyk) hxk
    · rw [if_neg h1] at hy
      by_cases h2 : n = dn
      · rw [h2, kindF_some hd]; exact hdk
      · rw [if_neg h2] at hy; rw [kindF_some hy]; exact hyk
/-- What removing an entry leaves. -/
theorem Snd.rem {s : State} (S : Snd s) {d x D : Inode} {dn xn : Int} {name : ByteArray} (hd : findI s.inodes dn = some d) (hdk : d.kind = 2) (hf : findE d.entries name = some xn) (hx : findI s.inodes xn = some x) (hxe : x.entries = [])
    (e0 : D.no = d.no) (e1 : D.kind = d.kind) (e2 : D.size = d.size) (e3 : D.target = d.target) (e4 : D.runs = d.runs) (hDE : D.entries = remE d.entries name) (hDL : D.links = d.links - if x.kind = 2 then 1 else 0)
    {ys : List Inode} (hrise : riseI ys) (hlen : ys.length ≤ 200) {o : Option Inode} (F' : ∀ n, findI ys n = if n = xn then o else if n = dn then some D else findI s.inodes n) (L' : ∀ n, leadsL ys n = leadsL s.inodes n - if xn = n then 1 else 0)
    (ho : (o = none ∧ leadsL s.inodes xn = 1) ∨ ∃ X : Inode, o = some X ∧ X.no = xn ∧ X.kind = x.kind ∧ x.kind ≠ 2 ∧ X.entries = [] ∧ rightI X = true ∧ X.links = leadsL s.inodes xn - 1) : Snd ⟨s.next, ys, s.bads⟩ := by
  obtain ⟨en, hen, henn, heno, hperm⟩ := rem_perm hf
  have hdo := S.ok.ok dn d hd
  have hxo := S.ok.ok xn x hx
  have hne : dn ≠ xn := fun q => by
    rw [q, hx] at hd; obtain rfl : x = d := by simpa using hd
    rw [hxe] at hen; simp at hen
  obtain ⟨r1, r2, r3, r4, r5, r6, r7⟩ := rightI_dir hdo.2.2 hdk
  have hDs : findI ys dn = some D := by rw [F', if_neg hne, if_pos rfl]
  have hXs : findI ys xn = o := by rw [F', if_pos rfl]
  have hfit := fit_list hrise
  have hDK : D.kind = 2 := e1.trans hdk
  have hsub : ∀ e ∈ D.entries, e ∈ d.entries := fun e he => hperm.mem_iff.2 (by rw [hDE] at he; simp [he])
  -- what is found still
  have hG : ∀ n, (findI s.inodes n).isSome = true → n ≠ xn → (findI ys n).isSome = true ∧ kindF (findI ys) n = kindF (findI s.inodes) n := fun n h h1 => by
    by_cases h2 : n = dn
    · subst h2; unfold kindF; rw [hDs, hd]; exact ⟨rfl, hDK.trans hdk.symm⟩
    · unfold kindF; rw [F', if_neg h1, if_neg h2]; exact ⟨h, rfl⟩
  have hX : ∀ X, o = some X → (findI ys xn).isSome = true ∧ kindF (findI ys) xn = kindF (findI s.inodes) xn ∧ x.kind ≠ 2 := fun X hX => by
    rcases ho with ⟨h1, _⟩ | ⟨Z, h1, _, h3, h4, _⟩
    · rw [h1] at hX; cases hX
    · refine ⟨by rw [hXs, h1]; rfl, ?_, h4⟩
      unfold kindF; rw [hXs, h1, hx]; exact h3
  have hall : ∀ n, (findI s.inodes n).isSome = true → (findI ys n).isSome = true → kindF (findI ys) n = kindF (findI s.inodes) n := fun n h h2 => by
    by_cases h1 : n = xn
    · subst h1
      cases ho2 : o with
      | none => rw [hXs, ho2] at h2; cases h2
      | some X => exact (hX X ho2).2.1
    · exact (hG n h h1).2
  have hgone : o = none → leadsL ys xn = 0 := fun h => by
    rcases ho with ⟨_, h2⟩ | ⟨Z, h1, _⟩
    · rw [L', if_pos rfl, h2]; rfl
    · rw [h] at h1; cases h1
  have hent : ∀ e ∈ D.entries, (findI ys e.no).isSome = true ∧ kindF (findI ys) e.no = kindF (findI s.inodes) e.no := fun e he => by
    have h1 := (S.ok.there dn d hd e (hsub e he)).2
    have h2 : (findI ys e.no).isSome = true := by
      by_cases h3 : e.no = xn
      · cases ho2 : o with
        | none =>
          have h4 := hgone ho2
          have h5 := hfit.one e.no dn D hDs
          have h6 := cntE_pos he
          rw [h3] at h5 h6; omega
        | some X => rw [h3]; exact (hX X ho2).1
      · exact (hG e.no h1 h3).1
    exact ⟨h2, hall e.no h1 h2⟩
  have hdr : dirsF (findI ys) D.entries = dirsF (findI s.inodes) d.entries - if x.kind = 2 then 1 else 0 := by
    rw [dirsF_congr (F := findI s.inodes) fun e he => (hent e he).2, dirsF_perm _ hperm, dirsF_cons, hDE, heno, kindF_some hx]
    omega
  have hdl := S.ok.dir dn d hd hdk
  have hdn0 := dirsF_nonneg (findI ys) D.entries
  refine ⟨hrise, hlen, ?_⟩
  show SndF (findI ys) (leadsL ys) s.next
  refine SndF.edit S.ok hfit (Int.le_refl _) (fun n => n = xn ∨ n = dn) (fun n hc => ?_) (fun n hc h => ?_) hall (fun n h h2 => ?_) ?_ (fun n z hc hz => ?_) (fun n hn => ?_)
  · rw [F', if_neg (fun q => hc (.inl q)), if_neg (fun q => hc (.inr q))]
  · rw [L', if_neg (fun q => hc (.inl q.symm))]; omega
  · by_cases h1 : n = xn
    · subst h1; exact hgone (by rw [← hXs]; exact h2)
    · have := (hG n h h1).1; rw [h2] at this; cases this
  · refine (hG 1 S.root_some fun q => ?_).1
    exact (S.ok.there dn d hd en hen).1 (by rw [heno]; exact q.symm)
  · rcases hc with rfl | rfl
    · rcases ho with ⟨h1, _⟩ | ⟨X, h1, h2, h3, h4, h5, h6, h7⟩
      · rw [hXs, h1] at hz; cases hz
      · rw [hXs, h1] at hz
        obtain rfl : X = z := by simpa using hz
        refine ⟨h2, hxo.2.1, h6, fun e he => by rw [h5] at he; simp at he, fun _ => ?_, fun q => absurd (h3.symm.trans q) h4, fun q => absurd (h3.symm.trans q) h4⟩
        rw [h7, L', if_pos rfl]
    · rw [hDs] at hz
      obtain rfl : D = z := by simpa using hz
      have h1 : D.links = 2 + dirsF (findI ys) D.entries := by rw [hDL, hdr]; omega
      refine ⟨e0.trans hdo.1, hdo.2.1, dir_ob (G := findI ys) hdo.2.2 hdk e0 e1 e2 e3 e4 ?_ (by omega) (by rw [hDL]; split <;> omega), fun e he => ⟨(S.ok.there n d hd e (hsub e he)).1, (hent e he).1⟩, fun q => absurd hDK q, fun _ => h1, fun _ h2 => ?_⟩
      · rw [hDE]; exact (remE_right r5 (by rw [hf]; rfl)).1
      · rw [L', if_neg (fun q => hne q.symm), S.ok.one n d hd hdk h2]; rfl
  · obtain ⟨y, hy, hyk⟩ := kindF_isSome hn
    have hnx : n ≠ xn := fun q => by
      subst q
      rcases ho with ⟨h1, _⟩ | ⟨X, h1, h2, h3, h4, _⟩
      · rw [hXs, h1] at hy; cases hy
      · rw [hXs, h1] at hy; obtain rfl : X = y := by simpa using hy
        exact h4 (h3.symm.trans hyk)
    refine reach_drop (F := findI s.inodes) (Y := fun m => m = xn) (fun a k h hk => ?_) (fun a k ha h => ?_) (S.ok.reach n ?_) hnx
    · obtain ⟨z, hz, hze⟩ := kidF_par h
      obtain ⟨e, he, he2, he3⟩ := (kidF_some hz).1 h
      have hk3 : kindF (findI ys) k = 2 := by
        obtain ⟨u, hu, _⟩ := kindF_isSome he3
        rw [(hG k (by rw [hu]; rfl) hk).2]; exact he3
      have h1 : a ≠ xn := fun q => by rw [q, hx] at hz; obtain rfl : x = z := by simpa using hz
                                      exact hze hxe
      by_cases h2 : a = dn
      · subst h2
        rw [hd] at hz
        obtain rfl : d = z := by simpa using hz
        refine (kidF_some hDs).2 ⟨e, ?_, he2, hk3⟩
        rw [hDE]
        rcases List.mem_cons.1 (hperm.mem_iff.1 he) with q | q
        · exact absurd (by rw [← he2, q, heno]) hk
        · exact q
      · exact (kidF_some (by rw [F', if_neg h1, if_neg h2]; exact hz)).2 ⟨e, he, he2, hk3⟩
    · obtain ⟨z, hz, hze⟩ := kidF_par h
      rw [ha, hx] at hz; obtain rfl : x = z := by simpa using hz
      exact hze hxe
    · rw [F', if_neg hnx] at hy
      by_cases h2 : n = dn
      · rw [h2, kindF_some hd]; exact hdk
      · rw [if_neg h2] at hy; rw [kindF_some hy]; exact hyk
/-- The numbers behind a removed entry: how the lists go. -/
theorem rem_leads {s : State} (S : Snd s) {d x D : Inode} {dn xn : Int} {name : ByteArray} (hd : findI s.inodes dn = some d) (hf : findE d.entries name = some xn) (hDn : D.no = dn) (hDE : D.entries = remE d.entries name) (n : Int) : leadsL (putI s.inodes D) n = leadsL s.inodes n - if xn = n then 1 else 0 := by
  obtain ⟨en, hen, henn, heno, hperm⟩ := rem_perm hf
  have h2 := leads_put_old (x := D) (x0 := d) (xs := s.inodes) (by rw [hDn]; exact hd) n
  rw [hDE, cntE_perm hperm, cntE_cons, heno] at h2
  omega
/-- Unlink. -/
theorem Snd.unlink {s : State} (S : Snd s) {d x : Inode} {dn xn : Int} {name : ByteArray} (hd : findI s.inodes dn = some d) (hdk : d.kind = 2) (hf : findE d.entries name = some xn) (hx : findI s.inodes xn = some x) (hxk : x.kind ≠ 2) (os : List Int) : Snd (applyS s [putD (withoutP d name), letGoP x os]) := by
  rw [without_of hf]
  have hdo := S.ok.ok dn d hd
  have hxo := S.ok.ok xn x hx
  have hxe := rightI_bare hxo.2.2 hxk
  obtain ⟨en, hen, henn, heno, hperm⟩ := rem_perm hf
  have hne : dn ≠ xn := fun q => by
    rw [q, hx] at hd; obtain rfl : x = d := by simpa using hd
    rw [hxe] at hen; simp at hen
  have hL1 : 1 ≤ leadsL s.inodes xn := by
    have h1 := S.fit.one xn dn d hd
    have h2 := cntE_pos hen
    rw [heno] at h2; omega
  have hxl := S.ok.lnk xn x hx hxk
  obtain ⟨D, hDe⟩ : ∃ D : Inode, { d with entries := remE d.entries name } = D := ⟨_, rfl⟩
  have hDn : D.no = dn := by rw [← hDe]; exact hdo.1
  have hDE : D.entries = remE d.entries name := by rw [← hDe]
  have hfd : findI s.inodes D.no = some d := by rw [hDn]; exact hd
  have hl1 : (putI s.inodes D).length ≤ 200 := by rw [put_len hfd]; exact S.len
  have hr1 := putI_rise (x := D) S.rise
  have L1 := rem_leads S (x := x) hd hf hDn hDE
  have F1 : ∀ n, findI (putI s.inodes D) n = if n = dn then some D else findI s.inodes n := fun n => by rw [find_put, hDn]
  have hfx : findI (putI s.inodes D) xn = some x := by rw [F1, if_neg (fun q => hne q.symm)]; exact hx
  have hDL : D.links = d.links - if x.kind = 2 then 1 else 0 := by rw [← hDe, if_neg hxk]; show d.links = d.links - 0; omega
  rw [hDe]
  unfold letGoP
  by_cases hc : x.links ≤ 1 ∧ os.any (eqZ x.no) = false
  · rw [if_pos hc, hxo.1]
    rw [show applyS s [putD D, ⟨3, xn, zeroI⟩] = ⟨s.next, (putI s.inodes D).filter (neI xn), s.bads⟩ from rfl]
    refine S.rem (D := D) (o := none) hd hdk hf hx hxe (by rw [← hDe]) (by rw [← hDe]) (by rw [← hDe]) (by rw [← hDe]) (by rw [← hDe]) hDE hDL (drop_rise hr1 xn) (Nat.le_trans (List.length_filter_le _ _) hl1) (fun n => by rw [find_drop, F1]) (fun n => ?_) (.inl ⟨rfl, by have := hc.1; omega⟩)
    have := leads_drop hr1 hfx n
    rw [hxe, cntE_nil] at this
    have := L1 n
    omega
  · rw [if_neg hc]
    obtain ⟨X, hXe⟩ : ∃ X : Inode, { x with links := max (x.links - 1) 0 } = X := ⟨_, rfl⟩
    have hXn : X.no = xn := by rw [← hXe]; exact hxo.1
    have hXE : X.entries = [] := by rw [← hXe]; exact hxe
    have hXL : X.links = leadsL s.inodes xn - 1 := by rw [← hXe]; show max (x.links - 1) 0 = _; omega
    have hpos := rightI_pos hxo.2.2
    rw [show applyS s [putD D, ⟨2, 0, { x with links := max (x.links - 1) 0 }⟩] = ⟨s.next, putI (putI s.inodes D) X, s.bads⟩ from by rw [← hXe]; rfl]
    have hfX : findI (putI s.inodes D) X.no = some x := by rw [hXn]; exact hfx
    refine S.rem (D := D) (o := some X) hd hdk hf hx hxe (by rw [← hDe]) (by rw [← hDe]) (by rw [← hDe]) (by rw [← hDe]) (by rw [← hDe]) hDE hDL (putI_rise hr1) (by rw [put_len hfX]; exact hl1) (fun n => by rw [find_put, F1, hXn]) (fun n => ?_) (.inr ⟨X, rfl, hXn, by rw [← hXe], hxk, hXE, ?_, hXL⟩)
    · have := leads_put_old hfX n
      rw [hXE, hxe, cntE_nil] at this
      have := L1 n
      omega
    · rw [← hXe]; exact rightI_links hxo.2.2 (by omega) (by omega)
/-- Rmdir. -/
theorem Snd.rmdir {s : State} (S : Snd s) {d x : Inode} {dn xn : Int} {name : ByteArray} (hd : findI s.inodes dn = some d) (hdk : d.kind = 2) (hf : findE d.entries name = some xn) (hx : findI s.inodes xn = some x) (hxk : x.kind = 2) (hxe : x.entries = []) :
    Snd (applyS s [putD { withoutP d name with links := (withoutP d name).links - 1 }, ⟨3, x.no, zeroI⟩]) := by
  rw [without_of hf]
  have hdo := S.ok.ok dn d hd
  have hxo := S.ok.ok xn x hx
  obtain ⟨en, hen, henn, heno, hperm⟩ := rem_perm hf
  have hne : dn ≠ xn := fun q => by
    rw [q, hx] at hd; obtain rfl : x = d := by simpa using hd
    rw [hxe] at hen; simp at hen
  have hx1 : xn ≠ 1 := by rw [← heno]; exact (S.ok.there dn d hd en hen).1
  obtain ⟨D, hDe⟩ : ∃ D : Inode, { d with entries := remE d.entries name, links := d.links - 1 } = D := ⟨_, rfl⟩
  have hDn : D.no = dn := by rw [← hDe]; exact hdo.1
  have hDE : D.entries = remE d.entries name := by rw [← hDe]
  have hfd : findI s.inodes D.no = some d := by rw [hDn]; exact hd
  have hl1 : (putI s.inodes D).length ≤ 200 := by rw [put_len hfd]; exact S.len
  have hr1 := putI_rise (x := D) S.rise
  have L1 := rem_leads S (x := x) hd hf hDn hDE
  have F1 : ∀ n, findI (putI s.inodes D) n = if n = dn then some D else findI s.inodes n := fun n => by rw [find_put, hDn]
  have hfx : findI (putI s.inodes D) xn = some x := by rw [F1, if_neg (fun q => hne q.symm)]; exact hx
  rw [hxo.1]
  rw [show applyS s [putD { ({ d with entries := remE d.entries name } : Inode) with links := ({ d with entries := remE d.entries name } : Inode).links - 1 }, ⟨3, xn, zeroI⟩] = ⟨s.next, (putI s.inodes D).filter (neI xn), s.bads⟩ from by rw [← hDe]; rfl]
  refine S.rem (D := D) (o := none) hd hdk hf hx hxe (by rw [← hDe]) (by rw [← hDe]) (by rw [← hDe]) (by rw [← hDe]) (by rw [← hDe]) hDE (by rw [← hDe, if_pos hxk]) (drop_rise hr1 xn) (Nat.le_trans (List.length_filter_le _ _) hl1) (fun n => by rw [find_drop, F1]) (fun n => ?_) (.inl ⟨rfl, S.ok.one xn x hx hxk hx1⟩)
  have := leads_drop hr1 hfx n
  rw [hxe, cntE_nil] at this
  have := L1 n
  omega
end Go.Proofs.Ytkglaofiencfdaa

namespace Go.Proofs.Ytkglaofiencfdaa
open Go.RowKit Go.Sort
set_option linter.unusedVariables false
/-! ### sound states stay sound: Rename -/
theorem rise_ext : ∀ {xs ys : List Inode}, riseI xs → riseI ys → (∀ n, findI xs n = findI ys n) → xs = ys
  | [], [], _, _, _ => rfl
  | [], y :: ys, _, hy, h => by have := h y.no; rw [findI_of_mem hy (by simp)] at this; cases this
  | x :: xs, [], hx, _, h => by have := h x.no; rw [findI_of_mem hx (by simp)] at this; cases this
  | x :: xs, y :: ys, hx, hy, h => by
    have h1 := h x.no
    have h2 := h y.no
    rw [findI_of_mem hx (by simp)] at h1
    rw [findI_of_mem hy (by simp)] at h2
    have lx : ∀ z ∈ xs, x.no < z.no := fun z hz => (List.pairwise_cons.1 hx).1 z.no (List.mem_map.2 ⟨z, hz, rfl⟩)
    have ly : ∀ z ∈ ys, y.no < z.no := fun z hz => (List.pairwise_cons.1 hy).1 z.no (List.mem_map.2 ⟨z, hz, rfl⟩)
    have e : x = y := by
      rcases List.mem_cons.1 (mem_of_findI h1.symm) with q | q
      · exact q
      · rcases List.mem_cons.1 (mem_of_findI h2) with q2 | q2
        · exact q2.symm
        · have := lx y q2; have := ly x q; omega
    subst e
    have ht : xs = ys := rise_ext (List.pairwise_cons.1 hx).2 (List.pairwise_cons.1 hy).2 fun n => by
      have h3 := h n
      unfold findI at h3 ⊢
      by_cases hn : x.no = n
      · have e1 : xs.find? (isI n) = none := by
          rw [List.find?_eq_none]; intro z hz q; have := lx z hz; have := isI_iff.1 q; omega
        have e2 : ys.find? (isI n) = none := by
          rw [List.find?_eq_none]; intro z hz q; have := ly z hz; have := isI_iff.1 q; omega
        rw [e1, e2]
      · rw [List.find?_cons_of_neg (fun q => hn (isI_iff.1 q)), List.find?_cons_of_neg (fun q => hn (isI_iff.1 q))] at h3
        exact h3
    rw [ht]
/-- An entry that leads on, taken away. -/
theorem Snd.entry {s : State} (S : Snd s) {d : Inode} {dn xn : Int} {name : ByteArray} (hd : findI s.inodes dn = some d) (hf : findE d.entries name = some xn) : xn ≠ 1 ∧ ∃ x, findI s.inodes xn = some x := by
  obtain ⟨en, hen, _, heno, _⟩ := rem_perm hf
  have := S.ok.there dn d hd en hen
  rw [heno] at this
  exact ⟨this.1, Option.isSome_iff_exists.1 this.2⟩
/-- Within one directory. -/
theorem Snd.move_same {s : State} (S : Snd s) {d : Inode} {dn xn : Int} {was name : ByteArray} (hd : findI s.inodes dn = some d) (hdk : d.kind = 2) (hf : findE d.entries was = some xn) (ha : addC (remE d.entries was) ⟨name, xn⟩ = 0) {D : Inode}
    (e0 : D.no = d.no) (e1 : D.kind = d.kind) (e2 : D.size = d.size) (e3 : D.target = d.target) (e4 : D.runs = d.runs) (hDE : D.entries = insE (remE d.entries was) ⟨name, xn⟩) (hDL : D.links = d.links) : Snd ⟨s.next, putI s.inodes D, s.bads⟩ := by
  obtain ⟨hnb, hpos, hfn, hl100⟩ := addC_ok ha
  obtain ⟨en, hen, henn, heno, hperm⟩ := rem_perm hf
  have hdo := S.ok.ok dn d hd
  obtain ⟨r1, r2, r3, r4, r5, r6, r7⟩ := rightI_dir hdo.2.2 hdk
  have hDn : D.no = dn := e0.trans hdo.1
  have hDK : D.kind = 2 := e1.trans hdk
  have hfd : findI s.inodes D.no = some d := by rw [hDn]; exact hd
  have hrise := putI_rise (x := D) S.rise
  have F' : ∀ n, findI (putI s.inodes D) n = if n = dn then some D else findI s.inodes n := fun n => by rw [find_put, hDn]
  have hE : ∀ n, cntE D.entries n = cntE d.entries n := fun n => by
    rw [hDE, cntE_perm (insE_perm _ _), cntE_perm hperm, cntE_cons, cntE_cons, heno]
  have hmem : ∀ e ∈ D.entries, ∃ f ∈ d.entries, f.no = e.no := fun e he => by
    rw [hDE] at he
    rcases List.mem_cons.1 ((insE_perm _ _).mem_iff.1 he) with rfl | he
    · exact ⟨en, hen, heno⟩
    · exact ⟨e, hperm.mem_iff.2 (by simp [he]), rfl⟩
  have L' : ∀ n, leadsL (putI s.inodes D) n = leadsL s.inodes n := fun n => by
    have := leads_put_old hfd n
    have := hE n
    omega
  have hlen : (putI s.inodes D).length ≤ 200 := by rw [put_len hfd]; exact S.len
  generalize putI s.inodes D = ys at F' L' hrise hlen ⊢
  have hDs : findI ys dn = some D := by rw [F', if_pos rfl]
  have hG : ∀ n, (findI s.inodes n).isSome = true → (findI ys n).isSome = true ∧ kindF (findI ys) n = kindF (findI s.inodes) n := fun n h => by
    by_cases h2 : n = dn
    · subst h2; unfold kindF; rw [hDs, hd]; exact ⟨rfl, hDK.trans hdk.symm⟩
    · unfold kindF; rw [F', if_neg h2]; exact ⟨h, rfl⟩
  have hdr : dirsF (findI ys) D.entries = dirsF (findI s.inodes) d.entries := by
    have h1 : dirsF (findI ys) D.entries = dirsF (findI s.inodes) D.entries := dirsF_congr fun e he => by
      obtain ⟨f, hf2, hf3⟩ := hmem e he
      rw [← hf3]; exact (hG f.no (S.ok.there dn d hd f hf2).2).2
    rw [h1, hDE, dirsF_perm _ (insE_perm _ _), dirsF_perm _ hperm, dirsF_cons, dirsF_cons, heno]
  refine ⟨hrise, hlen, ?_⟩
  show SndF (findI ys) (leadsL ys) s.next
  refine SndF.edit S.ok (fit_list hrise) (Int.le_refl _) (fun n => n = dn) (fun n hc => by rw [F', if_neg hc]) (fun n _ _ => L' n) (fun n h _ => (hG n h).2) (fun n h h2 => ?_) (hG 1 S.root_some).1 (fun n z hc hz => ?_) (fun n hn => ?_)
  · have := (hG n h).1; rw [h2] at this; cases this
  · subst hc
    rw [hDs] at hz
    obtain rfl : D = z := by simpa using hz
    refine ⟨hDn, hdo.2.1, dir_ob (G := findI ys) hdo.2.2 hdk e0 e1 e2 e3 e4 ?_ (by rw [hDL]; exact r2) (by rw [hDL]; exact r3), fun e he => ?_, fun q => absurd hDK q, fun _ => ?_, fun _ h1 => ?_⟩
    · rw [hDE]; exact insE_right (remE_right r5 (by rw [hf]; rfl)).1 hfn hnb hpos hl100
    · obtain ⟨f, hf2, hf3⟩ := hmem e he
      have := S.ok.there n d hd f hf2
      rw [hf3] at this
      exact ⟨this.1, (hG e.no this.2).1⟩
    · rw [hDL, hdr]; exact S.ok.dir n d hd hdk
    · rw [L']; exact S.ok.one n d hd hdk h1
  · have hmono : ∀ a k, KidF (findI s.inodes) a k → KidF (findI ys) a k := fun a k h => by
      obtain ⟨y, hy, hye⟩ := kidF_par h
      obtain ⟨e, he, he2, he3⟩ := (kidF_some hy).1 h
      have hk3 : kindF (findI ys) k = 2 := by
        obtain ⟨z, hz, _⟩ := kindF_isSome he3
        rw [(hG k (by rw [hz]; rfl)).2]; exact he3
      by_cases h2 : a = dn
      · subst h2
        rw [hd] at hy
        obtain rfl : d = y := by simpa using hy
        rcases List.mem_cons.1 (hperm.mem_iff.1 he) with q | q
        · exact (kidF_some hDs).2 ⟨⟨name, xn⟩, by rw [hDE]; exact (insE_perm _ _).mem_iff.2 (by simp), by rw [← he2, q, heno], hk3⟩
        · exact (kidF_some hDs).2 ⟨e, by rw [hDE]; exact (insE_perm _ _).mem_iff.2 (by simp [q]), he2, hk3⟩
      · exact (kidF_some (by rw [F', if_neg h2]; exact hy)).2 ⟨e, he, he2, hk3⟩
    refine reach_mono hmono (S.ok.reach n ?_)
    obtain ⟨y, hy, hyk⟩ := kindF_isSome hn
    rw [F'] at hy
    by_cases h2 : n = dn
    · rw [h2, kindF_some hd]; exact hdk
    · rw [if_neg h2] at hy; rw [kindF_some hy]; exact hyk
/-- From one directory to another one. -/
theorem Snd.move_far {s : State} (S : Snd s) {a b x : Inode} {an bn xn : Int} {was name : ByteArray} (hne : an ≠ bn) (hda : findI s.inodes an = some a) (hak : a.kind = 2) (hdb : findI s.inodes bn = some b) (hbk : b.kind = 2) (hf : findE a.entries was = some xn) (hx : findI s.inodes xn = some x)
    (ha : addC b.entries ⟨name, xn⟩ = 0) (hin : x.kind = 2 → ¬ ReachF (findI s.inodes) xn bn) (hbl : x.kind = 2 → b.links < 100) {A B : Inode}
    (e0 : A.no = a.no) (e1 : A.kind = a.kind) (e2 : A.size = a.size) (e3 : A.target = a.target) (e4 : A.runs = a.runs) (hAE : A.entries = remE a.entries was) (hAL : A.links = a.links - if x.kind = 2 then 1 else 0)
    (g0 : B.no = b.no) (g1 : B.kind = b.kind) (g2 : B.size = b.size) (g3 : B.target = b.target) (g4 : B.runs = b.runs) (hBE : B.entries = insE b.entries ⟨name, xn⟩) (hBL : B.links = b.links + if x.kind = 2 then 1 else 0) : Snd ⟨s.next, putI (putI s.inodes A) B, s.bads⟩ := by
  obtain ⟨hnb, hpos, hfn, hl100⟩ := addC_ok ha
  obtain ⟨en, hen, henn, heno, hperm⟩ := rem_perm hf
  have hao := S.ok.ok an a hda
  have hbo := S.ok.ok bn b hdb
  obtain ⟨r1, r2, r3, r4, r5, r6, r7⟩ := rightI_dir hao.2.2 hak
  obtain ⟨t1, t2, t3, t4, t5, t6, t7⟩ := rightI_dir hbo.2.2 hbk
  have hAn : A.no = an := e0.trans hao.1
  have hAK : A.kind = 2 := e1.trans hak
  have hBn : B.no = bn := g0.trans hbo.1
  have hBK : B.kind = 2 := g1.trans hbk
  have hfa : findI s.inodes A.no = some a := by rw [hAn]; exact hda
  have hfb : findI (putI s.inodes A) B.no = some b := by rw [find_put, hAn, hBn, if_neg (fun q => hne q.symm)]; exact hdb
  have hrise := putI_rise (x := B) (putI_rise (x := A) S.rise)
  have F' : ∀ n, findI (putI (putI s.inodes A) B) n = if n = bn then some B else if n = an then some A else findI s.inodes n := fun n => by rw [find_put, find_put, hAn, hBn]
  have L' : ∀ n, leadsL (putI (putI s.inodes A) B) n = leadsL s.inodes n := fun n => by
    have h1 := leads_put_old hfb n
    have h2 := leads_put_old hfa n
    rw [hBE, cntE_perm (insE_perm _ _), cntE_cons] at h1
    rw [hAE, cntE_perm hperm, cntE_cons, heno] at h2
    have h3 : (if (⟨name, xn⟩ : Entry).no = n then (1 : Int) else 0) = if xn = n then 1 else 0 := rfl
    omega
  have hlen : (putI (putI s.inodes A) B).length ≤ 200 := by rw [put_len hfb, put_len hfa]; exact S.len
  generalize putI (putI s.inodes A) B = ys at F' L' hrise hlen ⊢
  have hBs : findI ys bn = some B := by rw [F', if_pos rfl]
  have hAs : findI ys an = some A := by rw [F', if_neg hne, if_pos rfl]
  have hG : ∀ n, (findI s.inodes n).isSome = true → (findI ys n).isSome = true ∧ kindF (findI ys) n = kindF (findI s.inodes) n := fun n h => by
    by_cases h1 : n = bn
    · subst h1; unfold kindF; rw [hBs, hdb]; exact ⟨rfl, hBK.trans hbk.symm⟩
    · by_cases h2 : n = an
      · subst h2; unfold kindF; rw [hAs, hda]; exact ⟨rfl, hAK.trans hak.symm⟩
      · unfold kindF; rw [F', if_neg h1, if_neg h2]; exact ⟨h, rfl⟩
  have hxk : kindF (findI s.inodes) xn = x.kind := kindF_some hx
  have hx1 := S.ok.there an a hda en hen
  rw [heno] at hx1
  have hsubA : ∀ e ∈ A.entries, e ∈ a.entries := fun e he => hperm.mem_iff.2 (by rw [hAE] at he; simp [he])
  have hdA : dirsF (findI ys) A.entries = dirsF (findI s.inodes) a.entries - if x.kind = 2 then 1 else 0 := by
    rw [dirsF_congr (F := findI s.inodes) fun e he => (hG e.no (S.ok.there an a hda e (hsubA e he)).2).2, dirsF_perm _ hperm, dirsF_cons, hAE, heno, hxk]
    omega
  have hdB : dirsF (findI ys) B.entries = dirsF (findI s.inodes) b.entries + if x.kind = 2 then 1 else 0 := by
    rw [hBE, dirsF_perm _ (insE_perm _ _), dirsF_cons, dirsF_congr (F := findI s.inodes) fun e he => (hG e.no (S.ok.there bn b hdb e he).2).2]
    show _ + (if kindF (findI ys) xn = 2 then 1 else 0) = _
    rw [(hG xn hx1.2).2, hxk]
  have hal := S.ok.dir an a hda hak
  have hbl2 := S.ok.dir bn b hdb hbk
  have hA0 := dirsF_nonneg (findI ys) A.entries
  refine ⟨hrise, hlen, ?_⟩
  show SndF (findI ys) (leadsL ys) s.next
  refine SndF.edit S.ok (fit_list hrise) (Int.le_refl _) (fun n => n = bn ∨ n = an) (fun n hc => by rw [F', if_neg (fun q => hc (.inl q)), if_neg (fun q => hc (.inr q))]) (fun n _ _ => L' n) (fun n h _ => (hG n h).2) (fun n h h2 => ?_) (hG 1 S.root_some).1 (fun n z hc hz => ?_) (fun n hn => ?_)
  · have := (hG n h).1; rw [h2] at this; cases this
  · rcases hc with rfl | rfl
    · rw [hBs] at hz
      obtain rfl : B = z := by simpa using hz
      refine ⟨hBn, hbo.2.1, dir_ob (G := findI ys) hbo.2.2 hbk g0 g1 g2 g3 g4 ?_ (by rw [hBL]; split <;> omega) ?_, fun e he => ?_, fun q => absurd hBK q, fun _ => by rw [hBL, hdB]; omega, fun _ h1 => ?_⟩
      · rw [hBE]; exact insE_right t5 hfn hnb hpos hl100
      · rw [hBL]; split
        · have := hbl (by assumption); omega
        · omega
      · rw [hBE] at he
        rcases List.mem_cons.1 ((insE_perm _ _).mem_iff.1 he) with rfl | he
        · exact ⟨hx1.1, (hG xn hx1.2).1⟩
        · have := S.ok.there n b hdb e he
          exact ⟨this.1, (hG e.no this.2).1⟩
      · rw [L']; exact S.ok.one n b hdb hbk h1
    · rw [hAs] at hz
      obtain rfl : A = z := by simpa using hz
      refine ⟨hAn, hao.2.1, dir_ob (G := findI ys) hao.2.2 hak e0 e1 e2 e3 e4 ?_ (by rw [hAL]; omega) (by rw [hAL]; split <;> omega), fun e he => ?_, fun q => absurd hAK q, fun _ => by rw [hAL, hdA]; omega, fun _ h1 => ?_⟩
      · rw [hAE]; exact (remE_right r5 (by rw [hf]; rfl)).1
      · have := S.ok.there n a hda e (hsubA e he)
        exact ⟨this.1, (hG e.no this.2).1⟩
      · rw [L']; exact S.ok.one n a hda hak h1
  · have hn0 : kindF (findI s.inodes) n = 2 := by
      obtain ⟨y, hy, hyk⟩ := kindF_isSome hn
      rw [F'] at hy
      by_cases h1 : n = bn
      · rw [h1, kindF_some hdb]; exact hbk
      · rw [if_neg h1] at hy
        by_cases h2 : n = an
        · rw [h2, kindF_some hda]; exact hak
        · rw [if_neg h2] at hy; rw [kindF_some hy]; exact hyk
    have hkeep : ∀ d k, KidF (findI s.inodes) d k → k ≠ xn → KidF (findI ys) d k := fun d k h hk => by
      obtain ⟨y, hy, hye⟩ := kidF_par h
      obtain ⟨e, he, he2, he3⟩ := (kidF_some hy).1 h
      have hk3 : kindF (findI ys) k = 2 := by
        obtain ⟨z, hz, _⟩ := kindF_isSome he3
        rw [(hG k (by rw [hz]; rfl)).2]; exact he3
      by_cases h1 : d = bn
      · subst h1
        rw [hdb] at hy
        obtain rfl : b = y := by simpa using hy
        exact (kidF_some hBs).2 ⟨e, by rw [hBE]; exact (insE_perm _ _).mem_iff.2 (by simp [he]), he2, hk3⟩
      · by_cases h2 : d = an
        · subst h2
          rw [hda] at hy
          obtain rfl : a = y := by simpa using hy
          refine (kidF_some hAs).2 ⟨e, ?_, he2, hk3⟩
          rw [hAE]
          rcases List.mem_cons.1 (hperm.mem_iff.1 he) with q | q
          · exact absurd (by rw [← he2, q, heno]) hk
          · exact q
        · exact (kidF_some (by rw [F', if_neg h1, if_neg h2]; exact hy)).2 ⟨e, he, he2, hk3⟩
    by_cases hxd : x.kind = 2
    · exact reach_move (F := findI s.inodes) (x := xn) (b := bn) (Y := fun _ => False) (fun d k h hk _ => hkeep d k h hk)
        ((kidF_some hBs).2 ⟨⟨name, xn⟩, by rw [hBE]; exact (insE_perm _ _).mem_iff.2 (by simp), rfl, by rw [(hG xn hx1.2).2, hxk]; exact hxd⟩) (hin hxd) (fun _ _ h => h.elim) (fun h => h) (S.ok.reach bn (by rw [kindF_some hdb]; exact hbk)) (S.ok.reach n hn0) (fun h => h)
    · refine reach_mono (fun d k h => hkeep d k h fun q => ?_) (S.ok.reach n hn0)
      have := kidF_dir h
      rw [q, hxk] at this
      exact hxd this
end Go.Proofs.Ytkglaofiencfdaa

namespace Go.Proofs.Ytkglaofiencfdaa
open Go.RowKit Go.Sort
set_option linter.unusedVariables false
/-! ### where ways lead in sound states -/
theorem walkF_found {xs : List Inode} (hroot : (findI xs 1).isSome = true) {f : Bool} : ∀ {n : Nat} {st : Wk} {names : List ByteArray}, (findI xs st.at_).isSome = true → st.kept ≠ [] → (∀ k ∈ st.kept, (findI xs k).isSome = true) → (walkF n xs st names f).2 = 0 → (findI xs (walkF n xs st names f).1).isSome = true
  | 0, _, _, _, _, _, h => absurd h (by show (99 : Int) ≠ 0; decide)
  | n + 1, st, [], h1, _, _, _ => h1
  | n + 1, st, a :: names, h1, h2, h3, h => by
    have e : walkF (n + 1) xs st (a :: names) f = (if (stepW xs st a (f || decide (0 < names.length))).2.2 = 0 then walkF n xs (stepW xs st a (f || decide (0 < names.length))).1 ((stepW xs st a (f || decide (0 < names.length))).2.1 ++ names) f else (0, (stepW xs st a (f || decide (0 < names.length))).2.2)) := rfl
    rw [e] at h ⊢
    by_cases hc : (stepW xs st a (f || decide (0 < names.length))).2.2 = 0
    · rw [if_pos hc] at h ⊢
      have key : ∀ g, (stepW xs st a g).2.2 = 0 → (findI xs (stepW xs st a g).1.at_).isSome = true ∧ (stepW xs st a g).1.kept ≠ [] ∧ ∀ k ∈ (stepW xs st a g).1.kept, (findI xs k).isSome = true := fun g hg => by
        unfold stepW at hg ⊢
        split at hg
        · exact absurd hg (by show (11 : Int) ≠ 0; decide)
        · rename_i x hx
          split at hg
          · rename_i hk
            split at hg
            · rename_i hu
              have hb : backK st.kept ≠ [] ∧ ∀ k ∈ backK st.kept, k ∈ st.kept := by
                unfold backK
                split
                · rename_i hl
                  exact ⟨fun q => by have := congrArg List.length q; rw [List.length_dropLast] at this; simp at this; omega, fun k hk => List.dropLast_subset _ hk⟩
                · exact ⟨h2, fun k hk => hk⟩
              simp only [hk, if_true, hu]
              refine ⟨?_, hb.1, fun k hk => h3 k (hb.2 k hk)⟩
              rw [List.getLast?_eq_some_getLast hb.1]
              exact h3 _ (hb.2 _ (List.getLast_mem hb.1))
            · rename_i hu
              simp only [hk, if_true, hu, Bool.false_eq_true, if_false]
              split at hg
              · exact absurd hg (by show (11 : Int) ≠ 0; decide)
              · rename_i no hno
                split at hg
                · exact absurd hg (by show (11 : Int) ≠ 0; decide)
                · rename_i y hy
                  unfold follW at hg ⊢
                  split at hg
                  · rename_i hl
                    simp only [hl, and_self, if_true]
                    split at hg
                    · exact absurd hg (by show (16 : Int) ≠ 0; decide)
                    · rename_i h8
                      split at hg
                      · rename_i hp; exact absurd hg hp
                      · rename_i hp
                        rw [if_neg h8, if_neg hp]
                        split
                        · exact ⟨hroot, by simp, fun k hk => by rw [show k = 1 by simpa using hk]; exact hroot⟩
                        · exact ⟨h1, h2, h3⟩
                  · rename_i hl
                    rw [if_neg hl]
                    refine ⟨by show (findI xs no).isSome = true; rw [hy]; rfl, ?_, ?_⟩
                    · show (if y.kind = 2 then st.kept ++ [no] else st.kept) ≠ []
                      split
                      · simp
                      · exact h2
                    · intro k hk2
                      change k ∈ (if y.kind = 2 then st.kept ++ [no] else st.kept) at hk2
                      split at hk2
                      · rcases List.mem_append.1 hk2 with q | q
                        · exact h3 k q
                        · have : k = no := by simpa using q
                          rw [this, hy]; rfl
                      · exact h3 k hk2
          · exact absurd hg (by show (13 : Int) ≠ 0; decide)
      obtain ⟨k1, k2, k3⟩ := key _ hc
      exact walkF_found hroot k1 k2 k3 h
    · rw [if_neg hc] at h; exact absurd h hc
theorem Snd.resolve {s : State} (S : Snd s) {path : ByteArray} {f : Bool} (h : (resolveP s.inodes path f).2 = 0) : ∃ x, findI s.inodes (resolveP s.inodes path f).1 = some x := by
  unfold resolveP at h ⊢
  split at h
  · rename_i hw
    rw [if_pos hw]
    exact Option.isSome_iff_exists.1 (walkF_found S.root_some S.root_some (by simp [st0]) (fun k hk => by rw [show k = 1 by simpa [st0] using hk]; exact S.root_some) h)
  · rename_i hw; exact absurd h hw
theorem Snd.spot {s : State} (S : Snd s) {path : ByteArray} (h : (findS s.inodes path).2 = 0) : ∃ dn d name, findI s.inodes dn = some d ∧ d.kind = 2 ∧ d.no = dn ∧ 0 < dn ∧
    (((findS s.inodes path).1 = ⟨d, name, zeroI, false⟩ ∧ findE d.entries name = none) ∨ ∃ yn y, (findS s.inodes path).1 = ⟨d, name, y, true⟩ ∧ findE d.entries name = some yn ∧ findI s.inodes yn = some y ∧ y.no = yn ∧ yn ≠ 1) := by
  unfold findS at h ⊢
  split at h
  · rename_i h1; exact absurd h h1
  · rename_i h1
    rw [if_neg h1]
    obtain ⟨d, hd, hk, hg⟩ := Snd.dirOf (s := s) (path := path) (by simpa using h1)
    refine ⟨_, d, (parentP s.inodes path).2.1, hd, hk, (S.ok.ok _ d hd).1, by rw [← (S.ok.ok _ d hd).1]; exact (rightI_pos (S.ok.ok _ d hd).2.2).1, ?_⟩
    show (((atS s.inodes (parentP s.inodes path).1 (parentP s.inodes path).2.1) = _ ∧ _) ∨ ∃ yn y, (atS s.inodes (parentP s.inodes path).1 (parentP s.inodes path).2.1) = _ ∧ _)
    unfold atS
    rw [hg]
    cases hf : findE d.entries (parentP s.inodes path).2.1 with
    | none => exact .inl ⟨rfl, rfl⟩
    | some yn =>
      obtain ⟨h1, y, hy⟩ := S.entry hd hf
      exact .inr ⟨yn, y, by simp only []; rw [hy]; rfl, rfl, hy, (S.ok.ok yn y hy).1, h1⟩
/-! ### each call -/
theorem applyS_nil (s : State) : applyS s [] = s := rfl
theorem Snd.callMake {s : State} (S : Snd s) (path : ByteArray) (kind : Int) (t : ByteArray) : Snd (applyS s (makeP s path kind t).1) := by
  unfold makeP
  split
  · exact S
  rename_i h1
  split
  · exact S
  rename_i h2
  split
  · exact S
  rename_i h3
  obtain ⟨d, hd, hk, hg⟩ := Snd.dirOf (s := s) (path := path) (by simpa using h3)
  simp only [hg]
  split
  · exact S
  split
  · exact S
  rename_i h5
  split
  · exact S
  rename_i h6
  split
  · exact S
  rename_i h7
  refine S.make hd hk ?_ (by omega) (fun hk2 => by
    by_cases q : 100 ≤ d.links
    · exact absurd ⟨hk2, q⟩ h6
    · omega) (by simpa using h7)
  by_cases k1 : kind = 1
  · exact .inl k1
  · by_cases k2 : kind = 2
    · exact .inr (.inl k2)
    · have k3 : kind = 3 := by omega
      refine .inr (.inr ⟨k3, ?_⟩)
      cases ht : targetB t with
      | true => rfl
      | false => exact absurd ⟨k3, .inl ht⟩ h2
theorem Snd.callHard {s : State} (S : Snd s) (old path : ByteArray) : Snd (applyS s (hardP s old path).1) := by
  unfold hardP
  split
  · exact S
  rename_i h1
  obtain ⟨x, hx⟩ := S.resolve (path := old) (f := false) (by simpa using h1)
  rw [hx]
  split
  · exact S
  rename_i h2
  unfold hardU
  split
  · exact S
  rename_i h3
  obtain ⟨d, hd, hk, hg⟩ := Snd.dirOf (s := s) (path := path) (by simpa using h3)
  rw [hg]
  unfold hardT
  split
  · exact S
  split
  · exact S
  rename_i h5
  split
  · exact S
  rename_i h6
  exact S.hard hd hk hx h2 (by show x.links < 100; simp only [Option.getD_some] at h5; omega) (by simpa using h6)
theorem thereS_zero {s : State} (S : Snd s) {path : ByteArray} (h : (thereS s.inodes path).2 = 0) : ∃ dn d name xn x, findI s.inodes dn = some d ∧ d.kind = 2 ∧ d.no = dn ∧ 0 < dn ∧ (thereS s.inodes path).1 = ⟨d, name, x, true⟩ ∧ findE d.entries name = some xn ∧ findI s.inodes xn = some x ∧ x.no = xn ∧ xn ≠ 1 := by
  have h2 : (findS s.inodes path).2 = 0 ∧ ¬ (findS s.inodes path).1.is = false := by
    unfold thereS at h
    split at h
    · exact absurd h (by show (11 : Int) ≠ 0; decide)
    · rename_i q; exact ⟨h, fun q2 => q ⟨h, q2⟩⟩
  obtain ⟨dn, d, name, hd, hk, hdn, hpos, hc⟩ := S.spot h2.1
  rw [thereS_fst]
  rcases hc with ⟨e, _⟩ | ⟨yn, y, e, hf, hy, hyn, hy1⟩
  · rw [e] at h2; exact absurd rfl h2.2
  · exact ⟨dn, d, name, yn, y, hd, hk, hdn, hpos, e, hf, hy, hyn, hy1⟩
theorem Snd.callUnlink {s : State} (S : Snd s) (path : ByteArray) (os : List Int) : Snd (applyS s (unlinkP s path os).1) := by
  unfold unlinkP
  split
  · exact S
  rename_i h1
  obtain ⟨dn, d, name, xn, x, hd, hk, hdn, hpos, e, hf, hx, hxn, hx1⟩ := thereS_zero S (path := path) (by simpa using h1)
  rw [e]
  split
  · exact S
  rename_i h2
  exact S.unlink hd hk hf hx h2 os
theorem Snd.callRmdir {s : State} (S : Snd s) (path : ByteArray) : Snd (applyS s (rmdirP s path).1) := by
  unfold rmdirP
  split
  · exact S
  rename_i h1
  obtain ⟨dn, d, name, xn, x, hd, hk, hdn, hpos, e, hf, hx, hxn, hx1⟩ := thereS_zero S (path := path) (by simpa using h1)
  rw [e]
  split
  · exact S
  rename_i h2
  split
  · exact S
  rename_i h3
  exact S.rmdir hd hk hf hx (by simpa using h2) (List.eq_nil_of_length_eq_zero (by simpa using h3))
/-! ### Rename -/
theorem rem_filter {es : List Entry} (hr : rightE es = true) {name : ByteArray} (h : (findE es name).isSome = true) : remE es name = es.filter fun e => !isE name e := by
  obtain ⟨t, ht⟩ := Option.isSome_iff_exists.1 h
  obtain ⟨e, he, hen, _, hp⟩ := rem_perm ht
  obtain ⟨hr2, _, hn⟩ := remE_right hr h
  refine sorted_eq ((rightE_iff _).1 hr2).2.1 (((rightE_iff _).1 hr).2.1.sublist List.filter_sublist) ?_
  have h1 := hp.filter fun e => !isE name e
  rw [List.filter_cons_of_neg (by unfold isE; simp [hen])] at h1
  have h2 : (remE es name).filter (fun e => !isE name e) = remE es name := by
    rw [List.filter_eq_self]
    intro x hx
    have := findE_none hn x hx
    unfold isE
    simpa using this
  rw [h2] at h1
  exact h1.symm
theorem findE_filter {es : List Entry} {name other : ByteArray} (hne : other ≠ name) : findE (es.filter fun e => !isE name e) other = findE es other := by
  unfold findE
  rw [List.find?_filter]
  congr 2
  funext e
  unfold isE
  by_cases q : e.name = other
  · subst q
    simp [hne]
  · simp [q]
theorem findE_rem {es : List Entry} (hr : rightE es = true) {name other : ByteArray} (h : (findE es name).isSome = true) (hne : other ≠ name) : findE (remE es name) other = findE es other := by rw [rem_filter hr h, findE_filter hne]
theorem rem_comm {es : List Entry} (hr : rightE es = true) {n1 n2 : ByteArray} (h1 : (findE es n1).isSome = true) (h2 : (findE es n2).isSome = true) (hne : n1 ≠ n2) : remE (remE es n1) n2 = remE (remE es n2) n1 := by
  rw [rem_filter (remE_right hr h1).1 (by rw [findE_rem hr h1 (fun e => hne e.symm)]; exact h2), rem_filter (remE_right hr h2).1 (by rw [findE_rem hr h2 hne]; exact h1), rem_filter hr h1, rem_filter hr h2, List.filter_filter, List.filter_filter]
  congr 1
  funext e
  exact Bool.and_comm _ _
end Go.Proofs.Ytkglaofiencfdaa

namespace Go.Proofs.Ytkglaofiencfdaa
open Go.RowKit Go.Sort
set_option linter.unusedVariables false
/-! ### Rename, whole -/
/-- What becomes of the one whose place is taken. -/
def goneD (y : Inode) (os : List Int) : Deed := if y.kind = 2 then ⟨3, y.no, zeroI⟩ else letGoP y os
theorem goneD_eff {y : Inode} {yn : Int} (hyn : y.no = yn) (os : List Int) : ∃ o : Option Inode, (∀ X, o = some X → y.kind ≠ 2 ∧ X.kind = y.kind) ∧ ∀ t : State, riseI t.inodes → ∃ zs, applyD t (goneD y os) = ⟨t.next, zs, t.bads⟩ ∧ riseI zs ∧ zs.length ≤ t.inodes.length + 1 ∧ ∀ n, findI zs n = if n = yn then o else findI t.inodes n := by
  unfold goneD letGoP
  by_cases hk : y.kind = 2
  · rw [if_pos hk, hyn]
    exact ⟨none, (fun X h => by cases h), fun t ht => ⟨_, rfl, drop_rise ht yn, Nat.le_trans (List.length_filter_le _ _) (Nat.le_succ _), fun n => find_drop _ _ _⟩⟩
  · rw [if_neg hk]
    by_cases hc : y.links ≤ 1 ∧ os.any (eqZ y.no) = false
    · rw [if_pos hc, hyn]
      exact ⟨none, (fun X h => by cases h), fun t ht => ⟨_, rfl, drop_rise ht yn, Nat.le_trans (List.length_filter_le _ _) (Nat.le_succ _), fun n => find_drop _ _ _⟩⟩
    · rw [if_neg hc]
      refine ⟨some { y with links := max (y.links - 1) 0 }, (fun X h => ?_), fun t ht => ⟨putI t.inodes { y with links := max (y.links - 1) 0 }, rfl, putI_rise ht, putI_len _ _, fun n => ?_⟩⟩
      · obtain rfl : ({ y with links := max (y.links - 1) 0 } : Inode) = X := by simpa using h
        exact ⟨hk, rfl⟩
      · rw [find_put]
        show (if n = y.no then _ else _) = _
        rw [hyn]
/-- A name's target is taken away. -/
theorem Snd.take {s : State} (S : Snd s) {b y : Inode} {bn yn : Int} {name : ByteArray} (hdb : findI s.inodes bn = some b) (hbk : b.kind = 2) (hfb : findE b.entries name = some yn) (hy : findI s.inodes yn = some y) (hye : y.entries = []) (os : List Int) (o : Option Inode)
    (ho : ∀ t : State, riseI t.inodes → ∃ zs, applyD t (goneD y os) = ⟨t.next, zs, t.bads⟩ ∧ riseI zs ∧ zs.length ≤ t.inodes.length + 1 ∧ ∀ n, findI zs n = if n = yn then o else findI t.inodes n) :
    ∃ ys B1, Snd ⟨s.next, ys, s.bads⟩ ∧ B1.no = b.no ∧ B1.kind = b.kind ∧ B1.size = b.size ∧ B1.target = b.target ∧ B1.runs = b.runs ∧ B1.entries = remE b.entries name ∧ B1.links = b.links - (if y.kind = 2 then 1 else 0) ∧ ∀ n, findI ys n = if n = yn then o else if n = bn then some B1 else findI s.inodes n := by
  have hbo := S.ok.ok bn b hdb
  by_cases hk : y.kind = 2
  · have h1 := S.rmdir hdb hbk hfb hy hk hye
    rw [without_of hfb] at h1
    obtain ⟨B1, hB⟩ : ∃ B1 : Inode, { ({ b with entries := remE b.entries name } : Inode) with links := ({ b with entries := remE b.entries name } : Inode).links - 1 } = B1 := ⟨_, rfl⟩
    rw [hB] at h1
    obtain ⟨ys, e, hr, _, hf⟩ := ho ⟨s.next, putI s.inodes B1, s.bads⟩ (putI_rise S.rise)
    have e2 : applyS s [putD B1, ⟨3, y.no, zeroI⟩] = ⟨s.next, ys, s.bads⟩ := by
      rw [← e]; unfold goneD; rw [if_pos hk]; rfl
    rw [e2] at h1
    have hBn : B1.no = bn := by rw [← hB]; exact hbo.1
    exact ⟨ys, B1, h1, by rw [← hB], by rw [← hB], by rw [← hB], by rw [← hB], by rw [← hB], by rw [← hB], by rw [← hB, if_pos hk], fun n => by rw [hf]; show (if n = yn then o else findI (putI s.inodes B1) n) = _; rw [find_put, hBn]⟩
  · have h1 := S.unlink hdb hbk hfb hy hk os
    rw [without_of hfb] at h1
    obtain ⟨B1, hB⟩ : ∃ B1 : Inode, { b with entries := remE b.entries name } = B1 := ⟨_, rfl⟩
    rw [hB] at h1
    obtain ⟨ys, e, hr, _, hf⟩ := ho ⟨s.next, putI s.inodes B1, s.bads⟩ (putI_rise S.rise)
    have e2 : applyS s [putD B1, letGoP y os] = ⟨s.next, ys, s.bads⟩ := by
      rw [← e]; unfold goneD; rw [if_neg hk]; rfl
    rw [e2] at h1
    have hBn : B1.no = bn := by rw [← hB]; exact hbo.1
    exact ⟨ys, B1, h1, by rw [← hB], by rw [← hB], by rw [← hB], by rw [← hB], by rw [← hB], by rw [← hB], by rw [← hB, if_neg hk]; show b.links = b.links - 0; omega, fun n => by rw [hf]; show (if n = yn then o else findI (putI s.inodes B1) n) = _; rw [find_put, hBn]⟩
theorem applyS_app2 (s : State) (a b : List Deed) : applyS s (a ++ b) = applyS (applyS s a) b := by unfold applyS; rw [List.foldl_append]
theorem Snd.same_inodes {t u : State} (S : Snd t) (hr : riseI u.inodes) (hn : u.next = t.next) (h : ∀ n, findI u.inodes n = findI t.inodes n) : Snd u := by
  have e := rise_ext hr S.rise h
  obtain ⟨h1, h2, h3⟩ := S
  exact ⟨by rw [e]; exact h1, by rw [e]; exact h2, by rw [e, hn]; exact h3⟩
/-- The facts of a Rename that goes through. -/
theorem Snd.rename {s : State} (S : Snd s) {a b x : Inode} {an bn xn : Int} {was name : ByteArray} (y : Inode) (yn : Int) (th : Bool) (os : List Int) (hda : findI s.inodes an = some a) (hak : a.kind = 2) (hdb : findI s.inodes bn = some b) (hbk : b.kind = 2) (hfa : findE a.entries was = some xn) (hx : findI s.inodes xn = some x)
    (hth : th = true → findE b.entries name = some yn ∧ findI s.inodes yn = some y ∧ yn ≠ xn ∧ (x.kind = 2 ↔ y.kind = 2) ∧ y.entries = []) (hin : x.kind = 2 → ¬ ReachF (findI s.inodes) xn bn) (hbl : th = false → x.kind = 2 → an ≠ bn → b.links < 100)
    (ha : addC (rrB ⟨a, was, x, true⟩ ⟨b, name, y, th⟩ th) ⟨name, xn⟩ = 0) : Snd (applyS s (rrE ⟨a, was, x, true⟩ ⟨b, name, y, th⟩ th (addL (rrB ⟨a, was, x, true⟩ ⟨b, name, y, th⟩ th) ⟨name, xn⟩) os).1) := by
  have hao := S.ok.ok an a hda
  have hbo := S.ok.ok bn b hdb
  have hxo := S.ok.ok xn x hx
  obtain ⟨r1, r2, r3, r4, r5, r6, r7⟩ := rightI_dir hao.2.2 hak
  obtain ⟨t1, t2, t3, t4, t5, t6, t7⟩ := rightI_dir hbo.2.2 hbk
  have hsame : (a.no = b.no) = (an = bn) := by rw [hao.1, hbo.1]
  have hEl : ∀ L, (rrE ⟨a, was, x, true⟩ ⟨b, name, y, th⟩ th L os).1 = rrL ⟨a, was, x, true⟩ ⟨b, name, y, th⟩ th L ++ if th = true then [goneD y os] else [] := fun L => by
    unfold rrE
    cases th with
    | false => simp
    | true =>
      have hk := (hth rfl).2.2.2.1
      unfold goneD
      by_cases q : x.kind = 2
      · simp [q, hk.1 q]
      · have q2 : ¬ y.kind = 2 := fun h => q (hk.2 h)
        simp [q, q2]
  rw [hEl, applyS_app2]
  by_cases hs : an = bn
  · -- within one directory
    subst hs
    rw [hda] at hdb
    obtain rfl : a = b := by simpa using hdb
    have hB : rrB ⟨a, was, x, true⟩ ⟨a, name, y, th⟩ th = remE (rrT ⟨a, name, y, th⟩ th) was := by unfold rrB rrA; rw [if_pos rfl, if_pos rfl]
    rw [hB] at ha ⊢
    obtain ⟨D, hD⟩ : ∃ D : Inode, { a with entries := addL (remE (rrT ⟨a, name, y, th⟩ th) was) ⟨name, xn⟩, links := a.links - (if x.kind = 2 ∧ th = true then 1 else 0) } = D := ⟨_, rfl⟩
    have hL : rrL ⟨a, was, x, true⟩ ⟨a, name, y, th⟩ th (addL (remE (rrT ⟨a, name, y, th⟩ th) was) ⟨name, xn⟩) = [putD D] := by unfold rrL; rw [if_pos rfl, ← hD]
    rw [hL]
    have hDn : D.no = an := by rw [← hD]; exact hao.1
    have hDE : D.entries = insE (remE (rrT ⟨a, name, y, th⟩ th) was) ⟨name, xn⟩ := by rw [← hD, ← addL_ok ha]
    have hDL : D.links = a.links - (if x.kind = 2 ∧ th = true then 1 else 0) := by rw [← hD]
    rw [show applyS s [putD D] = ⟨s.next, putI s.inodes D, s.bads⟩ from rfl]
    cases th with
    | false =>
      simp only [Bool.false_eq_true, if_false, applyS_nil]
      exact S.move_same hda hak hfa ha (by rw [← hD]) (by rw [← hD]) (by rw [← hD]) (by rw [← hD]) (by rw [← hD]) hDE (by rw [hDL]; simp)
    | true =>
      obtain ⟨hfb, hy, hne, hkk, hye⟩ := hth rfl
      have hyo := S.ok.ok yn y hy
      obtain ⟨o, hoX, ho⟩ := goneD_eff hyo.1 os
      have hya : yn ≠ an := fun q => by
        rw [q, hda] at hy; obtain rfl : a = y := by simpa using hy
        rw [hye] at hfa; cases hfa
      have hnn : was ≠ name := fun q => by
        rw [q, hfb] at hfa; exact hne (by simpa using hfa)
      obtain ⟨ys, B1, S1, b0, b1, b2, b3, b4, bE, bL, hF1⟩ := S.take hda hak hfb hy hye os o ho
      have hB1 : findI ys an = some B1 := by rw [hF1, if_neg (fun q => hya q.symm), if_pos rfl]
      have hT : rrT ⟨a, name, y, true⟩ true = remE a.entries name := rfl
      rw [hT] at ha hDE
      have S2 := S1.move_same (D := D) (was := was) (name := name) (xn := xn) hB1 (b1.trans hak) (by rw [bE, findE_rem r5 (by rw [hfb]; rfl) hnn]; exact hfa) (by rw [bE]; exact ha) (by rw [b0, ← hD]) (by rw [b1, ← hD]) (by rw [b2, ← hD]) (by rw [b3, ← hD]) (by rw [b4, ← hD]) (by rw [hDE, bE]) (by
        rw [hDL, bL]
        by_cases q : x.kind = 2
        · rw [if_pos ⟨q, rfl⟩, if_pos (hkk.1 q)]
        · rw [if_neg (fun h => q h.1), if_neg (fun h => q (hkk.2 h))])
      obtain ⟨zs, e, hr, _, hf⟩ := ho ⟨s.next, putI s.inodes D, s.bads⟩ (putI_rise S.rise)
      simp only [if_true]
      show Snd (applyD ⟨s.next, putI s.inodes D, s.bads⟩ (goneD y os))
      rw [e]
      refine S2.same_inodes hr rfl fun n => ?_
      rw [hf]
      show (if n = yn then o else findI (putI s.inodes D) n) = findI (putI ys D) n
      rw [find_put, find_put, hDn, hF1]
      by_cases q1 : n = yn
      · rw [if_pos q1, if_neg (fun q => hya (by rw [← q1]; exact q)), if_pos q1]
      · rw [if_neg q1]
        by_cases q2 : n = an
        · rw [if_pos q2, if_pos q2]
        · rw [if_neg q2, if_neg q2, if_neg q1, if_neg q2]
  · -- from one to another one
    have hs2 : ¬ a.no = b.no := by rw [hsame]; exact hs
    have hB : rrB ⟨a, was, x, true⟩ ⟨b, name, y, th⟩ th = rrT ⟨b, name, y, th⟩ th := by unfold rrB; rw [if_neg hs2]
    have hA : rrA ⟨a, was, x, true⟩ ⟨b, name, y, th⟩ th = remE a.entries was := by unfold rrA; rw [if_neg hs2]
    rw [hB] at ha ⊢
    obtain ⟨A, hAe⟩ : ∃ A : Inode, { a with entries := remE a.entries was, links := a.links - (if x.kind = 2 then 1 else 0) } = A := ⟨_, rfl⟩
    obtain ⟨B, hBe⟩ : ∃ B : Inode, { b with entries := addL (rrT ⟨b, name, y, th⟩ th) ⟨name, xn⟩, links := b.links + (if x.kind = 2 ∧ th = false then 1 else 0) } = B := ⟨_, rfl⟩
    have hL : rrL ⟨a, was, x, true⟩ ⟨b, name, y, th⟩ th (addL (rrT ⟨b, name, y, th⟩ th) ⟨name, xn⟩) = [putD A, putD B] := by unfold rrL; rw [if_neg hs2, ← hAe, ← hBe, hA]
    rw [hL]
    have hAn : A.no = an := by rw [← hAe]; exact hao.1
    have hBn : B.no = bn := by rw [← hBe]; exact hbo.1
    have hBE : B.entries = insE (rrT ⟨b, name, y, th⟩ th) ⟨name, xn⟩ := by rw [← hBe, ← addL_ok ha]
    have hBL : B.links = b.links + (if x.kind = 2 ∧ th = false then 1 else 0) := by rw [← hBe]
    rw [show applyS s [putD A, putD B] = ⟨s.next, putI (putI s.inodes A) B, s.bads⟩ from rfl]
    cases th with
    | false =>
      simp only [Bool.false_eq_true, if_false, applyS_nil]
      exact S.move_far hs hda hak hdb hbk hfa hx ha hin (fun q => hbl rfl q hs) (by rw [← hAe]) (by rw [← hAe]) (by rw [← hAe]) (by rw [← hAe]) (by rw [← hAe]) (by rw [← hAe]) (by rw [← hAe]) (by rw [← hBe]) (by rw [← hBe]) (by rw [← hBe]) (by rw [← hBe]) (by rw [← hBe]) hBE (by rw [hBL]; simp)
    | true =>
      obtain ⟨hfb, hy, hne, hkk, hye⟩ := hth rfl
      have hyo := S.ok.ok yn y hy
      obtain ⟨o, hoX, ho⟩ := goneD_eff hyo.1 os
      have hya : yn ≠ an := fun q => by
        rw [q, hda] at hy; obtain rfl : a = y := by simpa using hy
        rw [hye] at hfa; cases hfa
      have hyb : yn ≠ bn := fun q => by
        rw [q, hdb] at hy; obtain rfl : b = y := by simpa using hy
        rw [hye] at hfb; cases hfb
      obtain ⟨ys, B1, S1, b0, b1, b2, b3, b4, bE, bL, hF1⟩ := S.take hdb hbk hfb hy hye os o ho
      have hB1 : findI ys bn = some B1 := by rw [hF1, if_neg (fun q => hyb q.symm), if_pos rfl]
      have hA1 : findI ys an = some a := by rw [hF1, if_neg (fun q => hya q.symm), if_neg hs]; exact hda
      have hT : rrT ⟨b, name, y, true⟩ true = remE b.entries name := rfl
      rw [hT] at ha hBE
      obtain ⟨x1, hx1, hxk⟩ : ∃ x1, findI ys xn = some x1 ∧ x1.kind = x.kind := by
        rw [hF1, if_neg (fun q => hne q.symm)]
        by_cases q : xn = bn
        · rw [if_pos q]
          rw [q, hdb] at hx
          obtain rfl : b = x := by simpa using hx
          exact ⟨B1, rfl, b1⟩
        · rw [if_neg q]; exact ⟨x, hx, rfl⟩
      have hmono : ∀ d k, KidF (findI ys) d k → KidF (findI s.inodes) d k := fun d k h => by
        obtain ⟨z, hz, hze⟩ := kidF_par h
        obtain ⟨e, he, he2, he3⟩ := (kidF_some hz).1 h
        have hk3 : kindF (findI s.inodes) k = 2 := by
          obtain ⟨u, hu, huk⟩ := kindF_isSome he3
          rw [hF1] at hu
          by_cases q1 : k = yn
          · rw [if_pos q1] at hu
            have := hoX u hu
            exact absurd (this.2.symm.trans huk) this.1
          · rw [if_neg q1] at hu
            by_cases q2 : k = bn
            · rw [q2, kindF_some hdb]; exact hbk
            · rw [if_neg q2] at hu; rw [kindF_some hu]; exact huk
        rw [hF1] at hz
        by_cases q1 : d = yn
        · rw [if_pos q1] at hz
          have := hoX z hz
          exact absurd (rightI_bare (S1.ok.ok yn z (by rw [hF1, if_pos rfl]; exact hz)).2.2 (by rw [this.2]; exact this.1)) hze
        · rw [if_neg q1] at hz
          by_cases q2 : d = bn
          · rw [if_pos q2] at hz
            obtain rfl : B1 = z := by simpa using hz
            subst q2
            obtain ⟨en, hen, henn, heno, hperm⟩ := rem_perm hfb
            exact (kidF_some hdb).2 ⟨e, hperm.mem_iff.2 (by rw [bE] at he; simp [he]), he2, hk3⟩
          · rw [if_neg q2] at hz
            exact (kidF_some hz).2 ⟨e, he, he2, hk3⟩
      have S2 := S1.move_far (A := A) (B := B) (was := was) (name := name) (xn := xn) hs hA1 hak hB1 (b1.trans hbk) hfa hx1 (by rw [bE]; exact ha) (fun q r => hin (by rw [← hxk]; exact q) (reach_mono hmono r)) (fun q => by
          rw [bL, if_pos (hkk.1 (by rw [← hxk]; exact q))]; omega)
        (by rw [← hAe]) (by rw [← hAe]) (by rw [← hAe]) (by rw [← hAe]) (by rw [← hAe]) (by rw [← hAe]) (by rw [← hAe, hxk]) (by rw [b0, ← hBe]) (by rw [b1, ← hBe]) (by rw [b2, ← hBe]) (by rw [b3, ← hBe]) (by rw [b4, ← hBe]) (by rw [hBE, bE]) (by
          rw [hBL, bL, hxk, if_neg (fun h => by cases h.2)]
          by_cases q : x.kind = 2
          · rw [if_pos (hkk.1 q), if_pos q]; omega
          · rw [if_neg (fun h => q (hkk.2 h)), if_neg q]; omega)
      obtain ⟨zs, e, hr, _, hf⟩ := ho ⟨s.next, putI (putI s.inodes A) B, s.bads⟩ (putI_rise (putI_rise S.rise))
      simp only [if_true]
      show Snd (applyD ⟨s.next, putI (putI s.inodes A) B, s.bads⟩ (goneD y os))
      rw [e]
      refine S2.same_inodes hr rfl fun n => ?_
      rw [hf]
      show (if n = yn then o else findI (putI (putI s.inodes A) B) n) = findI (putI (putI ys A) B) n
      rw [find_put, find_put, find_put, find_put, hAn, hBn, hF1]
      by_cases q1 : n = yn
      · rw [if_pos q1, if_neg (fun q => hyb (by rw [← q1]; exact q)), if_neg (fun q => hya (by rw [← q1]; exact q)), if_pos q1]
      · rw [if_neg q1]
        by_cases q2 : n = bn
        · rw [if_pos q2, if_pos q2]
        · rw [if_neg q2, if_neg q2]
          by_cases q3 : n = an
          · rw [if_pos q3, if_pos q3]
          · rw [if_neg q3, if_neg q3, if_neg q1, if_neg q2]
end Go.Proofs.Ytkglaofiencfdaa

namespace Go.Proofs.Ytkglaofiencfdaa
open Go.RowKit Go.Sort
set_option linter.unusedVariables false
/-! ### states that grew are sound -/
theorem Snd.callRename {s : State} (S : Snd s) (hl : s.inodes.length + 1 ≤ 200) (old path : ByteArray) (os : List Int) : Snd (applyS s (rrenameP s old path os).1) := by
  have hbare : bareI s.inodes := fun x hx hk => rightI_bare (S.ok.ok x.no x (findI_of_mem S.rise hx)).2.2 hk
  have hents : ∀ x ∈ s.inodes, x.entries.length ≤ 1000 := fun x hx => by
    have h := (S.ok.ok x.no x (findI_of_mem S.rise hx)).2.2
    by_cases hk : x.kind = 2
    · exact Nat.le_trans ((rightE_iff _).1 (rightI_dir h hk).2.2.2.2.1).2.2 (by decide)
    · rw [rightI_bare h hk]; decide
  unfold rrenameP
  by_cases h1 : (thereS s.inodes old).2 ≠ 0
  · rw [if_pos h1]; exact S
  rw [if_neg h1]
  obtain ⟨an, a, was, xn, x, hda, hak, han, hapos, e1, hfa, hx, hxn, hx1⟩ := thereS_zero S (path := old) (by simpa using h1)
  rw [e1]
  unfold rrP
  split
  · exact S
  rename_i h0
  have h2 : (findS s.inodes path).2 = 0 := by
    by_cases q : (findS s.inodes path).2 = 0
    · exact q
    · refine absurd (.inr ?_) h0
      rw [thereS_fst]
      unfold findS at q ⊢
      split at q
      · rename_i h3; rw [if_pos h3]; rfl
      · exact absurd rfl q
  obtain ⟨bn, b, name, hdb, hbk, hbn, hbpos, hcase⟩ := S.spot h2
  split
  · exact S
  rename_i hne0
  split
  · exact S
  rename_i hins
  split
  · exact S
  rename_i hv
  have hres : ∀ (y : Inode) (yn : Int) (th : Bool), thereS s.inodes path = (⟨b, name, y, th⟩, if th = true then 0 else 11) → (th = true → findE b.entries name = some yn ∧ findI s.inodes yn = some y ∧ y.no = yn) → Snd (applyS s (rrM ⟨a, was, x, true⟩ (thereS s.inodes path).1 ((thereS s.inodes path).2 == 0) os).1) := fun y yn th e hth => by
    rw [e] at hne0 hins hv ⊢
    have hc : ((if th = true then (0 : Int) else 11) == 0) = th := by cases th <;> rfl
    change ¬ ((if th = true then (0 : Int) else 11) = 0 ∧ y.no = x.no) at hne0
    change ¬ (x.kind = 2 ∧ insideR s.inodes b.no x.no = true) at hins
    change ¬ rrV ⟨a, was, x, true⟩ ⟨b, name, y, th⟩ ((if th = true then (0 : Int) else 11) == 0) ≠ 0 at hv
    show Snd (applyS s (rrM ⟨a, was, x, true⟩ ⟨b, name, y, th⟩ ((if th = true then (0 : Int) else 11) == 0) os).1)
    rw [hc] at hv ⊢
    unfold rrM
    split
    · exact S
    rename_i hac
    show Snd (applyS s (rrE ⟨a, was, x, true⟩ ⟨b, name, y, th⟩ th (addL (rrB ⟨a, was, x, true⟩ ⟨b, name, y, th⟩ th) ⟨name, x.no⟩) os).1)
    have hac : addC (rrB ⟨a, was, x, true⟩ ⟨b, name, y, th⟩ th) ⟨name, x.no⟩ = 0 := by simpa using hac
    rw [hxn] at hac ⊢
    refine S.rename y yn th os hda hak hdb hbk hfa hx (fun ht => ?_) (fun hxk r => ?_) (fun ht hxk hne => ?_) hac
    · obtain ⟨q1, q2, q3⟩ := hth ht
      subst ht
      have hv2 : takenR x y = 0 := by
        have : rrV ⟨a, was, x, true⟩ ⟨b, name, y, true⟩ true = takenR x y := rfl
        rw [this] at hv; simpa using hv
      have hyo := (S.ok.ok yn y q2).2.2
      refine ⟨q1, q2, fun q => hne0 ⟨rfl, by rw [q3, hxn, q]⟩, ?_⟩
      unfold takenR at hv2
      by_cases k1 : x.kind = 2
      · by_cases k2 : y.kind = 2
        · simp only [k1, k2, ne_eq, not_true, and_false, false_and, if_false] at hv2
          refine ⟨by simp [k1, k2], List.eq_nil_of_length_eq_zero ?_⟩
          by_cases l : 0 < y.entries.length
          · rw [if_pos l] at hv2; exact absurd hv2 (by decide)
          · omega
        · rw [if_pos ⟨k1, k2⟩] at hv2; exact absurd hv2 (by decide)
      · by_cases k2 : y.kind = 2
        · rw [if_neg (fun h => k1 h.1), if_pos ⟨k1, k2⟩] at hv2; exact absurd hv2 (by decide)
        · exact ⟨by simp [k1, k2], rightI_bare hyo k2⟩
    · refine hins ⟨hxk, (insideR_iff hbare hents hl x.no b.no).2 ?_⟩
      rw [hxn, hbn]
      exact reachF_iff.1 r
    · subst ht
      have hv2 : (if x.kind = 2 ∧ a.no ≠ b.no ∧ 100 ≤ b.links then (18 : Int) else 0) = 0 := by
        have : rrV ⟨a, was, x, true⟩ ⟨b, name, y, false⟩ false = if x.kind = 2 ∧ a.no ≠ b.no ∧ 100 ≤ b.links then (18 : Int) else 0 := rfl
        rw [this] at hv; simpa using hv
      by_cases l : 100 ≤ b.links
      · rw [if_pos ⟨hxk, by rw [han, hbn]; exact hne, l⟩] at hv2; exact absurd hv2 (by decide)
      · omega
  rcases hcase with ⟨e2, hn⟩ | ⟨yn, y, e2, hfb, hy, hyn, hy1⟩
  · exact hres zeroI 0 false (by unfold thereS; rw [if_pos ⟨h2, by rw [e2]⟩, e2]; rfl) (fun h => by cases h)
  · exact hres y yn true (by unfold thereS; rw [if_neg (fun q => by rw [e2] at q; cases q.2)]; exact Prod.ext e2 h2) (fun _ => ⟨hfb, hy, hyn⟩)
theorem Snd.callOp {s : State} (S : Snd s) (hl : s.inodes.length + 1 ≤ 200) (o : POp) (os : List Int) : Snd (applyS s (opD s o os)) := by
  unfold opD
  repeat' split
  · exact S.callMake _ _ _
  · exact S.callMake _ _ _
  · exact S.callMake _ _ _
  · exact S.callHard _ _
  · exact S.callRename hl _ _ _
  · exact S.callUnlink _ _
  · exact S.callRmdir _
  · exact S
theorem newS_snd : Snd newS := by
  have hF : ∀ n, findI newS.inodes n = if n = 1 then some (newI 1 2 ⟨#[]⟩) else none := fun n => by
    unfold findI newS
    by_cases h : n = 1
    · subst h; rfl
    · rw [if_neg h, List.find?_cons_of_neg (fun q => h (isI_iff.1 q).symm)]; rfl
  have h1 : ∀ n x, findI newS.inodes n = some x → n = 1 ∧ x = newI 1 2 ⟨#[]⟩ := fun n x h => by
    rw [hF] at h
    by_cases q : n = 1
    · rw [if_pos q] at h; exact ⟨q, by simpa using h.symm⟩
    · rw [if_neg q] at h; cases h
  refine ⟨by simp [riseI, newS], by decide, fun n x h => ?_, ?_, fun n x h e he => ?_, fun n x h hk => ?_, fun n x h hk => ?_, fun n x h hk hn => ?_, fun n h => ?_⟩
  · obtain ⟨rfl, rfl⟩ := h1 n x h
    exact ⟨rfl, by decide, newI_right (by decide) (.inr (.inl rfl))⟩
  · rw [kindF_some (x := newI 1 2 ⟨#[]⟩) (by rw [hF, if_pos rfl])]; rfl
  · obtain ⟨rfl, rfl⟩ := h1 n x h
    simp [newI] at he
  · obtain ⟨rfl, rfl⟩ := h1 n x h
    exact absurd rfl hk
  · obtain ⟨rfl, rfl⟩ := h1 n x h
    rfl
  · exact absurd (h1 n x h).1 hn
  · obtain ⟨x, hx, _⟩ := kindF_isSome h
    rw [(h1 n x hx).1]; exact .refl
theorem grow_snd (os : List Int) : ∀ (ops : List POp) (n : Nat) (s : State), n + ops.length ≤ 60 → MidS n n s → Snd s → Snd (ops.foldl (growS os) s)
  | [], n, s, _, _, S => S
  | o :: ops, n, s, hn, m, S => by
    rw [List.length_cons] at hn
    have h := opD_mid m o os
    exact grow_snd os ops (n + 1) (growS os s o) (by omega) (m.all h.1 h.2) (S.callOp (by have := m.len; omega) o os)
theorem grown_snd (os : List Int) (ops : List POp) : Snd (grownP os ops) :=
  grow_snd os _ 0 newS (by rw [List.length_take]; omega) newS_midS newS_snd
end Go.Proofs.Ytkglaofiencfdaa

namespace Go.Proofs.Ytkglaofiencfdaa
open Go.RowKit Go.Sort
set_option linter.unusedVariables false
/-! ### the reference's Sound, in plain words, and what is sound -/
def upR (xs : List Inode) (no : Int) : Int := ((xs.find? fun x => x.entries.any fun e => e.no == no).map (·.no)).getD 0
def chainR (xs : List Inode) : Nat → Int → Int
  | 0, at_ => at_
  | n + 1, at_ => if at_ = 1 then at_ else chainR xs n (upR xs at_)
def dirsR (xs : List Inode) : List Entry → Int → Option Int
  | [], n => some n
  | e :: es, n => match findI xs e.no with
    | none => none
    | some y => if y.no = 1 then none else dirsR xs es (if y.kind = 2 then n + 1 else n)
def linkedR (xs : List Inode) (x : Inode) : Bool :=
  if x.kind ≠ 2 then x.links == leadsL xs x.no
  else match dirsR xs x.entries 2 with
    | none => false
    | some dirs => if x.links ≠ dirs ∨ x.no = 1 then x.links == dirs && leadsL xs x.no == 0 else leadsL xs x.no == 1 && chainR xs (xs.length + 1) x.no == 1
theorem chainR_one (xs : List Inode) : ∀ n, chainR xs n 1 = 1
  | 0 => rfl
  | n + 1 => by unfold chainR; rw [if_pos rfl]
/-- The way up. -/
def UpTo (xs : List Inode) : List Int → Prop
  | [] => False
  | [a] => a = 1
  | a :: b :: l => a ≠ 1 ∧ b = upR xs a ∧ UpTo xs (b :: l)
theorem chainR_of {xs : List Inode} : ∀ {l : List Int} {a : Int} {k : Nat}, UpTo xs (a :: l) → l.length ≤ k → chainR xs k a = 1
  | [], a, k, h, _ => by rw [show a = 1 from h]; exact chainR_one xs k
  | b :: l, a, 0, _, hk => by simp at hk
  | b :: l, a, k + 1, h, hk => by
    obtain ⟨h1, h2, h3⟩ := h
    unfold chainR
    rw [if_neg h1, ← h2]
    exact chainR_of h3 (by simpa using hk)
/-- Who stands on the way, and is not the root, stands ahead of its own directory. -/
theorem UpTo.next {xs : List Inode} : ∀ {l : List Int} {n : Int}, UpTo xs l → n ∈ l → n ≠ 1 → upR xs n ∈ l.tail
  | [], _, h, _, _ => h.elim
  | [a], n, h, hn, h1 => by
    have : n = a := by simpa using hn
    exact absurd (this.trans h) h1
  | a :: b :: l, n, h, hn, h1 => by
    obtain ⟨q1, q2, q3⟩ := h
    rcases List.mem_cons.1 hn with rfl | hn
    · rw [← q2]; simp
    · exact List.mem_of_mem_tail (UpTo.next q3 hn h1) |> fun q => by simpa using q
theorem up_of {F : Int → Option Inode} {s : State} (S : Snd s) {p n : Int} (h : KidF (findI s.inodes) p n) : upR s.inodes n = p := by
  obtain ⟨z, hz, _⟩ := kidF_par h
  obtain ⟨e, he, he2, he3⟩ := (kidF_some hz).1 h
  obtain ⟨x, hx, hxk⟩ := kindF_isSome he3
  have hn1 : n ≠ 1 := by rw [← he2]; exact (S.ok.there p z hz e he).1
  have hL := S.ok.one n x hx hxk hn1
  have hc := cntE_pos he
  rw [he2] at hc
  have huniq : ∀ y ∈ s.inodes, (∃ f ∈ y.entries, f.no = n) → y = z := fun y hy ⟨f, hf, hf2⟩ => by
    by_cases q : y.no = p
    · have := findI_of_mem S.rise hy
      rw [q, hz] at this
      exact (by simpa using this : z = y).symm
    · have h2 := S.fit.two n y.no p y z (findI_of_mem S.rise hy) hz q
      have h3 := cntE_pos hf
      rw [hf2] at h3
      omega
  have hfind : s.inodes.find? (fun x => x.entries.any fun e => e.no == n) = some z := by
    cases q : s.inodes.find? (fun x => x.entries.any fun e => e.no == n) with
    | none =>
      have := List.find?_eq_none.1 q z (mem_of_findI hz)
      exact absurd (List.any_eq_true.2 ⟨e, he, by simp [he2]⟩) this
    | some y =>
      have h1 := List.find?_some q
      obtain ⟨f, hf, hf2⟩ := List.any_eq_true.1 h1
      rw [huniq y (List.mem_of_find?_eq_some q) ⟨f, hf, by simpa using hf2⟩]
  unfold upR
  rw [hfind]
  show z.no = p
  exact (S.ok.ok p z hz).1
theorem Snd.way {s : State} (S : Snd s) {n : Int} (r : ReachF (findI s.inodes) 1 n) : ∃ l, UpTo s.inodes (n :: l) ∧ (n :: l).Nodup ∧ ∀ a ∈ n :: l, (findI s.inodes a).isSome = true := by
  induction r with
  | refl => exact ⟨[], rfl, by simp, fun a ha => by rw [show a = 1 by simpa using ha]; exact S.root_some⟩
  | @step p n r h ih =>
    obtain ⟨l, h1, h2, h3⟩ := ih
    obtain ⟨z, hz, _⟩ := kidF_par h
    obtain ⟨e, he, he2, he3⟩ := (kidF_some hz).1 h
    have hn1 : n ≠ 1 := by rw [← he2]; exact (S.ok.there p z hz e he).1
    have hup := up_of (F := findI s.inodes) S h
    refine ⟨p :: l, ⟨hn1, hup.symm, h1⟩, ?_, fun a ha => ?_⟩
    · rw [List.nodup_cons]
      refine ⟨fun hm => ?_, h2⟩
      have := h1.next hm hn1
      rw [hup] at this
      exact (List.nodup_cons.1 h2).1 this
    · rcases List.mem_cons.1 ha with rfl | ha
      · obtain ⟨x, hx, _⟩ := kindF_isSome he3; rw [hx]; rfl
      · exact h3 a ha
theorem Snd.chain {s : State} (S : Snd s) {n : Int} (h : kindF (findI s.inodes) n = 2) : chainR s.inodes (s.inodes.length + 1) n = 1 := by
  obtain ⟨l, h1, h2, h3⟩ := S.way (S.ok.reach n h)
  refine chainR_of h1 ?_
  have := nodup_len (n :: l) (s.inodes.map (·.no)) h2 fun a ha => by
    obtain ⟨x, hx⟩ := Option.isSome_iff_exists.1 (h3 a ha)
    exact List.mem_map.2 ⟨x, mem_of_findI hx, findI_no hx⟩
  simp only [List.length_cons, List.length_map] at this
  omega
theorem dirsR_of {xs : List Inode} : ∀ {es : List Entry} {n : Int}, (∀ e ∈ es, e.no ≠ 1 ∧ (findI xs e.no).isSome = true) → dirsR xs es n = some (n + dirsF (findI xs) es)
  | [], n, _ => by rw [dirsF_nil]; show some n = some (n + 0); rw [Int.add_zero]
  | e :: es, n, h => by
    obtain ⟨h1, h2⟩ := h e (by simp)
    obtain ⟨y, hy⟩ := Option.isSome_iff_exists.1 h2
    unfold dirsR
    rw [hy]
    show (if y.no = 1 then none else dirsR xs es (if y.kind = 2 then n + 1 else n)) = _
    rw [if_neg (by rw [findI_no hy]; exact h1), dirsR_of fun x hx => h x (by simp [hx]), dirsF_cons, kindF_some hy]
    congr 1
    split <;> omega
theorem Snd.linked {s : State} (S : Snd s) : s.inodes.all (linkedR s.inodes) = true := by
  rw [List.all_eq_true]
  intro x hx
  have hf := findI_of_mem S.rise hx
  unfold linkedR
  by_cases hk : x.kind = 2
  · rw [if_neg (by simpa using hk), dirsR_of (S.ok.there x.no x hf)]
    have hl := S.ok.dir x.no x hf hk
    show (if x.links ≠ 2 + dirsF (findI s.inodes) x.entries ∨ x.no = 1 then _ else _) = true
    by_cases h1 : x.no = 1
    · rw [if_pos (.inr h1), h1]
      have h0 : leadsL s.inodes 1 = 0 := leadsL_zero.2 fun y hy e he => (S.ok.there y.no y (findI_of_mem S.rise hy) e he).1
      rw [h0, ← hl]; simp
    · rw [if_neg (by simp [h1, ← hl]), S.ok.one x.no x hf hk h1, S.chain (by rw [kindF_some hf]; exact hk)]
      rfl
  · rw [if_pos hk, S.ok.lnk x.no x hf hk]
    simp
end Go.Proofs.Ytkglaofiencfdaa
