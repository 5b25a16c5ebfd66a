import Derived.Test.YtdiaibkpcnknbaaDoorSnA
import Derived.Test.YtdiaibkpcnknbaaDoorStDf
import Derived.Test.YtdiaibkpcnknbaaDoorRefRuns
import Derived.Test.YtdiaibkpcnknbaaDoorRMk
import Derived.Test.YtdiaibkpcnknbaaDoorPkInA
import Derived.Test.YtdiaibkpcnknbaaDoorRInsA
import Derived.Test.YtdiaibkpcnknbaaDoorBox
import Derived.Laws.OwnMore
namespace Go.Proofs.YtdiaibkpcnknbaaDoor
open Go.RowKit Go.Sort
set_option linter.unusedVariables false
/-! ### ways up, for any step -/
def UpG (u : Int → Int) : List Int → Prop
  | [] => False
  | [a] => a = 1
  | a :: b :: l => a ≠ 1 ∧ b = u a ∧ UpG u (b :: l)
def chainG (u : Int → Int) : Nat → Int → Int
  | 0, at_ => at_
  | n + 1, at_ => if at_ = 1 then at_ else chainG u n (u at_)
theorem chainR_eq (xs : List Inode) : ∀ (n : Nat) (a : Int), chainR xs n a = chainG (upR xs) n a
  | 0, _ => rfl
  | n + 1, a => by unfold chainR chainG; rw [chainR_eq xs n]
theorem chainG_one (u : Int → Int) : ∀ n, chainG u n 1 = 1
  | 0 => rfl
  | n + 1 => by unfold chainG; rw [if_pos rfl]
theorem chainG_of {u : Int → Int} : ∀ {l : List Int} {a : Int} {k : Nat}, UpG u (a :: l) → l.length ≤ k → chainG u k a = 1
  | [], a, k, h, _ => by rw [show a = 1 from h]; exact chainG_one u k
  | b :: l, a, 0, _, hk => by simp at hk
  | b :: l, a, k + 1, h, hk => by
    obtain ⟨h1, h2, h3⟩ := h
    unfold chainG
    rw [if_neg h1, ← h2]
    exact chainG_of h3 (by simpa using hk)
theorem chainG_list {u : Int → Int} : ∀ {k : Nat} {a : Int}, chainG u k a = 1 → ∃ l, UpG u (a :: l) ∧ l.length ≤ k
  | 0, a, h => ⟨[], h, Nat.le_refl _⟩
  | k + 1, a, h => by
    unfold chainG at h
    by_cases h1 : a = 1
    · exact ⟨[], h1, Nat.zero_le _⟩
    · rw [if_neg h1] at h
      obtain ⟨l, h2, h3⟩ := chainG_list h
      exact ⟨u a :: l, ⟨h1, rfl, h2⟩, by simpa using h3⟩
theorem UpG.uniq {u : Int → Int} : ∀ {l m : List Int} {a : Int}, UpG u (a :: l) → UpG u (a :: m) → l = m
  | [], [], _, _, _ => rfl
  | [], b :: m, a, h, h2 => absurd h h2.1
  | b :: l, [], a, h, h2 => absurd h2 h.1
  | b :: l, c :: m, a, h, h2 => by
    obtain ⟨h1, rfl, h3⟩ := h
    obtain ⟨_, e, h4⟩ := h2
    subst e
    rw [UpG.uniq h3 h4]
theorem UpG.tail {u : Int → Int} {a b : Int} {l : List Int} (h : UpG u (a :: b :: l)) : UpG u (b :: l) := h.2.2
theorem UpG.suffix {u : Int → Int} : ∀ {p q : List Int} {a : Int}, UpG u (p ++ a :: q) → UpG u (a :: q)
  | [], _, _, h => h
  | [b], q, a, h => h.2.2
  | b :: c :: p, q, a, h => UpG.suffix (p := c :: p) h.2.2
theorem UpG.nodup {u : Int → Int} : ∀ {l : List Int}, UpG u l → l.Nodup
  | [], h => h.elim
  | [a], _ => by simp
  | a :: b :: l, h => by
    rw [List.nodup_cons]
    refine ⟨fun hm => ?_, UpG.nodup h.2.2⟩
    obtain ⟨p, q, e⟩ := List.append_of_mem hm
    have h1 : UpG u (a :: q) := by have := h.2.2; rw [e] at this; exact this.suffix
    have h2 := UpG.uniq h h1
    have := congrArg List.length e
    rw [h2] at this
    simp at this
    omega
/-- The same steps on the way: the same way. -/
theorem UpG.congr {u v : Int → Int} : ∀ {l : List Int}, UpG u l → (∀ a ∈ l, a ≠ 1 → v a = u a) → UpG v l
  | [], h, _ => h
  | [a], h, _ => h
  | a :: b :: l, h, hv => ⟨h.1, by rw [hv a (by simp) h.1]; exact h.2.1, UpG.congr h.2.2 fun x hx => hv x (by simp [hx])⟩
/-- A way through so many numbers is no longer than these. -/
theorem chainG_short {u : Int → Int} {k n : Nat} {a : Int} {nos : List Int} (h : chainG u k a = 1) (hin : ∀ l, UpG u (a :: l) → ∀ x ∈ a :: l, x ∈ nos) (hn : nos.length ≤ n) : chainG u n a = 1 := by
  obtain ⟨l, h1, _⟩ := chainG_list h
  refine chainG_of h1 ?_
  have := nodup_len (a :: l) nos h1.nodup (hin l h1)
  simp only [List.length_cons] at this
  omega
theorem chainG_mono {u : Int → Int} {k n : Nat} {a : Int} (h : chainG u k a = 1) (hn : k ≤ n) : chainG u n a = 1 := by
  obtain ⟨l, h1, h2⟩ := chainG_list h
  exact chainG_of h1 (Nat.le_trans h2 hn)
end Go.Proofs.YtdiaibkpcnknbaaDoor

namespace Go.Proofs.YtdiaibkpcnknbaaDoor
open Go.RowKit Go.Sort
set_option linter.unusedVariables false
/-! ### the program's and the reference's counts say the same -/
theorem lastK_eq {xs : List Inode} (hr : riseI xs) (a : Int) : lastK xs a = (findI xs a).map (·.kind) := by
  unfold lastK
  congr 1
  cases h : xs.reverse.find? (isI a) with
  | none =>
    refine (findI_none_iff.2 fun x hx e => ?_).symm
    exact List.find?_eq_none.1 h x (by simpa using hx) (isI_iff.2 e)
  | some y =>
    have h1 := List.mem_of_find?_eq_some h
    have h2 := isI_iff.1 (List.find?_some h)
    rw [← h2]
    exact (findI_of_mem hr (by simpa using h1)).symm
theorem lastK_kind {xs : List Inode} (hr : riseI xs) (a : Int) : (lastK xs a).getD 0 = kindF (findI xs) a := by
  rw [lastK_eq hr]
  unfold kindF
  cases findI xs a <;> rfl
theorem cntM_getD (p : Int × Int → Bool) (ps : List (Int × Int)) : (cntM p ps).getD 0 = ((ps.filter p).length : Int) := by
  unfold cntM
  split
  · rename_i h; rw [h]; rfl
  · rfl
theorem pairsE_cnt (d a : Int) (es : List Entry) : (((pairsE d es).filter fun p => p.2 == a).length : Int) = cntE es a := by
  unfold pairsE cntE
  rw [List.filter_map, List.length_map, ← List.countP_eq_length_filter]
  rfl
theorem toM_leads (xs : List Inode) (a : Int) : (toM (pairsL xs) a).getD 0 = leadsL xs a := by
  unfold toM
  rw [cntM_getD]
  induction xs with
  | nil => rfl
  | cons x xs ih =>
    show ((((pairsE x.no x.entries ++ pairsL xs).filter fun p => p.2 == a).length : Nat) : Int) = cntE x.entries a + leadsL xs a
    rw [List.filter_append, List.length_append, ← ih, ← pairsE_cnt x.no a]
    omega
theorem pairsE_dirs (kf : Int → Option Int) (d a : Int) (es : List Entry) : (((pairsE d es).filter fun p => p.1 == a && (kf p.2).getD 0 == 2).length : Int) = if d = a then ((es.countP fun e => (kf e.no).getD 0 == 2 : Nat) : Int) else 0 := by
  unfold pairsE
  rw [List.filter_map, List.length_map, ← List.countP_eq_length_filter]
  by_cases h : d = a
  · rw [if_pos h]
    congr 1
    congr 1
    funext e
    simp [h]
  · rw [if_neg h]
    have : List.countP ((fun p : Int × Int => p.1 == a && (kf p.2).getD 0 == 2) ∘ fun e : Entry => (d, e.no)) es = 0 := by
      rw [List.countP_eq_zero]
      intro e _
      simp [h]
    rw [this]; rfl
theorem dirM_dirs (kf : Int → Option Int) : ∀ {xs : List Inode}, riseI xs → ∀ {x : Inode}, x ∈ xs → (dirM kf (pairsL xs) x.no).getD 0 = ((x.entries.countP fun e => (kf e.no).getD 0 == 2 : Nat) : Int) := by
  intro xs hr x hx
  unfold dirM
  rw [cntM_getD]
  induction xs with
  | nil => cases hx
  | cons y ys ih =>
    have hr2 : riseI ys := (List.pairwise_cons.1 hr).2
    have hlt : ∀ z ∈ ys, y.no < z.no := fun z hz => (List.pairwise_cons.1 hr).1 z.no (List.mem_map.2 ⟨z, hz, rfl⟩)
    show ((((pairsE y.no y.entries ++ pairsL ys).filter fun p => p.1 == x.no && (kf p.2).getD 0 == 2).length : Nat) : Int) = _
    rw [List.filter_append, List.length_append]
    have h1 := pairsE_dirs kf y.no x.no y.entries
    rcases List.mem_cons.1 hx with rfl | hx'
    · rw [if_pos rfl] at h1
      have h2 : ((pairsL ys).filter fun p => p.1 == x.no && (kf p.2).getD 0 == 2).length = 0 := by
        rw [List.length_eq_zero_iff, List.filter_eq_nil_iff]
        intro p hp
        obtain ⟨z, hz, hp2⟩ := List.mem_flatMap.1 hp
        obtain ⟨e, _, rfl⟩ := List.mem_map.1 hp2
        have := hlt z hz
        have hne : ¬ z.no = x.no := by omega
        simp [hne]
      omega
    · have := hlt x hx'
      rw [if_neg (by omega)] at h1
      have := ih hr2 hx'
      omega
theorem dirM_eq {xs : List Inode} (hr : riseI xs) {x : Inode} (hx : x ∈ xs) : (dirM (lastK xs) (pairsL xs) x.no).getD 0 = dirsF (findI xs) x.entries := by
  rw [dirM_dirs _ hr hx]
  unfold dirsF
  congr 2
  funext e
  rw [lastK_kind hr]
  by_cases h : kindF (findI xs) e.no = 2 <;> simp [h]
theorem leadsF_chain (up : Int → Option Int) : ∀ (n : Nat) (a : Int), leadsF up a n = (chainG (fun x => (up x).getD 0) n a == 1)
  | 0, _ => rfl
  | n + 1, a => by
    unfold leadsF chainG
    by_cases h : a = 1
    · rw [if_pos h, if_pos h]; simp [h]
    · rw [if_neg h, if_neg h]; exact leadsF_chain up n _
/-- All entries lead to something, and none to the root. -/
def lead1 (xs : List Inode) : Prop := ∀ x ∈ xs, ∀ e ∈ x.entries, e.no ≠ 1 ∧ (findI xs e.no).isSome = true
theorem okLeads_iff {xs : List Inode} (hr : riseI xs) (hk : ∀ x ∈ xs, rightI x = true) : okLeads (lastK xs) (pairsL xs) = true ↔ lead1 xs := by
  have hkind : ∀ x ∈ xs, x.kind ≠ 0 := fun x hx q => by
    have := hk x hx
    unfold rightI at this
    rw [q] at this
    simp at this
  unfold okLeads
  rw [List.all_eq_true]
  have key : ∀ n : Int, okLead (lastK xs) (0, n) = true ↔ n ≠ 1 ∧ (findI xs n).isSome = true := fun n => by
    unfold okLead
    rw [lastK_kind hr]
    simp only [Bool.and_eq_true, Bool.not_eq_true', beq_eq_false_iff_ne]
    constructor
    · rintro ⟨h1, h2⟩
      refine ⟨h2, ?_⟩
      cases h : findI xs n with
      | some _ => rfl
      | none => exact absurd (by unfold kindF; rw [h]; rfl) h1
    · rintro ⟨h1, h2⟩
      obtain ⟨y, hy⟩ := Option.isSome_iff_exists.1 h2
      exact ⟨by rw [kindF_some hy]; exact hkind y (mem_of_findI hy), h1⟩
  have e0 : ∀ p : Int × Int, okLead (lastK xs) p = okLead (lastK xs) (0, p.2) := fun p => rfl
  constructor
  · intro h x hx e he
    have := h (x.no, e.no) (List.mem_flatMap.2 ⟨x, hx, List.mem_map.2 ⟨e, he, rfl⟩⟩)
    rw [e0] at this
    exact (key e.no).1 this
  · intro h p hp
    obtain ⟨x, hx, hp2⟩ := List.mem_flatMap.1 hp
    obtain ⟨e, he, rfl⟩ := List.mem_map.1 hp2
    rw [e0]
    exact (key e.no).2 (h x hx e he)
/-- Who has one lead has one directory, whoever asks. -/
theorem ups_eq {xs : List Inode} (hr : riseI xs) {a : Int} (h : leadsL xs a = 1) : ∃ p ∈ xs, (∃ e ∈ p.entries, e.no = a) ∧ upR xs a = p.no ∧ (upM (pairsL xs) a).getD 0 = p.no := by
  have hfit := fit_list hr
  have hex : ∃ p ∈ xs, ∃ e ∈ p.entries, e.no = a := by
    apply Classical.byContradiction
    intro hne
    have : leadsL xs a = 0 := leadsL_zero.2 fun x hx e he q => hne ⟨x, hx, e, he, q⟩
    omega
  obtain ⟨p, hp, e, he, hea⟩ := hex
  have huniq : ∀ y ∈ xs, (∃ f ∈ y.entries, f.no = a) → y = p := fun y hy ⟨f, hf, hf2⟩ => by
    by_cases q : y.no = p.no
    · have h1 := findI_of_mem hr hy
      have h2 := findI_of_mem hr hp
      rw [q, h2] at h1
      exact (by simpa using h1 : p = y).symm
    · have h2 := hfit.two a y.no p.no y p (findI_of_mem hr hy) (findI_of_mem hr hp) q
      have h3 := cntE_pos hf
      have h4 := cntE_pos he
      rw [hf2] at h3
      rw [hea] at h4
      omega
  refine ⟨p, hp, ⟨e, he, hea⟩, ?_, ?_⟩
  · unfold upR
    cases q : xs.find? (fun x => x.entries.any fun e => e.no == a) with
    | none => exact absurd (List.any_eq_true.2 ⟨e, he, by simp [hea]⟩) (List.find?_eq_none.1 q p hp)
    | some y =>
      have q1 := List.find?_some q
      obtain ⟨f, hf, hf2⟩ := List.any_eq_true.1 q1
      rw [huniq y (List.mem_of_find?_eq_some q) ⟨f, hf, by simpa using hf2⟩]; rfl
  · unfold upM
    cases q : (pairsL xs).reverse.find? (fun p => p.2 == a) with
    | none =>
      have := List.find?_eq_none.1 q (p.no, e.no) (by rw [List.mem_reverse]; exact List.mem_flatMap.2 ⟨p, hp, List.mem_map.2 ⟨e, he, rfl⟩⟩)
      exact absurd (by simp [hea]) this
    | some y =>
      have h1 := List.mem_of_find?_eq_some q
      rw [List.mem_reverse] at h1
      obtain ⟨z, hz, hz2⟩ := List.mem_flatMap.1 h1
      obtain ⟨f, hf, rfl⟩ := List.mem_map.1 hz2
      have h2 := List.find?_some q
      rw [huniq z hz ⟨f, hf, by simpa using h2⟩] at *
      rfl
theorem dirsR_some {xs : List Inode} : ∀ {es : List Entry} {n d : Int}, dirsR xs es n = some d → ∀ e ∈ es, e.no ≠ 1 ∧ (findI xs e.no).isSome = true
  | [], _, _, _, e, he => by cases he
  | f :: es, n, d, h, e, he => by
    unfold dirsR at h
    cases hf : findI xs f.no with
    | none => rw [hf] at h; cases h
    | some y =>
      rw [hf] at h
      change (if y.no = 1 then none else dirsR xs es (if y.kind = 2 then n + 1 else n)) = some d at h
      by_cases h1 : y.no = 1
      · rw [if_pos h1] at h; cases h
      · rw [if_neg h1] at h
        rcases List.mem_cons.1 he with rfl | he
        · exact ⟨by rw [← findI_no hf]; exact h1, by rw [hf]; rfl⟩
        · exact dirsR_some h e he
def rootR (xs : List Inode) : Bool := match findI xs 1 with
  | none => false
  | some r => r.kind == 2
def refB (xs : List Inode) : Bool := xs.all (linkedR xs) && rootR xs
theorem sums_eq {xs : List Inode} (hr : riseI xs) (hk : ∀ x ∈ xs, rightI x = true) : sumsB xs = refB xs := by
  have hroot : ((lastK xs 1).getD 0 == 2) = rootR xs := by
    rw [lastK_kind hr]
    unfold kindF rootR
    cases findI xs 1 <;> rfl
  have hdirp : ∀ p ∈ xs, p.entries ≠ [] → p.kind = 2 := fun p hp h => by
    apply Classical.byContradiction
    intro q
    exact h (rightI_bare (hk p hp) q)
  -- the way up stays among directories
  have hway : ∀ (u : Int → Int), (∀ a, leadsL xs a = 1 → ∃ p ∈ xs, p.kind = 2 ∧ u a = p.no) → (∀ y ∈ xs, y.kind = 2 → y.no ≠ 1 → leadsL xs y.no = 1) → ∀ (l : List Int) (x : Inode), x ∈ xs → x.kind = 2 → UpG u (x.no :: l) → ∀ a ∈ x.no :: l, ∃ y ∈ xs, y.kind = 2 ∧ y.no = a := fun u hu h1 l => by
    induction l with
    | nil =>
      intro x hx hxk _ a ha
      exact ⟨x, hx, hxk, (by simpa using ha : a = x.no).symm⟩
    | cons b l ih =>
      intro x hx hxk hup a ha
      obtain ⟨q1, q2, q3⟩ := hup
      obtain ⟨p, hp, hpk, hpu⟩ := hu x.no (h1 x hx hxk q1)
      rcases List.mem_cons.1 ha with rfl | ha
      · exact ⟨x, hx, hxk, rfl⟩
      · have e : b = p.no := q2.trans hpu
        subst e
        exact ih p hp hpk q3 a ha
  have hupR : ∀ a, leadsL xs a = 1 → ∃ p ∈ xs, p.kind = 2 ∧ upR xs a = p.no := fun a h => by
    obtain ⟨p, hp, ⟨e, he, _⟩, h1, _⟩ := ups_eq hr h
    exact ⟨p, hp, hdirp p hp (fun q => by rw [q] at he; cases he), h1⟩
  have hupM : ∀ a, leadsL xs a = 1 → ∃ p ∈ xs, p.kind = 2 ∧ (fun x => (upM (pairsL xs) x).getD 0) a = p.no := fun a h => by
    obtain ⟨p, hp, ⟨e, he, _⟩, _, h1⟩ := ups_eq hr h
    exact ⟨p, hp, hdirp p hp (fun q => by rw [q] at he; cases he), h1⟩
  have hsame : ∀ a, leadsL xs a = 1 → (fun x => (upM (pairsL xs) x).getD 0) a = upR xs a := fun a h => by
    obtain ⟨p, hp, _, h1, h2⟩ := ups_eq hr h
    rw [h1]; exact h2
  rw [Bool.eq_iff_iff]
  unfold sumsB refB
  rw [hroot]
  simp only [Bool.and_eq_true, okLeads_iff hr hk, List.all_eq_true]
  constructor
  · rintro ⟨⟨hL, hR⟩, hA⟩
    have h1 : ∀ y ∈ xs, y.kind = 2 → y.no ≠ 1 → leadsL xs y.no = 1 := fun y hy hyk hy1 => by
      have := hA y hy
      unfold linkedF at this
      rw [if_pos hyk] at this
      simp only [Bool.and_eq_true, Bool.or_eq_true, beq_iff_eq] at this
      have q := (this.2.resolve_left hy1).1
      rw [toM_leads] at q; exact q
    refine ⟨fun x hx => ?_, hR⟩
    have hx2 := hA x hx
    unfold linkedF at hx2
    unfold linkedR
    by_cases hxk : x.kind = 2
    · rw [if_pos hxk] at hx2
      rw [if_neg (by simpa using hxk), dirsR_of (hL x hx)]
      simp only [Bool.and_eq_true, Bool.or_eq_true, beq_iff_eq] at hx2
      rw [dirM_eq hr hx] at hx2
      show (if x.links ≠ 2 + dirsF (findI xs) x.entries ∨ x.no = 1 then _ else _) = true
      by_cases hx1 : x.no = 1
      · rw [if_pos (.inr hx1), hx1]
        have h0 : leadsL xs 1 = 0 := leadsL_zero.2 fun y hy e he => (hL y hy e he).1
        rw [h0, ← hx2.1]; simp
      · rw [if_neg (by simp [hx1, hx2.1]), h1 x hx hxk hx1]
        have hc := (hx2.2.resolve_left hx1).2
        rw [leadsF_chain] at hc
        have hc : chainG (fun x => (upM (pairsL xs) x).getD 0) xs.length x.no = 1 := by simpa using hc
        obtain ⟨l, q1, q2⟩ := chainG_list hc
        have q3 : UpG (upR xs) (x.no :: l) := q1.congr fun a ha ha1 => by
          obtain ⟨y, hy, hyk, rfl⟩ := hway _ hupM h1 l x hx hxk q1 a ha
          exact (hsame y.no (h1 y hy hyk ha1)).symm
        rw [chainR_eq, chainG_of q3 (by omega)]
        rfl
    · rw [if_neg hxk] at hx2
      rw [if_pos hxk]
      rw [toM_leads] at hx2
      exact hx2
  · rintro ⟨hA, hR⟩
    have hlink : ∀ x ∈ xs, x.kind = 2 → (∀ e ∈ x.entries, e.no ≠ 1 ∧ (findI xs e.no).isSome = true) ∧ x.links = 2 + dirsF (findI xs) x.entries ∧ (x.no ≠ 1 → leadsL xs x.no = 1 ∧ chainR xs (xs.length + 1) x.no = 1) := fun x hx hxk => by
      have := hA x hx
      unfold linkedR at this
      rw [if_neg (by simpa using hxk)] at this
      cases hd : dirsR xs x.entries 2 with
      | none => rw [hd] at this; cases this
      | some d =>
        have hE := dirsR_some hd
        rw [dirsR_of hE] at hd
        rw [dirsR_of hE] at this
        refine ⟨hE, ?_⟩
        change (if x.links ≠ 2 + dirsF (findI xs) x.entries ∨ x.no = 1 then _ else _) = true at this
        by_cases hx1 : x.no = 1
        · rw [if_pos (.inr hx1)] at this
          simp only [Bool.and_eq_true, beq_iff_eq] at this
          exact ⟨this.1, fun q => absurd hx1 q⟩
        · by_cases hl : x.links = 2 + dirsF (findI xs) x.entries
          · rw [if_neg (by simp [hx1, hl])] at this
            simp only [Bool.and_eq_true, beq_iff_eq] at this
            exact ⟨hl, fun _ => this⟩
          · rw [if_pos (.inl hl)] at this
            simp only [Bool.and_eq_true, beq_iff_eq] at this
            exact absurd this.1 hl
    have hL : lead1 xs := fun x hx e he => by
      by_cases hxk : x.kind = 2
      · exact (hlink x hx hxk).1 e he
      · rw [rightI_bare (hk x hx) hxk] at he; cases he
    have h1 : ∀ y ∈ xs, y.kind = 2 → y.no ≠ 1 → leadsL xs y.no = 1 := fun y hy hyk hy1 => ((hlink y hy hyk).2.2 hy1).1
    refine ⟨⟨hL, hR⟩, fun x hx => ?_⟩
    unfold linkedF
    by_cases hxk : x.kind = 2
    · rw [if_pos hxk]
      obtain ⟨_, g2, g3⟩ := hlink x hx hxk
      simp only [Bool.and_eq_true, Bool.or_eq_true, beq_iff_eq]
      rw [dirM_eq hr hx]
      refine ⟨g2, ?_⟩
      by_cases hx1 : x.no = 1
      · exact .inl hx1
      · right
        rw [toM_leads, leadsF_chain]
        refine ⟨(g3 hx1).1, ?_⟩
        have hc := (g3 hx1).2
        rw [chainR_eq] at hc
        have hs : chainG (upR xs) xs.length x.no = 1 := chainG_short (nos := xs.map (·.no)) hc (fun l q1 a ha => by
          obtain ⟨y, hy, _, rfl⟩ := hway _ hupR h1 l x hx hxk q1 a ha
          exact List.mem_map.2 ⟨y, hy, rfl⟩) (by simp)
        obtain ⟨l, q1, q2⟩ := chainG_list hs
        have q3 : UpG (fun x => (upM (pairsL xs) x).getD 0) (x.no :: l) := q1.congr fun a ha ha1 => by
          obtain ⟨y, hy, hyk, rfl⟩ := hway _ hupR h1 l x hx hxk q1 a ha
          exact hsame y.no (h1 y hy hyk ha1)
        rw [chainG_of q3 q2]; rfl
    · rw [if_neg hxk, toM_leads]
      have := hA x hx
      unfold linkedR at this
      rw [if_pos hxk] at this
      exact this
end Go.Proofs.YtdiaibkpcnknbaaDoor

namespace Go.Proofs.YtdiaibkpcnknbaaDoor
open Go.RowKit Go.Sort
set_option linter.unusedVariables false
/-! ### the reference's pages are the runs' pages -/
theorem pagesOf_more (p : Run) (h : 0 ≤ p.count) : pagesOf { p with count := p.count + 1 } = pagesOf p ++ [p.at_ + p.count] := by
  unfold pagesOf
  show (List.range (p.count + 1).toNat).map (fun i => p.at_ + (i : Nat)) = _
  rw [show (p.count + 1).toNat = p.count.toNat + 1 by omega, List.range_succ, List.map_append]
  congr 1
  show [p.at_ + (p.count.toNat : Int)] = _
  rw [show ((p.count.toNat : Nat) : Int) = p.count by omega]
theorem places_pages (xs : List Run) (hR : rightB xs = true) : ∀ k : Nat, k ≤ 64 → (placesP xs k).filter (fun p => decide (0 ≤ p)) = pagesL (cutL xs k)
  | 0, _ => by
    have := cutL_zero xs hR
    show [] = pagesL (cutL xs 0)
    rw [this]; rfl
  | k + 1, hk => by
    have ih := places_pages xs hR k (by omega)
    have hc := (cut_right xs k hR).1
    rw [cut_step xs k (by omega) hR, placesP_snoc, List.filter_append, ih]
    generalize hl : cutL xs (k : Int) = l at *
    cases hv : getB xs (k : Int) with
    | none =>
      show pagesL l ++ ([(-1 : Int)].filter _) = pagesL l
      simp
    | some v =>
      have hb := (getB_bound xs (by omega) (by omega) hR hv).1
      have e1 : ([((some v).getD (-1) : Int)].filter fun p => decide (0 ≤ p)) = [v] := by simp [hb]
      rw [e1]
      rcases nil_or_snoc l with rfl | ⟨l0, p, rfl⟩
      · show [] ++ [v] = pagesL [⟨(k : Int), v, 1⟩]
        simp [pagesL, pagesOf]
      · obtain ⟨_, j2, _⟩ := (rightB_snoc _ _).1 hc
        obtain ⟨x0, x1, x2, x3, x4, x5⟩ := (ok1_iff p).1 j2
        rw [drawStep_snoc]
        split
        · rename_i hg
          obtain ⟨_, g2⟩ := (goesB_iff j2).1 hg
          rw [wrap64_in (by omega) (by omega), g2]
          unfold pagesL
          rw [List.flatMap_append, List.flatMap_append]
          simp only [List.flatMap_cons, List.flatMap_nil, List.append_nil]
          rw [pagesOf_more p (by omega), List.append_assoc]
        · unfold pagesL
          rw [show List.flatMap pagesOf (l0 ++ [p] ++ [⟨(k : Int), v, 1⟩]) = List.flatMap pagesOf (l0 ++ [p]) ++ List.flatMap pagesOf [⟨(k : Int), v, 1⟩] from List.flatMap_append ..]
          congr 1
          simp [pagesOf]
theorem refPages_eq {xs : List Run} (hR : rightB xs = true) : refPages xs = runsP xs := by
  unfold refPages
  rw [if_pos hR, places_pages xs hR 64 (Nat.le_refl _), show cutL xs ((64 : Nat) : Int) = xs from right_all hR]
  rfl
theorem refPages_inode {x : Inode} (h : rightI x = true) : refPages x.runs = runsP x.runs := by
  unfold rightI at h
  simp only [Bool.and_eq_true] at h
  obtain ⟨_, h⟩ := h
  have hnil : x.runs = [] → refPages x.runs = runsP x.runs := fun e => by rw [e]; exact refPages_eq rfl
  split at h
  · unfold fileB at h
    simp only [Bool.and_eq_true] at h
    exact refPages_eq h.1.1.2
  · split at h
    · unfold dirB at h
      simp only [Bool.and_eq_true, beq_iff_eq] at h
      exact hnil (List.eq_nil_of_length_eq_zero (by omega))
    · split at h
      · unfold linkB at h
        simp only [Bool.and_eq_true, beq_iff_eq] at h
        exact hnil (List.eq_nil_of_length_eq_zero (by omega))
      · cases h
def refPl (xs : List Inode) : List Int := xs.flatMap fun x => refPages x.runs
theorem refPl_eq : ∀ {xs : List Inode}, (∀ x ∈ xs, rightI x = true) → refPl xs = placesL xs
  | [], _ => rfl
  | x :: xs, h => by
    unfold refPl placesL
    rw [List.flatMap_cons, List.flatMap_cons, refPages_inode (h x (by simp))]
    congr 1
    exact refPl_eq fun y hy => h y (by simp [hy])
theorem refPl_snoc {xs : List Inode} {k : Nat} {x : Inode} (h : xs[k]? = some x) : refPl (xs.take (k + 1)) = refPl (xs.take k) ++ refPages x.runs := by
  unfold refPl
  rw [List.take_add_one, h, List.flatMap_append]
  simp
/-- The pages that were seen. -/
def seenR (n : Nat) (ps : List Int) : List Bool := (List.range n).map fun (i : Nat) => decide ((i : Int) ∈ ps)
theorem seenR_len (n : Nat) (ps : List Int) : (seenR n ps).length = n := by simp [seenR]
theorem seenR_nil (n : Nat) : seenR n [] = List.replicate n false := by
  unfold seenR
  rw [List.eq_replicate_iff]
  simp
theorem seenR_get {n : Nat} {ps : List Int} {j : Nat} (h : j < n) : (seenR n ps)[j]? = some (decide ((j : Int) ∈ ps)) := by simp [seenR, h]
theorem seenR_set {n : Nat} {ps : List Int} {j : Nat} (h : j < n) : (seenR n ps).set j true = seenR n (ps ++ [(j : Int)]) := by
  apply List.ext_getElem?
  intro i
  rw [List.getElem?_set]
  by_cases hi : j = i
  · subst hi
    rw [if_pos rfl, if_pos (by rw [seenR_len]; exact h), seenR_get h]
    simp
  · rw [if_neg hi]
    by_cases hl : i < n
    · rw [seenR_get hl, seenR_get hl]
      have : ((i : Int) ∈ ps ++ [(j : Int)]) ↔ (i : Int) ∈ ps := by
        simp only [List.mem_append, List.mem_singleton]
        constructor
        · rintro (q | q)
          · exact q
          · exact absurd (by omega : j = i) hi
        · exact .inl
      rw [decide_eq_decide.2 this]
    · rw [List.getElem?_eq_none (by rw [seenR_len]; omega), List.getElem?_eq_none (by rw [seenR_len]; omega)]
/-- So far all is well. -/
theorem okPl_bad1 {lim : Int} {ps : List Int} {k : Nat} {a : Int} (h : ps[k]? = some a) (ha : lim ≤ a) : okPl lim ps = false := by
  unfold okPl
  rw [Bool.and_eq_false_iff]
  right
  rw [List.all_eq_false]
  exact ⟨a, List.mem_of_getElem? h, by simpa using ha⟩
theorem okPl_bad2 {lim : Int} {ps : List Int} {k : Nat} {a : Int} (h : ps[k]? = some a) (ha : a ∈ ps.take k) : okPl lim ps = false := by
  unfold okPl
  rw [Bool.and_eq_false_iff]
  left
  rw [decide_eq_false_iff_not]
  intro hn
  obtain ⟨j, hj, e⟩ := List.mem_iff_getElem.1 ha
  rw [List.length_take] at hj
  rw [List.getElem_take] at e
  obtain ⟨hk, e2⟩ := List.getElem?_eq_some_iff.1 h
  exact List.pairwise_iff_getElem.1 hn j k (by omega) hk (by omega) (by rw [e, e2])
theorem okPl_good {lim : Int} {ps : List Int} (h : ∀ k a, ps[k]? = some a → a < lim ∧ a ∉ ps.take k) : okPl lim ps = true := by
  unfold okPl
  rw [Bool.and_eq_true, decide_eq_true_eq, List.all_eq_true]
  constructor
  · refine List.pairwise_iff_getElem.2 fun i j hi hj hij he => ?_
    have h1 := (h j ps[j] (List.getElem?_eq_getElem hj)).2
    exact h1 (List.mem_of_getElem? (i := i) (by rw [List.getElem?_take, if_pos hij, List.getElem?_eq_getElem hi, he]))
  · intro a ha
    obtain ⟨k, hk, rfl⟩ := List.mem_iff_getElem.1 ha
    simpa using (h k _ (List.getElem?_eq_getElem hk)).1
theorem refPages_bound {xs : List Run} {a : Int} (h : a ∈ refPages xs) : 0 ≤ a ∧ a ≤ 2147483647 := by
  unfold refPages at h
  split at h
  · rename_i hR
    obtain ⟨h1, h2⟩ := List.mem_filter.1 h
    unfold placesP at h1
    obtain ⟨j, hj, rfl⟩ := List.mem_map.1 h1
    have hj' : j < 64 := by simpa using hj
    cases hv : getB xs (j : Int) with
    | none => rw [hv] at h2; simp at h2
    | some v => exact getB_bound xs (by omega) (by omega) hR hv
  · cases h
theorem refPl_bound {xs : List Inode} {a : Int} (h : a ∈ refPl xs) : 0 ≤ a ∧ a ≤ 2147483647 := by
  obtain ⟨x, _, hx⟩ := List.mem_flatMap.1 h
  exact refPages_bound hx
theorem refPages_len64 (xs : List Run) : (refPages xs).length ≤ 64 := by
  unfold refPages
  split
  · have := List.length_filter_le (fun p : Int => decide (0 ≤ p)) (placesP xs 64)
    rw [placesP_len] at this; exact this
  · simp
theorem refPl_len : ∀ (xs : List Inode), (refPl xs).length ≤ 64 * xs.length
  | [] => by simp [refPl]
  | x :: xs => by
    have h1 := refPl_len xs
    have h2 := refPages_len64 x.runs
    unfold refPl at h1 ⊢
    rw [List.flatMap_cons, List.length_append, List.length_cons]
    omega
end Go.Proofs.YtdiaibkpcnknbaaDoor

namespace Go.Proofs.YtdiaibkpcnknbaaDoor
open Go.RowKit Go.Sort
set_option linter.unusedVariables false
theorem cntE_take {es : List Entry} {m : Nat} {e : Entry} (h : es[m]? = some e) (n : Int) : cntE (es.take (m + 1)) n = cntE (es.take m) n + if e.no = n then 1 else 0 := by
  rw [List.take_add_one, h]
  unfold cntE
  rw [List.countP_append]
  by_cases q : e.no = n
  · simp [q]
  · simp [q]
theorem leads_take {xs : List Inode} {k : Nat} {x : Inode} (h : xs[k]? = some x) (n : Int) : leadsL (xs.take (k + 1)) n = leadsL (xs.take k) n + cntE x.entries n := by
  rw [List.take_add_one, h, leadsL_app]
  simp [leadsL]
theorem cntE_le (es : List Entry) (n : Int) : cntE es n ≤ es.length := by
  unfold cntE
  have := List.countP_le_length (p := fun e : Entry => e.no == n) (l := es)
  omega
theorem leads_le {xs : List Inode} (h : ∀ x ∈ xs, x.entries.length ≤ 1000) (n : Int) : leadsL xs n ≤ 1000 * xs.length := by
  induction xs with
  | nil => simp [leadsL]
  | cons x xs ih =>
    have h1 := ih fun y hy => h y (by simp [hy])
    have h2 := cntE_le x.entries n
    have h3 := h x (by simp)
    show cntE x.entries n + leadsL xs n ≤ _
    rw [List.length_cons]
    push_cast
    omega
set_option maxHeartbeats 8000000 in
set_option maxRecDepth 100000 in
theorem ref_leads (s : State) (cs : List Value) (no : Int) (hlen : s.inodes.length ≤ 1000) (hent : ∀ x ∈ s.inodes, x.entries.length ≤ 1000) (h : FH) (w : World) (hs : Sits h w) (rS : repState h cs s) :
    Calls Tryd.prog 57 #[.agg cs.toArray, .int .i64 no] w fun e w' => e = .returned (.int .i64 (leadsL s.inodes no)) ∧ Ext h w h w' := by
  obtain ⟨A1, c1, A2, c2, rfl, l1, r1, l2, r2⟩ := rS
  have hl := r1.1
  obtain ⟨h1, E1, hb1, le1, -⟩ := (Ext.refl hs).boxF #[.int .i64 s.next, .slice A1 s.inodes.length c1, .slice A2 s.bads.length c2] 31
  have R1 := hid (r1.mono le1)
  have HENT := hid hent
  have HLEN := hid hlen
  have hb1 := hid hb1
  clear r1 l1 l2 r2 le1 hent hlen
  go_enter Tryd.func57, Tryd.ntmps57
  go_upto_region 1 with (fail)
  generalize hgS : w.heap.size = gS at *
  with_reducible generalize w.alloc (.cells #[.int .i64 s.next, .slice A1 s.inodes.length c1, .slice A2 s.bads.length c2] 31) = W1 at E1 ⊢
  clear hgS
  have E1 := hid E1
  go_wp2_with fail
  go_loopw [5, 6] (fun n i wr => ∃ k : Nat, k ≤ s.inodes.length ∧ n = .int .i64 (leadsL (s.inodes.take k) no) ∧ i = .int .i64 (k : Int) ∧ Hid (Ext h w h1 wr)) (fun _ i _ => s.inodes.length - (intOf i).toNat)
  case atStart => exact ⟨0, Nat.zero_le _, rfl, rfl, E1⟩
  case round =>
    obtain ⟨k, hk, rfl, rfl, E⟩ := hrel
    have q1 := sits_cellG (j := 1) (v := .slice A1 s.inodes.length c1) E.out.sits hb1.out rfl
    by_cases hlt : k < s.inodes.length
    · have hlt' : (k : Int) < (s.inodes.length : Int) := by omega
      obtain ⟨x, hx⟩ : ∃ x, s.inodes[k]? = some x := ⟨_, List.getElem?_eq_getElem hlt⟩
      have HX := hid hx
      obtain ⟨b, off, A5, c5, A6, c6, hix, hA, ⟨d0, d1, d2, d3, d4, d5, d6⟩, rx⟩ := R1.out.ixInode hx E.out.sits c1
      have RX := hid rx
      clear d1 d2 d3 d4 d6 hx rx
      have hml := HENT.out x (List.mem_of_getElem? HX.out)
      have hLK := leads_le (fun y hy => HENT.out y (List.mem_of_mem_take hy) : ∀ y ∈ s.inodes.take k, y.entries.length ≤ 1000) no
      have hLN := leadsL_nonneg (s.inodes.take k) no
      rw [List.length_take] at hLK
      have HB := hid (show 0 ≤ leadsL (s.inodes.take k) no ∧ leadsL (s.inodes.take k) no ≤ 1000000 by have := HLEN.out; omega)
      have HL1 := hid (leads_take HX.out no)
      obtain ⟨L0, hL0⟩ : ∃ L, leadsL (s.inodes.take k) no = L := ⟨_, rfl⟩
      rw [hL0] at HB HL1 ⊢
      clear hLK hLN hL0
      go_wp2_with fail
      go_loopw [5, 7] (fun n j wr2 => ∃ m : Nat, m ≤ x.entries.length ∧ n = .int .i64 (L0 + cntE (x.entries.take m) no) ∧ j = .int .i64 (m : Int) ∧ wr2 = wr) (fun _ j _ => x.entries.length - (intOf j).toNat)
      case atStart => exact ⟨0, Nat.zero_le _, by show _ = Value.int .i64 (L0 + 0); rw [Int.add_zero], rfl, rfl⟩
      case round =>
        obtain ⟨m, hm, rfl, rfl, rfl⟩ := hrel
        by_cases hmt : m < x.entries.length
        · have hmt' : (m : Int) < (x.entries.length : Int) := by omega
          obtain ⟨e, he⟩ : ∃ e, x.entries[m]? = some e := ⟨_, List.getElem?_eq_getElem hmt⟩
          obtain ⟨z1, z2, z3, z4, hz, _, _, hre, _⟩ := RX.out
          obtain ⟨rfl, rfl⟩ : A5 = z1 ∧ c5 = z2 := by simp only [List.cons.injEq, Value.slice.injEq] at hz; exact ⟨hz.2.2.2.2.2.1.1, hz.2.2.2.2.2.1.2.2⟩
          obtain ⟨b2, off2, hix2, g0, g1, _⟩ := hre.ixEntry he E.out.sits c5
          have HCT := hid (cntE_take he no)
          have hce := cntE_le (x.entries.take m) no
          have hcn := cntE_nonneg (x.entries.take m) no
          rw [List.length_take] at hce
          have hwr : IntKind.i64.wrap (L0 + cntE (x.entries.take m) no + 1) = L0 + cntE (x.entries.take m) no + 1 := by have := HB.out; rw [IntKind.wrap_i64]; omega
          by_cases hn : e.no = no
          · have bn : (e.no == no) = true := by simpa using hn
            have hq : cntE (x.entries.take (m + 1)) no = cntE (x.entries.take m) no + 1 := by rw [HCT.out, if_pos hn]
            have HQ := hid hq
            clear hn hq he hre hz g0
            go_wp2_with fail
            go_roundw
            case rel => exact ⟨m + 1, by omega, by rw [HQ.out, Int.add_assoc], by go_num, (by first | rfl | trivial)⟩
            case measure => simp [intOf]; omega
          · have bn : (e.no == no) = false := by simpa using hn
            have HQ := hid (show cntE (x.entries.take (m + 1)) no = cntE (x.entries.take m) no by rw [HCT.out, if_neg hn]; omega)
            clear hn he hre hz g0
            go_wp2_with fail
            go_roundw
            case rel => exact ⟨m + 1, by omega, by rw [HQ.out], by go_num, (by first | rfl | trivial)⟩
            case measure => simp [intOf]; omega
        · have hmt' : ¬ ((m : Int) < (x.entries.length : Int)) := by omega
          have HQ := hid (show leadsL (s.inodes.take (k + 1)) no = L0 + cntE (x.entries.take m) no by rw [HL1.out, List.take_of_length_le (by omega)])
          go_wp2_with fail
          go_roundw
          case rel => exact ⟨k + 1, by omega, by rw [HQ.out], by go_num, E⟩
          case measure => simp [intOf]; omega
    · have hlt' : ¬ ((k : Int) < (s.inodes.length : Int)) := by omega
      have HQ := hid (show leadsL (s.inodes.take k) no = leadsL s.inodes no by rw [List.take_of_length_le (by omega)])
      go_wp2_with fail
      go_ret
      rw [HQ.out]
      exact ⟨rfl, E.out.back⟩

theorem any_take {es : List Entry} {m : Nat} {e : Entry} {no : Int} (h : (es.take m).any (fun e => e.no == no) = false) (he : es[m]? = some e) (hn : (e.no == no) = false) : (es.take (m + 1)).any (fun e => e.no == no) = false := by
  rw [List.take_add_one, he, List.any_append, h]
  simp [hn]
set_option maxHeartbeats 8000000 in
set_option maxRecDepth 100000 in
theorem ref_up (s : State) (cs : List Value) (no : Int) (u : Int) (hu : upR s.inodes no = u) (hlen : s.inodes.length ≤ 1000) (hent : ∀ x ∈ s.inodes, x.entries.length ≤ 1000) (h : FH) (w : World) (hs : Sits h w) (rS : repState h cs s) :
    Calls Tryd.prog 58 #[.agg cs.toArray, .int .i64 no] w fun e w' => e = .returned (.int .i64 u) ∧ Ext h w h w' := by
  obtain ⟨A1, c1, A2, c2, rfl, l1, r1, l2, r2⟩ := rS
  have hl := r1.1
  obtain ⟨h1, E1, hb1, le1, -⟩ := (Ext.refl hs).boxF #[.int .i64 s.next, .slice A1 s.inodes.length c1, .slice A2 s.bads.length c2] 31
  have R1 := hid (r1.mono le1)
  have HENT := hid hent
  have HLEN := hid hlen
  have hb1 := hid hb1
  clear r1 l1 l2 r2 le1 hent hlen
  have HU := hid hu
  clear hu
  go_enter Tryd.func58, Tryd.ntmps58
  go_upto_region 1 with (fail)
  generalize hgS : w.heap.size = gS at *
  with_reducible generalize w.alloc (.cells #[.int .i64 s.next, .slice A1 s.inodes.length c1, .slice A2 s.bads.length c2] 31) = W1 at E1 ⊢
  clear hgS
  have E1 := hid E1
  go_wp2_with fail
  go_loopw [5] (fun i wr => ∃ k : Nat, k ≤ s.inodes.length ∧ i = .int .i64 (k : Int) ∧ Hid (∀ j y, j < k → s.inodes[j]? = some y → (y.entries.any fun e => e.no == no) = false) ∧ Hid (Ext h w h1 wr)) (fun i _ => s.inodes.length - (intOf i).toNat)
  case atStart => exact ⟨0, Nat.zero_le _, rfl, hid (fun j y hj => by omega), E1⟩
  case round =>
    obtain ⟨k, hk, rfl, HN, E⟩ := hrel
    have q1 := sits_cellG (j := 1) (v := .slice A1 s.inodes.length c1) E.out.sits hb1.out rfl
    by_cases hlt : k < s.inodes.length
    · have hlt' : (k : Int) < (s.inodes.length : Int) := by omega
      obtain ⟨x, hx⟩ : ∃ x, s.inodes[k]? = some x := ⟨_, List.getElem?_eq_getElem hlt⟩
      have HX := hid hx
      obtain ⟨b, off, A5, c5, A6, c6, hix, hA, ⟨d0, d1, d2, d3, d4, d5, d6⟩, rx⟩ := R1.out.ixInode hx E.out.sits c1
      have RX := hid rx
      clear d1 d2 d3 d4 d6 hx rx
      have hml := HENT.out x (List.mem_of_getElem? HX.out)
      go_wp2_with fail
      go_loopw [6] (fun j wr2 => ∃ m : Nat, m ≤ x.entries.length ∧ j = .int .i64 (m : Int) ∧ Hid ((x.entries.take m).any (fun e => e.no == no) = false) ∧ wr2 = wr) (fun j _ => x.entries.length - (intOf j).toNat)
      case atStart => exact ⟨0, Nat.zero_le _, rfl, hid rfl, rfl⟩
      case round =>
        obtain ⟨m, hm, rfl, HM, rfl⟩ := hrel
        by_cases hmt : m < x.entries.length
        · have hmt' : (m : Int) < (x.entries.length : Int) := by omega
          obtain ⟨e, he⟩ : ∃ e, x.entries[m]? = some e := ⟨_, List.getElem?_eq_getElem hmt⟩
          obtain ⟨z1, z2, z3, z4, hz, _, _, hre, _⟩ := RX.out
          obtain ⟨rfl, rfl⟩ : A5 = z1 ∧ c5 = z2 := by simp only [List.cons.injEq, Value.slice.injEq] at hz; exact ⟨hz.2.2.2.2.2.1.1, hz.2.2.2.2.2.1.2.2⟩
          obtain ⟨b2, off2, hix2, g0, g1, _⟩ := hre.ixEntry he E.out.sits c5
          have HE := hid he
          by_cases hn : e.no = no
          · have bn : (e.no == no) = true := by simpa using hn
            have HQ := hid (show upR s.inodes no = x.no by
              unfold upR
              rw [find_hit (p := fun x : Inode => x.entries.any fun e => e.no == no) HN.out HX.out (List.any_eq_true.2 ⟨e, List.mem_of_getElem? HE.out, bn⟩)]
              rfl)
            clear hn he hre hz g0
            go_wp2_with fail
            go_ret
            exact ⟨by rw [← HU.out, HQ.out]; rfl, E.out.back⟩
          · have bn : (e.no == no) = false := by simpa using hn
            have HQ := hid (any_take HM.out HE.out bn)
            clear hn he hre hz g0
            go_wp2_with fail
            go_roundw
            case rel => exact ⟨m + 1, by omega, by go_num, HQ, (by first | rfl | trivial)⟩
            case measure => simp [intOf]; omega
        · have hmt' : ¬ ((m : Int) < (x.entries.length : Int)) := by omega
          have HQ := hid (not_step (p := fun x : Inode => x.entries.any fun e => e.no == no) HN.out HX.out (by have q := HM.out; rw [List.take_of_length_le (by omega)] at q; exact q))
          go_wp2_with fail
          go_roundw
          case rel => exact ⟨k + 1, by omega, by go_num, HQ, E⟩
          case measure => simp [intOf]; omega
    · have hlt' : ¬ ((k : Int) < (s.inodes.length : Int)) := by omega
      have HQ := hid (show upR s.inodes no = 0 by
        unfold upR
        rw [List.find?_eq_none.2 fun y hy => by
          obtain ⟨j, hj, rfl⟩ := List.mem_iff_getElem.1 hy
          have := HN.out j _ (by omega) (List.getElem?_eq_getElem hj)
          simpa using this]
        rfl)
      go_wp2_with fail
      go_ret
      exact ⟨by rw [← HU.out, HQ.out]; rfl, E.out.back⟩

end Go.Proofs.YtdiaibkpcnknbaaDoor

namespace Go.Proofs.YtdiaibkpcnknbaaDoor
open Go.RowKit Go.Sort
set_option linter.unusedVariables false
theorem ev_iff {v : Int} (h : 0 ≤ v) : evB v = true ↔ v % 2 = 0 := by
  unfold evB
  rw [Int.tmod_eq_emod_of_nonneg h]
  simp
theorem geoB_iff {g : Geo} : geoB g = true ↔ (2 ≤ g.sectors ∧ g.sectors ≤ 16 ∧ evB g.sectors = true ∧ 256 ≤ g.sector ∧ g.sector ≤ 4096 ∧ 4 ≤ g.blocks ∧ g.blocks ≤ 64 ∧ 2 ≤ g.pages ∧ g.pages ≤ 32 ∧ 16 ≤ g.page ∧ g.page ≤ 256) := by
  unfold geoB inB
  simp only [Bool.and_eq_true, decide_eq_true_eq]
  constructor
  · rintro ⟨⟨⟨⟨⟨h3, h1, h2⟩, h4, h5⟩, h6, h7⟩, h8, h9⟩, h10, h11⟩
    exact ⟨h1, h2, h3, h4, h5, h6, h7, h8, h9, h10, h11⟩
  · rintro ⟨h1, h2, h3, h4, h5, h6, h7, h8, h9, h10, h11⟩
    exact ⟨⟨⟨⟨⟨h3, h1, h2⟩, h4, h5⟩, h6, h7⟩, h8, h9⟩, h10, h11⟩
theorem geoB_no {g : Geo} (h : ¬ (2 ≤ g.sectors ∧ g.sectors ≤ 16 ∧ evB g.sectors = true ∧ 256 ≤ g.sector ∧ g.sector ≤ 4096 ∧ 4 ≤ g.blocks ∧ g.blocks ≤ 64 ∧ 2 ≤ g.pages ∧ g.pages ≤ 32 ∧ 16 ≤ g.page ∧ g.page ≤ 256)) : geoB g = false := by
  cases q : geoB g with
  | false => rfl
  | true => exact absurd (geoB_iff.1 q) h
set_option maxHeartbeats 8000000 in
set_option maxRecDepth 100000 in
theorem ref_RightGeometry (g : Geo) (t : Bool) (ht : geoB g = t) (h : FH) (w : World) (hs : Sits h w) :
    Calls Tryd.prog 31 #[.agg #[.int .i64 g.sectors, .int .i64 g.sector, .int .i64 g.blocks, .int .i64 g.pages, .int .i64 g.page]] w fun e w' => e = .returned (.bool t) ∧ Ext h w h w' := by
  have HT := hid ht
  clear ht
  obtain ⟨h1, E1, hb1, le1, hh1⟩ := (Ext.refl hs).boxF #[.int .i64 g.sectors, .int .i64 g.sector, .int .i64 g.blocks, .int .i64 g.pages, .int .i64 g.page] 27
  clear hh1
  go_enter Tryd.func31, Tryd.ntmps31
  go_upto_region 1 with (fail)
  generalize hgG : w.heap.size = gG at *
  with_reducible generalize w.alloc (.cells #[.int .i64 g.sectors, .int .i64 g.sector, .int .i64 g.blocks, .int .i64 g.pages, .int .i64 g.page] 27) = w1 at E1 ⊢
  clear hgG
  have c0 : w1.cell? ⟨gG, 0, none⟩ = some (.int .i64 g.sectors) := Sits_at E1.sits hb1 rfl
  have c1 : w1.cell? ⟨gG, 1, none⟩ = some (.int .i64 g.sector) := Sits_at E1.sits hb1 rfl
  have c2 : w1.cell? ⟨gG, 2, none⟩ = some (.int .i64 g.blocks) := Sits_at E1.sits hb1 rfl
  have c3 : w1.cell? ⟨gG, 3, none⟩ = some (.int .i64 g.pages) := Sits_at E1.sits hb1 rfl
  have c4 : w1.cell? ⟨gG, 4, none⟩ = some (.int .i64 g.page) := Sits_at E1.sits hb1 rfl
  have E1 := hid E1
  by_cases a1 : 2 ≤ g.sectors
  · by_cases a2 : g.sectors ≤ 16
    · by_cases a3 : g.sectors % 2 = 0
      · by_cases a4 : 256 ≤ g.sector
        · by_cases a5 : g.sector ≤ 4096
          · by_cases a6 : 4 ≤ g.blocks
            · by_cases a7 : g.blocks ≤ 64
              · by_cases a8 : 2 ≤ g.pages
                · by_cases a9 : g.pages ≤ 32
                  · by_cases a10 : 16 ≤ g.page
                    · have HF := hid (show decide (g.page ≤ 256) = t by
                        rw [← HT.out]
                        by_cases q : g.page ≤ 256
                        · rw [decide_eq_true q]; exact (geoB_iff.2 ⟨a1, a2, (ev_iff (by omega)).2 a3, a4, a5, a6, a7, a8, a9, a10, q⟩).symm
                        · rw [decide_eq_false q]; exact (geoB_no fun p => q p.2.2.2.2.2.2.2.2.2.2).symm)
                      go_wp2
                      go_ret
                      exact ⟨ret_bool HF.out, E1.out.back⟩
                    · have HF := hid (show geoB g = false from geoB_no fun q => a10 q.2.2.2.2.2.2.2.2.2.1)
                      go_wp2
                      go_ret
                      exact ⟨ret_bool (by rw [← HT.out]; exact (HF.out).symm), E1.out.back⟩
                  · have HF := hid (show geoB g = false from geoB_no fun q => a9 q.2.2.2.2.2.2.2.2.1)
                    go_wp2
                    go_ret
                    exact ⟨ret_bool (by rw [← HT.out]; exact (HF.out).symm), E1.out.back⟩
                · have HF := hid (show geoB g = false from geoB_no fun q => a8 q.2.2.2.2.2.2.2.1)
                  go_wp2
                  go_ret
                  exact ⟨ret_bool (by rw [← HT.out]; exact (HF.out).symm), E1.out.back⟩
              · have HF := hid (show geoB g = false from geoB_no fun q => a7 q.2.2.2.2.2.2.1)
                go_wp2
                go_ret
                exact ⟨ret_bool (by rw [← HT.out]; exact (HF.out).symm), E1.out.back⟩
            · have HF := hid (show geoB g = false from geoB_no fun q => a6 q.2.2.2.2.2.1)
              go_wp2
              go_ret
              exact ⟨ret_bool (by rw [← HT.out]; exact (HF.out).symm), E1.out.back⟩
          · have HF := hid (show geoB g = false from geoB_no fun q => a5 q.2.2.2.2.1)
            go_wp2
            go_ret
            exact ⟨ret_bool (by rw [← HT.out]; exact (HF.out).symm), E1.out.back⟩
        · have HF := hid (show geoB g = false from geoB_no fun q => a4 q.2.2.2.1)
          go_wp2
          go_ret
          exact ⟨ret_bool (by rw [← HT.out]; exact (HF.out).symm), E1.out.back⟩
      · have HF := hid (show geoB g = false from geoB_no fun q => a3 ((ev_iff (by omega)).1 q.2.2.1))
        go_wp2
        go_ret
        exact ⟨ret_bool (by rw [← HT.out]; exact (HF.out).symm), E1.out.back⟩
    · have HF := hid (show geoB g = false from geoB_no fun q => a2 q.2.1)
      go_wp2
      go_ret
      exact ⟨ret_bool (by rw [← HT.out]; exact (HF.out).symm), E1.out.back⟩
  · have HF := hid (show geoB g = false from geoB_no fun q => a1 q.1)
    go_wp2
    go_ret
    exact ⟨ret_bool (by rw [← HT.out]; exact (HF.out).symm), E1.out.back⟩
/-! ### linked -/
theorem dirsR_drop {xs : List Inode} {es : List Entry} {m : Nat} {e : Entry} (h : es[m]? = some e) (n : Int) : dirsR xs (es.drop m) n = match findI xs e.no with
    | none => none
    | some y => if y.no = 1 then none else dirsR xs (es.drop (m + 1)) (if y.kind = 2 then n + 1 else n) := by
  obtain ⟨hm, rfl⟩ := List.getElem?_eq_some_iff.1 h
  rw [List.drop_eq_getElem_cons hm]
  rfl
theorem dirsR_none {xs : List Inode} {es : List Entry} {m : Nat} {e : Entry} {v : Option Inode} {y : Inode} (h : es[m]? = some e) (hv : findI xs e.no = v) (hy : v.getD zeroI = y) (n : Int) (hb : v.isSome = false ∨ y.no = 1) : dirsR xs (es.drop m) n = none := by
  rw [dirsR_drop h, hv]
  subst hy
  cases v with
  | none => rfl
  | some z =>
    rcases hb with hb | hb
    · cases hb
    · exact if_pos hb
theorem dirsR_next {xs : List Inode} {es : List Entry} {m : Nat} {e : Entry} {v : Option Inode} {y : Inode} (h : es[m]? = some e) (hv : findI xs e.no = v) (hy : v.getD zeroI = y) (n : Int) (hb : v.isSome = true) (h1 : y.no ≠ 1) {n' : Int} (hn : (if y.kind = 2 then n + 1 else n) = n') : dirsR xs (es.drop m) n = dirsR xs (es.drop (m + 1)) n' := by
  rw [dirsR_drop h, hv]
  subst hy
  subst hn
  cases v with
  | none => cases hb
  | some z => exact if_neg h1
theorem linkedR_plain {xs : List Inode} {x : Inode} (h : x.kind ≠ 2) : linkedR xs x = (x.links == leadsL xs x.no) := by unfold linkedR; rw [if_pos h]
theorem linkedR_none {xs : List Inode} {x : Inode} (h : x.kind = 2) (hd : dirsR xs x.entries 2 = none) : linkedR xs x = false := by unfold linkedR; rw [if_neg (by simpa using h), hd]
theorem linkedR_some {xs : List Inode} {x : Inode} {d : Int} (h : x.kind = 2) (hd : dirsR xs x.entries 2 = some d) : linkedR xs x = if x.links ≠ d ∨ x.no = 1 then x.links == d && leadsL xs x.no == 0 else leadsL xs x.no == 1 && chainR xs (xs.length + 1) x.no == 1 := by unfold linkedR; rw [if_neg (by simpa using h), hd]
theorem chainR_next {xs : List Inode} {n i : Nat} {a b : Int} (hi : i ≤ n) (ha : a ≠ 1) (hb : upR xs a = b) : chainR xs (n + 1 - i) a = chainR xs (n + 1 - (i + 1)) b := by
  rw [show n + 1 - i = (n + 1 - (i + 1)) + 1 by omega]
  show (if a = 1 then a else chainR xs _ (upR xs a)) = _
  rw [if_neg ha, hb]
theorem chainR_zero {xs : List Inode} {n i : Nat} {a : Int} (h : n < i ∨ a = 1) : chainR xs (n + 1 - i) a = a := by
  rcases h with h | h
  · rw [show n + 1 - i = 0 by omega]; rfl
  · rw [h]; exact chainR_one xs _
set_option maxHeartbeats 16000000 in
set_option maxRecDepth 100000 in
theorem ref_linked (s : State) (cs : List Value) (x : Inode) (cx : List Value) (t : Bool) (ht : linkedR s.inodes x = t) (hlen : s.inodes.length ≤ 1000) (hent : ∀ y ∈ s.inodes, y.entries.length ≤ 1000) (hxe : x.entries.length ≤ 1000) (h : FH) (w : World) (hs : Sits h w) (rS : repState h cs s) (rX : repInode h cx x) :
    Calls Tryd.prog 33 #[.agg cs.toArray, .agg cx.toArray] w fun e w' => e = .returned (.bool t) ∧ Ext h w h w' := by
  have RS0 := rS
  obtain ⟨A1, c1, A2, c2, rfl, l1, r1, l2, r2⟩ := rS
  obtain ⟨A5, c5, A6, c6, rfl, s0, s1, s2, s3, s4⟩ := rX
  have hl := r1.1
  obtain ⟨h1, E1, hb1, le1, -⟩ := (Ext.refl hs).boxF #[.int .i64 s.next, .slice A1 s.inodes.length c1, .slice A2 s.bads.length c2] 31
  obtain ⟨h2, E2, hbX, le2, -⟩ := E1.boxF #[.int .i64 x.no, .int .i64 x.kind, .int .i64 x.links, .int .i64 x.size, .string x.target, .slice A5 x.entries.length c5, .slice A6 x.runs.length c6] 51
  rw [show (w.alloc (.cells #[.int .i64 s.next, .slice A1 s.inodes.length c1, .slice A2 s.bads.length c2] 31)).heap.size = w.heap.size + 1 by simp] at hbX
  have hb1 := hid (le2 _ _ hb1)
  have hbX := hid hbX
  have LE := hid (le1.trans le2)
  have RS := hid (repState.mono LE.out RS0)
  have RE := hid (s2.mono LE.out)
  have HENT := hid hent
  have HLEN := hid hlen
  have HT := hid ht
  clear r1 l1 l2 r2 le1 le2 hent hlen ht E1 RS0 s0 s1 s2 s3 s4
  go_enter Tryd.func33, Tryd.ntmps33
  go_upto_region 1 with (fail)
  obtain ⟨gS, hgS⟩ : ∃ g, g = w.heap.size := ⟨_, rfl⟩
  obtain ⟨gX, hgX⟩ : ∃ g, g = w.heap.size + 1 := ⟨_, rfl⟩
  rw [← hgX] at hbX ⊢
  rw [← hgS] at hb1 ⊢
  with_reducible generalize (w.alloc (.cells #[.int .i64 s.next, .slice A1 s.inodes.length c1, .slice A2 s.bads.length c2] 31)).alloc (.cells #[.int .i64 x.no, .int .i64 x.kind, .int .i64 x.links, .int .i64 x.size, .string x.target, .slice A5 x.entries.length c5, .slice A6 x.runs.length c6] 51) = W2 at E2 ⊢
  clear hgS hgX
  have E2 := hid E2
  have CS := hid (fun (w' : World) (hs' : Sits h2 w') => (⟨sits_cellG (j := 0) (v := .int .i64 s.next) hs' hb1.out rfl, sits_cellG (j := 1) (v := .slice A1 s.inodes.length c1) hs' hb1.out rfl, sits_cellG (j := 2) (v := .slice A2 s.bads.length c2) hs' hb1.out rfl⟩ : w'.cell? ⟨gS, 0, none⟩ = some (.int .i64 s.next) ∧ w'.cell? ⟨gS, 1, none⟩ = some (.slice A1 s.inodes.length c1) ∧ w'.cell? ⟨gS, 2, none⟩ = some (.slice A2 s.bads.length c2)))
  have CX := hid (fun (w' : World) (hs' : Sits h2 w') => (⟨sits_cellG (j := 0) (v := .int .i64 x.no) hs' hbX.out rfl, sits_cellG (j := 1) (v := .int .i64 x.kind) hs' hbX.out rfl, sits_cellG (j := 2) (v := .int .i64 x.links) hs' hbX.out rfl, sits_cellG (j := 5) (v := .slice A5 x.entries.length c5) hs' hbX.out rfl⟩ : w'.cell? ⟨gX, 0, none⟩ = some (.int .i64 x.no) ∧ w'.cell? ⟨gX, 1, none⟩ = some (.int .i64 x.kind) ∧ w'.cell? ⟨gX, 2, none⟩ = some (.int .i64 x.links) ∧ w'.cell? ⟨gX, 5, none⟩ = some (.slice A5 x.entries.length c5)))
  obtain ⟨y0, y1, y2⟩ := CS.out _ E2.out.sits
  obtain ⟨x0, x1, x2, x5⟩ := CX.out _ E2.out.sits
  obtain ⟨n, hn⟩ : ∃ n, leadsL s.inodes x.no = n := ⟨_, rfl⟩
  have KL := hid (ref_leads s _ x.no HLEN.out HENT.out h2 W2 E2.out.sits RS.out)
  rw [hn] at KL
  have HNL := hid hn
  clear hn
  go_upto_region 2 with (go_at_call 57; refine KL.out.mono ?_; rintro e w1 ⟨rfl, F⟩; have E3 := hid (E2.out.trans F); clear F)
  clear KL y0 y1 y2 x0 x1 x2 x5 E2
  obtain ⟨x0, x1, x2, x5⟩ := CX.out _ E3.out.sits
  by_cases hk : x.kind = 2
  · have hk1 : (x.kind != 2) = false := by simpa using hk
    have hk2 : (x.kind == 2) = true := by simpa using hk
    have HK := hid hk
    obtain ⟨D0, hD0⟩ : ∃ d, dirsR s.inodes x.entries 2 = d := ⟨_, rfl⟩
    have HD0 := hid hD0
    have HD1 := hid (show dirsR s.inodes (x.entries.drop 0) 2 = D0 by rw [List.drop_zero]; exact hD0)
    clear hk hD0
    go_wp2_with fail
    go_loopw [6, 7] (fun d k wr => ∃ (m : Nat) (n1 : Int), m ≤ x.entries.length ∧ d = .int .i64 n1 ∧ k = .int .i64 (m : Int) ∧ Hid (dirsR s.inodes (x.entries.drop m) n1 = D0) ∧ Hid (0 ≤ n1 ∧ n1 ≤ 2 + (m : Int)) ∧ Hid (Ext h w h2 wr)) (fun _ k _ => x.entries.length - (intOf k).toNat)
    case atStart => exact ⟨0, 2, Nat.zero_le _, rfl, rfl, HD1, hid ⟨by decide, by decide⟩, E3⟩
    case round =>
      obtain ⟨m, n1, hm, rfl, rfl, HD, HB, EK⟩ := hrel
      clear x0 x1 x2 x5
      obtain ⟨x0, x1, x2, x5⟩ := CX.out _ EK.out.sits
      by_cases hmt : m < x.entries.length
      · have hmt' : (m : Int) < (x.entries.length : Int) := by omega
        obtain ⟨e, he⟩ : ∃ e, x.entries[m]? = some e := ⟨_, List.getElem?_eq_getElem hmt⟩
        obtain ⟨b, off, rfl, frow⟩ := RE.out.2 (by omega)
        obtain ⟨ce, ⟨rfl, hez⟩, hce⟩ := frow m e he
        have hno := hce 1 _ rfl
        obtain ⟨v, hv⟩ : ∃ v, findI s.inodes e.no = v := ⟨_, rfl⟩
        obtain ⟨y, hy⟩ : ∃ y, v.getD zeroI = y := ⟨_, rfl⟩
        have HY := hid hy
        have HV := hid hv
        have HE := hid he
        have KF2 := hid (fun (w' : World) (hs' : Sits h2 w') => ref_FindInode s _ e.no v hv h2 w' hs' RS.out)
        have hq0 : ∀ w' : World, Ext h w h2 w' → w'.cell? ⟨gS, 0, none⟩ = some (.int .i64 s.next) := fun w' E => (CS.out _ E.sits).1
        have hq1 : ∀ w' : World, Ext h w h2 w' → w'.cell? ⟨gS, 1, none⟩ = some (.slice A1 s.inodes.length c1) := fun w' E => (CS.out _ E.sits).2.1
        have hq2 : ∀ w' : World, Ext h w h2 w' → w'.cell? ⟨gS, 2, none⟩ = some (.slice A2 s.bads.length c2) := fun w' E => (CS.out _ E.sits).2.2
        have hq5 : ∀ w' : World, Ext h w h2 w' → w'.cell? ⟨gX, 5, none⟩ = some (.slice (some ⟨b, off, none⟩) x.entries.length c5) := fun w' E => (CX.out _ E.sits).2.2.2
        have hqn : ∀ w' : World, Ext h w h2 w' → w'.cell? ⟨b, off + m * 2 + 1, none⟩ = some (.int .i64 e.no) := fun w' E => E.sits.cell hno
        clear hv hy he hno hce frow
        go_upto_region 8 with (fail)
        go_cut [8, 9] (fun s13 s14 wx => ∃ (g13 : Nat), s13 = .pointer (some ⟨g13, 0, none⟩) ∧ s14 = .bool v.isSome ∧ Hid (Ext h w h2 wx) ∧ wx.cell? ⟨g13, 0, none⟩ = some (.int .i64 y.no) ∧ wx.cell? ⟨g13, 1, none⟩ = some (.int .i64 y.kind))
        case first =>
          have E14 := EK.out.drew
          clear x0 x1 x2 x5
          go_region_held3 (fun w' => Ext h w h2 w') (first | with_reducible assumption | with_reducible exact Eg | with_reducible exact Ext.alloc Eg _ | with_reducible exact (Ext.alloc EK.out _).drew | with_reducible exact Ext.alloc E14 _ | exact Ext.setCells EK.out.size (EK.out.sits.none (Nat.le_refl _)) [.int .i64 y.no, .int .i64 y.kind, .int .i64 y.links, .int .i64 y.size, .string y.target, .slice B5 y.entries.length d5, .slice B6 y.runs.length d6] 0 _ Eg) (first | (go_at_call 34; (with_reducible refine (KF2.out _ (Ext.sits (h := h) (h' := h2) (w := w) (by with_reducible assumption))).mono ?_); rintro e wf ⟨yl, hY, rfl, ry, Fy⟩; rw [HY.out] at ry; obtain ⟨B5, d5, B6, d6, rfl⟩ := ry.open; have Eg := Ext.trans (h := h) (w := w) (h1 := h2) (by with_reducible assumption) Fy.back; have Ed := hid (Ext.trans (h := h) (w := w) (h1 := h2) (by with_reducible assumption) Fy); have lY := hid Fy.le; have ry := hid ry; (first | (have mrow : wf.heap[wr.heap.size]? = some (.cells #[.int .i64 0, .int .i64 0, .int .i64 0, .int .i64 0, .string ⟨#[]⟩, .slice none 0 0, .slice none 0 0] 51 (0, 0)) := (by first | with_reducible exact Fy.row (heap_new wr _) | with_reducible exact Fy.row (heap_new wr.drew _) | with_reducible exact Fy.row (heap_drew (heap_new wr _))); have Ek := hid (Ext.trans ((Ext.refl EK.out.sits).alloc _).drew Fy); have mn := hid (Fy.none (EK.out.sits.none (Nat.le_refl _)) (newlt_drew wr _)); have mz0 := box_cell (j := 0) (v := .int .i64 0) mrow rfl; have fz0 := box_free (j := 0) mrow; have mz1 := box_cell (j := 1) (v := .int .i64 0) mrow rfl; have fz1 := box_free (j := 1) mrow; have mz2 := box_cell (j := 2) (v := .int .i64 0) mrow rfl; have fz2 := box_free (j := 2) mrow; have mz3 := box_cell (j := 3) (v := .int .i64 0) mrow rfl; have fz3 := box_free (j := 3) mrow; have mz4 := box_cell (j := 4) (v := .string ⟨#[]⟩) mrow rfl; have fz4 := box_free (j := 4) mrow; have mz5 := box_cell (j := 5) (v := .slice none 0 0) mrow rfl; have fz5 := box_free (j := 5) mrow; have mz6 := box_cell (j := 6) (v := .slice none 0 0) mrow rfl; have fz6 := box_free (j := 6) mrow; have mrow := hid mrow) | skip); clear Fy))
          · go_wp2_with fail
            go_meet
            exact ⟨_, rfl, rfl, hid (Eg.alloc _), box_cell (j := 0) (heap_new _ _) rfl, box_cell (j := 1) (heap_new _ _) rfl⟩
          · go_wp2_with fail
            go_meet
            have EF := Ext.setCells (Nat.le_refl _) mn.out [.int .i64 y.no, .int .i64 y.kind, .int .i64 y.links, .int .i64 y.size, .string y.target, .slice B5 y.entries.length d5, .slice B6 y.runs.length d6] 0 _ Ek.out
            have rowF := setCells_row [.int .i64 y.no, .int .i64 y.kind, .int .i64 y.links, .int .i64 y.size, .string y.target, .slice B5 y.entries.length d5, .slice B6 y.runs.length d6] mrow.out rfl
            exact ⟨_, rfl, rfl, hid (EK.out.trans EF.back), box_cell (j := 0) rowF rfl, box_cell (j := 1) rowF rfl⟩
        case rest =>
        obtain ⟨g13, rfl, rfl, EM, z0, z1⟩ := hcut
        clear hq0 hq1 hq2 hq5 hqn KF2
        have hnw : IntKind.i64.wrap (n1 + 1) = n1 + 1 := by have := HB.out; rw [IntKind.wrap_i64]; omega
        cases hq : v.isSome with
        | false =>
          have HF := hid (show false = t by rw [← HT.out]; exact (linkedR_none HK.out (by rw [HD0.out, ← HD.out]; exact dirsR_none HE.out HV.out HY.out n1 (.inl hq))).symm)
          clear hq
          go_at_K
          go_wp2_with fail
          go_ret
          exact ⟨ret_bool HF.out, EM.out.back⟩
        | true =>
          by_cases hy1 : y.no = 1
          · have b1 : (y.no == 1) = true := by simpa using hy1
            have HF := hid (show false = t by rw [← HT.out]; exact (linkedR_none HK.out (by rw [HD0.out, ← HD.out]; exact dirsR_none HE.out HV.out HY.out n1 (.inr hy1))).symm)
            clear hq hy1
            go_at_K
            go_wp2_with fail
            go_ret
            exact ⟨ret_bool HF.out, EM.out.back⟩
          · have b1 : (y.no == 1) = false := by simpa using hy1
            by_cases hyk : y.kind = 2
            · have b2 : (y.kind == 2) = true := by simpa using hyk
              have HD2 := hid ((dirsR_next HE.out HV.out HY.out n1 hq hy1 (if_pos hyk)).symm.trans HD.out)
              clear hq hy1 hyk
              go_at_K
              go_wp2_with fail
              go_roundw
              case rel => exact ⟨m + 1, n1 + 1, by omega, rfl, by go_num, HD2, hid (by have := HB.out; omega), EM⟩
              case measure => simp [intOf]; omega
            · have b2 : (y.kind == 2) = false := by simpa using hyk
              have HD2 := hid ((dirsR_next HE.out HV.out HY.out n1 hq hy1 (if_neg hyk)).symm.trans HD.out)
              clear hq hy1 hyk
              go_at_K
              go_wp2_with fail
              go_roundw
              case rel => exact ⟨m + 1, n1, by omega, rfl, by go_num, HD2, hid (by have := HB.out; omega), EM⟩
              case measure => simp [intOf]; omega
      · have hmt' : ¬ ((m : Int) < (x.entries.length : Int)) := by omega
        have HDE := hid (show dirsR s.inodes x.entries 2 = some n1 by
          rw [HD0.out, ← HD.out, List.drop_of_length_le (by omega)]; rfl)
        have HT2 := hid ((linkedR_some HK.out HDE.out).symm.trans HT.out)
        rw [HNL.out] at HT2
        by_cases a1 : x.links = n1
        · have b1 : (x.links == n1) = true := by simpa using a1
          have b1' : (x.links != n1) = false := by simpa using a1
          by_cases a2 : x.no = 1
          · have b2 : (x.no == 1) = true := by simpa using a2
            have HF := hid (show (n == 0) = t by rw [← HT2.out, if_pos (.inr a2), b1]; rfl)
            clear a1 a2
            go_wp2_with fail
            go_ret
            exact ⟨ret_bool HF.out, EK.out.back⟩
          · have b2 : (x.no == 1) = false := by simpa using a2
            obtain ⟨C0, hC0⟩ : ∃ c, chainR s.inodes (s.inodes.length + 1) x.no = c := ⟨_, rfl⟩
            have HF := hid (show (n == 1 && C0 == 1) = t by rw [← HT2.out, if_neg (by simp [a1, a2]), hC0])
            have HC0 := hid (show chainR s.inodes (s.inodes.length + 1 - 0) x.no = C0 from hC0)
            clear a1 a2 hC0
            go_wp2_with fail
            clear x0 x1 x2 x5
            go_loopw [10, 11] (fun a i wr => ∃ (j : Nat) (v : Int), j ≤ s.inodes.length + 1 ∧ a = .int .i64 v ∧ i = .int .i64 (j : Int) ∧ Hid (chainR s.inodes (s.inodes.length + 1 - j) v = C0) ∧ Hid (Ext h w h2 wr)) (fun _ i _ => s.inodes.length + 1 - (intOf i).toNat)
            case atStart => exact ⟨0, x.no, Nat.zero_le _, rfl, rfl, HC0, EK⟩
            case round =>
              obtain ⟨j, v, hj, rfl, rfl, HC, E⟩ := hrel
              obtain ⟨y0, y1, y2⟩ := CS.out _ E.out.sits
              by_cases hjl : j ≤ s.inodes.length
              · have hjl' : (j : Int) ≤ (s.inodes.length : Int) := by omega
                by_cases hv1 : v = 1
                · have bv : (v == 1) = true := by simpa using hv1
                  have bv' : (v != 1) = false := by simpa using hv1
                  have HV := hid (show v = C0 by rw [← HC.out]; exact (chainR_zero (.inr hv1)).symm)
                  clear hv1
                  by_cases hn1 : n = 1
                  · have bn : (n == 1) = true := by simpa using hn1
                    have HR := hid (show (v == 1) = t by rw [← HF.out, bn, ← HV.out]; rfl)
                    have HR2 := hid (show true = t by rw [← HR.out, bv])
                    clear hn1
                    go_wp2_with fail
                    go_ret
                    exact ⟨by first | exact ret_bool HR2.out | exact ret_bool HR.out, E.out.back⟩
                  · have bn : (n == 1) = false := by simpa using hn1
                    have HR := hid (show false = t by rw [← HF.out, bn]; rfl)
                    clear hn1
                    go_wp2_with fail
                    go_ret
                    exact ⟨ret_bool HR.out, E.out.back⟩
                · have bv : (v == 1) = false := by simpa using hv1
                  have bv' : (v != 1) = true := by simpa using hv1
                  obtain ⟨u, hu⟩ : ∃ u, upR s.inodes v = u := ⟨_, rfl⟩
                  have HC2 := hid ((chainR_next hjl hv1 hu).symm.trans HC.out)
                  have KU := hid (ref_up s _ v u hu HLEN.out HENT.out h2 wr E.out.sits RS.out)
                  have hl2 := HLEN.out
                  clear hv1 hu
                  go_wp2_with (go_at_call 58; refine KU.out.mono ?_; rintro e w3 ⟨rfl, F⟩; have E4 := hid (E.out.trans F); clear F)
                  go_roundw
                  case rel => exact ⟨j + 1, u, by omega, rfl, by go_num, HC2, E4⟩
                  case measure => simp [intOf]; omega
              · have hjl' : ¬ ((j : Int) ≤ (s.inodes.length : Int)) := by omega
                have HV := hid (show v = C0 by rw [← HC.out]; exact (chainR_zero (.inl (by omega))).symm)
                by_cases hn1 : n = 1
                · have bn : (n == 1) = true := by simpa using hn1
                  have HR := hid (show (v == 1) = t by rw [← HF.out, bn, ← HV.out]; rfl)
                  clear hn1
                  go_wp2_with fail
                  go_ret
                  exact ⟨ret_bool HR.out, E.out.back⟩
                · have bn : (n == 1) = false := by simpa using hn1
                  have HR := hid (show false = t by rw [← HF.out, bn]; rfl)
                  clear hn1
                  go_wp2_with fail
                  go_ret
                  exact ⟨ret_bool HR.out, E.out.back⟩
        · have b1 : (x.links == n1) = false := by simpa using a1
          have b1' : (x.links != n1) = true := by simpa using a1
          have HF := hid (show false = t by rw [← HT2.out, if_pos (.inl a1), b1]; rfl)
          clear a1
          go_wp2_with fail
          go_ret
          exact ⟨ret_bool HF.out, EK.out.back⟩
  · have hk1 : (x.kind != 2) = true := by simpa using hk
    have hk2 : (x.kind == 2) = false := by simpa using hk
    have HF := hid (show (x.links == n) = t by rw [← HT.out, linkedR_plain hk, HNL.out])
    clear hk
    go_wp2_with fail
    go_ret
    exact ⟨ret_bool HF.out, E3.out.back⟩

end Go.Proofs.YtdiaibkpcnknbaaDoor

namespace Go.Proofs.YtdiaibkpcnknbaaDoor
open Go.RowKit Go.Sort
set_option linter.unusedVariables false
theorem reps_rep {h : FH} (b : Bool) : ∀ n : Nat, Reps h (List.replicate n (Value.bool b)) (List.replicate n b)
  | 0 => rfl
  | n + 1 => ⟨[.bool b], List.replicate n (.bool b), by simp [List.replicate_succ], rfl, reps_rep b n⟩
theorem cell_bool {h : FH} {w : World} {base : Nat} {e : TypeId} {g n cap : Nat} {xs : List Bool} (o : OwnL h w base e (.slice (some ⟨g, 0, none⟩) n cap) xs) {i : Nat} {x : Bool} (hx : xs[i]? = some x) :
    w.cell? ⟨g, i, none⟩ = some (.bool x) ∧ w.frozen? ⟨g, i, none⟩ = false ∧ h g = none ∧ base ≤ g := by
  obtain ⟨g1, cap1, cs1, hv1, hb, _, hn, hr1, hc1, hf1⟩ := o.get hx
  obtain ⟨rfl, -⟩ : g = g1 ∧ _ := by simpa using hv1
  have hr1 : cs1 = [.bool x] := hr1
  subst hr1
  have := hc1 0 _ rfl
  rw [show i * Enc.sz Bool + 0 = i from Nat.mul_one i] at this
  exact ⟨this, hf1 i, hn, hb⟩
theorem put_bool {h : FH} {w : World} {base : Nat} {e : TypeId} {g n cap : Nat} {xs : List Bool} (o : OwnL h w base e (.slice (some ⟨g, 0, none⟩) n cap) xs) {i : Nat} {x : Bool} (hx : xs[i]? = some x) (y : Bool) :
    OwnL h (w.setCell ⟨g, i, none⟩ (.bool y)) base e (.slice (some ⟨g, 0, none⟩) n cap) (xs.set i y) := by
  have P1 := o.setCell (y := y) (j := 0) (u := .bool y) hx (by decide) (fun cs hcs => by have hcs : cs = [.bool x] := hcs; subst hcs; exact (rfl : _ = _))
  rwa [show i * Enc.sz Bool + 0 = i from Nat.mul_one i] at P1
theorem refPl_take {xs : List Inode} (k : Nat) : (refPl (xs.take k)).length ≤ 64 * xs.length := by
  have h1 := refPl_len (xs.take k)
  have h2 : (xs.take k).length ≤ xs.length := by rw [List.length_take]; omega
  exact Nat.le_trans h1 (Nat.mul_le_mul_left _ h2)
set_option maxHeartbeats 16000000 in
set_option maxRecDepth 100000 in
theorem ref_placed (s : State) (g : Geo) (cs cg : List Value) (t : Bool) (ht : okPl (g.blocks * g.pages) (refPl s.inodes) = t) (hlen : s.inodes.length ≤ 1000) (hg1 : 0 ≤ g.blocks) (hg2 : g.blocks ≤ 64) (hg3 : 0 ≤ g.pages) (hg4 : g.pages ≤ 32) (h : FH) (w : World) (hs : Sits h w) (rS : repState h cs s) (rg : repGeo h cg g) :
    Calls Tryd.prog 35 #[.agg cs.toArray, .agg cg.toArray] w fun e w' => e = .returned (.bool t) ∧ Ext h w h w' := by
  have hcs : cg = [.int .i64 g.sectors, .int .i64 g.sector, .int .i64 g.blocks, .int .i64 g.pages, .int .i64 g.page] := rg
  subst hcs
  obtain ⟨A1, c1, A2, c2, rfl, l1, r1, l2, r2⟩ := rS
  have hl := r1.1
  have HT := hid ht
  obtain ⟨n, hn⟩ : ∃ n : Nat, g.blocks * g.pages = (n : Int) := ⟨(g.blocks * g.pages).toNat, by have := Int.mul_nonneg hg1 hg3; omega⟩
  have hn2 : n ≤ 2048 := by
    have := Int.le_trans (Int.mul_le_mul_of_nonneg_right hg2 hg3) (Int.mul_le_mul_of_nonneg_left hg4 (by decide))
    omega
  have hwl : IntKind.i64.wrap (g.blocks * g.pages) = (n : Int) := by rw [hn, IntKind.wrap_i64]; omega
  rw [hn] at HT
  obtain ⟨h1, E1, hb1, le1, -⟩ := (Ext.refl hs).boxF #[.int .i64 s.next, .slice A1 s.inodes.length c1, .slice A2 s.bads.length c2] 31
  obtain ⟨h2, E2, hbG, le2, -⟩ := E1.boxF #[.int .i64 g.sectors, .int .i64 g.sector, .int .i64 g.blocks, .int .i64 g.pages, .int .i64 g.page] 27
  rw [show (w.alloc (.cells #[.int .i64 s.next, .slice A1 s.inodes.length c1, .slice A2 s.bads.length c2] 31)).heap.size = w.heap.size + 1 by simp] at hbG
  have hb1 := hid (le2 _ _ hb1)
  have hbG := hid hbG
  have R1 := hid (r1.mono (le1.trans le2))
  have HLEN := hid hlen
  have HN := hid hn
  have HN2 := hid hn2
  clear r1 l1 l2 r2 le1 le2 hlen ht E1 hn hn2 hg1 hg2 hg3 hg4 rg
  go_enter Tryd.func35, Tryd.ntmps35
  go_upto_region 1 with (fail)
  obtain ⟨gS, hgS⟩ : ∃ g, g = w.heap.size := ⟨_, rfl⟩
  obtain ⟨gG, hgG⟩ : ∃ g, g = w.heap.size + 1 := ⟨_, rfl⟩
  rw [← hgG] at hbG ⊢
  rw [← hgS] at hb1 ⊢
  with_reducible generalize (w.alloc (.cells #[.int .i64 s.next, .slice A1 s.inodes.length c1, .slice A2 s.bads.length c2] 31)).alloc (.cells #[.int .i64 g.sectors, .int .i64 g.sector, .int .i64 g.blocks, .int .i64 g.pages, .int .i64 g.page] 27) = W2 at E2 ⊢
  clear hgS hgG
  have E2 := hid E2
  go_wp2_with fail
  go_loopw [5, 6] (fun s5 i wr => ∃ (v : Value) (k : Nat) (h' : FH), s5 = v ∧ k ≤ s.inodes.length ∧ i = .int .i64 (k : Int) ∧ Hid (OwnL h' wr w.heap.size 3 v (refPl (s.inodes.take k))) ∧ Hid (Ext h w h' wr) ∧ Hid (FLe h2 h')) (fun _ i _ => s.inodes.length - (intOf i).toNat)
  case atStart => exact ⟨_, 0, h2, rfl, Nat.zero_le _, rfl, hid (OwnL.nil _ _ _ _), E2, hid (FLe.refl _)⟩
  case round =>
    obtain ⟨v, k, h', rfl, hk, rfl, O, E, LE⟩ := hrel
    have q1 := sits_cellG (j := 1) (v := .slice A1 s.inodes.length c1) E.out.sits (LE.out _ _ hb1.out) rfl
    by_cases hlt : k < s.inodes.length
    · have hlt' : (k : Int) < (s.inodes.length : Int) := by omega
      obtain ⟨x, hx⟩ : ∃ x, s.inodes[k]? = some x := ⟨_, List.getElem?_eq_getElem hlt⟩
      have HS := hid (refPl_snoc hx)
      obtain ⟨b, off, A5, c5, A6, c6, hix, hA, ⟨d0, d1, d2, d3, d4, d5, d6⟩, rx⟩ := (R1.out.mono LE.out).ixInode hx E.out.sits c1
      obtain ⟨z1, z2, z3, z4, hz, _, _, _, _, r6⟩ := rx
      obtain ⟨rfl, rfl⟩ : A6 = z3 ∧ c6 = z4 := by simp only [List.cons.injEq, Value.slice.injEq] at hz; exact ⟨hz.2.2.2.2.2.2.1.1, hz.2.2.2.2.2.2.1.2.2⟩
      have KP := hid (ref_PagesOf x.runs A6 c6 h' wr E.out.sits r6)
      have HPL := hid (refPages_len64 x.runs)
      have HBT := hid (show ((refPl (s.inodes.take k)).length + (refPages x.runs).length) * 8 ≤ 140737488355328 by
        have h1 := refPl_take (xs := s.inodes) k
        have h2 := HPL.out
        have h3 := HLEN.out
        omega)
      clear d0 d1 d2 d3 d4 d5 hx hz r6 hA
      obtain ⟨P0, hP0⟩ : ∃ l, refPl (s.inodes.take k) = l := ⟨_, rfl⟩
      obtain ⟨P1, hP1⟩ : ∃ l, refPages x.runs = l := ⟨_, rfl⟩
      rw [hP0] at O HS HBT
      rw [hP1] at HS HBT KP HPL
      clear hP0 hP1
      go_wp2_with (first | (go_at_call 59; refine KP.out.mono ?_; rintro e w2 ⟨vp, rfl, OP, FP⟩; obtain ⟨h3, Ap, cp, rfl, rP, lP, EP, hcp, _, hnp, -⟩ := OP.stayX FP (Nat.le_refl _) (by have := HPL.out; omega); have O2 := hid (O.out.ext EP); have E3 := hid (E.out.trans EP); have rP := hid rP; have hnp := hid hnp; have lP := hid lP; clear OP FP EP hcp) | (at_builtin; refine wpList_appendL rfl _ _ 23 rfl w.heap.size 3 8 ty_Int _ _ _ rfl O2.out E3.out.sits _ _ _ rfl rfl rP.out hnp.out HBT.out (by decide) E3.out.size ?_; intro v4 w4 O4 G4 h54; rw [← HS.out] at O4; have O4 := hid O4; have E4 := hid (E3.out.grown G4 (fun k hk => ⟨(O2.out.lt k hk).1, O2.out.free k hk⟩)); clear G4 h54))
      go_roundw
      case rel => (first | exact ⟨_, k + 1, h3, rfl, by omega, by go_num, O4, E4, hid (LE.out.trans lP.out)⟩ | ((repeat apply Exists.intro); exact ⟨⟨_, k + 1, h3, rfl, by omega, by go_num, O4, E4, hid (LE.out.trans lP.out)⟩, rfl⟩))
      case measure => simp [intOf]; omega
    · have hlt' : ¬ ((k : Int) < (s.inodes.length : Int)) := by omega
      obtain ⟨al, hal⟩ : ∃ l, refPl s.inodes = l := ⟨_, rfl⟩
      have O0 := O.out
      rw [List.take_of_length_le (by omega), hal] at O0
      have O := hid O0
      clear O0
      have HAL := hid (show al.length ≤ 64000 by rw [← hal]; have := refPl_len s.inodes; have := HLEN.out; omega)
      have HAB := hid (show ∀ a ∈ al, 0 ≤ a ∧ a ≤ 2147483647 by rw [← hal]; exact fun a => refPl_bound)
      rw [hal] at HT
      obtain ⟨h3, Aa, ca, rfl, ra, la, Ea, hca, _, hna, -⟩ := O.out.stayX E.out (Nat.le_refl _) (by have := HAL.out; omega)
      have RA := hid ra
      have EA := hid Ea
      have LA := hid la
      have g2 := sits_cellG (j := 2) (v := .int .i64 g.blocks) EA.out.sits (LA.out _ _ (LE.out _ _ hbG.out)) rfl
      have g3 := sits_cellG (j := 3) (v := .int .i64 g.pages) EA.out.sits (LA.out _ _ (LE.out _ _ hbG.out)) rfl
      have HFR := hid (EA.out.sits.none (Nat.le_refl wr.heap.size))
      have hWR := EA.out.size
      obtain ⟨i, hi, hz0, hz1, hz2⟩ := info_parts (P := Tryd.prog) (e := 4) (z := .bool false) (size := Enc.sz Bool) (bytes := 1) (by kernel_rfl)
      have HI := hid hi
      clear hi ra Ea la hca hna O hal E hlt hk
      go_upto_region 7 with (at_make; refine wpList_make_full _ rfl _ _ 109 rfl w.heap.size 4 i _ _ Tryd.underlying109 HI.out hz0 hz1 _ _ _ _ n rfl rfl (by first | rfl | exact hwl) (by first | rfl | exact hwl) (by rw [hz2]; have := HN2.out; omega) (by unfold maxLen; have := HN2.out; omega) hWR ?_)
      intro w5 O5 G5
      have O6 := hid (show OwnL h3 w5 w.heap.size 4 (.slice (some ⟨wr.heap.size, 0, none⟩) n n) (seenR n []) from ⟨⟨_, by rw [seenR_len]; exact O5, by
          have e1 : (madeCells #[Value.bool false] (n * Enc.sz Bool)).toList = List.replicate n (Value.bool false) := by
            rw [show n * Enc.sz Bool = n from Nat.mul_one n]; exact toList_madeCells_one _ _
          rw [e1, seenR_nil]; exact reps_rep false n⟩, fun g hg => by simp [Value.ownBlock] at hg; subst hg; exact HFR.out⟩)
      have E6 := hid (EA.out.grown G5 (fun k hk => by cases hk))
      clear O5 G5 g2 g3 hz0 hz1 hz2 HI hwl
      generalize wr.heap.size = gN at *
      go_wp2_with fail
      go_loopw [8] (fun i w2 => ∃ (k : Nat), k ≤ al.length ∧ i = .int .i64 (k : Int) ∧ Hid (OwnL h3 w2 w.heap.size 4 (.slice (some ⟨gN, 0, none⟩) n n) (seenR n (al.take k))) ∧ Hid (Ext h w h3 w2) ∧ Hid (∀ m a, m < k → al[m]? = some a → a < (n : Int) ∧ a ∉ al.take m)) (fun i _ => al.length - (intOf i).toNat)
      case atStart => exact ⟨0, Nat.zero_le _, rfl, O6, E6, hid (fun m a hm => by omega)⟩
      case round =>
        obtain ⟨k, hk, rfl, O, E, HG⟩ := hrel
        by_cases hlt : k < al.length
        · have hlt' : (k : Int) < (al.length : Int) := by omega
          obtain ⟨a, ha⟩ : ∃ a, al[k]? = some a := ⟨_, List.getElem?_eq_getElem hlt⟩
          obtain ⟨b, off, hix, d0⟩ := RA.out.ixInt ha E.out.sits ca
          obtain ⟨ha0, ha1⟩ := HAB.out a (List.mem_of_getElem? ha)
          have HA := hid ha
          clear ha
          by_cases han : (n : Int) ≤ a
          · have HF := hid (show false = t by rw [← HT.out]; exact (okPl_bad1 HA.out han).symm)
            go_wp2_with fail
            go_ret
            exact ⟨ret_bool HF.out, E.out.back⟩
          · obtain ⟨j, rfl⟩ : ∃ j : Nat, a = (j : Int) := ⟨a.toNat, by omega⟩
            have hjn : j < n := by omega
            have hjn' : (j : Int) < (n : Int) := by omega
            have HJ := hid hjn
            have hsg := seenR_get (ps := al.take k) hjn
            obtain ⟨q, hq⟩ : ∃ q, decide ((j : Int) ∈ al.take k) = q := ⟨_, rfl⟩
            rw [hq] at hsg
            obtain ⟨f1, f2, f3, f4⟩ := cell_bool O.out hsg
            cases q
            · have HN1 := hid (show (j : Int) ∉ al.take k by simpa using hq)
              have O7 := hid (put_bool O.out hsg true)
              have E7 := hid (E.out.setCell (p := ⟨gN, j, none⟩) f4 f3 (.bool true))
              have O8 := hid (show OwnL h3 (wr.setCell ⟨gN, j, none⟩ (.bool true)) w.heap.size 4 (.slice (some ⟨gN, 0, none⟩) n n) (seenR n (al.take (k + 1))) by
                have := O7.out
                rw [seenR_set HJ.out] at this
                rw [List.take_add_one, HA.out]; exact this)
              have HG2 := hid (show ∀ m a, m < k + 1 → al[m]? = some a → a < (n : Int) ∧ a ∉ al.take m from fun m a hm hma => by
                by_cases e : m = k
                · subst e
                  have := HA.out
                  rw [hma] at this
                  obtain rfl : a = (j : Int) := by simpa using this
                  exact ⟨by have := HJ.out; omega, HN1.out⟩
                · exact HG.out m a (by omega) hma)
              have hal := HAL.out
              clear hsg hq O7 f3 f4 hjn han
              go_wp2_with fail
              go_roundw
              case rel => exact ⟨k + 1, by omega, by go_num, O8, E7, HG2⟩
              case measure => simp [intOf]; omega
            · have HF := hid (show false = t by rw [← HT.out]; exact (okPl_bad2 HA.out (by simpa using hq)).symm)
              clear hsg hq f3 f4 hjn han
              go_wp2_with fail
              go_ret
              exact ⟨ret_bool HF.out, E.out.back⟩
        · have hlt' : ¬ ((k : Int) < (al.length : Int)) := by omega
          have HF := hid (show true = t by rw [← HT.out]; exact (okPl_good fun m a hma => HG.out m a (by have := (List.getElem?_eq_some_iff.1 hma).1; omega) hma).symm)
          go_wp2_with fail
          go_ret
          exact ⟨ret_bool HF.out, E.out.back⟩

end Go.Proofs.YtdiaibkpcnknbaaDoor

namespace Go.Proofs.YtdiaibkpcnknbaaDoor
open Go.RowKit Go.Sort
set_option linter.unusedVariables false
theorem rise_step {nx : Int} {xs : List Inode} (h : allR nx xs = true) {m : Nat} {x y : Inode} (hy : xs[m]? = some y) (hx : xs[m + 1]? = some x) : y.no < x.no := by
  unfold allR at h
  have h1 := List.all_eq_true.1 h (m + 1) (by simpa using (List.getElem?_eq_some_iff.1 hx).1)
  unfold okR at h1
  rw [getD_of hx, Nat.add_sub_cancel, getD_of hy] at h1
  simp only [Bool.and_eq_true, Bool.or_eq_true, decide_eq_true_eq] at h1
  rcases h1.2 with q | q
  · simp at q
  · exact q
theorem rise_all {nx : Int} {xs : List Inode} (h : allR nx xs = true) : ∀ (d i : Nat) (x y : Inode), xs[i]? = some x → xs[i + d + 1]? = some y → x.no < y.no
  | 0, i, x, y, hx, hy => rise_step h hx hy
  | d + 1, i, x, y, hx, hy => by
    obtain ⟨hl, _⟩ := List.getElem?_eq_some_iff.1 hy
    have hz : xs[i + d + 1]? = some (xs[i + d + 1]'(by omega)) := List.getElem?_eq_getElem _
    have h1 := rise_all h d i x _ hx hz
    have h2 := rise_step h hz (x := y) (by rw [show i + d + 1 + 1 = i + (d + 1) + 1 by omega]; exact hy)
    omega
theorem riseI_of {nx : Int} {xs : List Inode} (h : allR nx xs = true) : riseI xs := by
  unfold riseI
  rw [List.pairwise_iff_getElem]
  intro i j hi hj hij
  rw [List.getElem_map, List.getElem_map]
  rw [List.length_map] at hi hj
  exact rise_all h (j - i - 1) i _ _ (List.getElem?_eq_getElem hi) (by rw [show i + (j - i - 1) + 1 = j by omega]; exact List.getElem?_eq_getElem hj)
theorem allR_right {nx : Int} {xs : List Inode} (h : allR nx xs = true) : ∀ x ∈ xs, rightI x = true := fun x hx => by
  obtain ⟨i, hi, rfl⟩ := List.mem_iff_getElem.1 hx
  unfold allR at h
  have h1 := List.all_eq_true.1 h i (by simpa using hi)
  unfold okR at h1
  rw [getD_of (List.getElem?_eq_getElem hi)] at h1
  simp only [Bool.and_eq_true] at h1
  exact h1.1.1
theorem rootR_of {xs : List Inode} {v : Option Inode} {x : Inode} (hv : findI xs 1 = v) (hx : v.getD zeroI = x) : rootR xs = (v.isSome && x.kind == 2) := by
  unfold rootR
  rw [hv]
  subst hx
  cases v <;> rfl
theorem sound_geo {s : State} {g : Geo} (h : geoB g = false) : soundP s g = false := by unfold soundP; rw [h]; rfl
theorem sound_rise {s : State} {g : Geo} (h : riseB s g = false) : soundP s g = false := by unfold soundP; rw [h]; simp
theorem rise_len {s : State} {g : Geo} (h : ¬ (s.inodes.length : Int) ≤ 200) : riseB s g = false := by unfold riseB; rw [decide_eq_false h]; simp
theorem rise_next {s : State} {g : Geo} (h : ¬ s.next ≤ 2147483647) : riseB s g = false := by unfold riseB; rw [decide_eq_false h]; simp
set_option maxHeartbeats 16000000 in
set_option maxRecDepth 100000 in
theorem ref_Sound (s : State) (g : Geo) (cs cg : List Value) (t : Bool) (ht : soundP s g = t) (hlen : s.inodes.length ≤ 1000) (hent : ∀ x ∈ s.inodes, x.entries.length ≤ 1000) (h : FH) (w : World) (hs : Sits h w) (rS : repState h cs s) (rg : repGeo h cg g) :
    Calls Tryd.prog 14 #[.agg cs.toArray, .agg cg.toArray] w fun e w' => e = .returned (.bool t) ∧ Ext h w h w' := by
  have hcs : cg = [.int .i64 g.sectors, .int .i64 g.sector, .int .i64 g.blocks, .int .i64 g.pages, .int .i64 g.page] := rg
  subst hcs
  have RS0 := rS
  obtain ⟨A1, c1, A2, c2, rfl, l1, r1, l2, r2⟩ := rS
  have hlI := r1.1
  have hlB := r2.1
  have HT := hid ht
  have HENT := hid hent
  have HLEN := hid hlen
  obtain ⟨h1, E1, hb1, le1, -⟩ := (Ext.refl hs).boxF #[.int .i64 s.next, .slice A1 s.inodes.length c1, .slice A2 s.bads.length c2] 31
  obtain ⟨h2, E2, hb2, le2, -⟩ := E1.boxF #[.int .i64 g.sectors, .int .i64 g.sector, .int .i64 g.blocks, .int .i64 g.pages, .int .i64 g.page] 27
  rw [show (w.alloc (.cells #[.int .i64 s.next, .slice A1 s.inodes.length c1, .slice A2 s.bads.length c2] 31)).heap.size = w.heap.size + 1 by simp] at hb2
  have hb1 := hid (le2 _ _ hb1)
  have hb2 := hid hb2
  have RS2 := hid (repState.mono (le1.trans le2) RS0)
  have R1 := hid (r1.mono (le1.trans le2))
  have R2 := hid (r2.mono (le1.trans le2))
  clear r1 l1 l2 r2 le1 le2 hlen hent ht E1 RS0 rg
  go_enter Tryd.func14, Tryd.ntmps14
  go_upto_region 1 with (fail)
  obtain ⟨gS, hgS⟩ : ∃ g, g = w.heap.size := ⟨_, rfl⟩
  obtain ⟨gG, hgG⟩ : ∃ g, g = w.heap.size + 1 := ⟨_, rfl⟩
  rw [← hgG] at hb2 ⊢
  rw [← hgS] at hb1 ⊢
  with_reducible generalize (w.alloc (.cells #[.int .i64 s.next, .slice A1 s.inodes.length c1, .slice A2 s.bads.length c2] 31)).alloc (.cells #[.int .i64 g.sectors, .int .i64 g.sector, .int .i64 g.blocks, .int .i64 g.pages, .int .i64 g.page] 27) = W2 at E2 ⊢
  clear hgS hgG
  have E2 := hid E2
  have CS := hid (fun (w' : World) (hs' : Sits h2 w') => (⟨sits_cellG (j := 0) (v := .int .i64 s.next) hs' hb1.out rfl, sits_cellG (j := 1) (v := .slice A1 s.inodes.length c1) hs' hb1.out rfl, sits_cellG (j := 2) (v := .slice A2 s.bads.length c2) hs' hb1.out rfl⟩ : w'.cell? ⟨gS, 0, none⟩ = some (.int .i64 s.next) ∧ w'.cell? ⟨gS, 1, none⟩ = some (.slice A1 s.inodes.length c1) ∧ w'.cell? ⟨gS, 2, none⟩ = some (.slice A2 s.bads.length c2)))
  have CG := hid (fun (w' : World) (hs' : Sits h2 w') => (⟨sits_cellG (j := 0) (v := .int .i64 g.sectors) hs' hb2.out rfl, sits_cellG (j := 1) (v := .int .i64 g.sector) hs' hb2.out rfl, sits_cellG (j := 2) (v := .int .i64 g.blocks) hs' hb2.out rfl, sits_cellG (j := 3) (v := .int .i64 g.pages) hs' hb2.out rfl, sits_cellG (j := 4) (v := .int .i64 g.page) hs' hb2.out rfl⟩ : w'.cell? ⟨gG, 0, none⟩ = some (.int .i64 g.sectors) ∧ w'.cell? ⟨gG, 1, none⟩ = some (.int .i64 g.sector) ∧ w'.cell? ⟨gG, 2, none⟩ = some (.int .i64 g.blocks) ∧ w'.cell? ⟨gG, 3, none⟩ = some (.int .i64 g.pages) ∧ w'.cell? ⟨gG, 4, none⟩ = some (.int .i64 g.page)))
  obtain ⟨y0, y1, y2⟩ := CS.out _ E2.out.sits
  obtain ⟨z0, z1, z2, z3, z4⟩ := CG.out _ E2.out.sits
  obtain ⟨q0, hq0⟩ : ∃ q, geoB g = q := ⟨_, rfl⟩
  have KG := hid (ref_RightGeometry g q0 hq0 h2 W2 E2.out.sits)
  have HG0 := hid hq0
  clear hq0
  cases q0
  · have HF := hid (show false = t by rw [← HT.out]; exact (sound_geo HG0.out).symm)
    go_wp2_with (go_at_call 31; refine KG.out.mono ?_; rintro e w1 ⟨rfl, F⟩; have E3 := hid (E2.out.trans F); clear F; obtain ⟨y0, y1, y2⟩ := CS.out _ E3.out.sits)
    go_ret
    exact ⟨ret_bool HF.out, E3.out.back⟩
  by_cases hn1 : (s.inodes.length : Int) ≤ 200
  rotate_left
  · have HF := hid (show false = t by rw [← HT.out]; exact (sound_rise (rise_len hn1)).symm)
    have hn1' : (200 : Int) < (s.inodes.length : Int) := by omega
    go_wp2_with (go_at_call 31; refine KG.out.mono ?_; rintro e w1 ⟨rfl, F⟩; have E3 := hid (E2.out.trans F); clear F; obtain ⟨y0, y1, y2⟩ := CS.out _ E3.out.sits)
    go_ret
    exact ⟨ret_bool HF.out, E3.out.back⟩
  by_cases hn2 : s.next ≤ 2147483647
  rotate_left
  · have HF := hid (show false = t by rw [← HT.out]; exact (sound_rise (rise_next hn2)).symm)
    have hn2' : (2147483647 : Int) < s.next := by omega
    go_wp2_with (go_at_call 31; refine KG.out.mono ?_; rintro e w1 ⟨rfl, F⟩; have E3 := hid (E2.out.trans F); clear F; obtain ⟨y0, y1, y2⟩ := CS.out _ E3.out.sits)
    go_ret
    exact ⟨ret_bool HF.out, E3.out.back⟩
  have HN1 := hid hn1
  have HN2' := hid hn2
  have hn1' : ¬ (200 : Int) < (s.inodes.length : Int) := by omega
  have hn2' : ¬ (2147483647 : Int) < s.next := by omega
  go_upto_region 3 with (go_at_call 31; refine KG.out.mono ?_; rintro e w1 ⟨rfl, F⟩; have E3 := hid (E2.out.trans F); clear F; obtain ⟨y0, y1, y2⟩ := CS.out _ E3.out.sits)
  clear KG E2 y0 y1 y2 z0 z1 z2 z3 z4 hn1 hn2 hn1' hn2'
  go_wp2_with fail
  go_loopw [5] (fun i wr => ∃ k : Nat, k ≤ s.inodes.length ∧ i = .int .i64 k ∧ Hid (∀ i, i < k → okR s.next s.inodes i = true) ∧ Hid (Ext h w h2 wr)) (fun i _ => s.inodes.length - (intOf i).toNat)
  case atStart => exact ⟨0, Nat.zero_le _, rfl, hid (fun i hi => by omega), E3⟩
  case round =>
    obtain ⟨k, hk, rfl, HN, E⟩ := hrel
    clear y1
    obtain ⟨y0, y1, y2⟩ := CS.out _ E.out.sits
    by_cases hlt : k < s.inodes.length
    · obtain ⟨x, hx⟩ : ∃ x, s.inodes[k]? = some x := ⟨s.inodes[k], by simp [hlt]⟩
      obtain ⟨b, off, A5, c5, A6, c6, rfl, d0, d1, d2, d3, d4, d5, d6, s0, s1, s2, s3, s4⟩ := R1.out.inode hx E.out.sits
      have HX := hid hx
      have RX := hid (show repInode h2 [.int .i64 x.no, .int .i64 x.kind, .int .i64 x.links, .int .i64 x.size, .string x.target, .slice A5 x.entries.length c5, .slice A6 x.runs.length c6] x from ⟨A5, c5, A6, c6, rfl, s0, s1, s2, s3, s4⟩)
      clear hx
      go_upto_region 7 with (fail)
      have E2 := hid (E.out.alloc (.cells #[.int .i64 x.no, .int .i64 x.kind, .int .i64 x.links, .int .i64 x.size, .string x.target, .slice A5 x.entries.length c5, .slice A6 x.runs.length c6] 51))
      have HBX := hid (heap_new wr (.cells #[.int .i64 x.no, .int .i64 x.kind, .int .i64 x.links, .int .i64 x.size, .string x.target, .slice A5 x.entries.length c5, .slice A6 x.runs.length c6] 51))
      generalize hgb : wr.heap.size = gb at *
      with_reducible generalize wr.alloc (.cells #[.int .i64 x.no, .int .i64 x.kind, .int .i64 x.links, .int .i64 x.size, .string x.target, .slice A5 x.entries.length c5, .slice A6 x.runs.length c6] 51) = W3 at E2 HBX ⊢
      have e0 : W3.cell? ⟨gb, 0, none⟩ = some (.int .i64 x.no) := box_cell (j := 0) HBX.out rfl
      have u0 := fun d os => cell_regrown e0 d os
      have e1 : W3.cell? ⟨gb, 1, none⟩ = some (.int .i64 x.kind) := box_cell (j := 1) HBX.out rfl
      have u1 := fun d os => cell_regrown e1 d os
      have e2 : W3.cell? ⟨gb, 2, none⟩ = some (.int .i64 x.links) := box_cell (j := 2) HBX.out rfl
      have u2 := fun d os => cell_regrown e2 d os
      have e3 : W3.cell? ⟨gb, 3, none⟩ = some (.int .i64 x.size) := box_cell (j := 3) HBX.out rfl
      have u3 := fun d os => cell_regrown e3 d os
      have e4 : W3.cell? ⟨gb, 4, none⟩ = some (.string x.target) := box_cell (j := 4) HBX.out rfl
      have u4 := fun d os => cell_regrown e4 d os
      have e5 : W3.cell? ⟨gb, 5, none⟩ = some (.slice A5 x.entries.length c5) := box_cell (j := 5) HBX.out rfl
      have u5 := fun d os => cell_regrown e5 d os
      have e6 : W3.cell? ⟨gb, 6, none⟩ = some (.slice A6 x.runs.length c6) := box_cell (j := 6) HBX.out rfl
      have u6 := fun d os => cell_regrown e6 d os
      have yn : W3.cell? ⟨gS, 0, none⟩ = some (.int .i64 s.next) := (CS.out _ E2.out.sits).1
      have un := fun d os => cell_regrown yn d os
      have yi : W3.cell? ⟨gS, 1, none⟩ = some (.slice (some ⟨b, off, none⟩) s.inodes.length c1) := (CS.out _ E2.out.sits).2.1
      have ui := fun d os => cell_regrown yi d os
      have i1 : (0 : Int) ≤ (k : Int) := by omega
      have i2 : (k : Int) < (s.inodes.length : Int) := by omega
      clear e0 e1 e2 e3 e4 e5 e6 yn yi d0 d1 d2 d3 d4 d5 d6 y0 y1 y2
      go_cut [62] (fun u wx => u = .bool (!okR s.next s.inodes k) ∧ Ext h w h2 wx)
      case first =>
        obtain ⟨q, hq⟩ : ∃ q, rightI x = q := ⟨_, rfl⟩
        have HQ := hid hq
        clear hq
        cases q
        · have G := hid (okR_a (nx := s.next) HX.out HQ.out)
          refine wp_region_quiet_below (by kernel_rfl) (by kernel_rfl) ?_
          repeat (go_big_quiet_step (exact quietCall (ref_RightInode x [.int .i64 x.no, .int .i64 x.kind, .int .i64 x.links, .int .i64 x.size, .string x.target, .slice A5 x.entries.length c5, .slice A6 x.runs.length c6] false HQ.out h2 _ (Ext.quiet E2.out.sits _ _).sits RX.out)))
          refine wpQuiet_nil ?_
          intro _ hw'
          obtain ⟨⟨dq, osq⟩, hw''⟩ := hw'
          subst hw''
          go_wp2
          go_meet
          exact ⟨ret_val3 (by rw [G.out]; first | rfl | (rw [Bool.not_not]; rfl) | (rw [← decide_not]; exact decide_eq_decide.2 (by omega))), E2.out.trans (Ext.quiet E2.out.sits _ _)⟩
        · by_cases hno : s.next ≤ x.no
          · have G := hid (okR_b HX.out hno)
            have hno2 : decide (s.next ≤ x.no) = true := by simpa using hno
            have hno3 : decide (x.no < s.next) = false := by simp; omega
            clear hno
            refine wp_region_quiet_below (by kernel_rfl) (by kernel_rfl) ?_
            repeat (go_big_quiet_step (exact quietCall (ref_RightInode x [.int .i64 x.no, .int .i64 x.kind, .int .i64 x.links, .int .i64 x.size, .string x.target, .slice A5 x.entries.length c5, .slice A6 x.runs.length c6] true HQ.out h2 _ (Ext.quiet E2.out.sits _ _).sits RX.out)))
            refine wpQuiet_nil ?_
            intro _ hw'
            obtain ⟨⟨dq, osq⟩, hw''⟩ := hw'
            subst hw''
            go_wp2
            go_meet
            exact ⟨ret_val3 (by rw [G.out]; first | rfl | (rw [Bool.not_not]; rfl) | (rw [← decide_not]; exact decide_eq_decide.2 (by omega))), E2.out.trans (Ext.quiet E2.out.sits _ _)⟩
          · have hno2 : decide (s.next ≤ x.no) = false := by simpa using hno
            have hno3 : decide (x.no < s.next) = true := by simp; omega
            cases k with
            | zero =>
                have G := hid (okR_c (nx := s.next) HX.out HQ.out (by omega))
                clear hno
                try simp only [Nat.zero_mul, Nat.add_zero] at u0 u1
                refine wp_region_quiet_below (by kernel_rfl) (by kernel_rfl) ?_
                repeat (go_big_quiet_step (exact quietCall (ref_RightInode x [.int .i64 x.no, .int .i64 x.kind, .int .i64 x.links, .int .i64 x.size, .string x.target, .slice A5 x.entries.length c5, .slice A6 x.runs.length c6] true HQ.out h2 _ (Ext.quiet E2.out.sits _ _).sits RX.out)))
                refine wpQuiet_nil ?_
                intro _ hw'
                obtain ⟨⟨dq, osq⟩, hw''⟩ := hw'
                subst hw''
                go_wp2
                go_meet
                exact ⟨ret_val3 (by rw [G.out]; first | rfl | (rw [Bool.not_not]; rfl) | (rw [← decide_not]; exact decide_eq_decide.2 (by omega))), E2.out.trans (Ext.quiet E2.out.sits _ _)⟩
            | succ m =>
                obtain ⟨y, hy⟩ : ∃ y, s.inodes[m]? = some y := ⟨s.inodes[m]'(by omega), List.getElem?_eq_getElem _⟩
                obtain ⟨b', off', _, _, _, _, e0, d0, _⟩ := R1.out.inode hy E2.out.sits
                obtain ⟨rfl, rfl⟩ : b = b' ∧ off = off' := by simpa using e0
                have G := hid (okR_d (nx := s.next) HX.out hy HQ.out (by omega))
                have v0 := fun d os => cell_regrown d0 d os
                have e1 : ((m + 1 : Nat) : Int) = (m : Int) + 1 := by omega
                rw [e1] at i1 i2
                rw [e1]
                have hz : decide (0 < (m : Int) + 1) = true := decide_eq_true (by omega)
                have i3 : (0 : Int) ≤ (m : Int) := by omega
                have i4 : (m : Int) < (s.inodes.length : Int) := by omega
                clear hy e0 d0 e1 hno
                refine wp_region_quiet_below (by kernel_rfl) (by kernel_rfl) ?_
                repeat (go_big_quiet_step (exact quietCall (ref_RightInode x [.int .i64 x.no, .int .i64 x.kind, .int .i64 x.links, .int .i64 x.size, .string x.target, .slice A5 x.entries.length c5, .slice A6 x.runs.length c6] true HQ.out h2 _ (Ext.quiet E2.out.sits _ _).sits RX.out)))
                refine wpQuiet_nil ?_
                intro _ hw'
                obtain ⟨⟨dq, osq⟩, hw''⟩ := hw'
                subst hw''
                go_wp2
                go_meet
                exact ⟨ret_val3 (by rw [G.out]; first | rfl | (rw [Bool.not_not]; rfl) | (rw [← decide_not]; exact decide_eq_decide.2 (by omega))), E2.out.trans (Ext.quiet E2.out.sits _ _)⟩
      case rest =>
        obtain ⟨rfl, E3⟩ := hcut
        obtain ⟨q, hq⟩ : ∃ q, okR s.next s.inodes k = q := ⟨_, rfl⟩
        have HG := hid hq
        have E3 := hid E3
        rw [hq]
        clear hq
        cases q
        · have HF := hid (show false = t by rw [← HT.out]; exact (sound_rise (by unfold riseB allR; rw [range_not hlt HG.out]; rfl)).symm)
          go_wp2
          go_ret
          exact ⟨ret_bool HF.out, E3.out.back⟩
        · have HN2 := hid (show ∀ i, i < k + 1 → okR s.next s.inodes i = true from fun i hi => by
            by_cases hik : i = k
            · rw [hik, HG.out]
            · exact HN.out i (by omega))
          go_wp2
          go_roundw
          case rel => exact ⟨k + 1, by omega, by go_num, HN2, E3⟩
          case measure => simp [intOf]; omega
    · have HA := hid (show allR s.next s.inodes = true from range_all (fun i hi => HN.out i (by omega)))
      clear HN
      go_wp2_with fail
      go_loopw [7] (fun i wr => ∃ k : Nat, k ≤ s.bads.length ∧ i = .int .i64 k ∧ Hid (∀ i, i < k → okZ g.blocks s.bads i = true) ∧ Hid (Ext h w h2 wr)) (fun i _ => s.bads.length - (intOf i).toNat)
      case atStart => exact ⟨0, Nat.zero_le _, rfl, hid (fun i hi => by omega), E⟩
      case round =>
        obtain ⟨k, hk, rfl, HN, E⟩ := hrel
        clear y0 y1 y2
        obtain ⟨y0, y1, y2⟩ := CS.out _ E.out.sits
        obtain ⟨z0, z1, z2, z3, z4⟩ := CG.out _ E.out.sits
        by_cases hlt : k < s.bads.length
        · obtain ⟨x, hx⟩ : ∃ x, s.bads[k]? = some x := ⟨s.bads[k], by simp [hlt]⟩
          obtain ⟨b, off, rfl, d0⟩ := R2.out.int hx E.out.sits
          obtain ⟨q, hq⟩ : ∃ q, okZ g.blocks s.bads k = q := ⟨_, rfl⟩
          have E2 := E
          have HG := hid hq
          have i1 : (0 : Int) ≤ (k : Int) := by omega
          have i2 : (k : Int) < (s.bads.length : Int) := by omega
          have ub := fun d os => cell_regrown y2 d os
          have ug := fun d os => cell_regrown z2 d os
          have u0 := fun d os => cell_regrown d0 d os
          go_upto_region 12 with (fail)
          clear y0 y1 y2 z0 z1 z2 z3 z4 d0
          go_cut [103] (fun u wx => u = .bool (!okZ g.blocks s.bads k) ∧ Ext h w h2 wx)
          case first =>
            cases k with
            | zero =>
              have HZ := hid (okZ_0 (bl := g.blocks) hx)
              simp only [Nat.add_zero] at u0
              clear hq hx
              by_cases a1 : x < 0
              · have G := hid (show okZ g.blocks s.bads 0 = false by rw [HZ.out]; simp; omega)
                have p1 : decide (x < 0) = true := decide_eq_true a1
                clear a1
                refine wp_region_quiet_below (by kernel_rfl) (by kernel_rfl) ?_
                repeat (go_big_quiet_step (fail))
                refine wpQuiet_nil ?_
                intro _ hw'
                obtain ⟨⟨dq, osq⟩, hw''⟩ := hw'
                subst hw''
                go_wp2
                go_meet
                exact ⟨ret_val3 (by rw [G.out]; first | rfl | (rw [Bool.not_not]; rfl) | (rw [← decide_not]; exact decide_eq_decide.2 (by omega))), E2.out.trans (Ext.quiet E2.out.sits _ _)⟩
              · have p1 : decide (x < 0) = false := decide_eq_false a1
                by_cases a2 : g.blocks ≤ x
                · have G := hid (show okZ g.blocks s.bads 0 = false by rw [HZ.out]; simp; omega)
                  have p2 : decide (g.blocks ≤ x) = true := decide_eq_true a2
                  clear a1 a2
                  refine wp_region_quiet_below (by kernel_rfl) (by kernel_rfl) ?_
                  repeat (go_big_quiet_step (fail))
                  refine wpQuiet_nil ?_
                  intro _ hw'
                  obtain ⟨⟨dq, osq⟩, hw''⟩ := hw'
                  subst hw''
                  go_wp2
                  go_meet
                  exact ⟨ret_val3 (by rw [G.out]; first | rfl | (rw [Bool.not_not]; rfl) | (rw [← decide_not]; exact decide_eq_decide.2 (by omega))), E2.out.trans (Ext.quiet E2.out.sits _ _)⟩
                · have G := hid (show okZ g.blocks s.bads 0 = true by rw [HZ.out]; simp; omega)
                  have p2 : decide (g.blocks ≤ x) = false := decide_eq_false a2
                  clear a1 a2
                  refine wp_region_quiet_below (by kernel_rfl) (by kernel_rfl) ?_
                  repeat (go_big_quiet_step (fail))
                  refine wpQuiet_nil ?_
                  intro _ hw'
                  obtain ⟨⟨dq, osq⟩, hw''⟩ := hw'
                  subst hw''
                  go_wp2
                  go_meet
                  exact ⟨ret_val3 (by rw [G.out]; first | rfl | (rw [Bool.not_not]; rfl) | (rw [← decide_not]; exact decide_eq_decide.2 (by omega))), E2.out.trans (Ext.quiet E2.out.sits _ _)⟩
            | succ m =>
              obtain ⟨y, hy⟩ : ∃ y, s.bads[m]? = some y := ⟨s.bads[m]'(by omega), List.getElem?_eq_getElem _⟩
              obtain ⟨b', off', e0, d1⟩ := R2.out.int hy E.out.sits
              obtain ⟨rfl, rfl⟩ : b = b' ∧ off = off' := by simpa using e0
              have HZ := hid (okZ_at (bl := g.blocks) hx hy)
              have v0 := fun d os => cell_regrown d1 d os
              have e1 : ((m + 1 : Nat) : Int) = (m : Int) + 1 := by omega
              rw [e1] at i1 i2
              rw [e1]
              have hz : decide (0 < (m : Int) + 1) = true := decide_eq_true (by omega)
              have i3 : (0 : Int) ≤ (m : Int) := by omega
              have i4 : (m : Int) < (s.bads.length : Int) := by omega
              clear hq hx hy e0 d1 e1
              by_cases a1 : x < 0
              · have G := hid (show okZ g.blocks s.bads (m + 1) = false by rw [HZ.out]; simp; omega)
                have p1 : decide (x < 0) = true := decide_eq_true a1
                clear a1
                refine wp_region_quiet_below (by kernel_rfl) (by kernel_rfl) ?_
                repeat (go_big_quiet_step (fail))
                refine wpQuiet_nil ?_
                intro _ hw'
                obtain ⟨⟨dq, osq⟩, hw''⟩ := hw'
                subst hw''
                go_wp2
                go_meet
                exact ⟨ret_val3 (by rw [G.out]; first | rfl | (rw [Bool.not_not]; rfl) | (rw [← decide_not]; exact decide_eq_decide.2 (by omega))), E2.out.trans (Ext.quiet E2.out.sits _ _)⟩
              · have p1 : decide (x < 0) = false := decide_eq_false a1
                by_cases a2 : g.blocks ≤ x
                · have G := hid (show okZ g.blocks s.bads (m + 1) = false by rw [HZ.out]; simp; omega)
                  have p2 : decide (g.blocks ≤ x) = true := decide_eq_true a2
                  clear a1 a2
                  refine wp_region_quiet_below (by kernel_rfl) (by kernel_rfl) ?_
                  repeat (go_big_quiet_step (fail))
                  refine wpQuiet_nil ?_
                  intro _ hw'
                  obtain ⟨⟨dq, osq⟩, hw''⟩ := hw'
                  subst hw''
                  go_wp2
                  go_meet
                  exact ⟨ret_val3 (by rw [G.out]; first | rfl | (rw [Bool.not_not]; rfl) | (rw [← decide_not]; exact decide_eq_decide.2 (by omega))), E2.out.trans (Ext.quiet E2.out.sits _ _)⟩
                · have G := hid (show okZ g.blocks s.bads (m + 1) = decide (y < x) by rw [HZ.out, decide_eq_true (show 0 ≤ x by omega), decide_eq_true (show x < g.blocks by omega)]; rfl)
                  have p2 : decide (g.blocks ≤ x) = false := decide_eq_false a2
                  clear a1 a2
                  refine wp_region_quiet_below (by kernel_rfl) (by kernel_rfl) ?_
                  repeat (go_big_quiet_step (fail))
                  refine wpQuiet_nil ?_
                  intro _ hw'
                  obtain ⟨⟨dq, osq⟩, hw''⟩ := hw'
                  subst hw''
                  go_wp2
                  go_meet
                  exact ⟨ret_val3 (by rw [G.out]; first | rfl | (rw [Bool.not_not]; rfl) | (rw [← decide_not]; exact decide_eq_decide.2 (by omega))), E2.out.trans (Ext.quiet E2.out.sits _ _)⟩
          case rest =>
            obtain ⟨rfl, E3⟩ := hcut
            have E3 := hid E3
            rw [hq]
            clear hq hx
            cases q
            · have HF := hid (show false = t by rw [← HT.out]; exact (sound_rise (riseB_z (by unfold allZ; rw [range_not hlt HG.out]))).symm)
              go_wp2
              go_ret
              exact ⟨ret_bool HF.out, E3.out.back⟩
            · have HN2 := hid (show ∀ i, i < k + 1 → okZ g.blocks s.bads i = true from fun i hi => by
                by_cases hik : i = k
                · rw [hik, HG.out]
                · exact HN.out i (by omega))
              go_wp2
              go_roundw
              case rel => exact ⟨k + 1, by omega, by go_num, HN2, E3⟩
              case measure => simp [intOf]; omega
        · have HZ := hid (show allZ g.blocks s.bads = true from range_all (fun i hi => HN.out i (by omega)))
          have HRB := hid (show riseB s g = true by unfold riseB; rw [HA.out, HZ.out, decide_eq_true HN1.out, decide_eq_true HN2'.out]; rfl)
          have HRI := hid (riseI_of HA.out)
          have HRT := hid (allR_right HA.out)
          have HT2 := hid (show (okPl (g.blocks * g.pages) (refPl s.inodes) && refB s.inodes) = t by
            rw [← HT.out]; unfold soundP; rw [HG0.out, HRB.out, sums_eq HRI.out HRT.out, refPl_eq HRT.out]; rfl)
          clear HN HZ
          go_wp2_with fail
          clear hlt hk
          go_loopw [8] (fun i wr => ∃ k : Nat, k ≤ s.inodes.length ∧ i = .int .i64 k ∧ Hid (∀ i y, i < k → s.inodes[i]? = some y → linkedR s.inodes y = true) ∧ Hid (Ext h w h2 wr)) (fun i _ => s.inodes.length - (intOf i).toNat)
          case atStart => exact ⟨0, Nat.zero_le _, rfl, hid (fun i y hi => by omega), E⟩
          case round =>
            obtain ⟨k, hk, rfl, HN, E⟩ := hrel
            clear y0 y1 y2 z0 z1 z2 z3 z4
            obtain ⟨y0, y1, y2⟩ := CS.out _ E.out.sits
            by_cases hlt : k < s.inodes.length
            · obtain ⟨x, hx⟩ : ∃ x, s.inodes[k]? = some x := ⟨s.inodes[k], by simp [hlt]⟩
              have HXE := hid (HENT.out x (List.mem_of_getElem? hx))
              obtain ⟨b, off, A5, c5, A6, c6, rfl, d0, d1, d2, d3, d4, d5, d6, s0, s1, s2, s3, s4⟩ := R1.out.inode hx E.out.sits
              have HX := hid hx
              have RX := hid (show repInode h2 [.int .i64 x.no, .int .i64 x.kind, .int .i64 x.links, .int .i64 x.size, .string x.target, .slice A5 x.entries.length c5, .slice A6 x.runs.length c6] x from ⟨A5, c5, A6, c6, rfl, s0, s1, s2, s3, s4⟩)
              obtain ⟨t1, ht1⟩ : ∃ t1, linkedR s.inodes x = t1 := ⟨_, rfl⟩
              have HT1 := hid ht1
              have E2 := E
              have i1 : (0 : Int) ≤ (k : Int) := by omega
              have i2 : (k : Int) < (s.inodes.length : Int) := by omega
              go_upto_region 17 with (fail)
              have j0 := fun d os => cell_regrown y0 d os
              have j1 := fun d os => cell_regrown y1 d os
              have j2 := fun d os => cell_regrown y2 d os
              have u0 := fun d os => cell_regrown d0 d os
              have u1 := fun d os => cell_regrown d1 d os
              have u2 := fun d os => cell_regrown d2 d os
              have u3 := fun d os => cell_regrown d3 d os
              have u4 := fun d os => cell_regrown d4 d os
              have u5 := fun d os => cell_regrown d5 d os
              have u6 := fun d os => cell_regrown d6 d os
              clear hx ht1 y0 y1 y2 d0 d1 d2 d3 d4 d5 d6
              go_cut [118] (fun u wx => u = .bool (!t1) ∧ Ext h w h2 wx)
              case first =>
                refine wp_region_quiet_below (by kernel_rfl) (by kernel_rfl) ?_
                repeat (go_big_quiet_step (exact quietCall (ref_linked s (.int .i64 s.next :: .slice (some ⟨b, off, none⟩) s.inodes.length c1 :: .slice A2 s.bads.length c2 :: []) x [.int .i64 x.no, .int .i64 x.kind, .int .i64 x.links, .int .i64 x.size, .string x.target, .slice A5 x.entries.length c5, .slice A6 x.runs.length c6] t1 HT1.out HLEN.out HENT.out HXE.out h2 _ (Ext.quiet E2.out.sits _ _).sits RS2.out RX.out)))
                refine wpQuiet_nil ?_
                intro _ hw'
                obtain ⟨⟨dq, osq⟩, hw''⟩ := hw'
                subst hw''
                go_wp2
                go_meet
                exact ⟨rfl, E2.out.trans (Ext.quiet E2.out.sits _ _)⟩
              case rest =>
                obtain ⟨rfl, E3⟩ := hcut
                have E3 := hid E3
                cases t1
                · have HF := hid (show false = t by
                    rw [← HT2.out]
                    have : refB s.inodes = false := by
                      unfold refB
                      rw [show s.inodes.all (linkedR s.inodes) = false from List.all_eq_false.2 ⟨x, List.mem_of_getElem? HX.out, by rw [HT1.out]; simp⟩]; rfl
                    rw [this, Bool.and_false])
                  go_wp2
                  go_ret
                  exact ⟨ret_bool HF.out, E3.out.back⟩
                · have HN2 := hid (show ∀ i y, i < k + 1 → s.inodes[i]? = some y → linkedR s.inodes y = true from fun i y hi hy => by
                    by_cases hik : i = k
                    · subst hik
                      have := HX.out
                      rw [hy] at this
                      obtain rfl : y = x := by simpa using this
                      exact HT1.out
                    · exact HN.out i y (by omega) hy)
                  go_wp2
                  go_roundw
                  case rel => exact ⟨k + 1, by omega, by go_num, HN2, E3⟩
                  case measure => simp [intOf]; omega
            · have HLK := hid (show s.inodes.all (linkedR s.inodes) = true from List.all_eq_true.2 fun y hy => by
                obtain ⟨i, hi, rfl⟩ := List.mem_iff_getElem.1 hy
                exact HN.out i _ (by omega) (List.getElem?_eq_getElem hi))
              obtain ⟨v, hv⟩ : ∃ v, findI s.inodes 1 = v := ⟨_, rfl⟩
              obtain ⟨x, hx⟩ : ∃ x, v.getD zeroI = x := ⟨_, rfl⟩
              obtain ⟨p, hp⟩ : ∃ p, okPl (g.blocks * g.pages) (refPl s.inodes) = p := ⟨_, rfl⟩
              have HP := hid hp
              have HX := hid hx
              have HT3 := hid (show (p && (v.isSome && x.kind == 2)) = t by rw [← HT2.out, hp]; unfold refB; rw [HLK.out, rootR_of hv hx]; rfl)
              have KF := hid (ref_FindInode s _ 1 v hv h2 wr E.out.sits RS2.out)
              obtain ⟨b1, b2, b3, b4⟩ : 0 ≤ g.blocks ∧ g.blocks ≤ 64 ∧ 0 ≤ g.pages ∧ g.pages ≤ 32 := by have := geoB_iff.1 HG0.out; omega
              have KP := hid (fun (w' : World) (hs' : Sits h2 w') => ref_placed s g _ _ p HP.out HLEN.out b1 b2 b3 b4 h2 w' hs' RS2.out (rfl : _ = _))
              clear hv hx hp HN b1 b2 b3 b4
              go_upto_region 20 with (first | (go_at_call 34; refine KF.out.mono ?_; rintro e w6 ⟨xl, h6, rfl, rx, F6⟩; rw [HX.out] at rx; have E6 := hid (E.out.trans F6); have rx := hid rx; have L6 := hid F6.le; clear F6) | (refine wpList_store_row rfl 51 _ _ rfl w6.heap.size xl.toArray rfl rfl 51 #[.int .i64 0, .int .i64 0, .int .i64 0, .int .i64 0, .string ⟨#[]⟩, .slice none 0 0, .slice none 0 0] (heap_new w6 _) (info_Inode rx.out.len) (zi_sizeR rx.out) (one_arr rx.out.one) ?_))
              rw [World.setRow_alloc_new]
              obtain ⟨h8, F8, hbx, l8, -⟩ := (Ext.refl E6.out.sits).boxF xl.toArray 51
              have E8 := E6.out.trans F8
              generalize w6.heap.size = gy at *
              with_reducible generalize w6.alloc (.cells xl.toArray 51) = w8 at E8 F8 ⊢
              have rx8 := hid (rx.out.mono l8)
              have n1 := sits_cellL E8.sits hbx rx8.out.at1
              have S2 := hid (show Sits h2 w8 from fun b o hb => E8.sits _ _ (l8 _ _ (L6.out _ _ hb)))
              obtain ⟨y0, y1, y2⟩ := CS.out _ S2.out
              obtain ⟨z0, z1, z2, z3, z4⟩ := CG.out _ S2.out
              have KP := hid (KP.out _ S2.out)
              have E8 := hid E8
              clear F8 hbx l8 E6 KF
              cases hi : v.isSome with
              | false =>
                have HF := hid (show false = t by rw [← HT3.out, hi]; simp)
                clear hi
                go_wp2_with fail
                go_ret
                exact ⟨ret_bool HF.out, E8.out.back⟩
              | true =>
                by_cases hxk : x.kind = 2
                · have bk : (x.kind == 2) = true := by simpa using hxk
                  have HF := hid (show p = t by rw [← HT3.out, hi, bk]; simp)
                  clear hi hxk
                  go_wp2_with (go_at_call 35; refine KP.out.mono ?_; rintro e w9 ⟨rfl, F9⟩; have E9 := hid (E8.out.back.trans (Ext.of_below E8.out.back.sits F9.below)))
                  go_ret
                  exact ⟨ret_bool HF.out, E9.out⟩
                · have bk : (x.kind == 2) = false := by simpa using hxk
                  have HF := hid (show false = t by rw [← HT3.out, hi, bk]; simp)
                  clear hi hxk
                  go_wp2_with fail
                  go_ret
                  exact ⟨ret_bool HF.out, E8.out.back⟩

end Go.Proofs.YtdiaibkpcnknbaaDoor
