import Derived.Test.YtkglaofiencfdaaSnA
import Derived.Test.YtkglaofiencfdaaStDf
import Derived.Test.YtkglaofiencfdaaRefRuns
import Derived.Test.YtkglaofiencfdaaRMk
import Derived.Test.YtkglaofiencfdaaPkInA
import Derived.Test.YtkglaofiencfdaaRInsA
import Derived.Test.YtkglaofiencfdaaBox
import Derived.Laws.OwnMore
namespace Go.Proofs.Ytkglaofiencfdaa
open Go.RowKit Go.Sort
set_option linter.unusedVariables false
/-! ### ways up, for any step -/
def UpG (u : Int → Int) : List Int → Prop
  | [] => False
  | [a] => a = 1
  | a :: b :: l => a ≠ 1 ∧ b = u a ∧ UpG u (b :: l)
def chainG (u : Int → Int) : Nat → Int → Int
  | 0, at_ => at_
  | n + 1, at_ => if at_ = 1 then at_ else chainG u n (u at_)
theorem chainR_eq (xs : List Inode) : ∀ (n : Nat) (a : Int), chainR xs n a = chainG (upR xs) n a
  | 0, _ => rfl
  | n + 1, a => by unfold chainR chainG; rw [chainR_eq xs n]
theorem chainG_one (u : Int → Int) : ∀ n, chainG u n 1 = 1
  | 0 => rfl
  | n + 1 => by unfold chainG; rw [if_pos rfl]
theorem chainG_of {u : Int → Int} : ∀ {l : List Int} {a : Int} {k : Nat}, UpG u (a :: l) → l.length ≤ k → chainG u k a = 1
  | [], a, k, h, _ => by rw [show a = 1 from h]; exact chainG_one u k
  | b :: l, a, 0, _, hk => by simp at hk
  | b :: l, a, k + 1, h, hk => by
    obtain ⟨h1, h2, h3⟩ := h
    unfold chainG
    rw [if_neg h1, ← h2]
    exact chainG_of h3 (by simpa using hk)
theorem chainG_list {u : Int → Int} : ∀ {k : Nat} {a : Int}, chainG u k a = 1 → ∃ l, UpG u (a :: l) ∧ l.length ≤ k
  | 0, a, h => ⟨[], h, Nat.le_refl _⟩
  | k + 1, a, h => by
    unfold chainG at h
    by_cases h1 : a = 1
    · exact ⟨[], h1, Nat.zero_le _⟩
    · rw [if_neg h1] at h
      obtain ⟨l, h2, h3⟩ := chainG_list h
      exact ⟨u a :: l, ⟨h1, rfl, h2⟩, by simpa using h3⟩
theorem UpG.uniq {u : Int → Int} : ∀ {l m : List Int} {a : Int}, UpG u (a :: l) → UpG u (a :: m) → l = m
  | [], [], _, _, _ => rfl
  | [], b :: m, a, h, h2 => absurd h h2.1
  | b :: l, [], a, h, h2 => absurd h2 h.1
  | b :: l, c :: m, a, h, h2 => by
    obtain ⟨h1, rfl, h3⟩ := h
    obtain ⟨_, e, h4⟩ := h2
    subst e
    rw [UpG.uniq h3 h4]
theorem UpG.tail {u : Int → Int} {a b : Int} {l : List Int} (h : UpG u (a :: b :: l)) : UpG u (b :: l) := h.2.2
theorem UpG.suffix {u : Int → Int} : ∀ {p q : List Int} {a : Int}, UpG u (p ++ a :: q) → UpG u (a :: q)
  | [], _, _, h => h
  | [b], q, a, h => h.2.2
  | b :: c :: p, q, a, h => UpG.suffix (p := c :: p) h.2.2
theorem UpG.nodup {u : Int → Int} : ∀ {l : List Int}, UpG u l → l.Nodup
  | [], h => h.elim
  | [a], _ => by simp
  | a :: b :: l, h => by
    rw [List.nodup_cons]
    refine ⟨fun hm => ?_, UpG.nodup h.2.2⟩
    obtain ⟨p, q, e⟩ := List.append_of_mem hm
    have h1 : UpG u (a :: q) := by have := h.2.2; rw [e] at this; exact this.suffix
    have h2 := UpG.uniq h h1
    have := congrArg List.length e
    rw [h2] at this
    simp at this
    omega
/-- The same steps on the way: the same way. -/
theorem UpG.congr {u v : Int → Int} : ∀ {l : List Int}, UpG u l → (∀ a ∈ l, a ≠ 1 → v a = u a) → UpG v l
  | [], h, _ => h
  | [a], h, _ => h
  | a :: b :: l, h, hv => ⟨h.1, by rw [hv a (by simp) h.1]; exact h.2.1, UpG.congr h.2.2 fun x hx => hv x (by simp [hx])⟩
/-- A way through so many numbers is no longer than these. -/
theorem chainG_short {u : Int → Int} {k n : Nat} {a : Int} {nos : List Int} (h : chainG u k a = 1) (hin : ∀ l, UpG u (a :: l) → ∀ x ∈ a :: l, x ∈ nos) (hn : nos.length ≤ n) : chainG u n a = 1 := by
  obtain ⟨l, h1, _⟩ := chainG_list h
  refine chainG_of h1 ?_
  have := nodup_len (a :: l) nos h1.nodup (hin l h1)
  simp only [List.length_cons] at this
  omega
end Go.Proofs.Ytkglaofiencfdaa

namespace Go.Proofs.Ytkglaofiencfdaa
open Go.RowKit Go.Sort
set_option linter.unusedVariables false
/-! ### the program's and the reference's counts say the same -/
theorem lastK_eq {xs : List Inode} (hr : riseI xs) (a : Int) : lastK xs a = (findI xs a).map (·.kind) := by
  unfold lastK
  congr 1
  cases h : xs.reverse.find? (isI a) with
  | none =>
    refine (findI_none_iff.2 fun x hx e => ?_).symm
    exact List.find?_eq_none.1 h x (by simpa using hx) (isI_iff.2 e)
  | some y =>
    have h1 := List.mem_of_find?_eq_some h
    have h2 := isI_iff.1 (List.find?_some h)
    rw [← h2]
    exact (findI_of_mem hr (by simpa using h1)).symm
theorem lastK_kind {xs : List Inode} (hr : riseI xs) (a : Int) : (lastK xs a).getD 0 = kindF (findI xs) a := by
  rw [lastK_eq hr]
  unfold kindF
  cases findI xs a <;> rfl
theorem cntM_getD (p : Int × Int → Bool) (ps : List (Int × Int)) : (cntM p ps).getD 0 = ((ps.filter p).length : Int) := by
  unfold cntM
  split
  · rename_i h; rw [h]; rfl
  · rfl
theorem pairsE_cnt (d a : Int) (es : List Entry) : (((pairsE d es).filter fun p => p.2 == a).length : Int) = cntE es a := by
  unfold pairsE cntE
  rw [List.filter_map, List.length_map, ← List.countP_eq_length_filter]
  rfl
theorem toM_leads (xs : List Inode) (a : Int) : (toM (pairsL xs) a).getD 0 = leadsL xs a := by
  unfold toM
  rw [cntM_getD]
  induction xs with
  | nil => rfl
  | cons x xs ih =>
    show ((((pairsE x.no x.entries ++ pairsL xs).filter fun p => p.2 == a).length : Nat) : Int) = cntE x.entries a + leadsL xs a
    rw [List.filter_append, List.length_append, ← ih, ← pairsE_cnt x.no a]
    omega
theorem pairsE_dirs (kf : Int → Option Int) (d a : Int) (es : List Entry) : (((pairsE d es).filter fun p => p.1 == a && (kf p.2).getD 0 == 2).length : Int) = if d = a then ((es.countP fun e => (kf e.no).getD 0 == 2 : Nat) : Int) else 0 := by
  unfold pairsE
  rw [List.filter_map, List.length_map, ← List.countP_eq_length_filter]
  by_cases h : d = a
  · rw [if_pos h]
    congr 1
    congr 1
    funext e
    simp [h]
  · rw [if_neg h]
    have : List.countP ((fun p : Int × Int => p.1 == a && (kf p.2).getD 0 == 2) ∘ fun e : Entry => (d, e.no)) es = 0 := by
      rw [List.countP_eq_zero]
      intro e _
      simp [h]
    rw [this]; rfl
theorem dirM_dirs (kf : Int → Option Int) : ∀ {xs : List Inode}, riseI xs → ∀ {x : Inode}, x ∈ xs → (dirM kf (pairsL xs) x.no).getD 0 = ((x.entries.countP fun e => (kf e.no).getD 0 == 2 : Nat) : Int) := by
  intro xs hr x hx
  unfold dirM
  rw [cntM_getD]
  induction xs with
  | nil => cases hx
  | cons y ys ih =>
    have hr2 : riseI ys := (List.pairwise_cons.1 hr).2
    have hlt : ∀ z ∈ ys, y.no < z.no := fun z hz => (List.pairwise_cons.1 hr).1 z.no (List.mem_map.2 ⟨z, hz, rfl⟩)
    show ((((pairsE y.no y.entries ++ pairsL ys).filter fun p => p.1 == x.no && (kf p.2).getD 0 == 2).length : Nat) : Int) = _
    rw [List.filter_append, List.length_append]
    have h1 := pairsE_dirs kf y.no x.no y.entries
    rcases List.mem_cons.1 hx with rfl | hx'
    · rw [if_pos rfl] at h1
      have h2 : ((pairsL ys).filter fun p => p.1 == x.no && (kf p.2).getD 0 == 2).length = 0 := by
        rw [List.length_eq_zero_iff, List.filter_eq_nil_iff]
        intro p hp
        obtain ⟨z, hz, hp2⟩ := List.mem_flatMap.1 hp
        obtain ⟨e, _, rfl⟩ := List.mem_map.1 hp2
        have := hlt z hz
        have hne : ¬ z.no = x.no := by omega
        simp [hne]
      omega
    · have := hlt x hx'
      rw [if_neg (by omega)] at h1
      have := ih hr2 hx'
      omega
theorem dirM_eq {xs : List Inode} (hr : riseI xs) {x : Inode} (hx : x ∈ xs) : (dirM (lastK xs) (pairsL xs) x.no).getD 0 = dirsF (findI xs) x.entries := by
  rw [dirM_dirs _ hr hx]
  unfold dirsF
  congr 2
  funext e
  rw [lastK_kind hr]
  by_cases h : kindF (findI xs) e.no = 2 <;> simp [h]
theorem leadsF_chain (up : Int → Option Int) : ∀ (n : Nat) (a : Int), leadsF up a n = (chainG (fun x => (up x).getD 0) n a == 1)
  | 0, _ => rfl
  | n + 1, a => by
    unfold leadsF chainG
    by_cases h : a = 1
    · rw [if_pos h, if_pos h]; simp [h]
    · rw [if_neg h, if_neg h]; exact leadsF_chain up n _
/-- All entries lead to something, and none to the root. -/
def lead1 (xs : List Inode) : Prop := ∀ x ∈ xs, ∀ e ∈ x.entries, e.no ≠ 1 ∧ (findI xs e.no).isSome = true
theorem okLeads_iff {xs : List Inode} (hr : riseI xs) (hk : ∀ x ∈ xs, rightI x = true) : okLeads (lastK xs) (pairsL xs) = true ↔ lead1 xs := by
  have hkind : ∀ x ∈ xs, x.kind ≠ 0 := fun x hx q => by
    have := hk x hx
    unfold rightI at this
    rw [q] at this
    simp at this
  unfold okLeads
  rw [List.all_eq_true]
  have key : ∀ n : Int, okLead (lastK xs) (0, n) = true ↔ n ≠ 1 ∧ (findI xs n).isSome = true := fun n => by
    unfold okLead
    rw [lastK_kind hr]
    simp only [Bool.and_eq_true, Bool.not_eq_true', beq_eq_false_iff_ne]
    constructor
    · rintro ⟨h1, h2⟩
      refine ⟨h2, ?_⟩
      cases h : findI xs n with
      | some _ => rfl
      | none => exact absurd (by unfold kindF; rw [h]; rfl) h1
    · rintro ⟨h1, h2⟩
      obtain ⟨y, hy⟩ := Option.isSome_iff_exists.1 h2
      exact ⟨by rw [kindF_some hy]; exact hkind y (mem_of_findI hy), h1⟩
  have e0 : ∀ p : Int × Int, okLead (lastK xs) p = okLead (lastK xs) (0, p.2) := fun p => rfl
  constructor
  · intro h x hx e he
    have := h (x.no, e.no) (List.mem_flatMap.2 ⟨x, hx, List.mem_map.2 ⟨e, he, rfl⟩⟩)
    rw [e0] at this
    exact (key e.no).1 this
  · intro h p hp
    obtain ⟨x, hx, hp2⟩ := List.mem_flatMap.1 hp
    obtain ⟨e, he, rfl⟩ := List.mem_map.1 hp2
    rw [e0]
    exact (key e.no).2 (h x hx e he)
/-- Who has one lead has one directory, whoever asks. -/
theorem ups_eq {xs : List Inode} (hr : riseI xs) {a : Int} (h : leadsL xs a = 1) : ∃ p ∈ xs, (∃ e ∈ p.entries, e.no = a) ∧ upR xs a = p.no ∧ (upM (pairsL xs) a).getD 0 = p.no := by
  have hfit := fit_list hr
  have hex : ∃ p ∈ xs, ∃ e ∈ p.entries, e.no = a := by
    apply Classical.byContradiction
    intro hne
    have : leadsL xs a = 0 := leadsL_zero.2 fun x hx e he q => hne ⟨x, hx, e, he, q⟩
    omega
  obtain ⟨p, hp, e, he, hea⟩ := hex
  have huniq : ∀ y ∈ xs, (∃ f ∈ y.entries, f.no = a) → y = p := fun y hy ⟨f, hf, hf2⟩ => by
    by_cases q : y.no = p.no
    · have h1 := findI_of_mem hr hy
      have h2 := findI_of_mem hr hp
      rw [q, h2] at h1
      exact (by simpa using h1 : p = y).symm
    · have h2 := hfit.two a y.no p.no y p (findI_of_mem hr hy) (findI_of_mem hr hp) q
      have h3 := cntE_pos hf
      have h4 := cntE_pos he
      rw [hf2] at h3
      rw [hea] at h4
      omega
  refine ⟨p, hp, ⟨e, he, hea⟩, ?_, ?_⟩
  · unfold upR
    cases q : xs.find? (fun x => x.entries.any fun e => e.no == a) with
    | none => exact absurd (List.any_eq_true.2 ⟨e, he, by simp [hea]⟩) (List.find?_eq_none.1 q p hp)
    | some y =>
      have q1 := List.find?_some q
      obtain ⟨f, hf, hf2⟩ := List.any_eq_true.1 q1
      rw [huniq y (List.mem_of_find?_eq_some q) ⟨f, hf, by simpa using hf2⟩]; rfl
  · unfold upM
    cases q : (pairsL xs).reverse.find? (fun p => p.2 == a) with
    | none =>
      have := List.find?_eq_none.1 q (p.no, e.no) (by rw [List.mem_reverse]; exact List.mem_flatMap.2 ⟨p, hp, List.mem_map.2 ⟨e, he, rfl⟩⟩)
      exact absurd (by simp [hea]) this
    | some y =>
      have h1 := List.mem_of_find?_eq_some q
      rw [List.mem_reverse] at h1
      obtain ⟨z, hz, hz2⟩ := List.mem_flatMap.1 h1
      obtain ⟨f, hf, rfl⟩ := List.mem_map.1 hz2
      have h2 := List.find?_some q
      rw [huniq z hz ⟨f, hf, by simpa using h2⟩] at *
      rfl
theorem dirsR_some {xs : List Inode} : ∀ {es : List Entry} {n d : Int}, dirsR xs es n = some d → ∀ e ∈ es, e.no ≠ 1 ∧ (findI xs e.no).isSome = true
  | [], _, _, _, e, he => by cases he
  | f :: es, n, d, h, e, he => by
    unfold dirsR at h
    cases hf : findI xs f.no with
    | none => rw [hf] at h; cases h
    | some y =>
      rw [hf] at h
      change (if y.no = 1 then none else dirsR xs es (if y.kind = 2 then n + 1 else n)) = some d at h
      by_cases h1 : y.no = 1
      · rw [if_pos h1] at h; cases h
      · rw [if_neg h1] at h
        rcases List.mem_cons.1 he with rfl | he
        · exact ⟨by rw [← findI_no hf]; exact h1, by rw [hf]; rfl⟩
        · exact dirsR_some h e he
def rootR (xs : List Inode) : Bool := match findI xs 1 with
  | none => false
  | some r => r.kind == 2
def refB (xs : List Inode) : Bool := xs.all (linkedR xs) && rootR xs
theorem sums_eq {xs : List Inode} (hr : riseI xs) (hk : ∀ x ∈ xs, rightI x = true) : sumsB xs = refB xs := by
  have hroot : ((lastK xs 1).getD 0 == 2) = rootR xs := by
    rw [lastK_kind hr]
    unfold kindF rootR
    cases findI xs 1 <;> rfl
  have hdirp : ∀ p ∈ xs, p.entries ≠ [] → p.kind = 2 := fun p hp h => by
    apply Classical.byContradiction
    intro q
    exact h (rightI_bare (hk p hp) q)
  -- the way up stays among directories
  have hway : ∀ (u : Int → Int), (∀ a, leadsL xs a = 1 → ∃ p ∈ xs, p.kind = 2 ∧ u a = p.no) → (∀ y ∈ xs, y.kind = 2 → y.no ≠ 1 → leadsL xs y.no = 1) → ∀ (l : List Int) (x : Inode), x ∈ xs → x.kind = 2 → UpG u (x.no :: l) → ∀ a ∈ x.no :: l, ∃ y ∈ xs, y.kind = 2 ∧ y.no = a := fun u hu h1 l => by
    induction l with
    | nil =>
      intro x hx hxk _ a ha
      exact ⟨x, hx, hxk, (by simpa using ha : a = x.no).symm⟩
    | cons b l ih =>
      intro x hx hxk hup a ha
      obtain ⟨q1, q2, q3⟩ := hup
      obtain ⟨p, hp, hpk, hpu⟩ := hu x.no (h1 x hx hxk q1)
      rcases List.mem_cons.1 ha with rfl | ha
      · exact ⟨x, hx, hxk, rfl⟩
      · have e : b = p.no := q2.trans hpu
        subst e
        exact ih p hp hpk q3 a ha
  have hupR : ∀ a, leadsL xs a = 1 → ∃ p ∈ xs, p.kind = 2 ∧ upR xs a = p.no := fun a h => by
    obtain ⟨p, hp, ⟨e, he, _⟩, h1, _⟩ := ups_eq hr h
    exact ⟨p, hp, hdirp p hp (fun q => by rw [q] at he; cases he), h1⟩
  have hupM : ∀ a, leadsL xs a = 1 → ∃ p ∈ xs, p.kind = 2 ∧ (fun x => (upM (pairsL xs) x).getD 0) a = p.no := fun a h => by
    obtain ⟨p, hp, ⟨e, he, _⟩, _, h1⟩ := ups_eq hr h
    exact ⟨p, hp, hdirp p hp (fun q => by rw [q] at he; cases he), h1⟩
  have hsame : ∀ a, leadsL xs a = 1 → (fun x => (upM (pairsL xs) x).getD 0) a = upR xs a := fun a h => by
    obtain ⟨p, hp, _, h1, h2⟩ := ups_eq hr h
    rw [h1]; exact h2
  rw [Bool.eq_iff_iff]
  unfold sumsB refB
  rw [hroot]
  simp only [Bool.and_eq_true, okLeads_iff hr hk, List.all_eq_true]
  constructor
  · rintro ⟨⟨hL, hR⟩, hA⟩
    have h1 : ∀ y ∈ xs, y.kind = 2 → y.no ≠ 1 → leadsL xs y.no = 1 := fun y hy hyk hy1 => by
      have := hA y hy
      unfold linkedF at this
      rw [if_pos hyk] at this
      simp only [Bool.and_eq_true, Bool.or_eq_true, beq_iff_eq] at this
      have q := (this.2.resolve_left hy1).1
      rw [toM_leads] at q; exact q
    refine ⟨fun x hx => ?_, hR⟩
    have hx2 := hA x hx
    unfold linkedF at hx2
    unfold linkedR
    by_cases hxk : x.kind = 2
    · rw [if_pos hxk] at hx2
      rw [if_neg (by simpa using hxk), dirsR_of (hL x hx)]
      simp only [Bool.and_eq_true, Bool.or_eq_true, beq_iff_eq] at hx2
      rw [dirM_eq hr hx] at hx2
      show (if x.links ≠ 2 + dirsF (findI xs) x.entries ∨ x.no = 1 then _ else _) = true
      by_cases hx1 : x.no = 1
      · rw [if_pos (.inr hx1), hx1]
        have h0 : leadsL xs 1 = 0 := leadsL_zero.2 fun y hy e he => (hL y hy e he).1
        rw [h0, ← hx2.1]; simp
      · rw [if_neg (by simp [hx1, hx2.1]), h1 x hx hxk hx1]
        have hc := (hx2.2.resolve_left hx1).2
        rw [leadsF_chain] at hc
        have hc : chainG (fun x => (upM (pairsL xs) x).getD 0) xs.length x.no = 1 := by simpa using hc
        obtain ⟨l, q1, q2⟩ := chainG_list hc
        have q3 : UpG (upR xs) (x.no :: l) := q1.congr fun a ha ha1 => by
          obtain ⟨y, hy, hyk, rfl⟩ := hway _ hupM h1 l x hx hxk q1 a ha
          exact (hsame y.no (h1 y hy hyk ha1)).symm
        rw [chainR_eq, chainG_of q3 (by omega)]
        rfl
    · rw [if_neg hxk] at hx2
      rw [if_pos hxk]
      rw [toM_leads] at hx2
      exact hx2
  · rintro ⟨hA, hR⟩
    have hlink : ∀ x ∈ xs, x.kind = 2 → (∀ e ∈ x.entries, e.no ≠ 1 ∧ (findI xs e.no).isSome = true) ∧ x.links = 2 + dirsF (findI xs) x.entries ∧ (x.no ≠ 1 → leadsL xs x.no = 1 ∧ chainR xs (xs.length + 1) x.no = 1) := fun x hx hxk => by
      have := hA x hx
      unfold linkedR at this
      rw [if_neg (by simpa using hxk)] at this
      cases hd : dirsR xs x.entries 2 with
      | none => rw [hd] at this; cases this
      | some d =>
        have hE := dirsR_some hd
        rw [dirsR_of hE] at hd
        rw [dirsR_of hE] at this
        refine ⟨hE, ?_⟩
        change (if x.links ≠ 2 + dirsF (findI xs) x.entries ∨ x.no = 1 then _ else _) = true at this
        by_cases hx1 : x.no = 1
        · rw [if_pos (.inr hx1)] at this
          simp only [Bool.and_eq_true, beq_iff_eq] at this
          exact ⟨this.1, fun q => absurd hx1 q⟩
        · by_cases hl : x.links = 2 + dirsF (findI xs) x.entries
          · rw [if_neg (by simp [hx1, hl])] at this
            simp only [Bool.and_eq_true, beq_iff_eq] at this
            exact ⟨hl, fun _ => this⟩
          · rw [if_pos (.inl hl)] at this
            simp only [Bool.and_eq_true, beq_iff_eq] at this
            exact absurd this.1 hl
    have hL : lead1 xs := fun x hx e he => by
      by_cases hxk : x.kind = 2
      · exact (hlink x hx hxk).1 e he
      · rw [rightI_bare (hk x hx) hxk] at he; cases he
    have h1 : ∀ y ∈ xs, y.kind = 2 → y.no ≠ 1 → leadsL xs y.no = 1 := fun y hy hyk hy1 => ((hlink y hy hyk).2.2 hy1).1
    refine ⟨⟨hL, hR⟩, fun x hx => ?_⟩
    unfold linkedF
    by_cases hxk : x.kind = 2
    · rw [if_pos hxk]
      obtain ⟨_, g2, g3⟩ := hlink x hx hxk
      simp only [Bool.and_eq_true, Bool.or_eq_true, beq_iff_eq]
      rw [dirM_eq hr hx]
      refine ⟨g2, ?_⟩
      by_cases hx1 : x.no = 1
      · exact .inl hx1
      · right
        rw [toM_leads, leadsF_chain]
        refine ⟨(g3 hx1).1, ?_⟩
        have hc := (g3 hx1).2
        rw [chainR_eq] at hc
        have hs : chainG (upR xs) xs.length x.no = 1 := chainG_short (nos := xs.map (·.no)) hc (fun l q1 a ha => by
          obtain ⟨y, hy, _, rfl⟩ := hway _ hupR h1 l x hx hxk q1 a ha
          exact List.mem_map.2 ⟨y, hy, rfl⟩) (by simp)
        obtain ⟨l, q1, q2⟩ := chainG_list hs
        have q3 : UpG (fun x => (upM (pairsL xs) x).getD 0) (x.no :: l) := q1.congr fun a ha ha1 => by
          obtain ⟨y, hy, hyk, rfl⟩ := hway _ hupR h1 l x hx hxk q1 a ha
          exact hsame y.no (h1 y hy hyk ha1)
        rw [chainG_of q3 q2]; rfl
    · rw [if_neg hxk, toM_leads]
      have := hA x hx
      unfold linkedR at this
      rw [if_pos hxk] at this
      exact this
end Go.Proofs.Ytkglaofiencfdaa

namespace Go.Proofs.Ytkglaofiencfdaa
open Go.RowKit Go.Sort
set_option linter.unusedVariables false
/-! ### the reference's pages are the runs' pages -/
theorem pagesOf_more (p : Run) (h : 0 ≤ p.count) : pagesOf { p with count := p.count + 1 } = pagesOf p ++ [p.at_ + p.count] := by
  unfold pagesOf
  show (List.range (p.count + 1).toNat).map (fun i => p.at_ + (i : Nat)) = _
  rw [show (p.count + 1).toNat = p.count.toNat + 1 by omega, List.range_succ, List.map_append]
  congr 1
  show [p.at_ + (p.count.toNat : Int)] = _
  rw [show ((p.count.toNat : Nat) : Int) = p.count by omega]
theorem places_pages (xs : List Run) (hR : rightB xs = true) : ∀ k : Nat, k ≤ 64 → (placesP xs k).filter (fun p => decide (0 ≤ p)) = pagesL (cutL xs k)
  | 0, _ => by
    have := cutL_zero xs hR
    show [] = pagesL (cutL xs 0)
    rw [this]; rfl
  | k + 1, hk => by
    have ih := places_pages xs hR k (by omega)
    have hc := (cut_right xs k hR).1
    rw [cut_step xs k (by omega) hR, placesP_snoc, List.filter_append, ih]
    generalize hl : cutL xs (k : Int) = l at *
    cases hv : getB xs (k : Int) with
    | none =>
      show pagesL l ++ ([(-1 : Int)].filter _) = pagesL l
      simp
    | some v =>
      have hb := (getB_bound xs (by omega) (by omega) hR hv).1
      have e1 : ([((some v).getD (-1) : Int)].filter fun p => decide (0 ≤ p)) = [v] := by simp [hb]
      rw [e1]
      rcases nil_or_snoc l with rfl | ⟨l0, p, rfl⟩
      · show [] ++ [v] = pagesL [⟨(k : Int), v, 1⟩]
        simp [pagesL, pagesOf]
      · obtain ⟨_, j2, _⟩ := (rightB_snoc _ _).1 hc
        obtain ⟨x0, x1, x2, x3, x4, x5⟩ := (ok1_iff p).1 j2
        rw [drawStep_snoc]
        split
        · rename_i hg
          obtain ⟨_, g2⟩ := (goesB_iff j2).1 hg
          rw [wrap64_in (by omega) (by omega), g2]
          unfold pagesL
          rw [List.flatMap_append, List.flatMap_append]
          simp only [List.flatMap_cons, List.flatMap_nil, List.append_nil]
          rw [pagesOf_more p (by omega), List.append_assoc]
        · unfold pagesL
          rw [show List.flatMap pagesOf (l0 ++ [p] ++ [⟨(k : Int), v, 1⟩]) = List.flatMap pagesOf (l0 ++ [p]) ++ List.flatMap pagesOf [⟨(k : Int), v, 1⟩] from List.flatMap_append ..]
          congr 1
          simp [pagesOf]
theorem refPages_eq {xs : List Run} (hR : rightB xs = true) : refPages xs = runsP xs := by
  unfold refPages
  rw [if_pos hR, places_pages xs hR 64 (Nat.le_refl _), show cutL xs ((64 : Nat) : Int) = xs from right_all hR]
  rfl
end Go.Proofs.Ytkglaofiencfdaa

namespace Go.Proofs.Ytkglaofiencfdaa
open Go.RowKit Go.Sort
set_option linter.unusedVariables false
end Go.Proofs.Ytkglaofiencfdaa

namespace Go.Proofs.Ytkglaofiencfdaa
open Go.RowKit Go.Sort
set_option linter.unusedVariables false
/-! ### linked -/
end Go.Proofs.Ytkglaofiencfdaa

namespace Go.Proofs.Ytkglaofiencfdaa
open Go.RowKit Go.Sort
set_option linter.unusedVariables false
end Go.Proofs.Ytkglaofiencfdaa

namespace Go.Proofs.Ytkglaofiencfdaa
open Go.RowKit Go.Sort
set_option linter.unusedVariables false
theorem rise_step {nx : Int} {xs : List Inode} (h : allR nx xs = true) {m : Nat} {x y : Inode} (hy : xs[m]? = some y) (hx : xs[m + 1]? = some x) : y.no < x.no := by
  unfold allR at h
  have h1 := List.all_eq_true.1 h (m + 1) (by simpa using (List.getElem?_eq_some_iff.1 hx).1)
  unfold okR at h1
  rw [getD_of hx, Nat.add_sub_cancel, getD_of hy] at h1
  simp only [Bool.and_eq_true, Bool.or_eq_true, decide_eq_true_eq] at h1
  rcases h1.2 with q | q
  · simp at q
  · exact q
theorem rise_all {nx : Int} {xs : List Inode} (h : allR nx xs = true) : ∀ (d i : Nat) (x y : Inode), xs[i]? = some x → xs[i + d + 1]? = some y → x.no < y.no
  | 0, i, x, y, hx, hy => rise_step h hx hy
  | d + 1, i, x, y, hx, hy => by
    obtain ⟨hl, _⟩ := List.getElem?_eq_some_iff.1 hy
    have hz : xs[i + d + 1]? = some (xs[i + d + 1]'(by omega)) := List.getElem?_eq_getElem _
    have h1 := rise_all h d i x _ hx hz
    have h2 := rise_step h hz (x := y) (by rw [show i + d + 1 + 1 = i + (d + 1) + 1 by omega]; exact hy)
    omega
theorem riseI_of {nx : Int} {xs : List Inode} (h : allR nx xs = true) : riseI xs := by
  unfold riseI
  rw [List.pairwise_iff_getElem]
  intro i j hi hj hij
  rw [List.getElem_map, List.getElem_map]
  rw [List.length_map] at hi hj
  exact rise_all h (j - i - 1) i _ _ (List.getElem?_eq_getElem hi) (by rw [show i + (j - i - 1) + 1 = j by omega]; exact List.getElem?_eq_getElem hj)
end Go.Proofs.Ytkglaofiencfdaa
