import Derived.Test.YtdiaibkpcnknbaaGreatDoorSnA
import Derived.Test.YtdiaibkpcnknbaaGreatDoorSn6
namespace Go.Proofs.YtdiaibkpcnknbaaGreatDoor
open Go.RowKit Go.Sort
set_option linter.unusedVariables false
def GoesTo (xs : List Inode) (st : Wk) (names : List ByteArray) (f : Bool) (res : Int × Int) : Prop := ∀ n, mW st names.length < n → walkF n xs st names f = res
theorem GoesTo.nil (xs : List Inode) (st : Wk) (f : Bool) : GoesTo xs st [] f (st.at_, 0) := fun n h => by
  cases n with
  | zero => exact absurd h (Nat.not_lt_zero _)
  | succ n => rfl
theorem GoesTo.step {xs : List Inode} {st st' : Wk} {a : ByteArray} {names l : List ByteArray} {f : Bool} {res : Int × Int} (h : stepW xs st a (f || decide (0 < names.length)) = (st', l, 0)) (h1 : 1 ≤ st.kept.length) (h0 : 0 ≤ st.loops) (h8 : st.loops ≤ 8) (k : GoesTo xs st' (l ++ names) f res) : GoesTo xs st (a :: names) f res := fun n hn => by
  cases n with
  | zero => exact absurd hn (Nat.not_lt_zero _)
  | succ n =>
    rw [walkF_cons h, if_pos rfl]
    obtain ⟨g0, g8, g1, _, gm⟩ := stepW_meas h h1 h0 h8 names.length
    rw [List.length_cons] at hn
    exact k n (by rw [List.length_append]; omega)
theorem GoesTo.err {xs : List Inode} {st st' : Wk} {a : ByteArray} {names l : List ByteArray} {f : Bool} {code : Int} (h : stepW xs st a (f || decide (0 < names.length)) = (st', l, code)) (hc : code ≠ 0) : GoesTo xs st (a :: names) f (0, code) := fun n hn => by
  cases n with
  | zero => exact absurd hn (Nat.not_lt_zero _)
  | succ n => rw [walkF_cons h, if_neg hc]
theorem GoesTo.walk {xs : List Inode} {names : List ByteArray} {f : Bool} {res : Int × Int} (k : GoesTo xs st0 names f res) : walkP xs names f = res := k _ (by show (8 - (0 : Int)).toNat * 402 + names.length < _; omega)
def bareL (xs : List Inode) : Prop := ∀ n x, findI xs n = some x → x.kind ≠ 3
def lookN (xs : List Inode) (dn : Int) (a : ByteArray) : Int × Int :=
  match findI xs dn with
  | none => (0, 11)
  | some d => if d.kind = 2 then (match findE d.entries a with
    | none => (0, 11)
    | some no => match findI xs no with
      | none => (0, 11)
      | some _ => (no, 0)) else (0, 13)
theorem lookN_at {xs : List Inode} {dn : Int} {d : Inode} {a : ByteArray} (hd : findI xs dn = some d) (hk : d.kind = 2) : lookN xs dn a = match findE d.entries a with
    | none => (0, 11)
    | some no => match findI xs no with
      | none => (0, 11)
      | some _ => (no, 0) := by unfold lookN; rw [hd]; simp only [hk, if_true]
theorem lookN_some {xs : List Inode} {dn no : Int} {d y : Inode} {a : ByteArray} (hd : findI xs dn = some d) (hk : d.kind = 2) (he : findE d.entries a = some no) (hy : findI xs no = some y) : lookN xs dn a = (no, 0) := by rw [lookN_at hd hk, he]; simp only [hy]
theorem lookN_none {xs : List Inode} {dn : Int} {d : Inode} {a : ByteArray} (hd : findI xs dn = some d) (hk : d.kind = 2) (he : findE d.entries a = none) : lookN xs dn a = (0, 11) := by rw [lookN_at hd hk, he]
theorem walk_here {xs : List Inode} {d : Inode} (hb : bareL xs) {st : Wk} {a : ByteArray} {names : List ByteArray} {f : Bool} {res : Int × Int} (hs : 1 ≤ st.kept.length) (h0 : st.loops = 0) (hd : findI xs st.at_ = some d) (hk : d.kind = 2) (ha : (a.toList == [46, 46]) = false)
    (hno : findE d.entries a = none → res = (0, 11)) (hgo : ∀ no, findE d.entries a = some no → findI xs no = none → res = (0, 11))
    (hyes : ∀ no y, findE d.entries a = some no → findI xs no = some y → GoesTo xs ⟨if y.kind = 2 then st.kept ++ [no] else st.kept, no, 0⟩ names f res) : GoesTo xs st (a :: names) f res := by
  cases he : findE d.entries a with
  | none => rw [hno he]; exact GoesTo.err (stepW_noE hd hk ha he) (by decide)
  | some no =>
    cases hi : findI xs no with
    | none => rw [hgo no he hi]; exact GoesTo.err (stepW_noI hd hk ha he hi) (by decide)
    | some y =>
      have h3 := hb no y hi
      have e : follW st y no (f || decide (0 < names.length)) = (⟨if y.kind = 2 then st.kept ++ [no] else st.kept, no, 0⟩, [], 0) := by
        by_cases q : y.kind = 2
        · rw [follW_dir q, if_pos q, h0]
        · rw [follW_plain (fun h => h3 h.1) q, if_neg q, h0]
      exact GoesTo.step ((stepW_some hd hk ha he hi).trans e) hs (by omega) (by omega) (hyes no y he hi)
theorem walk_one {xs : List Inode} {r : Inode} (hb : bareL xs) {a : ByteArray} {f : Bool} (hd : findI xs 1 = some r) (hk : r.kind = 2) (ha : (a.toList == [46, 46]) = false) : walkP xs [a] f = lookN xs 1 a := by
  refine GoesTo.walk (walk_here hb (by simp [st0]) rfl hd hk ha ?_ ?_ ?_)
  · intro h; exact lookN_none hd hk h
  · intro no h h2; rw [lookN_at hd hk, h]; simp only [h2]
  · intro no y h h2; rw [lookN_some hd hk h h2]; exact GoesTo.nil _ _ _
theorem walk_two {xs : List Inode} {r d : Inode} {dn : Int} (hb : bareL xs) {a b : ByteArray} {f : Bool} (hr : findI xs 1 = some r) (hk : r.kind = 2) (ha : (a.toList == [46, 46]) = false) (hb2 : (b.toList == [46, 46]) = false) (he : findE r.entries a = some dn) (hd : findI xs dn = some d) (hdk : d.kind = 2) :
    walkP xs [a, b] f = lookN xs dn b := by
  refine GoesTo.walk (walk_here hb (by simp [st0]) rfl hr hk ha ?_ ?_ ?_)
  · intro h; rw [h] at he; cases he
  · intro no h h2; rw [he] at h; cases h; rw [hd] at h2; cases h2
  · intro no y h h2
    rw [he] at h; cases h
    rw [hd] at h2; cases h2
    refine walk_here hb (by rw [if_pos hdk]; simp [st0]) rfl hd hdk hb2 ?_ ?_ ?_
    · intro h; exact lookN_none hd hdk h
    · intro no h h2; rw [lookN_at hd hdk, h]; simp only [h2]
    · intro no y h h2; rw [lookN_some hd hdk h h2]; exact GoesTo.nil _ _ _
def Way (xs : List Inode) (w : ByteArray) (dn : Int) (a : ByteArray) : Prop := parentP xs w = (dn, a, 0) ∧ resolveP xs w false = lookN xs dn a
theorem par_names {xs : List Inode} {w a : ByteArray} {ns : List ByteArray} {r : Int × Int} (hc : waysCode w = 0) (hw : waysXs w = ns ++ [a]) (ha : (a.toList == [46, 46]) = false) (hr : walkP xs ns true = r) :
    parentP xs w = (if r.2 ≠ 0 then (0, ⟨#[]⟩, r.2) else if ((findI xs r.1).getD zeroI).kind = 2 then (r.1, a, 0) else (0, ⟨#[]⟩, 13)) := by
  unfold parentP
  rw [if_pos hc, hw]
  unfold parentL
  rw [List.getLast?_concat, List.dropLast_concat, hr]
  simp only [ha, Bool.false_eq_true, if_false]
theorem way_one {xs : List Inode} {r : Inode} (hb : bareL xs) {w a : ByteArray} (hc : waysCode w = 0) (hw : waysXs w = [a]) (ha : (a.toList == [46, 46]) = false) (hd : findI xs 1 = some r) (hk : r.kind = 2) : Way xs w 1 a := by
  constructor
  · rw [par_names (ns := []) hc hw ha (r := (1, 0)) rfl]
    simp [hd, hk]
  · unfold resolveP
    rw [if_pos hc, hw, walk_one hb hd hk ha]
theorem way_two {xs : List Inode} {r d : Inode} {dn : Int} (hb : bareL xs) {w p a : ByteArray} (hc : waysCode w = 0) (hw : waysXs w = [p, a]) (hp : (p.toList == [46, 46]) = false) (ha : (a.toList == [46, 46]) = false) (hr : findI xs 1 = some r) (hk : r.kind = 2) (he : findE r.entries p = some dn) (hd : findI xs dn = some d) (hdk : d.kind = 2) : Way xs w dn a := by
  constructor
  · rw [par_names (ns := [p]) hc hw ha (r := (dn, 0)) ((walk_one hb hr hk hp).trans (lookN_some hr hk he hd))]
    simp [hd, hdk]
  · unfold resolveP
    rw [if_pos hc, hw, walk_two hb hr hk hp ha he hd hdk]
theorem two_dir {xs : List Inode} {r : Inode} (hb : bareL xs) {w p a : ByteArray} (hc : waysCode w = 0) (hw : waysXs w = [p, a]) (hp : (p.toList == [46, 46]) = false) (ha : (a.toList == [46, 46]) = false) (hr : findI xs 1 = some r) (hk : r.kind = 2) (h : (parentP xs w).2.2 = 0) :
    ∃ dn d, findE r.entries p = some dn ∧ findI xs dn = some d ∧ d.kind = 2 := by
  rw [par_names (ns := [p]) hc hw ha rfl, walk_one hb hr hk hp, lookN_at hr hk] at h
  cases he : findE r.entries p with
  | none => rw [he] at h; simp at h
  | some dn =>
    rw [he] at h
    simp only [] at h
    cases hd : findI xs dn with
    | none => rw [hd] at h; simp at h
    | some d =>
      refine ⟨dn, d, rfl, hd, ?_⟩
      by_cases hdk : d.kind = 2
      · exact hdk
      · rw [hd] at h; simp [hdk, hd] at h
theorem Snd.acyclic {s : State} (S : Snd s) {p n : Int} (k : KidF (findI s.inodes) p n) : ¬ ReachF (findI s.inodes) n p := fun r => by
  have hn1 : ∀ {d m : Int}, KidF (findI s.inodes) d m → m ≠ 1 := fun {d m} h => by
    obtain ⟨z, hz, _⟩ := kidF_par h
    obtain ⟨e, he, he2, _⟩ := (kidF_some hz).1 h
    rw [← he2]; exact (S.ok.there d z hz e he).1
  obtain ⟨z, hz, hze⟩ := kidF_par k
  have hzk : kindF (findI s.inodes) p = 2 := by
    rw [kindF_some hz]
    by_cases q : z.kind = 2
    · exact q
    · exact absurd (rightI_bare (S.ok.ok p z hz).2.2 q) hze
  obtain ⟨l, h1, h2, _⟩ := S.way (S.ok.reach p hzk)
  have key : ∀ m, ReachF (findI s.inodes) n m → m ∈ p :: l → n ∈ p :: l := fun m q => by
    induction q with
    | refl => exact id
    | @step d k2 _ hk ih =>
      intro hm
      by_cases e : k2 = n
      · rw [← e]; exact hm
      · have := h1.next hm (hn1 hk)
        rw [up_of (F := findI s.inodes) S hk] at this
        exact ih (List.mem_cons_of_mem _ this)
  have h3 := h1.next (key p r (by simp)) (hn1 k)
  rw [up_of (F := findI s.inodes) S k] at h3
  exact (List.nodup_cons.1 h2).1 h3
structure RenD (s : State) (wa wb : ByteArray) (a b x y : Inode) (an bn xn yn : Int) (na nb : ByteArray) (th : Bool) : Prop where
  da : findI s.inodes an = some a
  ak : a.kind = 2
  ano : a.no = an
  db : findI s.inodes bn = some b
  bk : b.kind = 2
  bno : b.no = bn
  fa : findE a.entries na = some xn
  fx : findI s.inodes xn = some x
  xno : x.no = xn
  x1 : xn ≠ 1
  spotA : thereS s.inodes wa = (⟨a, na, x, true⟩, 0)
  spotB : findS s.inodes wb = (⟨b, nb, y, th⟩, 0)
  old : th = true → findE b.entries nb = some yn ∧ findI s.inodes yn = some y ∧ yn ≠ xn ∧ (x.kind = 2 ↔ y.kind = 2) ∧ y.entries = []
  new : th = false → findE b.entries nb = none
  out : x.kind = 2 → ¬ ReachF (findI s.inodes) xn bn
  room : th = false → x.kind = 2 → an ≠ bn → b.links < 100
  add : addC (rrB ⟨a, na, x, true⟩ ⟨b, nb, y, th⟩ th) ⟨nb, xn⟩ = 0
theorem thereS_of {xs : List Inode} {w : ByteArray} (h : (thereS xs w).2 = 0) : thereS xs w = findS xs w ∧ (findS xs w).2 = 0 := by
  unfold thereS at h ⊢
  split at h
  · exact absurd h (by show (11 : Int) ≠ 0; decide)
  · rename_i q; rw [if_neg q]; exact ⟨rfl, h⟩
theorem ren_data {s : State} (S : Snd s) (hl : s.inodes.length + 1 ≤ 200) {old path : ByteArray} {os : List Int} (hd : (rrenameP s old path os).1 ≠ []) :
    ∃ a b x y an bn xn yn na nb th, RenD s old path a b x y an bn xn yn na nb th ∧ (rrenameP s old path os) = rrE ⟨a, na, x, true⟩ ⟨b, nb, y, th⟩ th (addL (rrB ⟨a, na, x, true⟩ ⟨b, nb, y, th⟩ th) ⟨nb, xn⟩) os := by
  have hbare : bareI s.inodes := fun x hx hk => rightI_bare (S.ok.ok x.no x (findI_of_mem S.rise hx)).2.2 hk
  have hents : ∀ x ∈ s.inodes, x.entries.length ≤ 1000 := fun x hx => by
    have h := (S.ok.ok x.no x (findI_of_mem S.rise hx)).2.2
    by_cases hk : x.kind = 2
    · exact Nat.le_trans ((rightE_iff _).1 (rightI_dir h hk).2.2.2.2.1).2.2 (by decide)
    · rw [rightI_bare h hk]; decide
  unfold rrenameP at hd ⊢
  by_cases h1 : (thereS s.inodes old).2 ≠ 0
  · rw [if_pos h1] at hd; exact absurd rfl hd
  rw [if_neg h1] at hd ⊢
  obtain ⟨an, a, was, xn, x, hda, hak, han, hapos, e1, hfa, hx, hxn, hx1⟩ := thereS_zero S (path := old) (by simpa using h1)
  have spA : thereS s.inodes old = (⟨a, was, x, true⟩, 0) := Prod.ext e1 (by simpa using h1)
  rw [e1] at hd ⊢
  unfold rrP at hd ⊢
  split at hd
  · exact absurd rfl hd
  rename_i h0
  rw [if_neg h0]
  have h2 : (findS s.inodes path).2 = 0 := by
    by_cases q : (findS s.inodes path).2 = 0
    · exact q
    · refine absurd (.inr ?_) h0
      rw [thereS_fst]
      unfold findS at q ⊢
      split at q
      · rename_i h3; rw [if_pos h3]; rfl
      · exact absurd rfl q
  obtain ⟨bn, b, name, hdb, hbk, hbn, hbpos, hcase⟩ := S.spot h2
  split at hd
  · exact absurd rfl hd
  rename_i hne0
  rw [if_neg hne0]
  split at hd
  · exact absurd rfl hd
  rename_i hins
  rw [if_neg hins]
  split at hd
  · exact absurd rfl hd
  rename_i hv
  rw [if_neg hv]
  have hres : ∀ (y : Inode) (yn : Int) (th : Bool), thereS s.inodes path = (⟨b, name, y, th⟩, if th = true then 0 else 11) → (th = true → findE b.entries name = some yn ∧ findI s.inodes yn = some y ∧ y.no = yn) → (th = false → findE b.entries name = none) → findS s.inodes path = (⟨b, name, y, th⟩, 0) →
      RenD s old path a b x y an bn xn yn was name th ∧ rrM ⟨a, was, x, true⟩ (thereS s.inodes path).1 ((thereS s.inodes path).2 == 0) os = rrE ⟨a, was, x, true⟩ ⟨b, name, y, th⟩ th (addL (rrB ⟨a, was, x, true⟩ ⟨b, name, y, th⟩ th) ⟨name, xn⟩) os := by
    intro y yn th e hth hnew hsp
    rw [e] at hne0 hins hv hd ⊢
    have hc : ((if th = true then (0 : Int) else 11) == 0) = th := by cases th <;> rfl
    change ¬ ((if th = true then (0 : Int) else 11) = 0 ∧ y.no = x.no) at hne0
    change ¬ (x.kind = 2 ∧ insideR s.inodes b.no x.no = true) at hins
    change ¬ rrV ⟨a, was, x, true⟩ ⟨b, name, y, th⟩ ((if th = true then (0 : Int) else 11) == 0) ≠ 0 at hv
    change (rrM ⟨a, was, x, true⟩ ⟨b, name, y, th⟩ ((if th = true then (0 : Int) else 11) == 0) os).1 ≠ [] at hd
    show _ ∧ rrM ⟨a, was, x, true⟩ ⟨b, name, y, th⟩ ((if th = true then (0 : Int) else 11) == 0) os = _
    rw [hc] at hv hd ⊢
    unfold rrM at hd ⊢
    split at hd
    · exact absurd rfl hd
    rename_i hac
    rw [if_neg hac]
    have hac : addC (rrB ⟨a, was, x, true⟩ ⟨b, name, y, th⟩ th) ⟨name, x.no⟩ = 0 := by simpa using hac
    rw [hxn] at hac
    refine ⟨⟨hda, hak, han, hdb, hbk, hbn, hfa, hx, hxn, hx1, spA, hsp, fun ht => ?_, hnew, fun hxk r => ?_, fun ht hxk hne => ?_, hac⟩, by rw [← hxn]⟩
    · obtain ⟨q1, q2, q3⟩ := hth ht
      subst ht
      have hv2 : takenR x y = 0 := by
        have : rrV ⟨a, was, x, true⟩ ⟨b, name, y, true⟩ true = takenR x y := rfl
        rw [this] at hv; simpa using hv
      have hyo := (S.ok.ok yn y q2).2.2
      refine ⟨q1, q2, fun q => hne0 ⟨rfl, by rw [q3, hxn, q]⟩, ?_⟩
      unfold takenR at hv2
      by_cases k1 : x.kind = 2
      · by_cases k2 : y.kind = 2
        · simp only [k1, k2, ne_eq, not_true, and_false, false_and, if_false] at hv2
          refine ⟨by simp [k1, k2], List.eq_nil_of_length_eq_zero ?_⟩
          by_cases l : 0 < y.entries.length
          · rw [if_pos l] at hv2; exact absurd hv2 (by decide)
          · omega
        · rw [if_pos ⟨k1, k2⟩] at hv2; exact absurd hv2 (by decide)
      · by_cases k2 : y.kind = 2
        · rw [if_neg (fun h => k1 h.1), if_pos ⟨k1, k2⟩] at hv2; exact absurd hv2 (by decide)
        · exact ⟨by simp [k1, k2], rightI_bare hyo k2⟩
    · refine hins ⟨hxk, (insideR_iff hbare hents hl x.no b.no).2 ?_⟩
      rw [hxn, hbn]
      exact reachF_iff.1 r
    · subst ht
      have hv2 : (if x.kind = 2 ∧ a.no ≠ b.no ∧ 100 ≤ b.links then (18 : Int) else 0) = 0 := by
        have : rrV ⟨a, was, x, true⟩ ⟨b, name, y, false⟩ false = if x.kind = 2 ∧ a.no ≠ b.no ∧ 100 ≤ b.links then (18 : Int) else 0 := rfl
        rw [this] at hv; simpa using hv
      by_cases l : 100 ≤ b.links
      · rw [if_pos ⟨hxk, by rw [han, hbn]; exact hne, l⟩] at hv2; exact absurd hv2 (by decide)
      · omega
  rcases hcase with ⟨e2, hn⟩ | ⟨yn, y, e2, hfb, hy, hyn, hy1⟩
  · exact ⟨a, b, x, zeroI, an, bn, xn, 0, was, name, false, hres zeroI 0 false (by unfold thereS; rw [if_pos ⟨h2, by rw [e2]⟩, e2]; rfl) (fun h => by cases h) (fun _ => hn) (Prod.ext e2 h2)⟩
  · exact ⟨a, b, x, y, an, bn, xn, yn, was, name, true, hres y yn true (by unfold thereS; rw [if_neg (fun q => by rw [e2] at q; cases q.2)]; exact Prod.ext e2 h2) (fun _ => ⟨hfb, hy, hyn⟩) (fun h => by cases h) (Prod.ext e2 h2)⟩
theorem ren_fail {s : State} {old path : ByteArray} {os : List Int} (h : (rrenameP s old path os).2 ≠ 0) : (rrenameP s old path os).1 = [] := by
  unfold rrenameP at h ⊢
  split
  · rfl
  rename_i h1; rw [if_neg h1] at h
  unfold rrP at h ⊢
  split
  · rfl
  rename_i h2; rw [if_neg h2] at h
  split
  · rfl
  rename_i h3; rw [if_neg h3] at h
  split
  · rfl
  rename_i h4; rw [if_neg h4] at h
  split
  · rfl
  rename_i h5; rw [if_neg h5] at h
  unfold rrM at h ⊢
  split
  · rfl
  rename_i h6; rw [if_neg h6] at h
  unfold rrE at h
  exfalso; revert h
  split
  · simp
  · split <;> simp
theorem isE_name {s : ByteArray} {x : Entry} : isE s x = true ↔ x.name = s := by unfold isE; simp
theorem findE_ins_ne {xs : List Entry} {e : Entry} {s : ByteArray} (h : s ≠ e.name) : findE (insE xs e) s = findE xs s := by
  have he : isE s e = false := by
    cases q : isE s e with
    | false => rfl
    | true => exact absurd (isE_name.1 q).symm h
  rw [insE_eq]
  unfold findE
  rw [List.find?_append, List.find?_cons, he]
  simp only []
  rw [← List.find?_append, List.takeWhile_append_dropWhile]
structure Moved (s t : State) (b x y : Inode) (an bn xn yn : Int) (na nb : ByteArray) (th : Bool) : Prop where
  next : t.next = s.next
  bads : t.bads = s.bads
  rise : riseI t.inodes
  stay : ∀ n z, findI s.inodes n = some z → ¬ (th = true ∧ n = yn) → ∃ z', findI t.inodes n = some z' ∧ z'.kind = z.kind ∧ ∀ m, ¬ (n = an ∧ m = na) → ¬ (n = bn ∧ m = nb) → findE z'.entries m = findE z.entries m
  leads : ∃ B, findI t.inodes bn = some B ∧ B.kind = 2 ∧ findE B.entries nb = some xn
  off : ¬ (an = bn ∧ na = nb) → ∃ A, findI t.inodes an = some A ∧ A.kind = 2 ∧ findE A.entries na = none
  kinds : ∀ n z, findI t.inodes n = some z → ∃ z', findI s.inodes n = some z' ∧ z.kind = z'.kind
  new : th = false → t.inodes = (if an = bn then putI s.inodes { b with entries := insE (remE b.entries na) ⟨nb, xn⟩ } else putI (putI s.inodes { ((findI s.inodes an).getD zeroI) with entries := remE ((findI s.inodes an).getD zeroI).entries na, links := ((findI s.inodes an).getD zeroI).links - (if x.kind = 2 then 1 else 0) }) { b with entries := insE b.entries ⟨nb, xn⟩, links := b.links + (if x.kind = 2 then 1 else 0) })
theorem ren_eff {s : State} (S : Snd s) {wa wb : ByteArray} {a b x y : Inode} {an bn xn yn : Int} {na nb : ByteArray} {th : Bool} (D : RenD s wa wb a b x y an bn xn yn na nb th) (os : List Int) :
    Moved s (applyS s (rrE ⟨a, na, x, true⟩ ⟨b, nb, y, th⟩ th (addL (rrB ⟨a, na, x, true⟩ ⟨b, nb, y, th⟩ th) ⟨nb, xn⟩) os).1) b x y an bn xn yn na nb th := by
  obtain ⟨hda, hak, han, hdb, hbk, hbn, hfa, hx, hxn, hx1, -, -, hth, hnew, hin, hbl, ha⟩ := D
  have hao := S.ok.ok an a hda
  have hbo := S.ok.ok bn b hdb
  obtain ⟨r1, r2, r3, r4, r5, r6, r7⟩ := rightI_dir hao.2.2 hak
  obtain ⟨t1, t2, t3, t4, t5, t6, t7⟩ := rightI_dir hbo.2.2 hbk
  have hEl : ∀ L, (rrE ⟨a, na, x, true⟩ ⟨b, nb, y, th⟩ th L os).1 = rrL ⟨a, na, x, true⟩ ⟨b, nb, y, th⟩ th L ++ if th = true then [goneD y os] else [] := fun L => by
    unfold rrE
    cases th with
    | false => simp
    | true =>
      have hk := (hth rfl).2.2.2.1
      unfold goneD
      by_cases q : x.kind = 2
      · simp [q, hk.1 q]
      · have q2 : ¬ y.kind = 2 := fun h => q (hk.2 h)
        simp [q, q2]
  rw [hEl, applyS_app2]
  obtain ⟨T, hT⟩ : ∃ T, rrT ⟨b, nb, y, th⟩ th = T := ⟨_, rfl⟩
  have hTr : rightE T = true := by
    rw [← hT]; unfold rrT
    cases th with
    | false => exact t5
    | true => exact (remE_right t5 (by rw [(hth rfl).1]; rfl)).1
  have hTn : findE T nb = none := by
    rw [← hT]; unfold rrT
    cases th with
    | false => exact hnew rfl
    | true => exact (remE_right t5 (by show (findE b.entries nb).isSome = true; rw [(hth rfl).1]; rfl)).2.2
  have hTo : ∀ m, m ≠ nb → findE T m = findE b.entries m := fun m hm => by
    rw [← hT]; unfold rrT
    cases th with
    | false => rfl
    | true => exact findE_rem t5 (by rw [(hth rfl).1]; rfl) hm
  have hsome : (findE a.entries na).isSome = true := by rw [hfa]; rfl
  have hnn : th = true → an = bn → na ≠ nb := fun h h2 q => by
    obtain ⟨f1, _, f3, _⟩ := hth h
    subst h2
    rw [hda] at hdb
    obtain rfl : a = b := by simpa using hdb
    rw [q, f1] at hfa; exact f3 (by simpa using hfa)
  have hya : th = true → yn ≠ an ∧ yn ≠ bn := fun h => by
    obtain ⟨f1, f2, f3, f4, f5⟩ := hth h
    refine ⟨fun q => ?_, fun q => ?_⟩
    · rw [q, hda] at f2; obtain rfl : a = y := by simpa using f2
      rw [f5] at hfa; cases hfa
    · rw [q, hdb] at f2; obtain rfl : b = y := by simpa using f2
      rw [f5] at f1; cases f1
  -- the two directories
  obtain ⟨A, B, hAn, hBn, hAk, hBk, hBf, hAf, hBo, hAo, hput, hnw⟩ : ∃ A B : Inode, A.no = an ∧ B.no = bn ∧ A.kind = 2 ∧ B.kind = 2 ∧ findE B.entries nb = some xn ∧ (¬ (an = bn ∧ na = nb) → findE (if an = bn then B else A).entries na = none) ∧
      (∀ m, ¬ (bn = an ∧ m = na) → m ≠ nb → findE B.entries m = findE b.entries m) ∧ (an ≠ bn → ∀ m, m ≠ na → findE A.entries m = findE a.entries m) ∧
      (∀ ys, ∃ zs, applyS ⟨s.next, ys, s.bads⟩ (rrL ⟨a, na, x, true⟩ ⟨b, nb, y, th⟩ th (addL (rrB ⟨a, na, x, true⟩ ⟨b, nb, y, th⟩ th) ⟨nb, xn⟩)) = ⟨s.next, zs, s.bads⟩ ∧ (riseI ys → riseI zs) ∧ ∀ n, findI zs n = if n = bn then some B else if n = an then some A else findI ys n) ∧
      (th = false → applyS s (rrL ⟨a, na, x, true⟩ ⟨b, nb, y, th⟩ th (addL (rrB ⟨a, na, x, true⟩ ⟨b, nb, y, th⟩ th) ⟨nb, xn⟩)) = ⟨s.next, (if an = bn then putI s.inodes { b with entries := insE (remE b.entries na) ⟨nb, xn⟩ } else putI (putI s.inodes { ((findI s.inodes an).getD zeroI) with entries := remE ((findI s.inodes an).getD zeroI).entries na, links := ((findI s.inodes an).getD zeroI).links - (if x.kind = 2 then 1 else 0) }) { b with entries := insE b.entries ⟨nb, xn⟩, links := b.links + (if x.kind = 2 then 1 else 0) }), s.bads⟩) := by
    by_cases hs : an = bn
    · subst hs
      rw [hda] at hdb
      obtain rfl : a = b := by simpa using hdb
      have hB : rrB ⟨a, na, x, true⟩ ⟨a, nb, y, th⟩ th = remE T na := by unfold rrB rrA; rw [if_pos rfl, if_pos rfl, hT]
      rw [hB] at ha ⊢
      rw [addL_ok ha]
      obtain ⟨h1, h2, h3, h4⟩ := addC_ok ha
      obtain ⟨D, hD⟩ : ∃ D : Inode, { a with entries := insE (remE T na) ⟨nb, xn⟩, links := a.links - (if x.kind = 2 ∧ th = true then 1 else 0) } = D := ⟨_, rfl⟩
      have hL : rrL ⟨a, na, x, true⟩ ⟨a, nb, y, th⟩ th (insE (remE T na) ⟨nb, xn⟩) = [putD D] := by unfold rrL; rw [if_pos rfl, ← hD]
      have hDE : D.entries = insE (remE T na) ⟨nb, xn⟩ := by rw [← hD]
      have hDn : D.no = an := by rw [← hD]; exact han
      have hDk : D.kind = 2 := by rw [← hD]; exact hak
      have hTa : na ≠ nb → (findE T na).isSome = true := fun q => by rw [hTo na q]; exact hsome
      refine ⟨D, D, hDn, hDn, hDk, hDk, by rw [hDE]; exact findE_insE h3, fun q => ?_, fun m q1 q2 => ?_, fun q => absurd rfl q, fun ys => ⟨putI ys D, by rw [hL]; rfl, fun h => putI_rise h, fun n => by rw [find_put, hDn]; by_cases q : n = an <;> simp [q]⟩, fun h => ?_⟩
      · have q2 : na ≠ nb := fun h => q ⟨rfl, h⟩
        rw [if_pos rfl, hDE, findE_ins_ne q2]
        exact (remE_right hTr (hTa q2)).2.2
      · rw [hDE, findE_ins_ne q2]
        have q3 : m ≠ na := fun h => q1 ⟨rfl, h⟩
        by_cases q4 : na = nb
        · have hth0 : th = false := by
            cases th with
            | false => rfl
            | true => exact absurd q4 (hnn rfl rfl)
          subst hth0
          have : (findE a.entries nb) = none := hnew rfl
          rw [← q4, hfa] at this; cases this
        · rw [findE_rem hTr (hTa q4) q3, hTo m q2]
      · subst h
        have hT2 : T = a.entries := hT.symm
        have hD2 : D = { a with entries := insE (remE a.entries na) ⟨nb, xn⟩ } := by
          rw [← hD, hT2]
          have e0 : a.links - (if x.kind = 2 ∧ false = true then 1 else 0) = a.links := by simp
          rw [e0]
        rw [hL, if_pos rfl, hD2]
        rfl
    · have hs2 : ¬ a.no = b.no := by rw [han, hbn]; exact hs
      have hB : rrB ⟨a, na, x, true⟩ ⟨b, nb, y, th⟩ th = T := by unfold rrB; rw [if_neg hs2, hT]
      have hA : rrA ⟨a, na, x, true⟩ ⟨b, nb, y, th⟩ th = remE a.entries na := by unfold rrA; rw [if_neg hs2]
      rw [hB] at ha ⊢
      rw [addL_ok ha]
      obtain ⟨h1, h2, h3, h4⟩ := addC_ok ha
      obtain ⟨A, hAe⟩ : ∃ A : Inode, { a with entries := remE a.entries na, links := a.links - (if x.kind = 2 then 1 else 0) } = A := ⟨_, rfl⟩
      obtain ⟨B, hBe⟩ : ∃ B : Inode, { b with entries := insE T ⟨nb, xn⟩, links := b.links + (if x.kind = 2 ∧ th = false then 1 else 0) } = B := ⟨_, rfl⟩
      have hL : rrL ⟨a, na, x, true⟩ ⟨b, nb, y, th⟩ th (insE T ⟨nb, xn⟩) = [putD A, putD B] := by unfold rrL; rw [if_neg hs2, ← hAe, ← hBe, hA]
      have hAn : A.no = an := by rw [← hAe]; exact han
      have hBn : B.no = bn := by rw [← hBe]; exact hbn
      have hAE : A.entries = remE a.entries na := by rw [← hAe]
      have hBE : B.entries = insE T ⟨nb, xn⟩ := by rw [← hBe]
      refine ⟨A, B, hAn, hBn, by rw [← hAe]; exact hak, by rw [← hBe]; exact hbk, by rw [hBE]; exact findE_insE h3, fun q => ?_, fun m q1 q2 => ?_, fun q m hm => ?_, fun ys => ⟨putI (putI ys A) B, by rw [hL]; rfl, fun h => putI_rise (putI_rise h), fun n => by rw [find_put, find_put, hAn, hBn]⟩, fun h => ?_⟩
      · rw [if_neg hs, hAE]; exact (remE_right r5 hsome).2.2
      · rw [hBE, findE_ins_ne q2, hTo m q2]
      · rw [hAE]; exact findE_rem r5 hsome hm
      · rw [hL, if_neg hs, hda]
        subst h
        show (⟨s.next, putI (putI s.inodes A) B, s.bads⟩ : State) = _
        rw [← hAe, ← hBe, ← hT]
        simp [rrT]
  obtain ⟨zs, he, hr, hf⟩ := hput s.inodes
  have he : applyS s (rrL ⟨a, na, x, true⟩ ⟨b, nb, y, th⟩ th (addL (rrB ⟨a, na, x, true⟩ ⟨b, nb, y, th⟩ th) ⟨nb, xn⟩)) = ⟨s.next, zs, s.bads⟩ := he
  -- with what is gone
  obtain ⟨ws, hw, hwr, o, hoX, hwf⟩ : ∃ ws, applyS (⟨s.next, zs, s.bads⟩ : State) (if th = true then [goneD y os] else []) = ⟨s.next, ws, s.bads⟩ ∧ riseI ws ∧ ∃ o : Option Inode, (∀ X, o = some X → y.kind ≠ 2 ∧ X.kind = y.kind) ∧ ∀ n, findI ws n = if th = true ∧ n = yn then o else findI zs n := by
    cases th with
    | false => exact ⟨zs, rfl, hr S.rise, none, (fun X h => by cases h), fun n => by simp⟩
    | true =>
      obtain ⟨o, hoX, ho⟩ := goneD_eff (S.ok.ok yn y (hth rfl).2.1).1 os
      obtain ⟨ws, e, h1, _, h2⟩ := ho ⟨s.next, zs, s.bads⟩ (hr S.rise)
      exact ⟨ws, e, h1, o, hoX, fun n => by rw [h2]; simp⟩
  have hnot : ∀ n, (n = an ∨ n = bn) → ¬ (th = true ∧ n = yn) := fun n h q => by
    obtain ⟨h1, h2⟩ := hya q.1
    rcases h with h | h
    · exact h1 (by rw [← q.2, h])
    · exact h2 (by rw [← q.2, h])
  rw [he, hw]
  refine ⟨rfl, rfl, hwr, fun n z hz hn => ?_, ⟨B, ?_, hBk, hBf⟩, fun q => ?_, fun n z hz => ?_, fun h => ?_⟩
  · show ∃ z', findI ws n = some z' ∧ _
    rw [hwf, if_neg hn, hf]
    by_cases q1 : n = bn
    · rw [if_pos q1]
      rw [q1, hdb] at hz; obtain rfl : b = z := by simpa using hz
      exact ⟨B, rfl, hBk.trans hbk.symm, fun m m1 m2 => hBo m (fun h => m1 ⟨q1.trans h.1, h.2⟩) (fun h => m2 ⟨q1, h⟩)⟩
    · rw [if_neg q1]
      by_cases q2 : n = an
      · rw [if_pos q2]
        rw [q2, hda] at hz; obtain rfl : a = z := by simpa using hz
        exact ⟨A, rfl, hAk.trans hak.symm, fun m m1 m2 => hAo (fun h => q1 (by rw [q2, h])) m (fun h => m1 ⟨q2, h⟩)⟩
      · rw [if_neg q2]
        exact ⟨z, hz, rfl, fun m _ _ => rfl⟩
  · show findI ws bn = _
    rw [hwf, if_neg (hnot bn (.inr rfl)), hf, if_pos rfl]
  · show ∃ Z, findI ws an = some Z ∧ _
    rw [hwf, if_neg (hnot an (.inl rfl)), hf]
    have h3 := hAf q
    by_cases q1 : an = bn
    · rw [if_pos q1] at h3 ⊢; exact ⟨B, rfl, hBk, h3⟩
    · rw [if_neg q1] at h3; rw [if_neg q1, if_pos rfl]; exact ⟨A, rfl, hAk, h3⟩
  · change findI ws n = some z at hz
    rw [hwf] at hz
    by_cases q : th = true ∧ n = yn
    · rw [if_pos q] at hz
      exact ⟨y, by rw [q.2]; exact (hth q.1).2.1, (hoX z hz).2⟩
    · rw [if_neg q, hf] at hz
      by_cases q1 : n = bn
      · rw [if_pos q1] at hz; obtain rfl : B = z := by simpa using hz
        exact ⟨b, by rw [q1]; exact hdb, hBk.trans hbk.symm⟩
      · rw [if_neg q1] at hz
        by_cases q2 : n = an
        · rw [if_pos q2] at hz; obtain rfl : A = z := by simpa using hz
          exact ⟨a, by rw [q2]; exact hda, hAk.trans hak.symm⟩
        · rw [if_neg q2] at hz; exact ⟨z, hz, rfl⟩
  · have h2 := hnw h
    rw [he] at h2
    subst h
    have h3 : ws = zs := by
      have : (⟨s.next, zs, s.bads⟩ : State) = ⟨s.next, ws, s.bads⟩ := hw
      simpa using this.symm
    rw [h3]
    simpa using h2
def dN : ByteArray := ⟨#[100]⟩
theorem dN_up : (dN.toList == [46, 46]) = false := by decide +kernel
def Seven (w : ByteArray) : Prop := waysCode w = 0 ∧ ∃ n : ByteArray, (n.toList == [46, 46]) = false ∧ (waysXs w = [n] ∨ waysXs w = [dN, n])
def sevenW : List ByteArray := [⟨#[47, 97]⟩, ⟨#[47, 98]⟩, ⟨#[47, 100]⟩, ⟨#[47, 100, 47, 97]⟩, ⟨#[47, 100, 47, 98]⟩, ⟨#[47, 100, 47, 101]⟩, ⟨#[47, 108]⟩]
theorem seven_all : ∀ w ∈ sevenW, Seven w := by
  intro w hw
  simp only [sevenW, List.mem_cons, List.not_mem_nil, or_false] at hw
  rcases hw with rfl | rfl | rfl | rfl | rfl | rfl | rfl
  · exact ⟨by decide +kernel, ⟨#[97]⟩, by decide +kernel, .inl (by decide +kernel)⟩
  · exact ⟨by decide +kernel, ⟨#[98]⟩, by decide +kernel, .inl (by decide +kernel)⟩
  · exact ⟨by decide +kernel, ⟨#[100]⟩, by decide +kernel, .inl (by decide +kernel)⟩
  · exact ⟨by decide +kernel, ⟨#[97]⟩, by decide +kernel, .inr (by decide +kernel)⟩
  · exact ⟨by decide +kernel, ⟨#[98]⟩, by decide +kernel, .inr (by decide +kernel)⟩
  · exact ⟨by decide +kernel, ⟨#[101]⟩, by decide +kernel, .inr (by decide +kernel)⟩
  · exact ⟨by decide +kernel, ⟨#[108]⟩, by decide +kernel, .inl (by decide +kernel)⟩
def WayT (xs : List Inode) (r : Inode) (w : ByteArray) (dn : Int) (n : ByteArray) : Prop := waysCode w = 0 ∧ (n.toList == [46, 46]) = false ∧ ((waysXs w = [n] ∧ dn = 1) ∨ (waysXs w = [dN, n] ∧ findE r.entries dN = some dn ∧ ∃ d, findI xs dn = some d ∧ d.kind = 2))
theorem WayT.way {xs : List Inode} {r : Inode} {w n : ByteArray} {dn : Int} (h : WayT xs r w dn n) (hb : bareL xs) (hr : findI xs 1 = some r) (hk : r.kind = 2) : Way xs w dn n := by
  obtain ⟨hc, hn, h⟩ := h
  rcases h with ⟨h1, rfl⟩ | ⟨h1, h2, d, h3, h4⟩
  · exact way_one hb hc h1 hn hr hk
  · exact way_two hb hc h1 dN_up hn hr hk h2 h3 h4
theorem Seven.wayT {xs : List Inode} {r : Inode} {w : ByteArray} (h : Seven w) (hb : bareL xs) (hr : findI xs 1 = some r) (hk : r.kind = 2) (hp : (parentP xs w).2.2 = 0) : ∃ dn n, WayT xs r w dn n := by
  obtain ⟨hc, n, hn, h⟩ := h
  rcases h with h | h
  · exact ⟨1, n, hc, hn, .inl ⟨h, rfl⟩⟩
  · obtain ⟨dn, d, h1, h2, h3⟩ := two_dir hb hc h dN_up hn hr hk hp
    exact ⟨dn, n, hc, hn, .inr ⟨h, h1, d, h2, h3⟩⟩
theorem findS_way {xs : List Inode} {w n : ByteArray} {dn : Int} (h : Way xs w dn n) : findS xs w = (atS xs dn n, 0) := by
  unfold findS; rw [h.1]; simp
theorem findS_par {xs : List Inode} {w : ByteArray} (h : (findS xs w).2 = 0) : (parentP xs w).2.2 = 0 := by
  unfold findS at h
  split at h
  · rename_i q; exact absurd h q
  · rename_i q; simpa using q
theorem atS_dirN (xs : List Inode) (dn : Int) (n : ByteArray) : (atS xs dn n).dir = (findI xs dn).getD zeroI ∧ (atS xs dn n).name = n := by
  unfold atS; split <;> exact ⟨rfl, rfl⟩
theorem WayT.dir {xs : List Inode} {r : Inode} {w n : ByteArray} {dn : Int} (h : WayT xs r w dn n) (hr : findI xs 1 = some r) (hk : r.kind = 2) : ∃ d, findI xs dn = some d ∧ d.kind = 2 := by
  obtain ⟨_, _, h⟩ := h
  rcases h with ⟨_, rfl⟩ | ⟨_, _, h⟩
  · exact ⟨r, hr, hk⟩
  · exact h
section
variable {s : State} {wa wb : ByteArray} {a b x y : Inode} {an bn xn yn : Int} {na nb : ByteArray} {th : Bool}
theorem spot_way {r : Inode} (S : Snd s) (hb : bareL s.inodes) (hr : findI s.inodes 1 = some r) (hk : r.kind = 2) {w : ByteArray} (h : Seven w) {q : Spot} (hq : findS s.inodes w = (q, 0)) : WayT s.inodes r w q.dir.no q.name := by
  obtain ⟨dn, n, hw⟩ := h.wayT hb hr hk (findS_par (by rw [hq]))
  have e := findS_way (hw.way hb hr hk)
  rw [hq] at e
  have e : q = atS s.inodes dn n := by simpa using e
  obtain ⟨d, hd, _⟩ := hw.dir hr hk
  obtain ⟨e1, e2⟩ := atS_dirN s.inodes dn n
  rw [e, e1, e2, hd]
  show WayT s.inodes r w d.no n
  rw [(S.ok.ok dn d hd).1]
  exact hw
theorem RenD.far (S : Snd s) (D : RenD s wa wb a b x y an bn xn yn na nb th) : th = true → yn ≠ an ∧ yn ≠ bn ∧ yn ≠ 1 := fun h => by
  obtain ⟨f1, f2, f3, f4, f5⟩ := D.old h
  have hfa := D.fa
  refine ⟨fun q => ?_, fun q => ?_, (S.entry D.db f1).1⟩
  · rw [q, D.da] at f2; obtain rfl : a = y := by simpa using f2
    rw [f5] at hfa; cases hfa
  · rw [q, D.db] at f2; obtain rfl : b = y := by simpa using f2
    rw [f5] at f1; cases f1
theorem RenD.two (D : RenD s wa wb a b x y an bn xn yn na nb th) : ¬ (an = bn ∧ na = nb) := fun ⟨h1, h2⟩ => by
  subst h1 h2
  have e : b = a := by have := D.db; rw [D.da] at this; simpa using this.symm
  subst e
  have hfa := D.fa
  cases th with
  | false => rw [D.new rfl] at hfa; cases hfa
  | true =>
    obtain ⟨f1, _, f3, _⟩ := D.old rfl
    rw [f1] at hfa; exact f3 (by simpa using hfa)
theorem RenD.xa (S : Snd s) (D : RenD s wa wb a b x y an bn xn yn na nb th) : xn ≠ an ∧ xn ≠ bn := by
  refine ⟨fun q => ?_, fun q => ?_⟩
  · have hx := D.fx
    have hk : x.kind = 2 := by
      rw [q, D.da] at hx; obtain rfl : a = x := by simpa using hx
      exact D.ak
    have : KidF (findI s.inodes) an xn := by
      obtain ⟨e, h1, h2, h3, _⟩ := rem_perm D.fa
      exact (kidF_some D.da).2 ⟨e, h1, h3, by rw [kindF_some D.fx]; exact hk⟩
    rw [q] at this
    exact S.acyclic this .refl
  · have hx := D.fx
    have hk : x.kind = 2 := by
      rw [q, D.db] at hx; obtain rfl : b = x := by simpa using hx
      exact D.bk
    exact D.out hk (by rw [q]; exact .refl)
theorem moved_way {t : State} {r : Inode} (S : Snd s) (D : RenD s wa wb a b x y an bn xn yn na nb th) (M : Moved s t b x y an bn xn yn na nb th) (hr : findI s.inodes 1 = some r) (hk : r.kind = 2) :
    ∃ r', findI t.inodes 1 = some r' ∧ r'.kind = 2 ∧ ∀ w dn n, WayT s.inodes r w dn n → dn = an ∨ dn = bn → WayT t.inodes r' w dn n := by
  obtain ⟨r', h1, h2, h3⟩ := M.stay 1 r hr (fun h => (D.far S h.1).2.2 h.2.symm)
  refine ⟨r', h1, h2.trans hk, fun w dn n hw hd => ?_⟩
  obtain ⟨hc, hn, hw⟩ := hw
  refine ⟨hc, hn, ?_⟩
  rcases hw with hw | ⟨hw, he, d, hd1, hd2⟩
  · exact .inl hw
  · refine .inr ⟨hw, ?_, ?_⟩
    · rw [h3 dN (fun q => ?_) (fun q => ?_)]
      · exact he
      · have ea : r = a := by have := D.da; rw [← q.1, hr] at this; simpa using this
        have e := D.fa
        rw [← ea, ← q.2, he] at e
        have e : dn = xn := by simpa using e
        rcases hd with h | h
        · exact (D.xa S).1 (by rw [← e, h])
        · exact (D.xa S).2 (by rw [← e, h])
      · have eb : r = b := by have := D.db; rw [← q.1, hr] at this; simpa using this
        have e := he
        rw [eb, q.2] at e
        cases th with
        | false => rw [D.new rfl] at e; cases e
        | true =>
          obtain ⟨f1, _⟩ := D.old rfl
          rw [f1] at e
          have e : yn = dn := by simpa using e
          obtain ⟨g1, g2, g3⟩ := D.far S rfl
          rcases hd with h | h
          · exact g1 (by rw [e, h])
          · exact g2 (by rw [e, h])
    · obtain ⟨d', k1, k2, _⟩ := M.stay dn d hd1 (fun h => by
        obtain ⟨g1, g2, g3⟩ := D.far S h.1
        rcases hd with q | q
        · exact g1 (by rw [← h.2, q])
        · exact g2 (by rw [← h.2, q]))
      exact ⟨d', k1, k2.trans hd2⟩
end
section
variable {s : State} {wa wb : ByteArray} {a b x y : Inode} {an bn xn yn : Int} {na nb : ByteArray} {th : Bool}
theorem Snd.rootI {s : State} (S : Snd s) : ∃ r, findI s.inodes 1 = some r ∧ r.kind = 2 := kindF_isSome S.ok.root
theorem Moved.bare {t : State} (M : Moved s t b x y an bn xn yn na nb th) (hb : bareL s.inodes) : bareL t.inodes := fun n z hz => by
  obtain ⟨z', h1, h2⟩ := M.kinds n z hz
  rw [h2]; exact hb n z' h1
theorem RenD.ways {r : Inode} (S : Snd s) (hb : bareL s.inodes) (D : RenD s wa wb a b x y an bn xn yn na nb th) (hr : findI s.inodes 1 = some r) (hk : r.kind = 2) (h7a : Seven wa) (h7b : Seven wb) : WayT s.inodes r wa an na ∧ WayT s.inodes r wb bn nb := by
  have h1 := thereS_of (xs := s.inodes) (w := wa) (by rw [D.spotA])
  rw [D.spotA] at h1
  have w1 := spot_way S hb hr hk h7a h1.1.symm
  have w2 := spot_way S hb hr hk h7b D.spotB
  refine ⟨?_, ?_⟩
  · rw [← D.ano]; exact w1
  · rw [← D.bno]; exact w2
theorem ren_fwd {t : State} (S : Snd s) (hb : bareL s.inodes) (D : RenD s wa wb a b x y an bn xn yn na nb th) (M : Moved s t b x y an bn xn yn na nb th) (h7a : Seven wa) (h7b : Seven wb) :
    resolveP s.inodes wa false = (xn, 0) ∧ resolveP t.inodes wb false = (xn, 0) ∧ (resolveP t.inodes wa false).2 ≠ 0 ∧ ((resolveP s.inodes wb false).2 ≠ 0 → th = false) := by
  obtain ⟨r, hr, hk⟩ := S.rootI
  obtain ⟨w1, w2⟩ := D.ways S hb hr hk h7a h7b
  obtain ⟨r', hr', hk', hw⟩ := moved_way S D M hr hk
  have hbt := M.bare hb
  have v1 := hw wa an na w1 (.inl rfl)
  have v2 := hw wb bn nb w2 (.inr rfl)
  obtain ⟨B, b1, b2, b3⟩ := M.leads
  obtain ⟨A, a1, a2, a3⟩ := M.off D.two
  obtain ⟨x', x1, _⟩ := M.stay xn x D.fx (fun h => (D.old h.1).2.2.1 h.2.symm)
  refine ⟨?_, ?_, ?_, fun h => ?_⟩
  · rw [(w1.way hb hr hk).2, lookN_some D.da D.ak D.fa D.fx]
  · rw [(v2.way hbt hr' hk').2, lookN_some b1 b2 b3 x1]
  · rw [(v1.way hbt hr' hk').2, lookN_none a1 a2 a3]; show (11 : Int) ≠ 0; decide
  · cases hth : th with
    | false => rfl
    | true =>
      obtain ⟨f1, f2, _⟩ := D.old hth
      rw [(w2.way hb hr hk).2, lookN_some D.db D.bk f1 f2] at h
      exact absurd rfl h
theorem ins_rem {xs : List Entry} (hr : rightE xs = true) {e : Entry} (h : addC xs e = 0) : remE (insE xs e) e.name = xs := by
  obtain ⟨h1, h2, h3, h4⟩ := addC_ok h
  have hR := insE_right hr h3 h1 h2 h4
  have hF := findE_insE h3
  obtain ⟨e', k1, k2, k3, k4⟩ := rem_perm hF
  have ee : e' = e := by cases e; cases e'; simp_all
  rw [ee] at k4
  exact sorted_eq ((rightE_iff _).1 (remE_right hR (by rw [hF]; rfl)).1).2.1 ((rightE_iff _).1 hr).2.1 (List.Perm.cons_inv (k4.symm.trans (insE_perm xs e)))
theorem rem_back {xs : List Entry} (hr : rightE xs = true) {n : ByteArray} {no : Int} (h : findE xs n = some no) : addC (remE xs n) ⟨n, no⟩ = 0 ∧ insE (remE xs n) ⟨n, no⟩ = xs := by
  obtain ⟨i, e, h1, h2, h3, h4⟩ := findIdx_of_find (xs := xs) (s := n) (by rw [h]; rfl)
  rw [h] at h4
  have h4 : no = e.no := by simpa using h4
  have he : (⟨n, no⟩ : Entry) = e := by rw [h4, ← h3]
  obtain ⟨k1, k2, k3⟩ := remE_right hr (s := n) (by rw [h]; rfl)
  have hm : e ∈ xs := List.mem_of_getElem? h2
  have hok := ((rightE_iff _).1 hr).1 e hm
  have hlen := ((rightE_iff _).1 hr).2.2
  have h5 := (rem_ins hr h2).2
  rw [h3] at h5
  rw [he]
  refine ⟨?_, h5⟩
  unfold addC
  unfold okEnt at hok
  simp only [Bool.and_eq_true, decide_eq_true_eq] at hok
  rw [if_neg (by simp [hok.1]), if_neg (by omega), if_neg (by rw [h3, k3]; simp), if_neg (by omega)]
end
section
variable {s : State} {wa wb : ByteArray} {a b x y : Inode} {an bn xn yn : Int} {na nb : ByteArray}
theorem ren_back {t : State} (S : Snd s) (hb : bareL s.inodes) (D : RenD s wa wb a b x y an bn xn yn na nb false) (M : Moved s t b x y an bn xn yn na nb false) (St : Snd t) (hlt : t.inodes.length + 1 ≤ 200) (h7a : Seven wa) (h7b : Seven wb) (os : List Int) :
    (rrenameP t wb wa os).2 = 0 ∧ applyS t (rrenameP t wb wa os).1 = s := by
  obtain ⟨r, hr, hk⟩ := S.rootI
  obtain ⟨w1, w2⟩ := D.ways S hb hr hk h7a h7b
  obtain ⟨r', hr', hk', hw⟩ := moved_way S D M hr hk
  have hbt := M.bare hb
  have v1 := (hw wa an na w1 (.inl rfl)).way hbt hr' hk'
  have v2 := (hw wb bn nb w2 (.inr rfl)).way hbt hr' hk'
  obtain ⟨B, b1, b2, b3⟩ := M.leads
  obtain ⟨A, a1, a2, a3⟩ := M.off D.two
  obtain ⟨xa, xb⟩ := D.xa S
  have hao := S.ok.ok an a D.da
  have hbo := S.ok.ok bn b D.db
  obtain ⟨r1, r2, r3, r4, r5, r6, r7⟩ := rightI_dir hao.2.2 D.ak
  obtain ⟨t1, t2, t3, t4, t5, t6, t7⟩ := rightI_dir hbo.2.2 D.bk
  have hno := D.new rfl
  have hgx : ∀ n z, (findI s.inodes n).getD z = (findI s.inodes n).getD z := fun _ _ => rfl
  have hnew := M.new rfl
  rw [D.da] at hnew
  have hnew : t.inodes = (if an = bn then putI s.inodes { b with entries := insE (remE b.entries na) ⟨nb, xn⟩ } else putI (putI s.inodes { a with entries := remE a.entries na, links := a.links - (if x.kind = 2 then 1 else 0) }) { b with entries := insE b.entries ⟨nb, xn⟩, links := b.links + (if x.kind = 2 then 1 else 0) }) := hnew
  have hadd := D.add
  obtain ⟨q1, q2⟩ := rem_back r5 D.fa
  have hback : ∀ n, findI t.inodes n = if n = bn then some B else if n = an then some A else findI s.inodes n := fun n => by
    by_cases h1 : n = bn
    · rw [if_pos h1, h1]; exact b1
    · rw [if_neg h1]
      by_cases h2 : n = an
      · rw [if_pos h2, h2]; exact a1
      · rw [if_neg h2, hnew]
        split
        · rw [find_put, if_neg (by show n ≠ b.no; rw [D.bno]; exact h1)]
        · rw [find_put, if_neg (by show n ≠ b.no; rw [D.bno]; exact h1), find_put, if_neg (by show n ≠ a.no; rw [D.ano]; exact h2)]
  have hx : findI t.inodes xn = some x := by rw [hback, if_neg xb, if_neg xa]; exact D.fx
  have hAno : A.no = an := (St.ok.ok an A a1).1
  have hBno : B.no = bn := (St.ok.ok bn B b1).1
  have hT1 : thereS t.inodes wb = (⟨B, nb, x, true⟩, 0) := by
    have e : findS t.inodes wb = (⟨B, nb, x, true⟩, 0) := by
      rw [findS_way v2]
      unfold atS
      rw [b1]
      show ((match findE B.entries nb with | none => _ | some to_ => _ : Spot), (0 : Int)) = _
      rw [b3]; simp only [hx]; rfl
    unfold thereS; rw [e, if_neg (fun h => by cases h.2)]
  have hT2 : thereS t.inodes wa = (⟨A, na, zeroI, false⟩, 11) := by
    have e : findS t.inodes wa = (⟨A, na, zeroI, false⟩, 0) := by
      rw [findS_way v1]
      unfold atS
      rw [a1]
      show ((match findE A.entries na with | none => _ | some to_ => _ : Spot), (0 : Int)) = _
      rw [a3]; rfl
    unfold thereS; rw [e, if_pos ⟨rfl, rfl⟩]
  have hbare : bareI t.inodes := fun z hz hk => rightI_bare (St.ok.ok z.no z (findI_of_mem St.rise hz)).2.2 hk
  have hents : ∀ z ∈ t.inodes, z.entries.length ≤ 1000 := fun z hz => by
    have h := (St.ok.ok z.no z (findI_of_mem St.rise hz)).2.2
    by_cases hk : z.kind = 2
    · exact Nat.le_trans ((rightE_iff _).1 (rightI_dir h hk).2.2.2.2.1).2.2 (by decide)
    · rw [rightI_bare h hk]; decide
  -- what the two directories are
  have hdirs : (an = bn → A.entries = insE (remE a.entries na) ⟨nb, xn⟩ ∧ B = A ∧ { A with entries := a.entries } = a) ∧ (an ≠ bn → A = { a with entries := remE a.entries na, links := a.links - (if x.kind = 2 then 1 else 0) } ∧ B = { b with entries := insE b.entries ⟨nb, xn⟩, links := b.links + (if x.kind = 2 then 1 else 0) }) := by
    refine ⟨fun h => ?_, fun h => ?_⟩
    · have e : b = a := by have := D.db; rw [← h, D.da] at this; simpa using this.symm
      rw [if_pos h, e] at hnew
      have e2 : findI t.inodes an = some { a with entries := insE (remE a.entries na) ⟨nb, xn⟩ } := by rw [hnew, find_put, if_pos (by show an = a.no; exact D.ano.symm)]
      rw [a1] at e2
      obtain rfl : A = _ := by simpa using e2
      rw [← h, a1] at b1
      exact ⟨rfl, by simpa using b1.symm, rfl⟩
    · rw [if_neg h] at hnew
      have e2 := b1
      rw [hnew, find_put, if_pos (by show bn = b.no; exact D.bno.symm)] at e2
      have e3 := a1
      rw [hnew, find_put, if_neg (by show an ≠ b.no; rw [D.bno]; exact h), find_put, if_pos (by show an = a.no; exact D.ano.symm)] at e3
      exact ⟨by simpa using e3.symm, by simpa using e2.symm⟩
  have hAB : B.no = A.no ↔ an = bn := by rw [hAno, hBno]; exact ⟨Eq.symm, Eq.symm⟩
  have hrb : rrB ⟨B, nb, x, true⟩ ⟨A, na, zeroI, false⟩ false = remE a.entries na := by
    unfold rrB rrA rrT
    show (if B.no = A.no then remE (if B.no = A.no then (if false = true then _ else A.entries) else B.entries) nb else (if false = true then _ else A.entries)) = _
    by_cases h : an = bn
    · rw [if_pos (hAB.2 h), if_pos (hAB.2 h), if_neg (by decide), (hdirs.1 h).1]
      refine ins_rem (remE_right r5 (by rw [D.fa]; rfl)).1 (e := ⟨nb, xn⟩) ?_
      have e : b = a := by have := D.db; rw [← h, D.da] at this; simpa using this.symm
      have : rrB ⟨a, na, x, true⟩ ⟨b, nb, y, false⟩ false = remE a.entries na := by
        unfold rrB rrA rrT
        rw [e]; simp
      rw [this] at hadd
      exact hadd
    · rw [if_neg (fun q => h (hAB.1 q)), if_neg (by decide), (hdirs.2 h).1]
  have hout : ¬ (x.kind = 2 ∧ insideR t.inodes A.no x.no = true) := fun h => by
    have h2 := reachF_iff.2 ((insideR_iff hbare hents hlt x.no A.no).1 h.2)
    rw [hAno, D.xno] at h2
    have hkid : KidF (findI s.inodes) an xn := by
      obtain ⟨e, h1, _, h3, _⟩ := rem_perm D.fa
      exact (kidF_some D.da).2 ⟨e, h1, h3, by rw [kindF_some D.fx]; exact h.1⟩
    refine S.acyclic hkid ?_
    have hkf : ∀ k, kindF (findI t.inodes) k = 2 → kindF (findI s.inodes) k = 2 := fun k hk => by
      obtain ⟨z, hz, hzk⟩ := kindF_isSome hk
      obtain ⟨z', g1, g2⟩ := M.kinds k z hz
      rw [kindF_some g1, ← g2]; exact hzk
    have hin : ∀ {e : Entry} {es : List Entry}, e ∈ insE es ⟨nb, xn⟩ → e.no = xn ∨ e ∈ es := fun {e es} he => by
      rcases List.mem_cons.1 ((insE_perm es ⟨nb, xn⟩).mem_iff.1 he) with q | q
      · exact .inl (by rw [q])
      · exact .inr q
    have hre : ∀ {e : Entry}, e ∈ remE a.entries na → e ∈ a.entries := fun {e} he => by
      obtain ⟨e', _, _, _, g⟩ := rem_perm D.fa
      exact g.mem_iff.2 (List.mem_cons_of_mem _ he)
    have key : ∀ m, ReachF (findI t.inodes) xn m → ReachF (findI s.inodes) xn m := fun m q => by
      induction q with
      | refl => exact .refl
      | @step d k _ hk ih =>
        by_cases e : k = xn
        · rw [e]; exact .refl
        · refine ih.step ?_
          obtain ⟨z, hz, _⟩ := kidF_par hk
          obtain ⟨e1, g1, g2, g3⟩ := (kidF_some hz).1 hk
          have g3 := hkf k g3
          rw [hback] at hz
          by_cases c1 : d = bn
          · rw [if_pos c1] at hz
            obtain rfl : B = z := by simpa using hz
            rw [c1]
            by_cases h : an = bn
            · rw [(hdirs.1 h).2.1, (hdirs.1 h).1] at g1
              rw [← h]
              rcases hin g1 with q | q
              · exact absurd (g2.symm.trans q) e
              · exact (kidF_some D.da).2 ⟨e1, hre q, g2, g3⟩
            · rw [(hdirs.2 h).2] at g1
              rcases hin g1 with q | q
              · exact absurd (g2.symm.trans q) e
              · exact (kidF_some D.db).2 ⟨e1, q, g2, g3⟩
          · rw [if_neg c1] at hz
            by_cases c2 : d = an
            · rw [if_pos c2] at hz
              obtain rfl : A = z := by simpa using hz
              have h : an ≠ bn := fun q => c1 (c2.trans q)
              rw [(hdirs.2 h).1] at g1
              rw [c2]
              exact (kidF_some D.da).2 ⟨e1, hre g1, g2, g3⟩
            · rw [if_neg c2] at hz
              exact (kidF_some hz).2 ⟨e1, g1, g2, g3⟩
    exact key an h2
  have hroom : ¬ (x.kind = 2 ∧ B.no ≠ A.no ∧ 100 ≤ A.links) := fun h => by
    have h2 : an ≠ bn := fun q => h.2.1 (hAB.2 q)
    have h3 := h.2.2
    rw [(hdirs.2 h2).1] at h3
    simp only [h.1, if_true] at h3
    omega
  have hP : rrP t.inodes ⟨B, nb, x, true⟩ ⟨A, na, zeroI, false⟩ 11 os = (rrL ⟨B, nb, x, true⟩ ⟨A, na, zeroI, false⟩ false a.entries, 0) := by
    have hA0 : A.no ≠ 0 := by rw [hAno, ← D.ano]; omega
    unfold rrP
    rw [if_neg (by show ¬ (((11 : Int) ≠ 0 ∧ (11 : Int) ≠ 11) ∨ A.no = 0); simp [hA0]), if_neg (by show ¬ ((11 : Int) = 0 ∧ _); simp), if_neg hout]
    have e1 : rrV ⟨B, nb, x, true⟩ ⟨A, na, zeroI, false⟩ ((11 : Int) == 0) = 0 := by
      show (if x.kind = 2 ∧ B.no ≠ A.no ∧ 100 ≤ A.links then (18 : Int) else 0) = 0
      rw [if_neg hroom]
    rw [e1, if_neg (by decide)]
    show rrM ⟨B, nb, x, true⟩ ⟨A, na, zeroI, false⟩ false os = _
    unfold rrM
    rw [hrb]
    show (if addC (remE a.entries na) ⟨na, x.no⟩ ≠ 0 then _ else rrE _ _ false (addL (remE a.entries na) ⟨na, x.no⟩) os) = _
    rw [D.xno, q1, if_neg (by decide), addL_ok q1, q2]
    rfl
  have hR : rrenameP t wb wa os = (rrL ⟨B, nb, x, true⟩ ⟨A, na, zeroI, false⟩ false a.entries, 0) := by
    unfold rrenameP
    rw [hT1, hT2, if_neg (by show ¬ ((0 : Int) ≠ 0); decide)]
    exact hP
  rw [hR]
  refine ⟨rfl, ?_⟩
  have hfin : ∀ zs, riseI zs → (∀ n, findI zs n = findI s.inodes n) → (⟨t.next, zs, t.bads⟩ : State) = s := fun zs h1 h2 => by
    rw [rise_ext h1 S.rise h2, M.next, M.bads]
  by_cases h : an = bn
  · have hL : rrL ⟨B, nb, x, true⟩ ⟨A, na, zeroI, false⟩ false a.entries = [putD a] := by
      unfold rrL
      show (if B.no = A.no then [putD { A with entries := a.entries, links := A.links - (if x.kind = 2 ∧ false = true then 1 else 0) }] else _) = _
      rw [if_pos (hAB.2 h)]
      have e0 : A.links - (if x.kind = 2 ∧ false = true then 1 else 0) = A.links := by simp
      rw [e0]
      exact congrArg (fun z => [putD z]) (hdirs.1 h).2.2
    rw [hL]
    refine hfin (putI t.inodes a) (putI_rise St.rise) fun n => ?_
    rw [find_put, hback, D.ano]
    by_cases c : n = an
    · rw [if_pos c, c]; exact D.da.symm
    · rw [if_neg c, if_neg (by rw [← h]; exact c), if_neg c]
  · have hc : rrB ⟨a, na, x, true⟩ ⟨b, nb, y, false⟩ false = b.entries := by
      unfold rrB rrT
      rw [if_neg (by show ¬ a.no = b.no; rw [D.ano, D.bno]; exact h)]
      rfl
    rw [hc] at hadd
    have hL : rrL ⟨B, nb, x, true⟩ ⟨A, na, zeroI, false⟩ false a.entries = [putD b, putD a] := by
      unfold rrL rrA
      show (if B.no = A.no then _ else [putD { B with entries := remE (if B.no = A.no then _ else B.entries) nb, links := B.links - (if x.kind = 2 then 1 else 0) }, putD { A with entries := a.entries, links := A.links + (if x.kind = 2 ∧ false = false then 1 else 0) }]) = _
      rw [if_neg (fun q => h (hAB.1 q)), if_neg (fun q => h (hAB.1 q)), (hdirs.2 h).1, (hdirs.2 h).2]
      have e1 : remE (insE b.entries ⟨nb, xn⟩) nb = b.entries := ins_rem t5 (e := ⟨nb, xn⟩) hadd
      show [putD { b with entries := remE (insE b.entries ⟨nb, xn⟩) nb, links := b.links + (if x.kind = 2 then 1 else 0) - (if x.kind = 2 then 1 else 0) }, putD { a with entries := a.entries, links := a.links - (if x.kind = 2 then 1 else 0) + (if x.kind = 2 ∧ false = false then 1 else 0) }] = _
      have e2 : b.links + (if x.kind = 2 then 1 else 0) - (if x.kind = 2 then 1 else 0) = b.links := by omega
      have e3 : a.links - (if x.kind = 2 then 1 else 0) + (if x.kind = 2 ∧ false = false then 1 else 0) = a.links := by
        by_cases q : x.kind = 2
        · rw [if_pos q, if_pos ⟨q, rfl⟩]; omega
        · rw [if_neg q, if_neg (fun g => q g.1)]; omega
      rw [e1, e2, e3]
    rw [hL]
    refine hfin (putI (putI t.inodes b) a) (putI_rise (putI_rise St.rise)) fun n => ?_
    rw [find_put, find_put, hback, D.ano, D.bno]
    by_cases c : n = an
    · rw [if_pos c, c]; exact D.da.symm
    · rw [if_neg c]
      by_cases c2 : n = bn
      · rw [if_pos c2, c2]; exact D.db.symm
      · rw [if_neg c2, if_neg c2, if_neg c]
end
theorem ren_midS {n k : Nat} {s : State} (S : Snd s) (M : MidS n k s) (hn : n ≤ 60) (old path : ByteArray) (os : List Int) : MidS (n + 1) (k + 1) (applyS s (renameP s old path os).1) := by
  rw [rename_eq S (by have := M.len; omega)]
  obtain ⟨h1, h2⟩ := rename_mid M old path os
  exact M.all h1 h2
theorem ren_snd {n k : Nat} {s : State} (S : Snd s) (M : MidS n k s) (hn : n ≤ 60) (old path : ByteArray) (os : List Int) : Snd (applyS s (renameP s old path os).1) := by
  rw [rename_eq S (by have := M.len; omega)]
  exact S.callRename (by have := M.len; omega) old path os
theorem ren_law {n k : Nat} {s : State} (S : Snd s) (M : MidS n k s) (hn : n ≤ 60) (hb : bareL s.inodes) {wa wb : ByteArray} (h7a : Seven wa) (h7b : Seven wb) :
    ((renameP s wa wb []).2 ≠ 0 ∨ (resolveP s.inodes wa false).2 ≠ 0 → (renameP s wa wb []).1 = []) ∧
    ((renameP s wa wb []).1 ≠ [] → resolveP (applyS s (renameP s wa wb []).1).inodes wb false = ((resolveP s.inodes wa false).1, 0) ∧ (resolveP (applyS s (renameP s wa wb []).1).inodes wa false).2 ≠ 0 ∧
      ((resolveP s.inodes wb false).2 = 11 → (renameP (applyS s (renameP s wa wb []).1) wb wa []).2 = 0 ∧ applyS (applyS s (renameP s wa wb []).1) (renameP (applyS s (renameP s wa wb []).1) wb wa []).1 = s)) := by
  have hT := ren_snd S M hn wa wb []
  have hM := ren_midS S M hn wa wb []
  have e := rename_eq S (by have := M.len; omega) wa wb []
  have hl : s.inodes.length + 1 ≤ 200 := by have := M.len; omega
  have key : (renameP s wa wb []).1 ≠ [] → (resolveP s.inodes wa false).2 = 0 ∧ resolveP (applyS s (renameP s wa wb []).1).inodes wb false = ((resolveP s.inodes wa false).1, 0) ∧ (resolveP (applyS s (renameP s wa wb []).1).inodes wa false).2 ≠ 0 ∧
      ((resolveP s.inodes wb false).2 = 11 → (renameP (applyS s (renameP s wa wb []).1) wb wa []).2 = 0 ∧ applyS (applyS s (renameP s wa wb []).1) (renameP (applyS s (renameP s wa wb []).1) wb wa []).1 = s) := fun hd => by
    have e2 := fun t St hl => rename_eq (s := t) St hl wb wa []
    rw [e] at hd hT hM ⊢
    obtain ⟨a, b, x, y, an, bn, xn, yn, na, nb, th, D, he⟩ := ren_data S hl hd
    rw [he] at hT hM ⊢
    have Mv := ren_eff S D []
    obtain ⟨f1, f2, f3, f4⟩ := ren_fwd S hb D Mv h7a h7b
    rw [f1, f2]
    refine ⟨rfl, rfl, f3, fun h11 => ?_⟩
    have hth := f4 (by rw [h11]; decide)
    subst hth
    have hlt : (applyS s (rrE ⟨a, na, x, true⟩ ⟨b, nb, y, false⟩ false (addL (rrB ⟨a, na, x, true⟩ ⟨b, nb, y, false⟩ false) ⟨nb, xn⟩) []).1).inodes.length + 1 ≤ 200 := by have := hM.len; omega
    rw [e2 _ hT hlt]
    exact ren_back S hb D Mv hT hlt h7a h7b []
  refine ⟨fun h => ?_, fun hd => (key hd).2⟩
  by_cases hd : (renameP s wa wb []).1 = []
  · exact hd
  · rcases h with h | h
    · rw [e] at h ⊢; exact ren_fail h
    · exact absurd (key hd).1 h
end Go.Proofs.YtdiaibkpcnknbaaGreatDoor
