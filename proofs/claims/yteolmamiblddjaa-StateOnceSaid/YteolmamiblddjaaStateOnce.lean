/- The walk of the law StateOnce: it returns true, and writes nothing that was there. -/
import Derived.Test.YteolmamiblddjaaStLaw
import Derived.Test.YteolmamiblddjaaPlain
namespace Go.Proofs.Yteolmamiblddjaa
open Go.RowKit Go.Sort
set_option linter.unusedVariables false
theorem findI_cons (x : Inode) (xs : List Inode) (j : Int) : findI (x :: xs) j = if x.no = j then some x else findI xs j := by
  unfold findI
  rw [List.find?_cons]
  by_cases h : x.no = j
  · rw [if_pos h, show isI j x = true by unfold isI; simpa using h]
  · rw [if_neg h, show isI j x = false by unfold isI; simpa using h]
theorem findI_app : ∀ (xs ys : List Inode) (j : Int), findI (xs ++ ys) j = (findI xs j).or (findI ys j)
  | [], ys, j => rfl
  | x :: xs, ys, j => by
    rw [List.cons_append, findI_cons, findI_cons, findI_app xs ys j]
    split <;> rfl
theorem findIdx_none_find {xs : List Inode} {j : Int} (h : xs.findIdx? (isI j) = none) : ∀ y ∈ xs, y.no ≠ j := fun y hy e => by
  have := List.findIdx?_eq_none_iff.1 h y hy
  unfold isI at this
  simp [e] at this
theorem findI_none_iff {xs : List Inode} {j : Int} : findI xs j = none ↔ ∀ y ∈ xs, y.no ≠ j := by
  unfold findI
  rw [List.find?_eq_none]
  unfold isI
  simp
theorem findI_set : ∀ (xs : List Inode) (i : Nat) (x : Inode), (∃ y, xs[i]? = some y ∧ y.no = x.no) → (∀ m y, m < i → xs[m]? = some y → y.no ≠ x.no) → findI (xs.set i x) x.no = some x ∧ ∀ j, j ≠ x.no → findI (xs.set i x) j = findI xs j
  | [], i, x, ⟨y, hy, _⟩, _ => by simp at hy
  | z :: zs, 0, x, ⟨y, hy, e⟩, _ => by
    simp at hy
    subst hy
    exact ⟨by rw [List.set_cons_zero, findI_cons, if_pos rfl], fun j hj => by rw [List.set_cons_zero, findI_cons, findI_cons, if_neg (fun h => hj h.symm), if_neg (fun h => hj (by rw [← h, e]))]⟩
  | z :: zs, i + 1, x, ⟨y, hy, e⟩, hb => by
    obtain ⟨a, b⟩ := findI_set zs i x ⟨y, by simpa using hy, e⟩ (fun m y hm hy => hb (m + 1) y (by omega) (by simpa using hy))
    have hz := hb 0 z (by omega) rfl
    exact ⟨by rw [List.set_cons_succ, findI_cons, if_neg hz]; exact a, fun j hj => by rw [List.set_cons_succ, findI_cons, findI_cons, b j hj]⟩
theorem putI_has {xs : List Inode} {x : Inode} {i : Nat} (h : xs.findIdx? (isI x.no) = some i) : putI xs x = xs.set i x ∧ (∃ y, xs[i]? = some y ∧ y.no = x.no) ∧ ∀ m y, m < i → xs[m]? = some y → y.no ≠ x.no := by
  obtain ⟨hi, hp, hb⟩ := List.findIdx?_eq_some_iff_getElem.1 h
  refine ⟨by unfold putI; rw [h], ⟨xs[i], List.getElem?_eq_getElem hi, by unfold isI at hp; simpa using hp⟩, fun m y hm hy => ?_⟩
  obtain ⟨hm', rfl⟩ := List.getElem?_eq_some_iff.1 hy
  have := hb m hm
  unfold isI at this
  simpa using this
theorem putI_new {xs : List Inode} {x : Inode} (h : xs.findIdx? (isI x.no) = none) : putI xs x = xs.take (posI xs x.no) ++ [x] ++ xs.drop (posI xs x.no) := by unfold putI; rw [h]
theorem findI_put (xs : List Inode) (x : Inode) : findI (putI xs x) x.no = some x ∧ ∀ j, j ≠ x.no → findI (putI xs x) j = findI xs j := by
  cases e : xs.findIdx? (isI x.no) with
  | some i =>
    obtain ⟨h1, h2, h3⟩ := putI_has e
    rw [h1]; exact findI_set xs i x h2 h3
  | none =>
    have hn := findIdx_none_find e
    rw [putI_new e, findI_app, findI_app]
    have h1 : findI (xs.take (posI xs x.no)) x.no = none := findI_none_iff.2 fun y hy => hn y (List.mem_of_mem_take hy)
    refine ⟨by rw [h1, findI_cons, if_pos rfl]; rfl, fun j hj => ?_⟩
    rw [findI_app, findI_app, findI_cons, if_neg (fun h => hj h.symm)]
    show ((findI _ j).or none).or (findI _ j) = _
    have : findI xs j = (findI (xs.take (posI xs x.no)) j).or (findI (xs.drop (posI xs x.no)) j) := by rw [← findI_app, List.take_append_drop]
    rw [this]; simp
theorem findI_some_idx {xs : List Inode} {j : Int} : (findI xs j).isSome = (xs.findIdx? (isI j)).isSome := by
  cases e : xs.findIdx? (isI j) with
  | none => rw [findI_none_iff.2 (findIdx_none_find e)]; rfl
  | some i =>
    obtain ⟨hi, hp, _⟩ := List.findIdx?_eq_some_iff_getElem.1 e
    cases f : findI xs j with
    | some y => rfl
    | none =>
      have := findI_none_iff.1 f _ (List.getElem_mem hi)
      unfold isI at hp
      exact absurd (by simpa using hp) this
theorem putI_len_eq (xs : List Inode) (x : Inode) : (putI xs x).length = xs.length + if (findI xs x.no).isSome then 0 else 1 := by
  rw [findI_some_idx]
  cases e : xs.findIdx? (isI x.no) with
  | some i => rw [(putI_has e).1]; simp
  | none => rw [putI_new e]; simp; omega
theorem putI_nodup {xs : List Inode} {x : Inode} (h : (xs.map (·.no)).Nodup) : ((putI xs x).map (·.no)).Nodup := by
  cases e : xs.findIdx? (isI x.no) with
  | some i =>
    obtain ⟨h1, ⟨y, hy, hyn⟩, h3⟩ := putI_has e
    rw [h1, List.map_set]
    have : (xs.map (·.no)).set i x.no = xs.map (·.no) := by
      apply List.ext_getElem?
      intro m
      rw [List.getElem?_set]
      split
      · rename_i hm
        subst hm
        split
        · rw [List.getElem?_map, hy, ← hyn]; rfl
        · rename_i hl
          rw [List.getElem?_eq_none (by simpa using hl)]
      · rfl
    rw [this]; exact h
  | none =>
    have hn := findIdx_none_find e
    rw [putI_new e]
    have h0 : xs = xs.take (posI xs x.no) ++ xs.drop (posI xs x.no) := (List.take_append_drop _ _).symm
    generalize posI xs x.no = p at h0 ⊢
    rw [h0, List.map_append] at h
    simp only [List.map_append, List.map_cons, List.map_nil]
    obtain ⟨a, b, c⟩ := List.nodup_append.1 h
    rw [List.append_assoc, List.nodup_append]
    refine ⟨a, ?_, ?_⟩
    · rw [List.singleton_append, List.nodup_cons]
      refine ⟨fun hm => ?_, b⟩
      obtain ⟨y, hy, he⟩ := List.mem_map.1 hm
      exact hn y (List.mem_of_mem_drop hy) he
    · intro u hu v hv
      rcases List.mem_append.1 hv with hv | hv
      · obtain ⟨y, hy, he⟩ := List.mem_map.1 hu
        simp at hv
        subst hv; subst he
        exact hn y (List.mem_of_mem_take hy)
      · exact c u hu v hv
theorem putI_mem {xs : List Inode} {x y : Inode} (h : y ∈ putI xs x) : y ∈ xs ∨ y = x := by
  unfold putI at h
  split at h
  · exact (List.mem_or_eq_of_mem_set h)
  · simp only [List.mem_append, List.mem_singleton] at h
    rcases h with (h | h) | h
    · exact .inl (List.mem_of_mem_take h)
    · exact .inr h
    · exact .inl (List.mem_of_mem_drop h)
theorem badZ_any (xs : List Int) (no : Int) : (badZ xs no).any (eqZ no) = true ∧ ∀ j, j ≠ no → (badZ xs no).any (eqZ j) = xs.any (eqZ j) := by
  unfold badZ
  split
  · rename_i h; exact ⟨h, fun _ _ => rfl⟩
  · refine ⟨by simp [eqZ], fun j hj => ?_⟩
    have h1 : xs.any (eqZ j) = ((xs.take (posZ xs no)).any (eqZ j) || (xs.drop (posZ xs no)).any (eqZ j)) := by rw [← List.any_append, List.take_append_drop]
    rw [List.any_append, List.any_append]
    have : [no].any (eqZ j) = false := by simp [eqZ, hj]
    rw [this, Bool.or_false, h1]
theorem badZ_len_eq (xs : List Int) (no : Int) : (badZ xs no).length = xs.length + if xs.any (eqZ no) then 0 else 1 := by
  unfold badZ
  split
  · simp
  · simp; omega
theorem repState_rows {h : FH} {s : State} {n : Value} {A1 A2 : Option Addr} {m1 c1 m2 c2 : Nat} (r : repState h [n, .slice A1 m1 c1, .slice A2 m2 c2] s) : CapLe A1 s.inodes.length c1 ∧ RowAt h A1 s.inodes ∧ CapLe A2 s.bads.length c2 ∧ RowAt h A2 s.bads := by
  obtain ⟨B1, d1, B2, d2, hq, p1, p2, p3, p4⟩ := r
  simp only [List.cons.injEq, Value.slice.injEq, and_true] at hq
  obtain ⟨_, ⟨rfl, _, rfl⟩, rfl, _, rfl⟩ := hq
  exact ⟨p1, p2, p3, p4⟩
structure InvO (s : State) : Prop where
  nd : (s.inodes.map (·.no)).Nodup
  len : s.inodes.length = s.bads.length + 1
  mem : ∀ j, 2 ≤ j → (findI s.inodes j).isSome = s.bads.any (eqZ j)
  fit : ∀ x ∈ s.inodes, fitI x
def oncS (s : State) (x : Inode) : State := ⟨s.next, putI s.inodes x, badZ s.bads x.no⟩
theorem applyS_once (s : State) (x : Inode) : applyS s [⟨2, 0, x⟩, ⟨4, x.no, zeroI⟩] = oncS s x := rfl
theorem applyS_gone (s : State) (j : Int) : applyS s [⟨3, j, zeroI⟩, ⟨9, 2, zeroI⟩] = ⟨s.next, s.inodes.filter (neI j), s.bads⟩ := rfl
theorem InvO.step {s : State} (I : InvO s) {x : Inode} (hx : 2 ≤ x.no) (hf : fitI x) : InvO (oncS s x) ∧ (oncS s x).inodes.length = s.inodes.length + (if (findI s.inodes x.no).isSome then 0 else 1) ∧ findI (oncS s x).inodes x.no = some x := by
  refine ⟨⟨putI_nodup I.nd, ?_, fun j hj => ?_, fun y hy => ?_⟩, putI_len_eq _ _, (findI_put _ _).1⟩
  · show (putI s.inodes x).length = (badZ s.bads x.no).length + 1
    rw [putI_len_eq, badZ_len_eq, I.mem _ hx, I.len]; omega
  · show (findI (putI s.inodes x) j).isSome = (badZ s.bads x.no).any (eqZ j)
    by_cases e : j = x.no
    · rw [e, (findI_put _ _).1, (badZ_any _ _).1]; rfl
    · rw [(findI_put _ _).2 j e, (badZ_any _ _).2 j e]; exact I.mem j hj
  · rcases putI_mem hy with h | h
    · exact I.fit y h
    · rw [h]; exact hf
theorem InvO.new : InvO newS := ⟨by simp [newS], rfl, fun j hj => by
  have : findI newS.inodes j = none := findI_none_iff.2 fun y hy => by
    have : y = newI 1 2 ⟨#[]⟩ := by simpa [newS] using hy
    rw [this]; show (1 : Int) ≠ j; omega
  rw [this]; rfl, fun y hy => by
    have : y = newI 1 2 ⟨#[]⟩ := by simpa [newS] using hy
    subst this; exact ⟨by decide, by decide⟩⟩
theorem filter_gone : ∀ (xs : List Inode) (j : Int), (xs.map (·.no)).Nodup → (xs.filter (neI j)).length + (if (findI xs j).isSome then 1 else 0) = xs.length
  | [], j, _ => rfl
  | x :: xs, j, h => by
    simp only [List.map_cons, List.nodup_cons] at h
    have ih := filter_gone xs j h.2
    rw [findI_cons, List.filter_cons]
    by_cases e : x.no = j
    · have hn : findI xs j = none := findI_none_iff.2 fun y hy hyj => h.1 (List.mem_map.2 ⟨y, hy, by rw [hyj, e]⟩)
      rw [hn] at ih
      rw [if_neg (by unfold neI isI; simp [e]), if_pos e]
      simp at ih ⊢
      exact ih
    · rw [if_pos (by unfold neI isI; simpa using e), if_neg e]
      simp only [List.length_cons]; omega
theorem find_gone (xs : List Inode) (j : Int) : findI (xs.filter (neI j)) j = none := findI_none_iff.2 fun y hy => by
  have := (List.mem_filter.1 hy).2
  unfold neI isI at this
  simpa using this
set_option maxHeartbeats 8000000 in
set_option maxRecDepth 100000 in
theorem StateOnce_walk (ns : List Int) (A : Option Addr) (c : Nat) (gone : Int) (W : World) (rn : RowAt (fhOf W) A ns) :
    Calls Try.prog 4 #[.slice A ns.length c, .int .i64 gone] W fun e w' => e = .returned (.bool true) ∧ Ext (fhOf W) W (fhOf W) w' := by
  have hs := Sits.all W
  have hln := rn.1
  have u64n : ∀ x : Int, 0 ≤ IntKind.u64.wrap x := fun x => by rw [IntKind.wrap_u64]; omega
  have md : ∀ x : Int, ∃ q : Nat, (IntKind.u64.wrap x).tmod 5 = (q : Int) ∧ q < 5 := fun x => by
    have h1 := u64n x
    rw [Int.tmod_eq_emod_of_nonneg h1]
    exact ⟨(IntKind.u64.wrap x % 5).toNat, by omega, by omega⟩
  have MD := hid md
  obtain ⟨gq, hgq, hgq5⟩ := md gone
  have KN := hid (state_New (fhOf W) W hs)
  clear md u64n
  go_enter Try.func4, Try.ntmps4
  go_upto_region 2 with (go_at_call 13; refine KN.out.mono ?_; rintro e w1 ⟨cs, h1, rfl, rs, E1⟩; have RS := hid rs; obtain ⟨A1, c1, A2, c2, rfl, l1, r1, l2, r2⟩ := rs)
  obtain ⟨s, hS⟩ : ∃ s, s = newS := ⟨_, rfl⟩
  have HI := hid (show InvO s by rw [hS]; exact InvO.new)
  have HL := hid (show s.inodes.length ≤ 0 + 1 ∧ (1 : Int) = s.inodes.length by rw [hS]; decide)
  rw [← hS] at RS
  simp only [← hS]
  clear hS l1 r1 l2 r2
  have E2 := hid (E1.alloc (.cells #[.int .i64 s.next, .slice A1 s.inodes.length c1, .slice A2 s.bads.length c2] 31))
  have hB := hid (heap_new w1 (.cells #[.int .i64 s.next, .slice A1 s.inodes.length c1, .slice A2 s.bads.length c2] 31))
  have nB := hid (E1.sits.none (Nat.le_refl w1.heap.size))
  have hwS := E1.size
  generalize hgS : w1.heap.size = gS at *
  with_reducible generalize w1.alloc (.cells #[.int .i64 s.next, .slice A1 s.inodes.length c1, .slice A2 s.bads.length c2] 31) = w2 at E2 hB ⊢
  clear hgS E1 KN
  go_upto_region 5 with (fail)
  go_loopw [6, 7, 9, 10, 11, 12] (fun s6 s7 s9 s10 s11 s12 wr => ∃ (k : Nat) (s : State) (A1 : Option Addr) (c1 : Nat) (A2 : Option Addr) (c2 : Nat) (h' : FH), k ≤ ns.length ∧ k ≤ 40 ∧ s7 = .int .i64 k ∧ s6 = .int .i64 s.inodes.length ∧ s.inodes.length ≤ k + 1 ∧ Hid (InvO s) ∧ Hid (wr.heap[gS]? = some (.cells #[.int .i64 s.next, .slice A1 s.inodes.length c1, .slice A2 s.bads.length c2] 31 (0, 0))) ∧ Hid (h' gS = none) ∧ Hid (repState h' [.int .i64 s.next, .slice A1 s.inodes.length c1, .slice A2 s.bads.length c2] s) ∧ Hid (Ext (fhOf W) W h' wr)) (fun _ s7 _ _ _ _ _ => 40 - (intOf s7).toNat)
  case atStart => exact ⟨0, s, A1, c1, A2, c2, h1, Nat.zero_le _, Nat.zero_le _, rfl, by rw [← HL.out.2], HL.out.1, HI, hB, nB, RS, E2⟩
  case round =>
    clear HL HI hB nB RS E2
    obtain ⟨k, s, A1, c1, A2, c2, h', hk, hk40, rfl, rfl, hsl, HI, HB, nB, RS, E⟩ := hrel
    have s0 : wr.cell? ⟨gS, 0, none⟩ = some (.int .i64 s.next) := box_cell (j := 0) HB.out rfl
    have s1 : wr.cell? ⟨gS, 1, none⟩ = some (.slice A1 s.inodes.length c1) := box_cell (j := 1) HB.out rfl
    have s2 : wr.cell? ⟨gS, 2, none⟩ = some (.slice A2 s.bads.length c2) := box_cell (j := 2) HB.out rfl
    by_cases hlt : k < ns.length ∧ k < 40
    · obtain ⟨hlt1, hlt2⟩ := hlt
      obtain ⟨x, hx⟩ : ∃ x, ns[k]? = some x := ⟨ns[k], by simp [hlt1]⟩
      obtain ⟨b, off, rfl, d0⟩ := (rn.mono E.out.le).int hx E.out.sits
      obtain ⟨q, hq, hq5⟩ := MD.out x
      clear hx
      obtain ⟨v, hv⟩ : ∃ v, findI s.inodes (2 + (q : Int)) = v := ⟨_, rfl⟩
      have KF := hid (state_Find s _ (2 + (q : Int)) HI.out.fit v hv h' wr E.out.sits RS.out)
      obtain ⟨I2, hl2, hf2⟩ := HI.out.step (x := ⟨2 + (q : Int), 1, 0, (k : Int), ⟨#[]⟩, [], []⟩) (by show (2 : Int) ≤ 2 + (q : Int); omega) ⟨Nat.zero_le _, Nat.zero_le _⟩
      have hap := applyS_once s ⟨2 + (q : Int), 1, 0, (k : Int), ⟨#[]⟩, [], []⟩
      rw [hv] at hl2
      obtain ⟨t, ht⟩ : ∃ t, oncS s ⟨2 + (q : Int), 1, 0, (k : Int), ⟨#[]⟩, [], []⟩ = t := ⟨_, rfl⟩
      rw [ht] at I2 hl2 hf2 hap
      have HI2 := hid I2
      have HF2 := hid hf2
      have HL2 := hid hl2
      have HAP := hid hap
      have hil := HI.out.len
      have HLN := hid (show s.inodes.length + 2 ≤ 900 ∧ s.bads.length + 2 ≤ 900 by omega)
      clear ht I2 hf2 hl2 hap hv hil
      have hq0 : (0 : Int) ≤ (q : Int) := by omega
      have hq5' : (q : Int) < 5 := by omega
      go_upto_region 9 with (go_at_call 14; refine KF.out.mono ?_; rintro e w3 ⟨cx, h3, rfl, ⟨A5, c5, A6, c6, rfl, t0, t1, t2, t3, t4⟩, F3⟩; have F3 := hid F3)
      generalize v.getD zeroI = x1 at *
      have EB := hid ((Ext.refl F3.out.sits).alloc (.cells #[.int .i64 x1.no, .int .i64 x1.kind, .int .i64 x1.links, .int .i64 x1.size, .string x1.target, .slice A5 x1.entries.length c5, .slice A6 x1.runs.length c6] 37))
      have hB4 := hid (box_alloc (F3.out.row HB.out) (.cells #[.int .i64 x1.no, .int .i64 x1.kind, .int .i64 x1.links, .int .i64 x1.size, .string x1.target, .slice A5 x1.entries.length c5, .slice A6 x1.runs.length c6] 37))
      have nB4 := hid (F3.out.none nB.out (Array.getElem?_eq_some_iff.1 HB.out).1)
      with_reducible generalize w3.alloc (.cells #[.int .i64 x1.no, .int .i64 x1.kind, .int .i64 x1.links, .int .i64 x1.size, .string x1.target, .slice A5 x1.entries.length c5, .slice A6 x1.runs.length c6] 37) = w4 at EB hB4 ⊢
      have RS4 := hid (RS.out.mono F3.out.le)
      have E4 := hid (E.out.trans (F3.out.trans EB.out))
      have y0 : w4.cell? ⟨gS, 0, none⟩ = some (.int .i64 s.next) := box_cell (j := 0) hB4.out rfl
      have y1 : w4.cell? ⟨gS, 1, none⟩ = some (.slice A1 s.inodes.length c1) := box_cell (j := 1) hB4.out rfl
      have y2 : w4.cell? ⟨gS, 2, none⟩ = some (.slice A2 s.bads.length c2) := box_cell (j := 2) hB4.out rfl
      have KA : Hid (Calls Try.prog 15 #[.agg #[.int .i64 s.next, .slice A1 s.inodes.length c1, .slice A2 s.bads.length c2], .slice (some ⟨w4.heap.size, 0, none⟩) 2 2] (w4.alloc (.cells #[.int .i64 2, .int .i64 0, .int .i64 (2 + (q : Int)), .int .i64 1, .int .i64 0, .int .i64 (k : Int), .string ⟨#[]⟩, .slice none 0 0, .slice none 0 0, .int .i64 4, .int .i64 (2 + (q : Int)), .int .i64 0, .int .i64 0, .int .i64 0, .int .i64 0, .string ⟨#[]⟩, .slice none 0 0, .slice none 0 0] 39)) fun e w' => ∃ h5, Ext h3 w4 h5 (w4.alloc (.cells #[.int .i64 2, .int .i64 0, .int .i64 (2 + (q : Int)), .int .i64 1, .int .i64 0, .int .i64 (k : Int), .string ⟨#[]⟩, .slice none 0 0, .slice none 0 0, .int .i64 4, .int .i64 (2 + (q : Int)), .int .i64 0, .int .i64 0, .int .i64 0, .int .i64 0, .string ⟨#[]⟩, .slice none 0 0, .slice none 0 0] 39)) ∧ h5 gS = none ∧ RetState h5 (w4.alloc (.cells #[.int .i64 2, .int .i64 0, .int .i64 (2 + (q : Int)), .int .i64 1, .int .i64 0, .int .i64 (k : Int), .string ⟨#[]⟩, .slice none 0 0, .slice none 0 0, .int .i64 4, .int .i64 (2 + (q : Int)), .int .i64 0, .int .i64 0, .int .i64 0, .int .i64 0, .string ⟨#[]⟩, .slice none 0 0, .slice none 0 0] 39)) t e w') := hid (by
        obtain ⟨h5, E5, hb5, le5, hh5⟩ := (Ext.refl E4.out.sits).boxF #[.int .i64 2, .int .i64 0, .int .i64 (2 + (q : Int)), .int .i64 1, .int .i64 0, .int .i64 (k : Int), .string ⟨#[]⟩, .slice none 0 0, .slice none 0 0, .int .i64 4, .int .i64 (2 + (q : Int)), .int .i64 0, .int .i64 0, .int .i64 0, .int .i64 0, .string ⟨#[]⟩, .slice none 0 0, .slice none 0 0] 39
        refine (state_Apply s _ [⟨2, 0, ⟨2 + (q : Int), 1, 0, (k : Int), ⟨#[]⟩, [], []⟩⟩, ⟨4, 2 + (q : Int), zeroI⟩] _ 2 HI.out.fit (fun d hd => by
          simp at hd
          rcases hd with rfl | rfl <;> exact ⟨Nat.zero_le _, Nat.zero_le _⟩) HLN.out.1 HLN.out.2 h5 _ E5.sits (RS4.out.mono le5) (RowAt.of_block hb5 ?_ (by show 2 ≤ 9223372036854775807; decide))).mono ?_
        · exact ⟨_, _, rfl, ⟨none, 0, none, 0, rfl, Nat.zero_le _, ⟨Nat.le_refl _, fun _ => rfl, by decide⟩, RowAt.nil _ _, ⟨Nat.le_refl _, fun _ => rfl, by decide⟩, RowAt.nil _ _⟩, Reps.single ⟨none, 0, none, 0, rfl, Nat.zero_le _, ⟨Nat.le_refl _, fun _ => rfl, by decide⟩, RowAt.nil _ _, ⟨Nat.le_refl _, fun _ => rfl, by decide⟩, RowAt.nil _ _⟩⟩
        · intro e w' R
          refine ⟨h5, E5, by rw [hh5, FH.add_other _ _ (Nat.ne_of_lt (Array.getElem?_eq_some_iff.1 hB4.out).1)]; exact nB4.out, ?_⟩
          rw [HAP.out] at R; exact R)
      clear s0 s1 s2 d0 hq
      go_upto_region 10 with (go_at_call 15; refine KA.out.mono ?_; rintro e w5 ⟨h5, E5, n5, cs5, h6, rfl, R6, F6⟩; have RT := hid R6; obtain ⟨B1, d1, B2, d2, rfl, _⟩ := R6; have hB5 := F6.row (E5.row hB4.out); have n6 := hid (F6.none n5 (Array.getElem?_eq_some_iff.1 (E5.row hB4.out)).1); have z0 : w5.cell? ⟨gS, 0, none⟩ = some (.int .i64 s.next) := box_cell (j := 0) hB5 rfl; have z1 : w5.cell? ⟨gS, 1, none⟩ = some (.slice A1 s.inodes.length c1) := box_cell (j := 1) hB5 rfl; have z2 : w5.cell? ⟨gS, 2, none⟩ = some (.slice A2 s.bads.length c2) := box_cell (j := 2) hB5 rfl; have f0 := box_free (j := 0) hB5; have f1 := box_free (j := 1) hB5; have f2 := box_free (j := 2) hB5; have hB5 := hid hB5; have E6 := hid (E4.out.trans (E5.trans F6)))
      have HB6 : ((((w5.setCell ⟨gS, 0, none⟩ (.int .i64 t.next)).setCell ⟨gS, 1, none⟩ (.slice B1 t.inodes.length d1)).setCell ⟨gS, 2, none⟩ (.slice B2 t.bads.length d2))).heap[gS]? = some (.cells #[.int .i64 t.next, .slice B1 t.inodes.length d1, .slice B2 t.bads.length d2] 31 (0, 0)) := setCells_row [.int .i64 t.next, .slice B1 t.inodes.length d1, .slice B2 t.bads.length d2] hB5.out rfl
      have E7 : Ext (fhOf W) W h6 (((w5.setCell ⟨gS, 0, none⟩ (.int .i64 t.next)).setCell ⟨gS, 1, none⟩ (.slice B1 t.inodes.length d1)).setCell ⟨gS, 2, none⟩ (.slice B2 t.bads.length d2)) := Ext.setCells (g := gS) hwS n6.out [.int .i64 t.next, .slice B1 t.inodes.length d1, .slice B2 t.bads.length d2] 0 _ E6.out
      with_reducible generalize (((w5.setCell ⟨gS, 0, none⟩ (.int .i64 t.next)).setCell ⟨gS, 1, none⟩ (.slice B1 t.inodes.length d1)).setCell ⟨gS, 2, none⟩ (.slice B2 t.bads.length d2)) = w6 at HB6 E7 ⊢
      have HB6 := hid HB6
      have E7 := hid E7
      have v0 : w6.cell? ⟨gS, 0, none⟩ = some (.int .i64 t.next) := box_cell (j := 0) HB6.out rfl
      have v1 : w6.cell? ⟨gS, 1, none⟩ = some (.slice B1 t.inodes.length d1) := box_cell (j := 1) HB6.out rfl
      have v2 : w6.cell? ⟨gS, 2, none⟩ = some (.slice B2 t.bads.length d2) := box_cell (j := 2) HB6.out rfl
      have KF2 := hid (state_Find t _ (2 + (q : Int)) HI2.out.fit _ HF2.out h6 w6 E7.out.sits RT.out)
      clear z0 z1 z2 f0 f1 f2 y0 y1 y2
      go_upto_region 11 with (go_at_call 14; refine KF2.out.mono ?_; rintro e w7 ⟨cx, h7, rfl, ⟨A7, c7, A8, c8, rfl, u0, u1, u2, u3, u4⟩, F7⟩; have F7 := hid F7; simp only [Option.getD_some, Option.isSome_some])
      have HB8 := hid (box_alloc (F7.out.row HB6.out) (.cells #[.int .i64 (2 + (q : Int)), .int .i64 1, .int .i64 0, .int .i64 (k : Int), .string ⟨#[]⟩, .slice A7 0 c7, .slice A8 0 c8] 37))
      have E8 := hid ((E7.out.trans F7.out).alloc (.cells #[.int .i64 (2 + (q : Int)), .int .i64 1, .int .i64 0, .int .i64 (k : Int), .string ⟨#[]⟩, .slice A7 0 c7, .slice A8 0 c8] 37))
      have n8 := hid (F7.out.none n6.out (Array.getElem?_eq_some_iff.1 HB6.out).1)
      have RT8 := hid (RT.out.mono F7.out.le)
      have hX8 := heap_new w7 (.cells #[.int .i64 (2 + (q : Int)), .int .i64 1, .int .i64 0, .int .i64 (k : Int), .string ⟨#[]⟩, .slice A7 0 c7, .slice A8 0 c8] 37)
      generalize hgx : w7.heap.size = gx at *
      with_reducible generalize w7.alloc (.cells #[.int .i64 (2 + (q : Int)), .int .i64 1, .int .i64 0, .int .i64 (k : Int), .string ⟨#[]⟩, .slice A7 0 c7, .slice A8 0 c8] 37) = w8 at HB8 E8 hX8 ⊢
      have x3 : w8.cell? ⟨gx, 3, none⟩ = some (.int .i64 (k : Int)) := box_cell (j := 3) hX8 rfl
      clear v0 v1 v2 hgx hX8
      cases v with
      | some v1 =>
        have hl3 : t.inodes.length = s.inodes.length := by have := HL2.out; simpa using this
        have HL3 := hid hl3
        clear hl3
        simp only [Option.isSome_some]
        go_wp2_with fail
        go_roundw
        case rel => exact ⟨k + 1, t, B1, d1, B2, d2, h7, by omega, by omega, by go_num, by rw [HL3.out], by rw [HL3.out]; omega, HI2, HB8, n8, RT8, E8⟩
        case measure => simp [intOf]; omega
      | none =>
        have hl3 : t.inodes.length = s.inodes.length + 1 := by have := HL2.out; simpa using this
        have HL3 := hid hl3
        clear hl3
        simp only [Option.isSome_none]
        go_wp2_with fail
        go_roundw
        case rel => exact ⟨k + 1, t, B1, d1, B2, d2, h7, by omega, by omega, by go_num, by rw [HL3.out]; go_num, by rw [HL3.out]; omega, HI2, HB8, n8, RT8, E8⟩
        case measure => simp [intOf]; omega
    · have hend : ¬ (k < ns.length ∧ k < 40) := hlt
      have KX := hid (fun w' hs' => state_Find s _ (2 + (gq : Int)) HI.out.fit _ rfl h' w' hs' RS.out)
      obtain ⟨v, hv⟩ : ∃ v, findI s.inodes (2 + (gq : Int)) = v := ⟨_, rfl⟩
      rw [hv] at KX
      have HLN := hid (show s.inodes.length + 2 ≤ 900 ∧ s.bads.length + 2 ≤ 900 by have := HI.out.len; omega)
      have hfl := filter_gone s.inodes (2 + (gq : Int)) HI.out.nd
      rw [hv] at hfl
      have hfg := find_gone s.inodes (2 + (gq : Int))
      have hap := applyS_gone s (2 + (gq : Int))
      obtain ⟨t, ht⟩ : ∃ t, (⟨s.next, s.inodes.filter (neI (2 + (gq : Int))), s.bads⟩ : State) = t := ⟨_, rfl⟩
      rw [ht] at hap
      have htb : t.bads = s.bads := by rw [← ht]
      have hti : t.inodes = s.inodes.filter (neI (2 + (gq : Int))) := by rw [← ht]
      rw [← hti] at hfl hfg
      have HAP := hid hap
      have HTB := hid htb
      have HFG := hid hfg
      have hfitT := hid (show ∀ x ∈ t.inodes, fitI x from fun x hx => HI.out.fit x ((List.mem_filter.1 (by rw [← hti]; exact hx)).1))
      have hbl : (((s.bads.length : Nat) : Int) == (s.inodes.length : Int) - 1) = true := by have := HI.out.len; simp; omega
      have hsub : IntKind.i64.wrap ((s.inodes.length : Int) - 1) = (s.inodes.length : Int) - 1 := by rw [IntKind.wrap_i64]; omega
      have hpos : 1 ≤ (s.inodes.length : Int) := by have := HI.out.len; omega
      clear ht hap htb hti hfg
      have KA : Hid (∀ w4 (h4 : FH) (E4 : Ext h' wr h4 w4), Calls Try.prog 15 #[.agg #[.int .i64 s.next, .slice A1 s.inodes.length c1, .slice A2 s.bads.length c2], .slice (some ⟨w4.heap.size, 0, none⟩) 2 2] (w4.alloc (.cells #[.int .i64 3, .int .i64 (2 + (gq : Int)), .int .i64 0, .int .i64 0, .int .i64 0, .int .i64 0, .string ⟨#[]⟩, .slice none 0 0, .slice none 0 0, .int .i64 9, .int .i64 2, .int .i64 0, .int .i64 0, .int .i64 0, .int .i64 0, .string ⟨#[]⟩, .slice none 0 0, .slice none 0 0] 39)) fun e w' => ∃ h5, Ext h4 w4 h5 (w4.alloc (.cells #[.int .i64 3, .int .i64 (2 + (gq : Int)), .int .i64 0, .int .i64 0, .int .i64 0, .int .i64 0, .string ⟨#[]⟩, .slice none 0 0, .slice none 0 0, .int .i64 9, .int .i64 2, .int .i64 0, .int .i64 0, .int .i64 0, .int .i64 0, .string ⟨#[]⟩, .slice none 0 0, .slice none 0 0] 39)) ∧ RetState h5 (w4.alloc (.cells #[.int .i64 3, .int .i64 (2 + (gq : Int)), .int .i64 0, .int .i64 0, .int .i64 0, .int .i64 0, .string ⟨#[]⟩, .slice none 0 0, .slice none 0 0, .int .i64 9, .int .i64 2, .int .i64 0, .int .i64 0, .int .i64 0, .int .i64 0, .string ⟨#[]⟩, .slice none 0 0, .slice none 0 0] 39)) t e w') := hid (fun w4 h4 E4 => by
        obtain ⟨h5, E5, hb5, le5, hh5⟩ := (Ext.refl E4.sits).boxF #[.int .i64 3, .int .i64 (2 + (gq : Int)), .int .i64 0, .int .i64 0, .int .i64 0, .int .i64 0, .string ⟨#[]⟩, .slice none 0 0, .slice none 0 0, .int .i64 9, .int .i64 2, .int .i64 0, .int .i64 0, .int .i64 0, .int .i64 0, .string ⟨#[]⟩, .slice none 0 0, .slice none 0 0] 39
        refine (state_Apply s _ [⟨3, 2 + (gq : Int), zeroI⟩, ⟨9, 2, zeroI⟩] _ 2 HI.out.fit (fun d hd => by
          simp at hd
          rcases hd with rfl | rfl <;> exact ⟨Nat.zero_le _, Nat.zero_le _⟩) HLN.out.1 HLN.out.2 h5 _ E5.sits (RS.out.mono (E4.le.trans le5)) (RowAt.of_block hb5 ?_ (by show 2 ≤ 9223372036854775807; decide))).mono ?_
        · exact ⟨_, _, rfl, ⟨none, 0, none, 0, rfl, Nat.zero_le _, ⟨Nat.le_refl _, fun _ => rfl, by decide⟩, RowAt.nil _ _, ⟨Nat.le_refl _, fun _ => rfl, by decide⟩, RowAt.nil _ _⟩, Reps.single ⟨none, 0, none, 0, rfl, Nat.zero_le _, ⟨Nat.le_refl _, fun _ => rfl, by decide⟩, RowAt.nil _ _, ⟨Nat.le_refl _, fun _ => rfl, by decide⟩, RowAt.nil _ _⟩⟩
        · intro e w' R
          refine ⟨h5, E5, ?_⟩
          rw [HAP.out] at R; exact R)
      have KT := hid (fun (h5 : FH) cs w' hs' r => state_Find t cs (2 + (gq : Int)) hfitT none HFG.out h5 w' hs' r)
      have htl : (((t.inodes.length : Nat) : Int) == (s.inodes.length : Int) - (if v.isSome then 1 else 0)) = true := by
        rw [beq_iff_eq]
        cases v <;> simp at hfl ⊢ <;> omega
      clear hv hfl hfitT
      have hg5 : (gq : Int) < 5 := by omega
      have KW := hid (fun (h5 : FH) w' hs' => law14_awake h5 w' hs')
      have KP := hid (fun (h5 : FH) C D c d w' hs' r1 r2 => plain_Int s.bads s.bads C D c d true (by simp) h5 w' hs' r1 r2)
      cases v with
      | some v1 =>
        simp only [Option.isSome_some, if_true] at htl
        go_upto_region 16 with (go_at_call 14; refine (KX.out wr E.out.sits).mono ?_; rintro e w3 ⟨cx, h3, rfl, ⟨A5, c5, A6, c6, rfl, t0, t1, t2, t3, t4⟩, F3⟩; have F3 := hid F3; simp only [Option.getD_some, Option.isSome_some])
        all_goals
          have E4 := F3.out.alloc (.cells #[.int .i64 v1.no, .int .i64 v1.kind, .int .i64 v1.links, .int .i64 v1.size, .string v1.target, .slice A5 v1.entries.length c5, .slice A6 v1.runs.length c6] 37)
          have hB4 := box_alloc (F3.out.row HB.out) (.cells #[.int .i64 v1.no, .int .i64 v1.kind, .int .i64 v1.links, .int .i64 v1.size, .string v1.target, .slice A5 v1.entries.length c5, .slice A6 v1.runs.length c6] 37)
          have nB4 := F3.out.none nB.out (Array.getElem?_eq_some_iff.1 HB.out).1
          with_reducible generalize w3.alloc (.cells #[.int .i64 v1.no, .int .i64 v1.kind, .int .i64 v1.links, .int .i64 v1.size, .string v1.target, .slice A5 v1.entries.length c5, .slice A6 v1.runs.length c6] 37) = w4 at E4 hB4 ⊢
          have KA2 := hid (KA.out w4 h3 E4)
          have y0 : w4.cell? ⟨gS, 0, none⟩ = some (.int .i64 s.next) := box_cell (j := 0) hB4 rfl
          have y1 : w4.cell? ⟨gS, 1, none⟩ = some (.slice A1 s.inodes.length c1) := box_cell (j := 1) hB4 rfl
          have y2 : w4.cell? ⟨gS, 2, none⟩ = some (.slice A2 s.bads.length c2) := box_cell (j := 2) hB4 rfl
          have E4 := hid E4
          have hB4 := hid hB4
          clear s0 s1 s2
          go_upto_region 17 with (go_at_call 15; refine KA2.out.mono ?_; rintro e w5 ⟨h5, E5, cs5, h6, rfl, R6, F6⟩; have RT := hid R6; obtain ⟨B1, d1, B2, d2, rfl, p1, p2, p3, p4⟩ := R6; have EA := hid (E5.trans F6))
          rw [HTB.out] at p3 p4 RT ⊢
          obtain ⟨h7, E7, hT7, le7, hh7⟩ := (Ext.refl EA.out.sits).boxF #[.int .i64 t.next, .slice B1 t.inodes.length d1, .slice B2 s.bads.length d2] 31
          have hB7 := E7.row (EA.out.row hB4.out)
          have RT7 := hid (RT.out.mono le7)
          have RB7 := hid (p4.mono le7)
          have RS7 := hid (RS.out.mono (E4.out.le.trans (EA.out.le.trans le7)))
          have E7 := hid (E.out.trans (E4.out.trans (EA.out.trans E7)))
          generalize hgT : w5.heap.size = gT at *
          with_reducible generalize w5.alloc (.cells #[.int .i64 t.next, .slice B1 t.inodes.length d1, .slice B2 s.bads.length d2] 31) = w7 at E7 hB7 ⊢
          have z0 : w7.cell? ⟨gT, 0, none⟩ = some (.int .i64 t.next) := Sits_at E7.out.sits hT7 rfl
          have z1 : w7.cell? ⟨gT, 1, none⟩ = some (.slice B1 t.inodes.length d1) := Sits_at E7.out.sits hT7 rfl
          have z2 : w7.cell? ⟨gT, 2, none⟩ = some (.slice B2 s.bads.length d2) := Sits_at E7.out.sits hT7 rfl
          have hB7 := hid hB7
          have KT2 := hid (KT.out h7 _ w7 E7.out.sits RT7.out)
          clear y0 y1 y2 hgT hh7 le7 p3 p4
          go_upto_region 18 with (go_at_call 14; refine KT2.out.mono ?_; rintro e w8 ⟨cx, h8, rfl, ⟨A7, c7, A8, c8, rfl, u0, u1, u2, u3, u4⟩, F8⟩; have F8 := hid F8; simp only [Option.getD_none, Option.isSome_none])
          have E9 := hid (E7.out.trans (F8.out.alloc (.cells #[.int .i64 zeroI.no, .int .i64 zeroI.kind, .int .i64 zeroI.links, .int .i64 zeroI.size, .string zeroI.target, .slice A7 zeroI.entries.length c7, .slice A8 zeroI.runs.length c8] 37)))
          have hB9 := hid (box_alloc (F8.out.row hB7.out) (.cells #[.int .i64 zeroI.no, .int .i64 zeroI.kind, .int .i64 zeroI.links, .int .i64 zeroI.size, .string zeroI.target, .slice A7 zeroI.entries.length c7, .slice A8 zeroI.runs.length c8] 37))
          have hT9 := F8.out.le _ _ hT7
          have RS9 := hid (RS7.out.mono F8.out.le)
          have RB9 := hid (RB7.out.mono F8.out.le)
          with_reducible generalize w8.alloc (.cells #[.int .i64 zeroI.no, .int .i64 zeroI.kind, .int .i64 zeroI.links, .int .i64 zeroI.size, .string zeroI.target, .slice A7 zeroI.entries.length c7, .slice A8 zeroI.runs.length c8] 37) = w9 at E9 hB9 ⊢
          clear z0 z1 z2
          go_wp2_with (first | (go_at_call 8; refine (KW.out h8 w9 E9.out.sits).mono ?_; rintro e wa ⟨rfl, Fa⟩; have Ea := E9.out.trans Fa; have hBa := Fa.row hB9.out; have a0 : wa.cell? ⟨gS, 0, none⟩ = some (.int .i64 s.next) := box_cell (j := 0) hBa rfl; have a1 : wa.cell? ⟨gS, 1, none⟩ = some (.slice A1 s.inodes.length c1) := box_cell (j := 1) hBa rfl; have a2 : wa.cell? ⟨gS, 2, none⟩ = some (.slice A2 s.bads.length c2) := box_cell (j := 2) hBa rfl; have b0 : wa.cell? ⟨gT, 0, none⟩ = some (.int .i64 t.next) := Sits_at Ea.sits hT9 rfl; have b1 : wa.cell? ⟨gT, 1, none⟩ = some (.slice B1 t.inodes.length d1) := Sits_at Ea.sits hT9 rfl; have b2 : wa.cell? ⟨gT, 2, none⟩ = some (.slice B2 s.bads.length d2) := Sits_at Ea.sits hT9 rfl; have Ea := hid Ea) | (go_at_call 16; refine (KP.out h8 _ _ _ _ wa Ea.out.sits (repState_rows RS9.out).2.2.2 RB9.out).mono ?_; rintro e wb ⟨rfl, Fb⟩; have Eb := hid (Ea.out.trans Fb)))
          go_ret
          exact ⟨rfl, Eb.out.back⟩
      | none =>
        simp only [Option.isSome_none] at htl
        simp only [Bool.false_eq_true, if_false, Int.sub_zero] at htl
        go_upto_region 16 with (go_at_call 14; refine (KX.out wr E.out.sits).mono ?_; rintro e w3 ⟨cx, h3, rfl, ⟨A5, c5, A6, c6, rfl, t0, t1, t2, t3, t4⟩, F3⟩; have F3 := hid F3; simp only [Option.getD_none, Option.isSome_none])
        all_goals
          have E4 := F3.out.alloc (.cells #[.int .i64 zeroI.no, .int .i64 zeroI.kind, .int .i64 zeroI.links, .int .i64 zeroI.size, .string zeroI.target, .slice A5 zeroI.entries.length c5, .slice A6 zeroI.runs.length c6] 37)
          have hB4 := box_alloc (F3.out.row HB.out) (.cells #[.int .i64 zeroI.no, .int .i64 zeroI.kind, .int .i64 zeroI.links, .int .i64 zeroI.size, .string zeroI.target, .slice A5 zeroI.entries.length c5, .slice A6 zeroI.runs.length c6] 37)
          have nB4 := F3.out.none nB.out (Array.getElem?_eq_some_iff.1 HB.out).1
          with_reducible generalize w3.alloc (.cells #[.int .i64 zeroI.no, .int .i64 zeroI.kind, .int .i64 zeroI.links, .int .i64 zeroI.size, .string zeroI.target, .slice A5 zeroI.entries.length c5, .slice A6 zeroI.runs.length c6] 37) = w4 at E4 hB4 ⊢
          have KA2 := hid (KA.out w4 h3 E4)
          have y0 : w4.cell? ⟨gS, 0, none⟩ = some (.int .i64 s.next) := box_cell (j := 0) hB4 rfl
          have y1 : w4.cell? ⟨gS, 1, none⟩ = some (.slice A1 s.inodes.length c1) := box_cell (j := 1) hB4 rfl
          have y2 : w4.cell? ⟨gS, 2, none⟩ = some (.slice A2 s.bads.length c2) := box_cell (j := 2) hB4 rfl
          have E4 := hid E4
          have hB4 := hid hB4
          clear s0 s1 s2
          go_upto_region 17 with (go_at_call 15; refine KA2.out.mono ?_; rintro e w5 ⟨h5, E5, cs5, h6, rfl, R6, F6⟩; have RT := hid R6; obtain ⟨B1, d1, B2, d2, rfl, p1, p2, p3, p4⟩ := R6; have EA := hid (E5.trans F6))
          rw [HTB.out] at p3 p4 RT ⊢
          obtain ⟨h7, E7, hT7, le7, hh7⟩ := (Ext.refl EA.out.sits).boxF #[.int .i64 t.next, .slice B1 t.inodes.length d1, .slice B2 s.bads.length d2] 31
          have hB7 := E7.row (EA.out.row hB4.out)
          have RT7 := hid (RT.out.mono le7)
          have RB7 := hid (p4.mono le7)
          have RS7 := hid (RS.out.mono (E4.out.le.trans (EA.out.le.trans le7)))
          have E7 := hid (E.out.trans (E4.out.trans (EA.out.trans E7)))
          generalize hgT : w5.heap.size = gT at *
          with_reducible generalize w5.alloc (.cells #[.int .i64 t.next, .slice B1 t.inodes.length d1, .slice B2 s.bads.length d2] 31) = w7 at E7 hB7 ⊢
          have z0 : w7.cell? ⟨gT, 0, none⟩ = some (.int .i64 t.next) := Sits_at E7.out.sits hT7 rfl
          have z1 : w7.cell? ⟨gT, 1, none⟩ = some (.slice B1 t.inodes.length d1) := Sits_at E7.out.sits hT7 rfl
          have z2 : w7.cell? ⟨gT, 2, none⟩ = some (.slice B2 s.bads.length d2) := Sits_at E7.out.sits hT7 rfl
          have hB7 := hid hB7
          have KT2 := hid (KT.out h7 _ w7 E7.out.sits RT7.out)
          clear y0 y1 y2 hgT hh7 le7 p3 p4
          go_upto_region 18 with (go_at_call 14; refine KT2.out.mono ?_; rintro e w8 ⟨cx, h8, rfl, ⟨A7, c7, A8, c8, rfl, u0, u1, u2, u3, u4⟩, F8⟩; have F8 := hid F8; simp only [Option.getD_none, Option.isSome_none])
          have E9 := hid (E7.out.trans (F8.out.alloc (.cells #[.int .i64 zeroI.no, .int .i64 zeroI.kind, .int .i64 zeroI.links, .int .i64 zeroI.size, .string zeroI.target, .slice A7 zeroI.entries.length c7, .slice A8 zeroI.runs.length c8] 37)))
          have hB9 := hid (box_alloc (F8.out.row hB7.out) (.cells #[.int .i64 zeroI.no, .int .i64 zeroI.kind, .int .i64 zeroI.links, .int .i64 zeroI.size, .string zeroI.target, .slice A7 zeroI.entries.length c7, .slice A8 zeroI.runs.length c8] 37))
          have hT9 := F8.out.le _ _ hT7
          have RS9 := hid (RS7.out.mono F8.out.le)
          have RB9 := hid (RB7.out.mono F8.out.le)
          with_reducible generalize w8.alloc (.cells #[.int .i64 zeroI.no, .int .i64 zeroI.kind, .int .i64 zeroI.links, .int .i64 zeroI.size, .string zeroI.target, .slice A7 zeroI.entries.length c7, .slice A8 zeroI.runs.length c8] 37) = w9 at E9 hB9 ⊢
          clear z0 z1 z2
          go_wp2_with (first | (go_at_call 8; refine (KW.out h8 w9 E9.out.sits).mono ?_; rintro e wa ⟨rfl, Fa⟩; have Ea := E9.out.trans Fa; have hBa := Fa.row hB9.out; have a0 : wa.cell? ⟨gS, 0, none⟩ = some (.int .i64 s.next) := box_cell (j := 0) hBa rfl; have a1 : wa.cell? ⟨gS, 1, none⟩ = some (.slice A1 s.inodes.length c1) := box_cell (j := 1) hBa rfl; have a2 : wa.cell? ⟨gS, 2, none⟩ = some (.slice A2 s.bads.length c2) := box_cell (j := 2) hBa rfl; have b0 : wa.cell? ⟨gT, 0, none⟩ = some (.int .i64 t.next) := Sits_at Ea.sits hT9 rfl; have b1 : wa.cell? ⟨gT, 1, none⟩ = some (.slice B1 t.inodes.length d1) := Sits_at Ea.sits hT9 rfl; have b2 : wa.cell? ⟨gT, 2, none⟩ = some (.slice B2 s.bads.length d2) := Sits_at Ea.sits hT9 rfl; have Ea := hid Ea) | (go_at_call 16; refine (KP.out h8 _ _ _ _ wa Ea.out.sits (repState_rows RS9.out).2.2.2 RB9.out).mono ?_; rintro e wb ⟨rfl, Fb⟩; have Eb := hid (Ea.out.trans Fb)))
          go_ret
          exact ⟨rfl, Eb.out.back⟩
end Go.Proofs.Yteolmamiblddjaa
