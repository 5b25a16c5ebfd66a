import Derived.Test.YtkglaofiencfdaaGrG
namespace Go.Proofs.Ytkglaofiencfdaa
open Go.RowKit Go.Sort
set_option linter.unusedVariables false
/-! ### the state that StateSound looks at, and ten spoilt ones -/
def finS (s : State) : State := ⟨s.next + 1, s.inodes, [5, 7]⟩
theorem fin_eq {s : State} (h : s.bads = []) : applyS s [⟨1, s.next + 1, zeroI⟩, ⟨4, 5, zeroI⟩, ⟨4, 7, zeroI⟩] = finS s := by
  obtain ⟨a, b, c⟩ := s
  have h : c = [] := h
  subst h
  rfl
/-- What is known of it. -/
structure FinS (xs : List Inode) (nx : Int) : Prop where
  rise : riseI xs
  right : ∀ x ∈ xs, rightI x = true ∧ x.no + 1 < nx
  sums : sumsB xs = true
  pl : okPl 96 (placesL xs) = true
  len : xs.length ≤ 200
  n1 : nx ≤ 2147483647
  n0 : 3 ≤ nx
  some_ : xs ≠ []
theorem GrI.fin {n : Nat} {q : State × Int} (g : GrI n q) (hn : n ≤ 40) : FinS q.1.inodes (q.1.next + 1) := by
  refine ⟨g.snd.rise, fun x hx => ?_, ?_, g.pl.ok g.snd.rise (by have := g.n1; omega), g.snd.len, by have := g.mid.n1; omega, by have := g.snd.root_lt; omega, fun e => ?_⟩
  · obtain ⟨h1, h2, h3⟩ := g.snd.ok.ok _ _ (findI_of_mem g.snd.rise hx)
    exact ⟨h3, by omega⟩
  · have hr : ∀ x ∈ q.1.inodes, rightI x = true := fun x hx => (g.snd.ok.ok _ _ (findI_of_mem g.snd.rise hx)).2.2
    rw [sums_eq g.snd.rise hr]
    unfold refB
    rw [g.snd.linked]
    obtain ⟨x, hx, hk⟩ := kindF_isSome g.snd.ok.root
    unfold rootR
    rw [hx]
    simpa using hk
  · have := g.snd.root_some
    rw [e] at this; cases this
theorem allR_of' {nx : Int} {xs : List Inode} (hr : riseI xs) (h : ∀ x ∈ xs, rightI x = true ∧ x.no < nx) : allR nx xs = true := by
  refine range_all fun i hi => ?_
  have hx := List.getElem?_eq_getElem hi
  obtain ⟨h1, h2⟩ := h _ (List.mem_of_getElem? hx)
  cases i with
  | zero => exact okR_c hx h1 h2
  | succ m =>
    have hy := List.getElem?_eq_getElem (show m < xs.length by omega)
    rw [okR_d hx hy h1 h2]
    have := pw_get hr (i := m) (j := m + 1) (x := (xs[m]'(by omega)).no) (y := (xs[m + 1]).no) (by rw [List.getElem?_map, hy]; rfl) (by rw [List.getElem?_map, hx]; rfl) (by omega)
    exact decide_eq_true this
theorem FinS.sound {xs : List Inode} {nx : Int} (F : FinS xs nx) : soundP ⟨nx, xs, [5, 7]⟩ wideG = true := by
  unfold soundP riseB
  rw [show geoB wideG = true from by decide, allR_of' (nx := nx) F.rise (fun x hx => ⟨(F.right x hx).1, by have := (F.right x hx).2; omega⟩), F.sums, show allZ wideG.blocks [5, 7] = true from by decide, decide_eq_true (show (xs.length : Int) ≤ 200 by have := F.len; omega), decide_eq_true F.n1, show wideG.blocks * wideG.pages = 96 from rfl, F.pl]
  rfl
theorem not_geo (s : State) : soundP s ⟨0, 0, 0, 0, 0⟩ = false := by unfold soundP; rw [show geoB ⟨0, 0, 0, 0, 0⟩ = false from by decide]; rfl
theorem sound_allR {t : State} (h : allR t.next t.inodes = false) : soundP t wideG = false := by unfold soundP riseB; rw [h]; simp
theorem sound_allZ {t : State} (h : allZ 12 t.bads = false) : soundP t wideG = false := by
  unfold soundP riseB
  rw [show allZ wideG.blocks t.bads = false from h]; simp
theorem sound_pl {t : State} (h : okPl 96 (placesL t.inodes) = false) : soundP t wideG = false := by
  unfold soundP
  rw [show wideG.blocks * wideG.pages = 96 from rfl, h]; simp
theorem sound_sums {t : State} (h : sumsB t.inodes = false) : soundP t wideG = false := by unfold soundP; rw [h]; simp
/-! #### one inode in another one's place -/
theorem set_nos {xs : List Inode} {i : Nat} {x x' : Inode} (h : xs[i]? = some x) (hn : x'.no = x.no) : (xs.set i x').map (·.no) = xs.map (·.no) := by
  rw [List.map_set]
  apply List.ext_getElem?
  intro m
  rw [List.getElem?_set]
  obtain ⟨hi, he⟩ := List.getElem?_eq_some_iff.1 h
  split
  · rename_i hm
    subst hm
    rw [if_pos (by simpa using hi), List.getElem?_map, h, hn]; rfl
  · rfl
theorem pairs_set : ∀ {xs : List Inode} {i : Nat} {x x' : Inode}, xs[i]? = some x → x'.no = x.no → x'.entries = x.entries → pairsL (xs.set i x') = pairsL xs
  | [], _, _, _, h, _, _ => by simp at h
  | y :: ys, 0, x, x', h, hn, he => by
    simp at h
    subst h
    show pairsE x'.no x'.entries ++ pairsL ys = pairsE y.no y.entries ++ pairsL ys
    rw [hn, he]
  | y :: ys, i + 1, x, x', h, hn, he => by
    show pairsE y.no y.entries ++ pairsL (ys.set i x') = pairsE y.no y.entries ++ pairsL ys
    rw [pairs_set (by simpa using h) hn he]
theorem kind_set : ∀ {xs : List Inode} {i : Nat} {x x' : Inode}, xs[i]? = some x → x'.no = x.no → x'.kind = x.kind → ∀ a, (findI (xs.set i x') a).map (·.kind) = (findI xs a).map (·.kind)
  | [], _, _, _, h, _, _, _ => by simp at h
  | y :: ys, 0, x, x', h, hn, hk, a => by
    simp at h
    subst h
    show ((x' :: ys).find? (isI a)).map _ = ((y :: ys).find? (isI a)).map _
    rw [List.find?_cons, List.find?_cons]
    have : isI a x' = isI a y := by unfold isI; rw [hn]
    rw [this]
    cases isI a y with
    | true => simp [hk]
    | false => rfl
  | y :: ys, i + 1, x, x', h, hn, hk, a => by
    have ih := kind_set (xs := ys) (i := i) (by simpa using h) hn hk a
    unfold findI at ih ⊢
    rw [List.set_cons_succ, List.find?_cons, List.find?_cons]
    cases isI a y with
    | true => rfl
    | false => exact ih
theorem lastK_set {xs : List Inode} (hr : riseI xs) {i : Nat} {x x' : Inode} (h : xs[i]? = some x) (hn : x'.no = x.no) (hk : x'.kind = x.kind) : lastK (xs.set i x') = lastK xs := by
  have hr2 : riseI (xs.set i x') := by unfold riseI; rw [set_nos h hn]; exact hr
  funext a
  rw [lastK_eq hr2, lastK_eq hr, kind_set h hn hk]
theorem FinS.spoil0 {xs : List Inode} {nx : Int} (F : FinS xs nx) {i : Nat} {x : Inode} (h : xs[i]? = some x) (bd : List Int) : soundP ⟨nx, xs.set i { x with links := x.links + 1 }, bd⟩ wideG = false := by
  refine sound_sums ?_
  show sumsB (xs.set i { x with links := x.links + 1 }) = false
  unfold sumsB
  rw [pairs_set (x' := { x with links := x.links + 1 }) h rfl rfl, lastK_set (x' := { x with links := x.links + 1 }) F.rise h rfl rfl, List.length_set]
  have hs := F.sums
  unfold sumsB at hs
  simp only [Bool.and_eq_true, List.all_eq_true] at hs
  have h1 := hs.2 x (List.mem_of_getElem? h)
  rw [Bool.and_eq_false_iff]
  right
  rw [List.all_eq_false]
  refine ⟨{ x with links := x.links + 1 }, List.mem_iff_getElem?.2 ⟨i, ?_⟩, ?_⟩
  · rw [List.getElem?_set, if_pos rfl, if_pos (List.getElem?_eq_some_iff.1 h).1]
  · unfold linkedF at h1 ⊢
    rw [show ({ x with links := x.links + 1 } : Inode).kind = x.kind from rfl, show ({ x with links := x.links + 1 } : Inode).no = x.no from rfl, show ({ x with links := x.links + 1 } : Inode).links = x.links + 1 from rfl]
    split at h1
    · rename_i hk
      rw [if_pos hk]
      simp only [Bool.and_eq_true, beq_iff_eq] at h1
      have : (x.links + 1 == 2 + (dirM (lastK xs) (pairsL xs) x.no).getD 0) = false := by
        rw [beq_eq_false_iff_ne]; omega
      rw [this]; simp
    · rename_i hk
      rw [if_neg hk]
      simp only [beq_iff_eq] at h1
      have : (x.links + 1 == (toM (pairsL xs) x.no).getD 0) = false := by
        rw [beq_eq_false_iff_ne]; omega
      rw [this]; simp
theorem FinS.spoil1 {xs : List Inode} {nx : Int} (F : FinS xs nx) {x : Inode} (h : xs[xs.length - 1]? = some x) (bd : List Int) : soundP ⟨x.no, xs, bd⟩ wideG = false := by
  refine sound_allR (range_not (List.getElem?_eq_some_iff.1 h).1 (okR_b h (Int.le_refl _)))
theorem spoil2 {xs : List Inode} {nx : Int} {i : Nat} {x : Inode} (h : xs[i]? = some x) (bd : List Int) : soundP ⟨nx, xs.set i { x with kind := 9 }, bd⟩ wideG = false := by
  have hi := (List.getElem?_eq_some_iff.1 h).1
  refine sound_allR (range_not (i := i) (by show i < (xs.set i _).length; rw [List.length_set]; exact hi) (okR_a (x := { x with kind := 9 }) (by show (xs.set i _)[i]? = _; rw [List.getElem?_set, if_pos rfl, if_pos hi]) ?_))
  unfold rightI
  simp
theorem spoil3 (nx : Int) (xs : List Inode) : soundP ⟨nx, xs, [7, 5]⟩ wideG = false := sound_allZ (show allZ 12 [7, 5] = false by decide)
theorem spoil4 (nx : Int) (xs : List Inode) : soundP ⟨nx, xs, [12]⟩ wideG = false := sound_allZ (show allZ 12 [12] = false by decide)
theorem spoil5 {xs : List Inode} {nx : Int} {x : Inode} (h : x ∈ xs) (bd : List Int) : soundP ⟨nx, xs ++ [x], bd⟩ wideG = false := by
  refine sound_allR ?_
  show allR nx (xs ++ [x]) = false
  cases hq : allR nx (xs ++ [x]) with
  | false => rfl
  | true =>
    have hr := riseI_of hq
    unfold riseI at hr
    rw [List.map_append, List.pairwise_append] at hr
    have := hr.2.2 x.no (List.mem_map.2 ⟨x, h, rfl⟩) x.no (by simp)
    omega
theorem lastK_none {xs : List Inode} {a : Int} (h : ∀ x ∈ xs, x.no ≠ a) : lastK xs a = none := by
  unfold lastK
  rw [List.find?_eq_none.2 fun x hx e => h x (by simpa using hx) (isI_iff.1 e)]
  rfl
theorem FinS.spoil6 {xs : List Inode} {nx : Int} (F : FinS xs nx) (nx' : Int) (bd : List Int) : soundP ⟨nx', xs.drop 1, bd⟩ wideG = false := by
  refine sound_sums ?_
  show sumsB (xs.drop 1) = false
  have h : lastK (xs.drop 1) 1 = none := by
    refine lastK_none fun x hx => ?_
    cases xs with
    | nil => simp at hx
    | cons y ys =>
      have hx : x ∈ ys := by simpa using hx
      have h1 : y.no < x.no := (List.pairwise_cons.1 F.rise).1 x.no (List.mem_map.2 ⟨x, hx, rfl⟩)
      have h2 := (F.right y (by simp)).1
      unfold rightI at h2
      simp only [Bool.and_eq_true, decide_eq_true_eq] at h2
      have := h2.1.1.1
      omega
  unfold sumsB
  rw [h]
  simp
theorem FinS.spoil7 {xs : List Inode} {nx : Int} (F : FinS xs nx) {x : Inode} (h : xs[0]? = some x) (nm : ByteArray) (bd : List Int) : soundP ⟨nx, xs.set 0 { x with entries := x.entries ++ [⟨nm, nx⟩] }, bd⟩ wideG = false := by
  refine sound_sums ?_
  show sumsB (xs.set 0 { x with entries := x.entries ++ [⟨nm, nx⟩] }) = false
  obtain ⟨hi, _⟩ := List.getElem?_eq_some_iff.1 h
  have hk : lastK (xs.set 0 { x with entries := x.entries ++ [⟨nm, nx⟩] }) nx = none := by
    rw [lastK_set (x' := { x with entries := x.entries ++ [⟨nm, nx⟩] }) F.rise h rfl rfl]
    refine lastK_none fun y hy e => ?_
    have := (F.right y hy).2
    omega
  have hp : okLeads (lastK (xs.set 0 { x with entries := x.entries ++ [⟨nm, nx⟩] })) (pairsL (xs.set 0 { x with entries := x.entries ++ [⟨nm, nx⟩] })) = false := by
    unfold okLeads
    rw [List.all_eq_false]
    refine ⟨(x.no, nx), List.mem_flatMap.2 ⟨{ x with entries := x.entries ++ [⟨nm, nx⟩] }, List.mem_iff_getElem?.2 ⟨0, by rw [List.getElem?_set, if_pos rfl, if_pos hi]⟩, ?_⟩, ?_⟩
    · unfold pairsE
      exact List.mem_map.2 ⟨⟨nm, nx⟩, by simp, rfl⟩
    · unfold okLead
      rw [hk]; simp
  unfold sumsB
  rw [hp]; rfl
theorem spoil8 (nx : Int) (xs : List Inode) (no links size : Int) (kd : Int) (tg : ByteArray) (es : List Entry) (bd : List Int) : soundP ⟨nx, xs ++ [⟨no, kd, links, size, tg, es, [⟨0, 96, 1⟩]⟩], bd⟩ wideG = false := by
  refine sound_pl ?_
  show okPl 96 (placesL (xs ++ [⟨no, kd, links, size, tg, es, [⟨0, 96, 1⟩]⟩])) = false
  unfold okPl
  rw [Bool.and_eq_false_iff]
  right
  rw [List.all_eq_false]
  refine ⟨96, List.mem_flatMap.2 ⟨⟨no, kd, links, size, tg, es, [⟨0, 96, 1⟩]⟩, by simp, ?_⟩, by simp⟩
  show (96 : Int) ∈ runsP [⟨0, 96, 1⟩]
  decide
theorem FinS.spoil9 {xs : List Inode} {nx : Int} (F : FinS xs nx) (bd : List Int) : soundP ⟨nx, xs ++ [⟨nx - 1, 2, 2, 0, ⟨#[]⟩, [], []⟩], bd⟩ wideG = false := by
  refine sound_sums ?_
  have hr : ∀ x ∈ xs, rightI x = true := fun x hx => (F.right x hx).1
  have hs := F.sums
  unfold sumsB at hs
  simp only [Bool.and_eq_true] at hs
  have h1 := (okLeads_iff F.rise hr).1 hs.1.1
  have hl : leadsL xs (nx - 1) = 0 := leadsL_zero.2 fun x hx e he q => by
    obtain ⟨y, hy⟩ := Option.isSome_iff_exists.1 (h1 x hx e he).2
    have := (F.right y (mem_of_findI hy)).2
    rw [findI_no hy, q] at this
    omega
  generalize hb : (⟨nx - 1, 2, 2, 0, ⟨#[]⟩, [], []⟩ : Inode) = b
  show sumsB (xs ++ [b]) = false
  unfold sumsB
  rw [Bool.and_eq_false_iff]
  right
  rw [List.all_eq_false]
  refine ⟨b, by simp, ?_⟩
  have hp : pairsL (xs ++ [b]) = pairsL xs := by
    unfold pairsL
    rw [List.flatMap_append]
    subst hb
    simp [pairsE]
  have ht : (toM (pairsL (xs ++ [b])) b.no).getD 0 = 0 := by
    rw [hp, toM_leads]
    subst hb
    exact hl
  unfold linkedF
  have hk : b.kind = 2 := by subst hb; rfl
  have hn : (b.no == 1) = false := by
    subst hb
    have := F.n0
    show (nx - 1 == 1) = false
    rw [beq_eq_false_iff_ne]; omega
  rw [if_pos hk, ht, hn]
  simp
end Go.Proofs.Ytkglaofiencfdaa
