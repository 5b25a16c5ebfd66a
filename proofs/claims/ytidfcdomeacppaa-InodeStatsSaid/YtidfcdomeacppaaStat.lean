import Derived.Test.YtidfcdomeacppaaInodeN
namespace Go.Proofs.Ytidfcdomeacppaa
open Go.RowKit Go.Sort
set_option linter.unusedVariables false
def statV (x : Inode) : Value := .agg #[.int .i64 x.no, .int .i64 x.kind, .int .i64 x.links, .int .i64 (if x.kind = 2 then (x.entries.length : Int) else x.size), .int .i64 ((pagesR x.runs).length : Int)]
theorem Ext.row {h h1 : FH} {w w1 : World} {b : Nat} {o : Obj} (E : Ext h w h1 w1) (hb : w.heap[b]? = some o) : w1.heap[b]? = some o := by
  rw [E.below.block b (Array.getElem?_eq_some_iff.1 hb).1]; exact hb
theorem Ext.more {h h2 h' h'' : FH} {w w1 wf : World} (E : Ext h w h2 w1) (Ef : Ext h' w1 h'' wf) : Ext h w h2 wf := E.trans (Ext.of_below E.sits Ef.below)
set_option maxHeartbeats 4000000 in
set_option maxRecDepth 100000 in
theorem inode_Stat (x : Inode) (cs : List Value) (h : FH) (w : World) (hs : Sits h w) (r : repInode h cs x) :
    Calls Try.prog 17 #[.agg cs.toArray] w fun e w' => e = .returned (statV x) ∧ Ext h w h w' := by
  obtain ⟨A5, c5, A6, c6, rfl, s0, s1, s2, s3, s4⟩ := r
  have hlE := s2.1
  have hlR := s4.1
  obtain ⟨q, hq⟩ : ∃ q, (pagesR x.runs).length = q := ⟨_, rfl⟩
  have HV := hid (show statV x = .agg #[.int .i64 x.no, .int .i64 x.kind, .int .i64 x.links, .int .i64 (if x.kind = 2 then (x.entries.length : Int) else x.size), .int .i64 (q : Int)] by unfold statV; rw [hq])
  have HRP := hid (show (refPages x.runs).length = q by rw [refPages_len, hq])
  have K := hid (fun w hs => runs_Count x.runs A6 c6 q hq h w hs s4)
  clear hq
  obtain ⟨h1, hh⟩ : ∃ h1, h1 = h.add w.heap.size (.cells #[.int .i64 x.no, .int .i64 x.kind, .int .i64 x.links, .int .i64 x.size, .string x.target, .slice A5 x.entries.length c5, .slice A6 x.runs.length c6] 25) := ⟨_, rfl⟩
  have E1 : Ext h w h1 (w.alloc (.cells #[.int .i64 x.no, .int .i64 x.kind, .int .i64 x.links, .int .i64 x.size, .string x.target, .slice A5 x.entries.length c5, .slice A6 x.runs.length c6] 25)) := by
    rw [hh]; exact ((Ext.refl hs).alloc _).add (heap_new _ _) (hs.none (Nat.le_refl _)) (Nat.le_refl _)
  have hsz : (w.alloc (.cells #[.int .i64 x.no, .int .i64 x.kind, .int .i64 x.links, .int .i64 x.size, .string x.target, .slice A5 x.entries.length c5, .slice A6 x.runs.length c6] 25)).heap.size = w.heap.size + 1 := by simp
  obtain ⟨h2, hh2⟩ : ∃ h2, h2 = h1.add (w.heap.size + 1) (.cells #[.int .i64 0, .int .i64 0, .int .i64 0, .int .i64 0, .int .i64 0] 31) := ⟨_, rfl⟩
  have E2 : Ext h w h2 ((w.alloc (.cells #[.int .i64 x.no, .int .i64 x.kind, .int .i64 x.links, .int .i64 x.size, .string x.target, .slice A5 x.entries.length c5, .slice A6 x.runs.length c6] 25)).alloc (.cells #[.int .i64 0, .int .i64 0, .int .i64 0, .int .i64 0, .int .i64 0] 31)) := by
    have := (E1.alloc (.cells #[.int .i64 0, .int .i64 0, .int .i64 0, .int .i64 0, .int .i64 0] 31)).add (heap_new _ _) (E1.sits.none (Nat.le_refl _)) (by rw [hsz]; omega)
    rw [hsz] at this
    rw [hh2]; exact this
  have hle : FLe h1 h2 := by
    have := FLe.add (E1.sits.none (g := w.heap.size + 1) (by rw [hsz]; exact Nat.le_refl _)) (.cells #[.int .i64 0, .int .i64 0, .int .i64 0, .int .i64 0, .int .i64 0] 31)
    rw [hh2]; exact this
  have b0 : h2.cell ⟨w.heap.size, 0, none⟩ = some (.int .i64 x.no) := hle.cell (by rw [hh]; exact FH.add_cell _ _ _ _ _ rfl)
  have b1 : h2.cell ⟨w.heap.size, 1, none⟩ = some (.int .i64 x.kind) := hle.cell (by rw [hh]; exact FH.add_cell _ _ _ _ _ rfl)
  have b2 : h2.cell ⟨w.heap.size, 2, none⟩ = some (.int .i64 x.links) := hle.cell (by rw [hh]; exact FH.add_cell _ _ _ _ _ rfl)
  have b3 : h2.cell ⟨w.heap.size, 3, none⟩ = some (.int .i64 x.size) := hle.cell (by rw [hh]; exact FH.add_cell _ _ _ _ _ rfl)
  have b5 : h2.cell ⟨w.heap.size, 5, none⟩ = some (.slice A5 x.entries.length c5) := hle.cell (by rw [hh]; exact FH.add_cell _ _ _ _ _ rfl)
  have b6 : h2.cell ⟨w.heap.size, 6, none⟩ = some (.slice A6 x.runs.length c6) := hle.cell (by rw [hh]; exact FH.add_cell _ _ _ _ _ rfl)
  have d0 : h2.cell ⟨w.heap.size + 1, 0, none⟩ = some (.int .i64 0) := by rw [hh2]; exact FH.add_cell _ _ _ _ _ rfl
  have d1 : h2.cell ⟨w.heap.size + 1, 1, none⟩ = some (.int .i64 0) := by rw [hh2]; exact FH.add_cell _ _ _ _ _ rfl
  have d2 : h2.cell ⟨w.heap.size + 1, 2, none⟩ = some (.int .i64 0) := by rw [hh2]; exact FH.add_cell _ _ _ _ _ rfl
  have d3 : h2.cell ⟨w.heap.size + 1, 3, none⟩ = some (.int .i64 0) := by rw [hh2]; exact FH.add_cell _ _ _ _ _ rfl
  have d4 : h2.cell ⟨w.heap.size + 1, 4, none⟩ = some (.int .i64 0) := by rw [hh2]; exact FH.add_cell _ _ _ _ _ rfl
  have hrow : h2 (w.heap.size + 1) = some (.cells #[.int .i64 0, .int .i64 0, .int .i64 0, .int .i64 0, .int .i64 0] 31) := by rw [hh2]; exact FH.add_same _ _ _
  have HN := hid (hs.none (g := w.heap.size + 1) (by omega))
  have hc0 : ∀ w' : World, Ext h w h2 w' → w'.cell? ⟨w.heap.size, 0, none⟩ = some (.int .i64 x.no) := fun w' E => E.sits.cell b0
  have hc1 : ∀ w' : World, Ext h w h2 w' → w'.cell? ⟨w.heap.size, 1, none⟩ = some (.int .i64 x.kind) := fun w' E => E.sits.cell b1
  have hc2 : ∀ w' : World, Ext h w h2 w' → w'.cell? ⟨w.heap.size, 2, none⟩ = some (.int .i64 x.links) := fun w' E => E.sits.cell b2
  have hc3 : ∀ w' : World, Ext h w h2 w' → w'.cell? ⟨w.heap.size, 3, none⟩ = some (.int .i64 x.size) := fun w' E => E.sits.cell b3
  have hc6 : ∀ w' : World, Ext h w h2 w' → w'.cell? ⟨w.heap.size, 6, none⟩ = some (.slice A6 x.runs.length c6) := fun w' E => E.sits.cell b6
  have n0 := hid fun (w' : World) => (show (w'.alloc (.cells #[.int .i64 0, .int .i64 0, .int .i64 0, .int .i64 0, .int .i64 0] 31)).cell? ⟨w'.heap.size, 0, none⟩ = some (.int .i64 0) by go_simp)
  have n1 := hid fun (w' : World) => (show (w'.alloc (.cells #[.int .i64 0, .int .i64 0, .int .i64 0, .int .i64 0, .int .i64 0] 31)).cell? ⟨w'.heap.size, 1, none⟩ = some (.int .i64 0) by go_simp)
  have n2 := hid fun (w' : World) => (show (w'.alloc (.cells #[.int .i64 0, .int .i64 0, .int .i64 0, .int .i64 0, .int .i64 0] 31)).cell? ⟨w'.heap.size, 2, none⟩ = some (.int .i64 0) by go_simp)
  have n3 := hid fun (w' : World) => (show (w'.alloc (.cells #[.int .i64 0, .int .i64 0, .int .i64 0, .int .i64 0, .int .i64 0] 31)).cell? ⟨w'.heap.size, 3, none⟩ = some (.int .i64 0) by go_simp)
  have n4 := hid fun (w' : World) => (show (w'.alloc (.cells #[.int .i64 0, .int .i64 0, .int .i64 0, .int .i64 0, .int .i64 0] 31)).cell? ⟨w'.heap.size, 4, none⟩ = some (.int .i64 0) by go_simp)
  have b0 := hid b0
  have b1 := hid b1
  have b2 := hid b2
  have b3 := hid b3
  have b5 := hid b5
  have b6 := hid b6
  have d0 := hid d0
  have d1 := hid d1
  have d2 := hid d2
  have d3 := hid d3
  have d4 := hid d4
  have hrow := hid hrow
  clear hh hh2 hle hsz E1
  by_cases hk : x.kind = 2
  · have hk1 : (x.kind == 2) = true := by simpa using hk
    have HV2 := hid (show statV x = .agg #[.int .i64 x.no, .int .i64 x.kind, .int .i64 x.links, .int .i64 (x.entries.length : Int), .int .i64 (q : Int)] by rw [HV.out, if_pos hk])
    clear hk HV
    go_enter Try.func17, Try.ntmps17
    go_upto_region 1 with (fail)
    have E3 := E2.drew
    generalize ((w.alloc (.cells #[.int .i64 x.no, .int .i64 x.kind, .int .i64 x.links, .int .i64 x.size, .string x.target, .slice A5 x.entries.length c5, .slice A6 x.runs.length c6] 25)).alloc (.cells #[.int .i64 0, .int .i64 0, .int .i64 0, .int .i64 0, .int .i64 0] 31)) = W2 at *
    go_cut [3] (fun s3 wx => ∃ g : Nat, s3 = .pointer (some ⟨g, 0, none⟩) ∧ Ext h w h2 wx ∧ h2 g = none ∧ w.heap.size ≤ g ∧ wx.heap[g]? = some (.cells [.int .i64 x.no, .int .i64 x.kind, .int .i64 x.links, .int .i64 x.size, .int .i64 (q : Int)].toArray 31))
    case first =>
        go_region_held3 (fun w' => Ext h w h2 w') (first | with_reducible assumption | with_reducible exact Ext.alloc Eg _ | with_reducible exact (Ext.alloc E2 _).drew | with_reducible exact Ext.alloc E3 _ | exact Ext.setCells E3.size (E3.sits.none (Nat.le_refl _)) [.int .i64 x.no, .int .i64 x.kind, .int .i64 x.links, .int .i64 x.size, .int .i64 (q : Int)] 0 _ Eg) (first | (go_at_call 40; refine (K.out _ (Ext.back (h1 := h2) (by with_reducible assumption)).sits).mono ?_; rintro e wf ⟨rfl, Ef⟩; have Eg := Ext.more (h := h) (w := w) (h2 := h2) (by with_reducible assumption) Ef; first | (have m0 := Ef.keep (n0.out _); have m1 := Ef.keep (n1.out _); have m2 := Ef.keep (n2.out _); have m3 := Ef.keep (n3.out _); have m4 := Ef.keep (n4.out _); have mb := Ext.row Ef (heap_new _ _); have mf := fun j => frozen_of_row _ _ j _ _ mb) | skip; clear Ef))
        · go_wp2_with fail
          go_meet
          exact ⟨_, rfl, by assumption, Eg.sits.none (Nat.le_refl _), Eg.size, heap_new _ _⟩
        · go_wp2_with fail
          go_meet
          exact ⟨_, rfl, by assumption, E3.sits.none (Nat.le_refl _), E3.size, setCells_row [.int .i64 x.no, .int .i64 x.kind, .int .i64 x.links, .int .i64 x.size, .int .i64 (q : Int)] mb rfl⟩
    case rest =>
      obtain ⟨g, rfl, E, hng, hge, hrg⟩ := hcut
      have hngh : h g = none := by
        cases e : h g with
        | none => rfl
        | some o => have := E.le _ _ e; rw [hng] at this; cases this
      have hne1 : ¬ g = w.heap.size + 1 := fun e => by rw [e, hrow.out] at hng; cases hng
      have hne2 : ¬ w.heap.size + 1 = g := fun e => hne1 e.symm
      have hne3 : ¬ g = w.heap.size := fun e => by
        have := b0.out
        unfold FH.cell at this
        simp only [← e, hng] at this
        cases this
      have hne4 : ¬ w.heap.size = g := fun e => hne3 e.symm
      have y0 : wc.cell? ⟨g, 0, none⟩ = some (.int .i64 x.no) := cell_of_row _ _ _ _ _ _ hrg
      have y1 : wc.cell? ⟨g, 1, none⟩ = some (.int .i64 x.kind) := cell_of_row _ _ _ _ _ _ hrg
      have y2 : wc.cell? ⟨g, 2, none⟩ = some (.int .i64 x.links) := cell_of_row _ _ _ _ _ _ hrg
      have y3 : wc.cell? ⟨g, 3, none⟩ = some (.int .i64 x.size) := cell_of_row _ _ _ _ _ _ hrg
      have y4 : wc.cell? ⟨g, 4, none⟩ = some (.int .i64 (q : Int)) := cell_of_row _ _ _ _ _ _ hrg
      have yf : wc.frozen? ⟨g, 3, none⟩ = false := frozen_of_row _ _ _ _ _ hrg
      have u1 := E.sits.cell b1.out
      have u5 := E.sits.cell b5.out
      have hr2 := E.sits _ _ hrow.out
      have v0 := E.sits.cell d0.out
      have v1 := E.sits.cell d1.out
      have v2 := E.sits.cell d2.out
      have v3 := E.sits.cell d3.out
      have v4 := E.sits.cell d4.out
      have vf := fun j => frozen_of_row _ _ j _ _ hr2
      clear hc0 hc1 hc2 hc3 hc6 n0 n1 n2 n3 n4 hrg hr2
      go_wp2_with fail
      refine bodyPost_ret (v := .agg #[.int .i64 x.no, .int .i64 x.kind, .int .i64 x.links, .int .i64 (x.entries.length : Int), .int .i64 (q : Int)]) (by simp [results, Try.results17, go_sem, *]) rfl ⟨by rw [HV2.out], ?_⟩
      exact Ext.setCells (Nat.le_succ _) HN.out [.int .i64 x.no, .int .i64 x.kind, .int .i64 x.links, .int .i64 (x.entries.length : Int), .int .i64 (q : Int)] 0 _ (Ext.setCell (p := ⟨g, 3, none⟩) E.back hge hngh _)
  · have hk1 : (x.kind == 2) = false := by simpa using hk
    have HV2 := hid (show statV x = .agg #[.int .i64 x.no, .int .i64 x.kind, .int .i64 x.links, .int .i64 x.size, .int .i64 (q : Int)] by rw [HV.out, if_neg hk])
    clear hk HV
    go_enter Try.func17, Try.ntmps17
    go_upto_region 1 with (fail)
    have E3 := E2.drew
    generalize ((w.alloc (.cells #[.int .i64 x.no, .int .i64 x.kind, .int .i64 x.links, .int .i64 x.size, .string x.target, .slice A5 x.entries.length c5, .slice A6 x.runs.length c6] 25)).alloc (.cells #[.int .i64 0, .int .i64 0, .int .i64 0, .int .i64 0, .int .i64 0] 31)) = W2 at *
    go_cut [3] (fun s3 wx => ∃ g : Nat, s3 = .pointer (some ⟨g, 0, none⟩) ∧ Ext h w h2 wx ∧ h2 g = none ∧ w.heap.size ≤ g ∧ wx.heap[g]? = some (.cells [.int .i64 x.no, .int .i64 x.kind, .int .i64 x.links, .int .i64 x.size, .int .i64 (q : Int)].toArray 31))
    case first =>
        go_region_held3 (fun w' => Ext h w h2 w') (first | with_reducible assumption | with_reducible exact Ext.alloc Eg _ | with_reducible exact (Ext.alloc E2 _).drew | with_reducible exact Ext.alloc E3 _ | exact Ext.setCells E3.size (E3.sits.none (Nat.le_refl _)) [.int .i64 x.no, .int .i64 x.kind, .int .i64 x.links, .int .i64 x.size, .int .i64 (q : Int)] 0 _ Eg) (first | (go_at_call 40; refine (K.out _ (Ext.back (h1 := h2) (by with_reducible assumption)).sits).mono ?_; rintro e wf ⟨rfl, Ef⟩; have Eg := Ext.more (h := h) (w := w) (h2 := h2) (by with_reducible assumption) Ef; first | (have m0 := Ef.keep (n0.out _); have m1 := Ef.keep (n1.out _); have m2 := Ef.keep (n2.out _); have m3 := Ef.keep (n3.out _); have m4 := Ef.keep (n4.out _); have mb := Ext.row Ef (heap_new _ _); have mf := fun j => frozen_of_row _ _ j _ _ mb) | skip; clear Ef))
        · go_wp2_with fail
          go_meet
          exact ⟨_, rfl, by assumption, Eg.sits.none (Nat.le_refl _), Eg.size, heap_new _ _⟩
        · go_wp2_with fail
          go_meet
          exact ⟨_, rfl, by assumption, E3.sits.none (Nat.le_refl _), E3.size, setCells_row [.int .i64 x.no, .int .i64 x.kind, .int .i64 x.links, .int .i64 x.size, .int .i64 (q : Int)] mb rfl⟩
    case rest =>
      obtain ⟨g, rfl, E, hng, hge, hrg⟩ := hcut
      have hngh : h g = none := by
        cases e : h g with
        | none => rfl
        | some o => have := E.le _ _ e; rw [hng] at this; cases this
      have hne1 : ¬ g = w.heap.size + 1 := fun e => by rw [e, hrow.out] at hng; cases hng
      have hne2 : ¬ w.heap.size + 1 = g := fun e => hne1 e.symm
      have hne3 : ¬ g = w.heap.size := fun e => by
        have := b0.out
        unfold FH.cell at this
        simp only [← e, hng] at this
        cases this
      have hne4 : ¬ w.heap.size = g := fun e => hne3 e.symm
      have y0 : wc.cell? ⟨g, 0, none⟩ = some (.int .i64 x.no) := cell_of_row _ _ _ _ _ _ hrg
      have y1 : wc.cell? ⟨g, 1, none⟩ = some (.int .i64 x.kind) := cell_of_row _ _ _ _ _ _ hrg
      have y2 : wc.cell? ⟨g, 2, none⟩ = some (.int .i64 x.links) := cell_of_row _ _ _ _ _ _ hrg
      have y3 : wc.cell? ⟨g, 3, none⟩ = some (.int .i64 x.size) := cell_of_row _ _ _ _ _ _ hrg
      have y4 : wc.cell? ⟨g, 4, none⟩ = some (.int .i64 (q : Int)) := cell_of_row _ _ _ _ _ _ hrg
      have yf : wc.frozen? ⟨g, 3, none⟩ = false := frozen_of_row _ _ _ _ _ hrg
      have u1 := E.sits.cell b1.out
      have u5 := E.sits.cell b5.out
      have hr2 := E.sits _ _ hrow.out
      have v0 := E.sits.cell d0.out
      have v1 := E.sits.cell d1.out
      have v2 := E.sits.cell d2.out
      have v3 := E.sits.cell d3.out
      have v4 := E.sits.cell d4.out
      have vf := fun j => frozen_of_row _ _ j _ _ hr2
      clear hc0 hc1 hc2 hc3 hc6 n0 n1 n2 n3 n4 hrg hr2
      go_wp2_with fail
      refine bodyPost_ret (v := .agg #[.int .i64 x.no, .int .i64 x.kind, .int .i64 x.links, .int .i64 x.size, .int .i64 (q : Int)]) (by simp [results, Try.results17, go_sem, *]) rfl ⟨by rw [HV2.out], ?_⟩
      exact Ext.setCells (Nat.le_succ _) HN.out [.int .i64 x.no, .int .i64 x.kind, .int .i64 x.links, .int .i64 x.size, .int .i64 (q : Int)] 0 _ E.back
set_option maxHeartbeats 4000000 in
set_option maxRecDepth 100000 in
theorem ref_StatOf (x : Inode) (cs : List Value) (h : FH) (w : World) (hs : Sits h w) (r : repInode h cs x) :
    Calls Try.prog 18 #[.agg cs.toArray] w fun e w' => e = .returned (statV x) ∧ Ext h w h w' := by
  obtain ⟨A5, c5, A6, c6, rfl, s0, s1, s2, s3, s4⟩ := r
  have hlE := s2.1
  have hlR := s4.1
  obtain ⟨q, hq⟩ : ∃ q, (pagesR x.runs).length = q := ⟨_, rfl⟩
  have HV := hid (show statV x = .agg #[.int .i64 x.no, .int .i64 x.kind, .int .i64 x.links, .int .i64 (if x.kind = 2 then (x.entries.length : Int) else x.size), .int .i64 (q : Int)] by unfold statV; rw [hq])
  have HRP := hid (show (refPages x.runs).length = q by rw [refPages_len, hq])
  have K := hid (fun w hs => ref_PagesOf x.runs A6 c6 h w hs s4)
  clear hq
  obtain ⟨h1, hh⟩ : ∃ h1, h1 = h.add w.heap.size (.cells #[.int .i64 x.no, .int .i64 x.kind, .int .i64 x.links, .int .i64 x.size, .string x.target, .slice A5 x.entries.length c5, .slice A6 x.runs.length c6] 25) := ⟨_, rfl⟩
  have E1 : Ext h w h1 (w.alloc (.cells #[.int .i64 x.no, .int .i64 x.kind, .int .i64 x.links, .int .i64 x.size, .string x.target, .slice A5 x.entries.length c5, .slice A6 x.runs.length c6] 25)) := by
    rw [hh]; exact ((Ext.refl hs).alloc _).add (heap_new _ _) (hs.none (Nat.le_refl _)) (Nat.le_refl _)
  have hsz : (w.alloc (.cells #[.int .i64 x.no, .int .i64 x.kind, .int .i64 x.links, .int .i64 x.size, .string x.target, .slice A5 x.entries.length c5, .slice A6 x.runs.length c6] 25)).heap.size = w.heap.size + 1 := by simp
  obtain ⟨h2, hh2⟩ : ∃ h2, h2 = h1.add (w.heap.size + 1) (.cells #[.int .i64 0, .int .i64 0, .int .i64 0, .int .i64 0, .int .i64 0] 31) := ⟨_, rfl⟩
  have E2 : Ext h w h2 ((w.alloc (.cells #[.int .i64 x.no, .int .i64 x.kind, .int .i64 x.links, .int .i64 x.size, .string x.target, .slice A5 x.entries.length c5, .slice A6 x.runs.length c6] 25)).alloc (.cells #[.int .i64 0, .int .i64 0, .int .i64 0, .int .i64 0, .int .i64 0] 31)) := by
    have := (E1.alloc (.cells #[.int .i64 0, .int .i64 0, .int .i64 0, .int .i64 0, .int .i64 0] 31)).add (heap_new _ _) (E1.sits.none (Nat.le_refl _)) (by rw [hsz]; omega)
    rw [hsz] at this
    rw [hh2]; exact this
  have hle : FLe h1 h2 := by
    have := FLe.add (E1.sits.none (g := w.heap.size + 1) (by rw [hsz]; exact Nat.le_refl _)) (.cells #[.int .i64 0, .int .i64 0, .int .i64 0, .int .i64 0, .int .i64 0] 31)
    rw [hh2]; exact this
  have b0 : h2.cell ⟨w.heap.size, 0, none⟩ = some (.int .i64 x.no) := hle.cell (by rw [hh]; exact FH.add_cell _ _ _ _ _ rfl)
  have b1 : h2.cell ⟨w.heap.size, 1, none⟩ = some (.int .i64 x.kind) := hle.cell (by rw [hh]; exact FH.add_cell _ _ _ _ _ rfl)
  have b2 : h2.cell ⟨w.heap.size, 2, none⟩ = some (.int .i64 x.links) := hle.cell (by rw [hh]; exact FH.add_cell _ _ _ _ _ rfl)
  have b3 : h2.cell ⟨w.heap.size, 3, none⟩ = some (.int .i64 x.size) := hle.cell (by rw [hh]; exact FH.add_cell _ _ _ _ _ rfl)
  have b5 : h2.cell ⟨w.heap.size, 5, none⟩ = some (.slice A5 x.entries.length c5) := hle.cell (by rw [hh]; exact FH.add_cell _ _ _ _ _ rfl)
  have b6 : h2.cell ⟨w.heap.size, 6, none⟩ = some (.slice A6 x.runs.length c6) := hle.cell (by rw [hh]; exact FH.add_cell _ _ _ _ _ rfl)
  have d0 : h2.cell ⟨w.heap.size + 1, 0, none⟩ = some (.int .i64 0) := by rw [hh2]; exact FH.add_cell _ _ _ _ _ rfl
  have d1 : h2.cell ⟨w.heap.size + 1, 1, none⟩ = some (.int .i64 0) := by rw [hh2]; exact FH.add_cell _ _ _ _ _ rfl
  have d2 : h2.cell ⟨w.heap.size + 1, 2, none⟩ = some (.int .i64 0) := by rw [hh2]; exact FH.add_cell _ _ _ _ _ rfl
  have d3 : h2.cell ⟨w.heap.size + 1, 3, none⟩ = some (.int .i64 0) := by rw [hh2]; exact FH.add_cell _ _ _ _ _ rfl
  have d4 : h2.cell ⟨w.heap.size + 1, 4, none⟩ = some (.int .i64 0) := by rw [hh2]; exact FH.add_cell _ _ _ _ _ rfl
  have hrow : h2 (w.heap.size + 1) = some (.cells #[.int .i64 0, .int .i64 0, .int .i64 0, .int .i64 0, .int .i64 0] 31) := by rw [hh2]; exact FH.add_same _ _ _
  have HN := hid (hs.none (g := w.heap.size + 1) (by omega))
  have hc0 : ∀ w' : World, Ext h w h2 w' → w'.cell? ⟨w.heap.size, 0, none⟩ = some (.int .i64 x.no) := fun w' E => E.sits.cell b0
  have hc1 : ∀ w' : World, Ext h w h2 w' → w'.cell? ⟨w.heap.size, 1, none⟩ = some (.int .i64 x.kind) := fun w' E => E.sits.cell b1
  have hc2 : ∀ w' : World, Ext h w h2 w' → w'.cell? ⟨w.heap.size, 2, none⟩ = some (.int .i64 x.links) := fun w' E => E.sits.cell b2
  have hc3 : ∀ w' : World, Ext h w h2 w' → w'.cell? ⟨w.heap.size, 3, none⟩ = some (.int .i64 x.size) := fun w' E => E.sits.cell b3
  have hc6 : ∀ w' : World, Ext h w h2 w' → w'.cell? ⟨w.heap.size, 6, none⟩ = some (.slice A6 x.runs.length c6) := fun w' E => E.sits.cell b6
  have n0 := hid fun (w' : World) => (show (w'.alloc (.cells #[.int .i64 0, .int .i64 0, .int .i64 0, .int .i64 0, .int .i64 0] 31)).cell? ⟨w'.heap.size, 0, none⟩ = some (.int .i64 0) by go_simp)
  have n1 := hid fun (w' : World) => (show (w'.alloc (.cells #[.int .i64 0, .int .i64 0, .int .i64 0, .int .i64 0, .int .i64 0] 31)).cell? ⟨w'.heap.size, 1, none⟩ = some (.int .i64 0) by go_simp)
  have n2 := hid fun (w' : World) => (show (w'.alloc (.cells #[.int .i64 0, .int .i64 0, .int .i64 0, .int .i64 0, .int .i64 0] 31)).cell? ⟨w'.heap.size, 2, none⟩ = some (.int .i64 0) by go_simp)
  have n3 := hid fun (w' : World) => (show (w'.alloc (.cells #[.int .i64 0, .int .i64 0, .int .i64 0, .int .i64 0, .int .i64 0] 31)).cell? ⟨w'.heap.size, 3, none⟩ = some (.int .i64 0) by go_simp)
  have n4 := hid fun (w' : World) => (show (w'.alloc (.cells #[.int .i64 0, .int .i64 0, .int .i64 0, .int .i64 0, .int .i64 0] 31)).cell? ⟨w'.heap.size, 4, none⟩ = some (.int .i64 0) by go_simp)
  have b0 := hid b0
  have b1 := hid b1
  have b2 := hid b2
  have b3 := hid b3
  have b5 := hid b5
  have b6 := hid b6
  have d0 := hid d0
  have d1 := hid d1
  have d2 := hid d2
  have d3 := hid d3
  have d4 := hid d4
  have hrow := hid hrow
  clear hh hh2 hle hsz E1
  by_cases hk : x.kind = 2
  · have hk1 : (x.kind == 2) = true := by simpa using hk
    have HV2 := hid (show statV x = .agg #[.int .i64 x.no, .int .i64 x.kind, .int .i64 x.links, .int .i64 (x.entries.length : Int), .int .i64 (q : Int)] by rw [HV.out, if_pos hk])
    clear hk HV
    go_enter Try.func18, Try.ntmps18
    go_upto_region 1 with (fail)
    have E3 := E2.drew
    generalize ((w.alloc (.cells #[.int .i64 x.no, .int .i64 x.kind, .int .i64 x.links, .int .i64 x.size, .string x.target, .slice A5 x.entries.length c5, .slice A6 x.runs.length c6] 25)).alloc (.cells #[.int .i64 0, .int .i64 0, .int .i64 0, .int .i64 0, .int .i64 0] 31)) = W2 at *
    go_cut [3] (fun s3 wx => ∃ g : Nat, s3 = .pointer (some ⟨g, 0, none⟩) ∧ Ext h w h2 wx ∧ h2 g = none ∧ w.heap.size ≤ g ∧ wx.heap[g]? = some (.cells [.int .i64 x.no, .int .i64 x.kind, .int .i64 x.links, .int .i64 x.size, .int .i64 (q : Int)].toArray 31))
    case first =>
        go_region_held3 (fun w' => Ext h w h2 w') (first | with_reducible assumption | with_reducible exact Ext.alloc Eg _ | with_reducible exact (Ext.alloc E2 _).drew | with_reducible exact Ext.alloc E3 _ | exact Ext.setCells E3.size (E3.sits.none (Nat.le_refl _)) [.int .i64 x.no, .int .i64 x.kind, .int .i64 x.links, .int .i64 x.size, .int .i64 (q : Int)] 0 _ Eg) (first | (go_at_call 22; refine (K.out _ (Ext.back (h1 := h2) (by with_reducible assumption)).sits).mono ?_; rintro e wf ⟨v, rfl, Of, Ef⟩; obtain ⟨Af, cf, hvf, hcf⟩ := Of.slice; rw [HRP.out] at hvf; subst hvf; have Eg := Ext.more (h := h) (w := w) (h2 := h2) (by with_reducible assumption) Ef; first | (have m0 := Ef.keep (n0.out _); have m1 := Ef.keep (n1.out _); have m2 := Ef.keep (n2.out _); have m3 := Ef.keep (n3.out _); have m4 := Ef.keep (n4.out _); have mb := Ext.row Ef (heap_new _ _); have mf := fun j => frozen_of_row _ _ j _ _ mb) | skip; clear Ef Of hcf))
        · go_wp2_with fail
          go_meet
          exact ⟨_, rfl, by assumption, Eg.sits.none (Nat.le_refl _), Eg.size, heap_new _ _⟩
        · go_wp2_with fail
          go_meet
          exact ⟨_, rfl, by assumption, E3.sits.none (Nat.le_refl _), E3.size, setCells_row [.int .i64 x.no, .int .i64 x.kind, .int .i64 x.links, .int .i64 x.size, .int .i64 (q : Int)] mb rfl⟩
    case rest =>
      obtain ⟨g, rfl, E, hng, hge, hrg⟩ := hcut
      have hngh : h g = none := by
        cases e : h g with
        | none => rfl
        | some o => have := E.le _ _ e; rw [hng] at this; cases this
      have hne1 : ¬ g = w.heap.size + 1 := fun e => by rw [e, hrow.out] at hng; cases hng
      have hne2 : ¬ w.heap.size + 1 = g := fun e => hne1 e.symm
      have hne3 : ¬ g = w.heap.size := fun e => by
        have := b0.out
        unfold FH.cell at this
        simp only [← e, hng] at this
        cases this
      have hne4 : ¬ w.heap.size = g := fun e => hne3 e.symm
      have y0 : wc.cell? ⟨g, 0, none⟩ = some (.int .i64 x.no) := cell_of_row _ _ _ _ _ _ hrg
      have y1 : wc.cell? ⟨g, 1, none⟩ = some (.int .i64 x.kind) := cell_of_row _ _ _ _ _ _ hrg
      have y2 : wc.cell? ⟨g, 2, none⟩ = some (.int .i64 x.links) := cell_of_row _ _ _ _ _ _ hrg
      have y3 : wc.cell? ⟨g, 3, none⟩ = some (.int .i64 x.size) := cell_of_row _ _ _ _ _ _ hrg
      have y4 : wc.cell? ⟨g, 4, none⟩ = some (.int .i64 (q : Int)) := cell_of_row _ _ _ _ _ _ hrg
      have yf : wc.frozen? ⟨g, 3, none⟩ = false := frozen_of_row _ _ _ _ _ hrg
      have u1 := E.sits.cell b1.out
      have u5 := E.sits.cell b5.out
      have hr2 := E.sits _ _ hrow.out
      have v0 := E.sits.cell d0.out
      have v1 := E.sits.cell d1.out
      have v2 := E.sits.cell d2.out
      have v3 := E.sits.cell d3.out
      have v4 := E.sits.cell d4.out
      have vf := fun j => frozen_of_row _ _ j _ _ hr2
      clear hc0 hc1 hc2 hc3 hc6 n0 n1 n2 n3 n4 hrg hr2
      go_wp2_with fail
      refine bodyPost_ret (v := .agg #[.int .i64 x.no, .int .i64 x.kind, .int .i64 x.links, .int .i64 (x.entries.length : Int), .int .i64 (q : Int)]) (by simp [results, Try.results18, go_sem, *]) rfl ⟨by rw [HV2.out], ?_⟩
      exact Ext.setCells (Nat.le_succ _) HN.out [.int .i64 x.no, .int .i64 x.kind, .int .i64 x.links, .int .i64 (x.entries.length : Int), .int .i64 (q : Int)] 0 _ (Ext.setCell (p := ⟨g, 3, none⟩) E.back hge hngh _)
  · have hk1 : (x.kind == 2) = false := by simpa using hk
    have HV2 := hid (show statV x = .agg #[.int .i64 x.no, .int .i64 x.kind, .int .i64 x.links, .int .i64 x.size, .int .i64 (q : Int)] by rw [HV.out, if_neg hk])
    clear hk HV
    go_enter Try.func18, Try.ntmps18
    go_upto_region 1 with (fail)
    have E3 := E2.drew
    generalize ((w.alloc (.cells #[.int .i64 x.no, .int .i64 x.kind, .int .i64 x.links, .int .i64 x.size, .string x.target, .slice A5 x.entries.length c5, .slice A6 x.runs.length c6] 25)).alloc (.cells #[.int .i64 0, .int .i64 0, .int .i64 0, .int .i64 0, .int .i64 0] 31)) = W2 at *
    go_cut [3] (fun s3 wx => ∃ g : Nat, s3 = .pointer (some ⟨g, 0, none⟩) ∧ Ext h w h2 wx ∧ h2 g = none ∧ w.heap.size ≤ g ∧ wx.heap[g]? = some (.cells [.int .i64 x.no, .int .i64 x.kind, .int .i64 x.links, .int .i64 x.size, .int .i64 (q : Int)].toArray 31))
    case first =>
        go_region_held3 (fun w' => Ext h w h2 w') (first | with_reducible assumption | with_reducible exact Ext.alloc Eg _ | with_reducible exact (Ext.alloc E2 _).drew | with_reducible exact Ext.alloc E3 _ | exact Ext.setCells E3.size (E3.sits.none (Nat.le_refl _)) [.int .i64 x.no, .int .i64 x.kind, .int .i64 x.links, .int .i64 x.size, .int .i64 (q : Int)] 0 _ Eg) (first | (go_at_call 22; refine (K.out _ (Ext.back (h1 := h2) (by with_reducible assumption)).sits).mono ?_; rintro e wf ⟨v, rfl, Of, Ef⟩; obtain ⟨Af, cf, hvf, hcf⟩ := Of.slice; rw [HRP.out] at hvf; subst hvf; have Eg := Ext.more (h := h) (w := w) (h2 := h2) (by with_reducible assumption) Ef; first | (have m0 := Ef.keep (n0.out _); have m1 := Ef.keep (n1.out _); have m2 := Ef.keep (n2.out _); have m3 := Ef.keep (n3.out _); have m4 := Ef.keep (n4.out _); have mb := Ext.row Ef (heap_new _ _); have mf := fun j => frozen_of_row _ _ j _ _ mb) | skip; clear Ef Of hcf))
        · go_wp2_with fail
          go_meet
          exact ⟨_, rfl, by assumption, Eg.sits.none (Nat.le_refl _), Eg.size, heap_new _ _⟩
        · go_wp2_with fail
          go_meet
          exact ⟨_, rfl, by assumption, E3.sits.none (Nat.le_refl _), E3.size, setCells_row [.int .i64 x.no, .int .i64 x.kind, .int .i64 x.links, .int .i64 x.size, .int .i64 (q : Int)] mb rfl⟩
    case rest =>
      obtain ⟨g, rfl, E, hng, hge, hrg⟩ := hcut
      have hngh : h g = none := by
        cases e : h g with
        | none => rfl
        | some o => have := E.le _ _ e; rw [hng] at this; cases this
      have hne1 : ¬ g = w.heap.size + 1 := fun e => by rw [e, hrow.out] at hng; cases hng
      have hne2 : ¬ w.heap.size + 1 = g := fun e => hne1 e.symm
      have hne3 : ¬ g = w.heap.size := fun e => by
        have := b0.out
        unfold FH.cell at this
        simp only [← e, hng] at this
        cases this
      have hne4 : ¬ w.heap.size = g := fun e => hne3 e.symm
      have y0 : wc.cell? ⟨g, 0, none⟩ = some (.int .i64 x.no) := cell_of_row _ _ _ _ _ _ hrg
      have y1 : wc.cell? ⟨g, 1, none⟩ = some (.int .i64 x.kind) := cell_of_row _ _ _ _ _ _ hrg
      have y2 : wc.cell? ⟨g, 2, none⟩ = some (.int .i64 x.links) := cell_of_row _ _ _ _ _ _ hrg
      have y3 : wc.cell? ⟨g, 3, none⟩ = some (.int .i64 x.size) := cell_of_row _ _ _ _ _ _ hrg
      have y4 : wc.cell? ⟨g, 4, none⟩ = some (.int .i64 (q : Int)) := cell_of_row _ _ _ _ _ _ hrg
      have yf : wc.frozen? ⟨g, 3, none⟩ = false := frozen_of_row _ _ _ _ _ hrg
      have u1 := E.sits.cell b1.out
      have u5 := E.sits.cell b5.out
      have hr2 := E.sits _ _ hrow.out
      have v0 := E.sits.cell d0.out
      have v1 := E.sits.cell d1.out
      have v2 := E.sits.cell d2.out
      have v3 := E.sits.cell d3.out
      have v4 := E.sits.cell d4.out
      have vf := fun j => frozen_of_row _ _ j _ _ hr2
      clear hc0 hc1 hc2 hc3 hc6 n0 n1 n2 n3 n4 hrg hr2
      go_wp2_with fail
      refine bodyPost_ret (v := .agg #[.int .i64 x.no, .int .i64 x.kind, .int .i64 x.links, .int .i64 x.size, .int .i64 (q : Int)]) (by simp [results, Try.results18, go_sem, *]) rfl ⟨by rw [HV2.out], ?_⟩
      exact Ext.setCells (Nat.le_succ _) HN.out [.int .i64 x.no, .int .i64 x.kind, .int .i64 x.links, .int .i64 x.size, .int .i64 (q : Int)] 0 _ E.back
end Go.Proofs.Ytidfcdomeacppaa
