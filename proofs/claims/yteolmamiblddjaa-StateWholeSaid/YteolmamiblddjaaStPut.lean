import Derived.Test.YteolmamiblddjaaStFind
namespace Go.Proofs.Yteolmamiblddjaa
open Go.RowKit Go.Sort
set_option linter.unusedVariables false
/-- What a call may have done that may write one own row. -/
structure OExt (h : FH) (w : World) (h' : FH) (w' : World) (row : Option Nat) : Prop where
  le : FLe h h'
  sits : Sits h' w'
  grown : w.grownBy w' row
  fresh : ∀ b, h' b ≠ none → h b ≠ none ∨ w.heap.size ≤ b
theorem OExt.of {h h' : FH} {w w' : World} (E : Ext h w h' w') (row : Option Nat) : OExt h w h' w' row := ⟨E.le, E.sits, grownBy_of_ext E row, E.fresh⟩
theorem OExt.trans {h h1 h2 : FH} {w w1 w2 : World} {row : Option Nat} (a : OExt h w h1 w1 row) (b : OExt h1 w1 h2 w2 row) : OExt h w h2 w2 row :=
  ⟨a.le.trans b.le, b.sits, a.grown.trans b.grown, fun k hk => by
    rcases b.fresh k hk with h3 | h3
    · exact a.fresh k h3
    · exact .inr (Nat.le_trans a.grown.size h3)⟩
theorem OExt.row {h h1 : FH} {w w1 w2 : World} {row : Option Nat} (a : OExt h w h1 w1 row) (G : w1.grownBy w2 row) (hr : ∀ k, row = some k → h1 k = none) : OExt h w h1 w2 row :=
  ⟨a.le, fun b x hb => by
    rw [G.block b (a.sits.lt (by rw [hb]; simp)) (fun e => by have := hr b e.symm; rw [hb] at this; cases this)]; exact a.sits b x hb, a.grown.trans G, a.fresh⟩
theorem OExt.lift {h0 h h1 : FH} {w0 w w1 : World} {row : Option Nat} (E : Ext h0 w0 h w) (a : OExt h w h1 w1 row) (hr : ∀ k, row = some k → w0.heap.size ≤ k) : Ext h0 w0 h1 w1 :=
  ⟨E.le.trans a.le, a.sits, E.below.grown a.grown E.size hr, fun b hb => by
    rcases a.fresh b hb with h2 | h2
    · exact E.fresh b h2
    · exact .inr (Nat.le_trans E.size h2)⟩
theorem OExt.none {h h' : FH} {w w' : World} {row : Option Nat} (E : OExt h w h' w' row) {g : Nat} (hn : h g = Option.none) (hg : g < w.heap.size) : h' g = Option.none := by
  cases e : h' g with
  | none => rfl
  | some o =>
    rcases E.fresh g (by rw [e]; simp) with h2 | h2
    · exact absurd hn h2
    · omega
def posI (xs : List Inode) (no : Int) : Nat := (xs.findIdx? (gtI no)).getD xs.length
def putI (xs : List Inode) (x : Inode) : List Inode := match xs.findIdx? (isI x.no) with
  | some i => xs.set i x
  | none => xs.take (posI xs x.no) ++ [x] ++ xs.drop (posI xs x.no)
theorem putI_len (xs : List Inode) (x : Inode) : (putI xs x).length ≤ xs.length + 1 := by
  unfold putI; split
  · simp
  · simp; omega
/-- An own row that the caller handed in, and what was done. -/
def RetPut {α : Type} [Enc α] (h : FH) (w : World) (base : Nat) (T : TypeId) (row : Option Nat) (ys : List α) (e : Ending) (w' : World) : Prop := ∃ v' h1, e = .returned v' ∧ OwnL h1 w' base T v' ys ∧ OExt h w h1 w' row
theorem own_get {h : FH} {w : World} {base : Nat} {T : TypeId} {g cap n : Nat} {xs : List Inode} (O : OwnL h w base T (.slice (some ⟨g, 0, none⟩) n cap) xs) {i : Nat} {z : Inode} (hz : xs[i]? = some z) :
    ∃ A5 c5 A6 c6, (w.cell? ⟨g, i * 7, none⟩ = some (.int .i64 z.no) ∧ w.cell? ⟨g, i * 7 + 1, none⟩ = some (.int .i64 z.kind) ∧ w.cell? ⟨g, i * 7 + 2, none⟩ = some (.int .i64 z.links) ∧ w.cell? ⟨g, i * 7 + 3, none⟩ = some (.int .i64 z.size) ∧ w.cell? ⟨g, i * 7 + 4, none⟩ = some (.string z.target) ∧ w.cell? ⟨g, i * 7 + 5, none⟩ = some (.slice A5 z.entries.length c5) ∧ w.cell? ⟨g, i * 7 + 6, none⟩ = some (.slice A6 z.runs.length c6)) ∧ repInode h [.int .i64 z.no, .int .i64 z.kind, .int .i64 z.links, .int .i64 z.size, .string z.target, .slice A5 z.entries.length c5, .slice A6 z.runs.length c6] z ∧ ∀ k, w.frozen? ⟨g, k, none⟩ = false := by
  obtain ⟨g2, cap2, cs2, hv2, _, _, _, rz, hcc2, hfr2⟩ := O.get hz
  obtain ⟨rfl, hq9, rfl⟩ : g = g2 ∧ n = xs.length ∧ cap = cap2 := by simpa using hv2
  have rz' := rz
  obtain ⟨A7, c7, A8, c8, rfl, _⟩ := rz
  exact ⟨A7, c7, A8, c8, ⟨hcc2 0 _ rfl, hcc2 1 _ rfl, hcc2 2 _ rfl, hcc2 3 _ rfl, hcc2 4 _ rfl, hcc2 5 _ rfl, hcc2 6 _ rfl⟩, rz', hfr2⟩
set_option maxHeartbeats 8000000 in
set_option maxRecDepth 100000 in
theorem state_put_at (xs : List Inode) (x : Inode) (cs : List Value) (hfit : fitI x) (hbig : xs.length ≤ 1000) (i : Nat) (hix : i < xs.length ∧ Hid (ixB (isI x.no) xs = (i : Int))) (h : FH) (w : World) (hs : Sits h w) (base : Nat) (hbase : base ≤ w.heap.size) (v : Value) (O : OwnL h w base 37 v xs) (r : repInode h cs x) :
    Calls Try.prog 42 #[v, .agg cs.toArray] w fun e w' => RetPut h w base 37 v.ownBlock (xs.set i x) e w' := by
  obtain ⟨A5, c5, A6, c6, rfl, s0, s1, s2, s3, s4⟩ := r
  have hmf : ∀ fn first cap w, (Instr.makeFunc fn first cap).run Try.prog w = .ok (.func fn first cap) w := fun _ _ _ _ => rfl
  have E1 := hid ((Ext.refl hs).alloc (.cells #[.int .i64 x.no, .int .i64 x.kind, .int .i64 x.links, .int .i64 x.size, .string x.target, .slice A5 x.entries.length c5, .slice A6 x.runs.length c6] 37))
  have HBX := hid (heap_new w (.cells #[.int .i64 x.no, .int .i64 x.kind, .int .i64 x.links, .int .i64 x.size, .string x.target, .slice A5 x.entries.length c5, .slice A6 x.runs.length c6] 37))
  have RX := hid (show repInode h [.int .i64 x.no, .int .i64 x.kind, .int .i64 x.links, .int .i64 x.size, .string x.target, .slice A5 x.entries.length c5, .slice A6 x.runs.length c6] x from ⟨A5, c5, A6, c6, rfl, s0, s1, s2, s3, s4⟩)
  have hN := hid (hs.none (Nat.le_refl w.heap.size))
  have hlb := hid (show w.heap.size < (w.alloc (.cells #[.int .i64 x.no, .int .i64 x.kind, .int .i64 x.links, .int .i64 x.size, .string x.target, .slice A5 x.entries.length c5, .slice A6 x.runs.length c6] 37)).heap.size by simp)
  have OO := hid O
  obtain ⟨A, c, hv, hcl⟩ := O.slice
  subst hv
  clear O
  go_enter Try.func42, Try.ntmps42
  go_upto_region 1 with (fail)
  generalize hgb : w.heap.size = gb at *
  generalize (w.alloc (.cells #[.int .i64 x.no, .int .i64 x.kind, .int .i64 x.links, .int .i64 x.size, .string x.target, .slice A5 x.entries.length c5, .slice A6 x.runs.length c6] 37)) = W1 at *
  have e0 : W1.cell? ⟨gb, 0, none⟩ = some (.int .i64 x.no) := box_cell (j := 0) HBX.out rfl
  have e1 : W1.cell? ⟨gb, 1, none⟩ = some (.int .i64 x.kind) := box_cell (j := 1) HBX.out rfl
  have e2 : W1.cell? ⟨gb, 2, none⟩ = some (.int .i64 x.links) := box_cell (j := 2) HBX.out rfl
  have e3 : W1.cell? ⟨gb, 3, none⟩ = some (.int .i64 x.size) := box_cell (j := 3) HBX.out rfl
  have e4 : W1.cell? ⟨gb, 4, none⟩ = some (.string x.target) := box_cell (j := 4) HBX.out rfl
  have e5 : W1.cell? ⟨gb, 5, none⟩ = some (.slice A5 x.entries.length c5) := box_cell (j := 5) HBX.out rfl
  have e6 : W1.cell? ⟨gb, 6, none⟩ = some (.slice A6 x.runs.length c6) := box_cell (j := 6) HBX.out rfl
  have K := hid (state_own x _ hfit.1 hfit.2 h W1 E1.out.sits RX.out)
  go_upto_region 2 with (go_at_call 39; refine K.out.mono ?_; rintro e w2 ⟨cs2, h2, rfl, ⟨A7, c7, A8, c8, rfl, t0, t1, t2, t3, t4⟩, F2⟩; have RY := hid (show repInode h2 [.int .i64 x.no, .int .i64 x.kind, .int .i64 x.links, .int .i64 x.size, .string x.target, .slice A7 x.entries.length c7, .slice A8 x.runs.length c8] x from ⟨A7, c7, A8, c8, rfl, t0, t1, t2, t3, t4⟩); have hR2 := F2.row HBX.out; have hn2 := F2.none hN.out hlb.out; have F2 := hid F2; have u0 : w2.cell? ⟨gb, 0, none⟩ = some (.int .i64 x.no) := box_cell (j := 0) hR2 rfl; have f0 := box_free (j := 0) hR2; have u1 : w2.cell? ⟨gb, 1, none⟩ = some (.int .i64 x.kind) := box_cell (j := 1) hR2 rfl; have f1 := box_free (j := 1) hR2; have u2 : w2.cell? ⟨gb, 2, none⟩ = some (.int .i64 x.links) := box_cell (j := 2) hR2 rfl; have f2 := box_free (j := 2) hR2; have u3 : w2.cell? ⟨gb, 3, none⟩ = some (.int .i64 x.size) := box_cell (j := 3) hR2 rfl; have f3 := box_free (j := 3) hR2; have u4 : w2.cell? ⟨gb, 4, none⟩ = some (.string x.target) := box_cell (j := 4) hR2 rfl; have f4 := box_free (j := 4) hR2; have u5 : w2.cell? ⟨gb, 5, none⟩ = some (.slice A5 x.entries.length c5) := box_cell (j := 5) hR2 rfl; have f5 := box_free (j := 5) hR2; have u6 : w2.cell? ⟨gb, 6, none⟩ = some (.slice A6 x.runs.length c6) := box_cell (j := 6) hR2 rfl; have f6 := box_free (j := 6) hR2)
  have R3 : ((((((((w2.setCell ⟨gb, 0, none⟩ (.int .i64 x.no)).setCell ⟨gb, 1, none⟩ (.int .i64 x.kind)).setCell ⟨gb, 2, none⟩ (.int .i64 x.links)).setCell ⟨gb, 3, none⟩ (.int .i64 x.size)).setCell ⟨gb, 4, none⟩ (.string x.target)).setCell ⟨gb, 5, none⟩ (.slice A7 x.entries.length c7)).setCell ⟨gb, 6, none⟩ (.slice A8 x.runs.length c8))).heap[gb]? = some (.cells #[.int .i64 x.no, .int .i64 x.kind, .int .i64 x.links, .int .i64 x.size, .string x.target, .slice A7 x.entries.length c7, .slice A8 x.runs.length c8] 37 (0, 0)) := setCells_row [.int .i64 x.no, .int .i64 x.kind, .int .i64 x.links, .int .i64 x.size, .string x.target, .slice A7 x.entries.length c7, .slice A8 x.runs.length c8] hR2 rfl
  have E2 : Ext h w h2 (((((((w2.setCell ⟨gb, 0, none⟩ (.int .i64 x.no)).setCell ⟨gb, 1, none⟩ (.int .i64 x.kind)).setCell ⟨gb, 2, none⟩ (.int .i64 x.links)).setCell ⟨gb, 3, none⟩ (.int .i64 x.size)).setCell ⟨gb, 4, none⟩ (.string x.target)).setCell ⟨gb, 5, none⟩ (.slice A7 x.entries.length c7)).setCell ⟨gb, 6, none⟩ (.slice A8 x.runs.length c8)) := Ext.setCells (g := gb) (Nat.le_of_eq hgb) hn2 [.int .i64 x.no, .int .i64 x.kind, .int .i64 x.links, .int .i64 x.size, .string x.target, .slice A7 x.entries.length c7, .slice A8 x.runs.length c8] 0 _ (E1.out.trans F2.out)
  with_reducible generalize (((((((w2.setCell ⟨gb, 0, none⟩ (.int .i64 x.no)).setCell ⟨gb, 1, none⟩ (.int .i64 x.kind)).setCell ⟨gb, 2, none⟩ (.int .i64 x.links)).setCell ⟨gb, 3, none⟩ (.int .i64 x.size)).setCell ⟨gb, 4, none⟩ (.string x.target)).setCell ⟨gb, 5, none⟩ (.slice A7 x.entries.length c7)).setCell ⟨gb, 6, none⟩ (.slice A8 x.runs.length c8)) = W3 at E2 R3 ⊢
  have E3 := hid (E2.add R3 hn2 (Nat.le_of_eq hgb))
  have hb3 := FH.add_same h2 gb (.cells #[.int .i64 x.no, .int .i64 x.kind, .int .i64 x.links, .int .i64 x.size, .string x.target, .slice A7 x.entries.length c7, .slice A8 x.runs.length c8] 37 (0, 0))
  have RZ := hid (show repInode (h2.add gb (.cells #[.int .i64 x.no, .int .i64 x.kind, .int .i64 x.links, .int .i64 x.size, .string x.target, .slice A7 x.entries.length c7, .slice A8 x.runs.length c8] 37 (0, 0))) [.int .i64 x.no, .int .i64 x.kind, .int .i64 x.links, .int .i64 x.size, .string x.target, .slice A7 x.entries.length c7, .slice A8 x.runs.length c8] x from RY.out.mono (FLe.add hn2 _))
  generalize h2.add gb (.cells #[.int .i64 x.no, .int .i64 x.kind, .int .i64 x.links, .int .i64 x.size, .string x.target, .slice A7 x.entries.length c7, .slice A8 x.runs.length c8] 37 (0, 0)) = h3 at *
  have m0 : W3.cell? ⟨gb, 0, none⟩ = some (.int .i64 x.no) := Sits_at E3.out.sits hb3 rfl
  have m1 : W3.cell? ⟨gb, 1, none⟩ = some (.int .i64 x.kind) := Sits_at E3.out.sits hb3 rfl
  have m2 : W3.cell? ⟨gb, 2, none⟩ = some (.int .i64 x.links) := Sits_at E3.out.sits hb3 rfl
  have m3 : W3.cell? ⟨gb, 3, none⟩ = some (.int .i64 x.size) := Sits_at E3.out.sits hb3 rfl
  have m4 : W3.cell? ⟨gb, 4, none⟩ = some (.string x.target) := Sits_at E3.out.sits hb3 rfl
  have m5 : W3.cell? ⟨gb, 5, none⟩ = some (.slice A7 x.entries.length c7) := Sits_at E3.out.sits hb3 rfl
  have m6 : W3.cell? ⟨gb, 6, none⟩ = some (.slice A8 x.runs.length c8) := Sits_at E3.out.sits hb3 rfl
  have O3 := hid (OO.out.ext E3.out)
  clear u0 f0 e0 u1 f1 e1 u2 f2 e2 u3 f3 e3 u4 f4 e4 u5 f5 e5 u6 f6 e6 E2 R3 hR2 hn2 hcl
  obtain ⟨h4, A4, c4, hv4, hc4, rA, le4, hs4, fr4⟩ := O3.out.freeze E3.out.sits (by omega)
  obtain ⟨rfl, rfl⟩ : A = A4 ∧ c = c4 := by simpa using hv4
  have KI := hid (index_put1 xs A c x.no h4 gb (le4.cell (FH.at hb3 rfl)) W3 hs4 rA)
  clear rA hs4 fr4 le4 hv4 hc4
  obtain ⟨hi, HI⟩ := hix
  have i1 : (0 : Int) ≤ (i : Int) := by omega
  have i2 : (i : Int) < (xs.length : Int) := by omega
  obtain ⟨z, hz⟩ : ∃ z, xs[i]? = some z := ⟨xs[i], List.getElem?_eq_getElem hi⟩
  have HZ := hid hz
  clear hz
  obtain ⟨g0, rfl⟩ : ∃ g0, A = some ⟨g0, 0, none⟩ := by
    obtain ⟨g2, cap2, cs2, hv2, _⟩ := O3.out.get HZ.out
    exact ⟨g2, by simp only [Value.slice.injEq] at hv2; exact hv2.1⟩
  clear m0 m1 m2 m3 m4 m5 m6
  go_wp2_with (go_at_call 72; refine KI.out.mono ?_; rintro e w4 ⟨rfl, E4a⟩; rw [HI.out]; have E4 := Ext.of_below E3.out.sits E4a.below; have O4 := hid (O3.out.ext E4); obtain ⟨B5, d5, B6, d6, ⟨z0, z1, z2, z3, z4, z5, z6⟩, _, hfr2⟩ := own_get O4.out HZ.out; have r0 := hfr2 (i * 7); have r1 := hfr2 (i * 7 + 1); have r2 := hfr2 (i * 7 + 2); have r3 := hfr2 (i * 7 + 3); have r4 := hfr2 (i * 7 + 4); have r5 := hfr2 (i * 7 + 5); have r6 := hfr2 (i * 7 + 6); have p0 : w4.cell? ⟨gb, 0, none⟩ = some (.int .i64 x.no) := Sits_at E4.sits hb3 rfl; have p1 : w4.cell? ⟨gb, 1, none⟩ = some (.int .i64 x.kind) := Sits_at E4.sits hb3 rfl; have p2 : w4.cell? ⟨gb, 2, none⟩ = some (.int .i64 x.links) := Sits_at E4.sits hb3 rfl; have p3 : w4.cell? ⟨gb, 3, none⟩ = some (.int .i64 x.size) := Sits_at E4.sits hb3 rfl; have p4 : w4.cell? ⟨gb, 4, none⟩ = some (.string x.target) := Sits_at E4.sits hb3 rfl; have p5 : w4.cell? ⟨gb, 5, none⟩ = some (.slice A7 x.entries.length c7) := Sits_at E4.sits hb3 rfl; have p6 : w4.cell? ⟨gb, 6, none⟩ = some (.slice A8 x.runs.length c8) := Sits_at E4.sits hb3 rfl; clear hfr2)
  have OF := O4.out.setElem (i := i) (y := x) hi RZ.out
  have GF := grown_setCells g0 [.int .i64 x.no, .int .i64 x.kind, .int .i64 x.links, .int .i64 x.size, .string x.target, .slice A7 x.entries.length c7, .slice A8 x.runs.length c8] (i * 7) w4 (grownBy_of_ext (Ext.refl (Sits.all w4)) (some g0))
  have XF := (OExt.of (E3.out.trans E4) (some g0)).row GF (fun k hk => by cases hk; exact O4.out.free g0 rfl)
  go_ret
  exact ⟨_, _, rfl, OF, XF⟩
set_option maxHeartbeats 8000000 in
set_option maxRecDepth 100000 in
theorem state_put_new (xs : List Inode) (x : Inode) (cs : List Value) (hfit : fitI x) (hbig : xs.length ≤ 1000) (p : Nat) (hix : Hid (ixB (isI x.no) xs = -1) ∧ p ≤ xs.length ∧ Hid (ixB (gtI x.no) xs = (p : Int) ∧ p < xs.length ∨ ixB (gtI x.no) xs = -1 ∧ p = xs.length)) (h : FH) (w : World) (hs : Sits h w) (base : Nat) (hbase : base ≤ w.heap.size) (v : Value) (O : OwnL h w base 37 v xs) (r : repInode h cs x) :
    Calls Try.prog 42 #[v, .agg cs.toArray] w fun e w' => RetPut h w base 37 v.ownBlock (xs.take p ++ [x] ++ xs.drop p) e w' := by
  obtain ⟨A5, c5, A6, c6, rfl, s0, s1, s2, s3, s4⟩ := r
  have hmf : ∀ fn first cap w, (Instr.makeFunc fn first cap).run Try.prog w = .ok (.func fn first cap) w := fun _ _ _ _ => rfl
  have E1 := hid ((Ext.refl hs).alloc (.cells #[.int .i64 x.no, .int .i64 x.kind, .int .i64 x.links, .int .i64 x.size, .string x.target, .slice A5 x.entries.length c5, .slice A6 x.runs.length c6] 37))
  have HBX := hid (heap_new w (.cells #[.int .i64 x.no, .int .i64 x.kind, .int .i64 x.links, .int .i64 x.size, .string x.target, .slice A5 x.entries.length c5, .slice A6 x.runs.length c6] 37))
  have RX := hid (show repInode h [.int .i64 x.no, .int .i64 x.kind, .int .i64 x.links, .int .i64 x.size, .string x.target, .slice A5 x.entries.length c5, .slice A6 x.runs.length c6] x from ⟨A5, c5, A6, c6, rfl, s0, s1, s2, s3, s4⟩)
  have hN := hid (hs.none (Nat.le_refl w.heap.size))
  have hlb := hid (show w.heap.size < (w.alloc (.cells #[.int .i64 x.no, .int .i64 x.kind, .int .i64 x.links, .int .i64 x.size, .string x.target, .slice A5 x.entries.length c5, .slice A6 x.runs.length c6] 37)).heap.size by simp)
  have OO := hid O
  obtain ⟨A, c, hv, hcl⟩ := O.slice
  subst hv
  clear O
  go_enter Try.func42, Try.ntmps42
  go_upto_region 1 with (fail)
  generalize hgb : w.heap.size = gb at *
  generalize (w.alloc (.cells #[.int .i64 x.no, .int .i64 x.kind, .int .i64 x.links, .int .i64 x.size, .string x.target, .slice A5 x.entries.length c5, .slice A6 x.runs.length c6] 37)) = W1 at *
  have e0 : W1.cell? ⟨gb, 0, none⟩ = some (.int .i64 x.no) := box_cell (j := 0) HBX.out rfl
  have e1 : W1.cell? ⟨gb, 1, none⟩ = some (.int .i64 x.kind) := box_cell (j := 1) HBX.out rfl
  have e2 : W1.cell? ⟨gb, 2, none⟩ = some (.int .i64 x.links) := box_cell (j := 2) HBX.out rfl
  have e3 : W1.cell? ⟨gb, 3, none⟩ = some (.int .i64 x.size) := box_cell (j := 3) HBX.out rfl
  have e4 : W1.cell? ⟨gb, 4, none⟩ = some (.string x.target) := box_cell (j := 4) HBX.out rfl
  have e5 : W1.cell? ⟨gb, 5, none⟩ = some (.slice A5 x.entries.length c5) := box_cell (j := 5) HBX.out rfl
  have e6 : W1.cell? ⟨gb, 6, none⟩ = some (.slice A6 x.runs.length c6) := box_cell (j := 6) HBX.out rfl
  have K := hid (state_own x _ hfit.1 hfit.2 h W1 E1.out.sits RX.out)
  go_upto_region 2 with (go_at_call 39; refine K.out.mono ?_; rintro e w2 ⟨cs2, h2, rfl, ⟨A7, c7, A8, c8, rfl, t0, t1, t2, t3, t4⟩, F2⟩; have RY := hid (show repInode h2 [.int .i64 x.no, .int .i64 x.kind, .int .i64 x.links, .int .i64 x.size, .string x.target, .slice A7 x.entries.length c7, .slice A8 x.runs.length c8] x from ⟨A7, c7, A8, c8, rfl, t0, t1, t2, t3, t4⟩); have hR2 := F2.row HBX.out; have hn2 := F2.none hN.out hlb.out; have F2 := hid F2; have u0 : w2.cell? ⟨gb, 0, none⟩ = some (.int .i64 x.no) := box_cell (j := 0) hR2 rfl; have f0 := box_free (j := 0) hR2; have u1 : w2.cell? ⟨gb, 1, none⟩ = some (.int .i64 x.kind) := box_cell (j := 1) hR2 rfl; have f1 := box_free (j := 1) hR2; have u2 : w2.cell? ⟨gb, 2, none⟩ = some (.int .i64 x.links) := box_cell (j := 2) hR2 rfl; have f2 := box_free (j := 2) hR2; have u3 : w2.cell? ⟨gb, 3, none⟩ = some (.int .i64 x.size) := box_cell (j := 3) hR2 rfl; have f3 := box_free (j := 3) hR2; have u4 : w2.cell? ⟨gb, 4, none⟩ = some (.string x.target) := box_cell (j := 4) hR2 rfl; have f4 := box_free (j := 4) hR2; have u5 : w2.cell? ⟨gb, 5, none⟩ = some (.slice A5 x.entries.length c5) := box_cell (j := 5) hR2 rfl; have f5 := box_free (j := 5) hR2; have u6 : w2.cell? ⟨gb, 6, none⟩ = some (.slice A6 x.runs.length c6) := box_cell (j := 6) hR2 rfl; have f6 := box_free (j := 6) hR2)
  have R3 : ((((((((w2.setCell ⟨gb, 0, none⟩ (.int .i64 x.no)).setCell ⟨gb, 1, none⟩ (.int .i64 x.kind)).setCell ⟨gb, 2, none⟩ (.int .i64 x.links)).setCell ⟨gb, 3, none⟩ (.int .i64 x.size)).setCell ⟨gb, 4, none⟩ (.string x.target)).setCell ⟨gb, 5, none⟩ (.slice A7 x.entries.length c7)).setCell ⟨gb, 6, none⟩ (.slice A8 x.runs.length c8))).heap[gb]? = some (.cells #[.int .i64 x.no, .int .i64 x.kind, .int .i64 x.links, .int .i64 x.size, .string x.target, .slice A7 x.entries.length c7, .slice A8 x.runs.length c8] 37 (0, 0)) := setCells_row [.int .i64 x.no, .int .i64 x.kind, .int .i64 x.links, .int .i64 x.size, .string x.target, .slice A7 x.entries.length c7, .slice A8 x.runs.length c8] hR2 rfl
  have E2 : Ext h w h2 (((((((w2.setCell ⟨gb, 0, none⟩ (.int .i64 x.no)).setCell ⟨gb, 1, none⟩ (.int .i64 x.kind)).setCell ⟨gb, 2, none⟩ (.int .i64 x.links)).setCell ⟨gb, 3, none⟩ (.int .i64 x.size)).setCell ⟨gb, 4, none⟩ (.string x.target)).setCell ⟨gb, 5, none⟩ (.slice A7 x.entries.length c7)).setCell ⟨gb, 6, none⟩ (.slice A8 x.runs.length c8)) := Ext.setCells (g := gb) (Nat.le_of_eq hgb) hn2 [.int .i64 x.no, .int .i64 x.kind, .int .i64 x.links, .int .i64 x.size, .string x.target, .slice A7 x.entries.length c7, .slice A8 x.runs.length c8] 0 _ (E1.out.trans F2.out)
  with_reducible generalize (((((((w2.setCell ⟨gb, 0, none⟩ (.int .i64 x.no)).setCell ⟨gb, 1, none⟩ (.int .i64 x.kind)).setCell ⟨gb, 2, none⟩ (.int .i64 x.links)).setCell ⟨gb, 3, none⟩ (.int .i64 x.size)).setCell ⟨gb, 4, none⟩ (.string x.target)).setCell ⟨gb, 5, none⟩ (.slice A7 x.entries.length c7)).setCell ⟨gb, 6, none⟩ (.slice A8 x.runs.length c8)) = W3 at E2 R3 ⊢
  have E3 := hid (E2.add R3 hn2 (Nat.le_of_eq hgb))
  have hb3 := FH.add_same h2 gb (.cells #[.int .i64 x.no, .int .i64 x.kind, .int .i64 x.links, .int .i64 x.size, .string x.target, .slice A7 x.entries.length c7, .slice A8 x.runs.length c8] 37 (0, 0))
  have RZ := hid (show repInode (h2.add gb (.cells #[.int .i64 x.no, .int .i64 x.kind, .int .i64 x.links, .int .i64 x.size, .string x.target, .slice A7 x.entries.length c7, .slice A8 x.runs.length c8] 37 (0, 0))) [.int .i64 x.no, .int .i64 x.kind, .int .i64 x.links, .int .i64 x.size, .string x.target, .slice A7 x.entries.length c7, .slice A8 x.runs.length c8] x from RY.out.mono (FLe.add hn2 _))
  generalize h2.add gb (.cells #[.int .i64 x.no, .int .i64 x.kind, .int .i64 x.links, .int .i64 x.size, .string x.target, .slice A7 x.entries.length c7, .slice A8 x.runs.length c8] 37 (0, 0)) = h3 at *
  have m0 : W3.cell? ⟨gb, 0, none⟩ = some (.int .i64 x.no) := Sits_at E3.out.sits hb3 rfl
  have m1 : W3.cell? ⟨gb, 1, none⟩ = some (.int .i64 x.kind) := Sits_at E3.out.sits hb3 rfl
  have m2 : W3.cell? ⟨gb, 2, none⟩ = some (.int .i64 x.links) := Sits_at E3.out.sits hb3 rfl
  have m3 : W3.cell? ⟨gb, 3, none⟩ = some (.int .i64 x.size) := Sits_at E3.out.sits hb3 rfl
  have m4 : W3.cell? ⟨gb, 4, none⟩ = some (.string x.target) := Sits_at E3.out.sits hb3 rfl
  have m5 : W3.cell? ⟨gb, 5, none⟩ = some (.slice A7 x.entries.length c7) := Sits_at E3.out.sits hb3 rfl
  have m6 : W3.cell? ⟨gb, 6, none⟩ = some (.slice A8 x.runs.length c8) := Sits_at E3.out.sits hb3 rfl
  have O3 := hid (OO.out.ext E3.out)
  clear u0 f0 e0 u1 f1 e1 u2 f2 e2 u3 f3 e3 u4 f4 e4 u5 f5 e5 u6 f6 e6 E2 R3 hR2 hn2 hcl
  obtain ⟨h4, A4, c4, hv4, hc4, rA, le4, hs4, fr4⟩ := O3.out.freeze E3.out.sits (by omega)
  obtain ⟨rfl, rfl⟩ : A = A4 ∧ c = c4 := by simpa using hv4
  have KI := hid (index_put1 xs A c x.no h4 gb (le4.cell (FH.at hb3 rfl)) W3 hs4 rA)
  clear rA hs4 fr4 le4 hv4 hc4
  obtain ⟨HI, hpi, HG⟩ := hix
  have KJ : Hid (∀ (w4 : World), Ext h3 W3 h3 w4 → Calls Try.prog 72 #[.slice A xs.length c, .func (.func 74) #[] #[.pointer (some ⟨gb, 0, none⟩)]] w4 fun e w' => e = .returned (.int .i64 (ixB (gtI x.no) xs)) ∧ Ext h3 w4 h3 w') := hid (fun w4 (E4 : Ext h3 W3 h3 w4) => by
    obtain ⟨h5, A4, c4, hv4, hc4, rA, le4, hs4, fr4⟩ := (O3.out.ext E4).freeze E4.sits (by omega)
    obtain ⟨rfl, rfl⟩ : A = A4 ∧ c = c4 := by simpa using hv4
    exact (index_put2 xs A c x.no h5 gb (le4.cell (FH.at hb3 rfl)) w4 hs4 rA).mono fun e w' q => ⟨q.1, Ext.of_below E4.sits q.2.below⟩)
  have KN := hid (fun w5 (E5 : Ext h3 W3 h3 w5) => insert_In xs p hpi x [.int .i64 x.no, .int .i64 x.kind, .int .i64 x.links, .int .i64 x.size, .string x.target, .slice A7 x.entries.length c7, .slice A8 x.runs.length c8] hbig h3 RZ.out (w5.alloc (.cells #[.int .i64 x.no, .int .i64 x.kind, .int .i64 x.links, .int .i64 x.size, .string x.target, .slice A7 x.entries.length c7, .slice A8 x.runs.length c8] 37)) (E5.sits.alloc _) base (Nat.le_trans hbase (Nat.le_trans (by rw [hgb]; exact Nat.le_refl _) (Nat.le_trans E3.out.size (Nat.le_trans E5.size (by simp))))) _ ((O3.out.ext E5).alloc _) w5.heap.size (heap_new _ _) (fun e => absurd ((O3.out.ext E5).lt _ e).2 (Nat.lt_irrefl _)))
  clear m0 m1 m2 m3 m4 m5 m6
  go_upto_region 6 with (go_at_call 72; refine KI.out.mono ?_; rintro e w4 ⟨rfl, E4a⟩; rw [HI.out]; have E4 := hid (Ext.of_below E3.out.sits E4a.below); clear E4a)
  rcases HG.out with ⟨hg, hp0⟩ | ⟨hg, hp0⟩
  · have HG' := hid hg
    have hp1 : (0 : Int) ≤ (p : Int) := by omega
    clear hg hp0 HG
    go_upto_region 7 with (go_at_call 72; refine (KJ.out w4 E4.out).mono ?_; rintro e w5 ⟨rfl, E5a⟩; rw [HG'.out]; have E5 := E4.out.trans E5a; have q0 : w5.cell? ⟨gb, 0, none⟩ = some (.int .i64 x.no) := Sits_at E5.sits hb3 rfl; have q1 : w5.cell? ⟨gb, 1, none⟩ = some (.int .i64 x.kind) := Sits_at E5.sits hb3 rfl; have q2 : w5.cell? ⟨gb, 2, none⟩ = some (.int .i64 x.links) := Sits_at E5.sits hb3 rfl; have q3 : w5.cell? ⟨gb, 3, none⟩ = some (.int .i64 x.size) := Sits_at E5.sits hb3 rfl; have q4 : w5.cell? ⟨gb, 4, none⟩ = some (.string x.target) := Sits_at E5.sits hb3 rfl; have q5 : w5.cell? ⟨gb, 5, none⟩ = some (.slice A7 x.entries.length c7) := Sits_at E5.sits hb3 rfl; have q6 : w5.cell? ⟨gb, 6, none⟩ = some (.slice A8 x.runs.length c8) := Sits_at E5.sits hb3 rfl; have E5 := hid E5)
    go_wp2_with (go_at_call 75; refine (KN.out w5 E5.out).mono ?_; rintro e w6 ⟨v6, rfl, O6, G6⟩; have O6 := hid O6; have G6 := hid G6)
    go_ret
    exact ⟨_, _, rfl, O6.out, (OExt.of (E3.out.trans (E5.out.alloc _)) _).row G6.out O3.out.free⟩
  · have HG' := hid hg
    clear hg HG
    subst hp0
    go_upto_region 7 with (go_at_call 72; refine (KJ.out w4 E4.out).mono ?_; rintro e w5 ⟨rfl, E5a⟩; rw [HG'.out]; have E5 := E4.out.trans E5a; have q0 : w5.cell? ⟨gb, 0, none⟩ = some (.int .i64 x.no) := Sits_at E5.sits hb3 rfl; have q1 : w5.cell? ⟨gb, 1, none⟩ = some (.int .i64 x.kind) := Sits_at E5.sits hb3 rfl; have q2 : w5.cell? ⟨gb, 2, none⟩ = some (.int .i64 x.links) := Sits_at E5.sits hb3 rfl; have q3 : w5.cell? ⟨gb, 3, none⟩ = some (.int .i64 x.size) := Sits_at E5.sits hb3 rfl; have q4 : w5.cell? ⟨gb, 4, none⟩ = some (.string x.target) := Sits_at E5.sits hb3 rfl; have q5 : w5.cell? ⟨gb, 5, none⟩ = some (.slice A7 x.entries.length c7) := Sits_at E5.sits hb3 rfl; have q6 : w5.cell? ⟨gb, 6, none⟩ = some (.slice A8 x.runs.length c8) := Sits_at E5.sits hb3 rfl; have E5 := hid E5)
    go_wp2_with (go_at_call 75; refine (KN.out w5 E5.out).mono ?_; rintro e w6 ⟨v6, rfl, O6, G6⟩; have O6 := hid O6; have G6 := hid G6)
    go_ret
    exact ⟨_, _, rfl, O6.out, (OExt.of (E3.out.trans (E5.out.alloc _)) _).row G6.out O3.out.free⟩
theorem posI_ix (xs : List Inode) (no : Int) : posI xs no ≤ xs.length ∧ (ixB (gtI no) xs = (posI xs no : Int) ∧ posI xs no < xs.length ∨ ixB (gtI no) xs = -1 ∧ posI xs no = xs.length) := by
  unfold posI ixB
  cases e : xs.findIdx? (gtI no) with
  | none => exact ⟨Nat.le_refl _, .inr ⟨rfl, rfl⟩⟩
  | some i =>
    have := (List.findIdx?_eq_some_iff_getElem.1 e).1
    exact ⟨by simp; omega, .inl ⟨rfl, by simpa using this⟩⟩
theorem state_put (xs : List Inode) (x : Inode) (cs : List Value) (hfit : fitI x) (hbig : xs.length ≤ 1000) (h : FH) (w : World) (hs : Sits h w) (base : Nat) (hbase : base ≤ w.heap.size) (v : Value) (O : OwnL h w base 37 v xs) (r : repInode h cs x) :
    Calls Try.prog 42 #[v, .agg cs.toArray] w fun e w' => RetPut h w base 37 v.ownBlock (putI xs x) e w' := by
  unfold putI
  cases e : xs.findIdx? (isI x.no) with
  | none =>
    obtain ⟨a, b⟩ := posI_ix xs x.no
    exact state_put_new xs x cs hfit hbig (posI xs x.no) ⟨hid (by unfold ixB; rw [e]), a, hid b⟩ h w hs base hbase v O r
  | some i =>
    have := (List.findIdx?_eq_some_iff_getElem.1 e).1
    exact state_put_at xs x cs hfit hbig i ⟨this, hid (by unfold ixB; rw [e])⟩ h w hs base hbase v O r
def posZ (xs : List Int) (no : Int) : Nat := (xs.findIdx? (gtZ no)).getD xs.length
def badZ (xs : List Int) (no : Int) : List Int := if xs.any (eqZ no) then xs else xs.take (posZ xs no) ++ [no] ++ xs.drop (posZ xs no)
theorem badZ_len (xs : List Int) (no : Int) : (badZ xs no).length ≤ xs.length + 1 := by
  unfold badZ; split
  · simp
  · simp; omega
theorem posZ_ix (xs : List Int) (no : Int) : posZ xs no ≤ xs.length ∧ (ixB (gtZ no) xs = (posZ xs no : Int) ∧ posZ xs no < xs.length ∨ ixB (gtZ no) xs = -1 ∧ posZ xs no = xs.length) := by
  unfold posZ ixB
  cases e : xs.findIdx? (gtZ no) with
  | none => exact ⟨Nat.le_refl _, .inr ⟨rfl, rfl⟩⟩
  | some i =>
    have := (List.findIdx?_eq_some_iff_getElem.1 e).1
    exact ⟨by simp; omega, .inl ⟨rfl, by simpa using this⟩⟩
set_option maxHeartbeats 8000000 in
set_option maxRecDepth 100000 in
theorem state_bad (xs : List Int) (no : Int) (hbig : xs.length ≤ 1000) (h : FH) (w : World) (hs : Sits h w) (base : Nat) (hbase : base ≤ w.heap.size) (v : Value) (O : OwnL h w base 3 v xs) :
    Calls Try.prog 45 #[v, .int .i64 no] w fun e w' => RetPut h w base 3 v.ownBlock (badZ xs no) e w' := by
  have hmf : ∀ fn first cap w, (Instr.makeFunc fn first cap).run Try.prog w = .ok (.func fn first cap) w := fun _ _ _ _ => rfl
  obtain ⟨h3, E3, hb3, le3, hh3⟩ := (Ext.refl hs).boxF #[.int .i64 no] 3
  obtain ⟨A, c, hv, hcl⟩ := O.slice
  obtain ⟨hpi, HG⟩ := posZ_ix xs no
  have HG := hid HG
  obtain ⟨q, hq⟩ : ∃ q, xs.any (eqZ no) = q := ⟨_, rfl⟩
  have HQ := hid hq
  subst hv
  have O3 := hid (O.ext E3)
  have E3 := hid E3
  go_enter Try.func45, Try.ntmps45
  go_upto_region 1 with (fail)
  generalize hgb : w.heap.size = gb at *
  generalize (w.alloc (.cells #[.int .i64 no] 3)) = W3 at *
  have m0 : W3.cell? ⟨gb, 0, none⟩ = some (.int .i64 no) := Sits_at E3.out.sits hb3 rfl
  have KC : Hid (Calls Try.prog 76 #[.slice A xs.length c, .int .i64 no] W3 fun e w' => e = .returned (.bool q) ∧ Ext h3 W3 h3 w') := hid (by
    obtain ⟨h5, A4, c4, hv4, hc4, rA, le4, hs4, fr4⟩ := O3.out.freeze E3.out.sits (by omega)
    obtain ⟨rfl, rfl⟩ : A = A4 ∧ c = c4 := by simpa using hv4
    exact (contains_Int xs A c no q hq h5 W3 hs4 rA).mono fun e w' q => ⟨q.1, Ext.of_below E3.out.sits q.2.below⟩)
  have KJ : Hid (∀ (w4 : World), Ext h3 W3 h3 w4 → Calls Try.prog 77 #[.slice A xs.length c, .func (.func 78) #[] #[.pointer (some ⟨gb, 0, none⟩)]] w4 fun e w' => e = .returned (.int .i64 (ixB (gtZ no) xs)) ∧ Ext h3 w4 h3 w') := hid (fun w4 (E4 : Ext h3 W3 h3 w4) => by
    obtain ⟨h5, A4, c4, hv4, hc4, rA, le4, hs4, fr4⟩ := (O3.out.ext E4).freeze E4.sits (by omega)
    obtain ⟨rfl, rfl⟩ : A = A4 ∧ c = c4 := by simpa using hv4
    exact (index_bad1 xs A c no h5 gb (le4.cell (FH.at hb3 rfl)) w4 hs4 rA).mono fun e w' q => ⟨q.1, Ext.of_below E4.sits q.2.below⟩)
  have KN := hid (fun p hpi w5 (E5 : Ext h3 W3 h3 w5) => insert_Z xs p hpi no [.int .i64 no] hbig h3 rfl (w5.alloc (.cells #[.int .i64 no] 3)) (E5.sits.alloc _) base (Nat.le_trans hbase (Nat.le_trans (by rw [hgb]; exact Nat.le_refl _) (Nat.le_trans E3.out.size (Nat.le_trans E5.size (by simp))))) _ ((O3.out.ext E5).alloc _) w5.heap.size (heap_new _ _) (fun e => absurd ((O3.out.ext E5).lt _ e).2 (Nat.lt_irrefl _)))
  clear hq hh3 hcl O
  cases q
  · have HR := hid (show badZ xs no = xs.take (posZ xs no) ++ [no] ++ xs.drop (posZ xs no) by unfold badZ; rw [HQ.out]; rfl)
    go_upto_region 3 with (go_at_call 76; refine KC.out.mono ?_; rintro e w4 ⟨rfl, E4⟩; have E4 := hid E4)
    clear m0
    generalize posZ xs no = p at *
    rcases HG.out with ⟨hg, hp0⟩ | ⟨hg, hp0⟩
    · have HG' := hid hg
      have hp1 : (0 : Int) ≤ (p : Int) := by omega
      clear hg hp0 HG
      go_upto_region 4 with (go_at_call 77; refine (KJ.out w4 E4.out).mono ?_; rintro e w5 ⟨rfl, E5a⟩; rw [HG'.out]; have E5 := E4.out.trans E5a; have q0 : w5.cell? ⟨gb, 0, none⟩ = some (.int .i64 no) := Sits_at E5.sits hb3 rfl; have E5 := hid E5)
      go_wp2_with (go_at_call 79; refine (KN.out p hpi w5 E5.out).mono ?_; rintro e w6 ⟨v6, rfl, O6, G6⟩; have O6 := hid O6; have G6 := hid G6)
      go_ret
      exact ⟨_, _, rfl, by rw [HR.out]; exact O6.out, (OExt.of (E3.out.trans (E5.out.alloc _)) _).row G6.out O3.out.free⟩
    · have HG' := hid hg
      have KN := hid (KN.out xs.length (Nat.le_refl _))
      have HP := hid hp0
      clear hg HG hp0
      go_upto_region 4 with (go_at_call 77; refine (KJ.out w4 E4.out).mono ?_; rintro e w5 ⟨rfl, E5a⟩; rw [HG'.out]; have E5 := E4.out.trans E5a; have q0 : w5.cell? ⟨gb, 0, none⟩ = some (.int .i64 no) := Sits_at E5.sits hb3 rfl; have E5 := hid E5)
      go_wp2_with (go_at_call 79; refine (KN.out w5 E5.out).mono ?_; rintro e w6 ⟨v6, rfl, O6, G6⟩; have O6 := hid O6; have G6 := hid G6)
      go_ret
      exact ⟨_, _, rfl, by rw [HR.out, HP.out]; exact O6.out, (OExt.of (E3.out.trans (E5.out.alloc _)) _).row G6.out O3.out.free⟩
  · have HR := hid (show badZ xs no = xs by unfold badZ; rw [HQ.out]; rfl)
    go_wp2_with (go_at_call 76; refine KC.out.mono ?_; rintro e w4 ⟨rfl, E4⟩; have E4 := hid E4)
    go_ret
    exact ⟨_, _, rfl, by rw [HR.out]; exact O3.out.ext E4.out, OExt.of (E3.out.trans E4.out) _⟩
end Go.Proofs.Yteolmamiblddjaa
