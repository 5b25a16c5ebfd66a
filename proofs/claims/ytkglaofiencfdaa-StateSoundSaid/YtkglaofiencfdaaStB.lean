import Derived.Test.YtkglaofiencfdaaStAll
import Derived.Test.YtkglaofiencfdaaInoAll
namespace Go.Proofs.Ytkglaofiencfdaa
open Go.RowKit Go.Sort
set_option linter.unusedVariables false
/-- What a call may have done that may write one own row. -/
structure OExt (h : FH) (w : World) (h' : FH) (w' : World) (row : Option Nat) : Prop where
  le : FLe h h'
  sits : Sits h' w'
  grown : w.grownBy w' row
  fresh : ∀ b, h' b ≠ none → h b ≠ none ∨ w.heap.size ≤ b
theorem OExt.of {h h' : FH} {w w' : World} (E : Ext h w h' w') (row : Option Nat) : OExt h w h' w' row := ⟨E.le, E.sits, grownBy_of_ext E row, E.fresh⟩
theorem OExt.trans {h h1 h2 : FH} {w w1 w2 : World} {row : Option Nat} (a : OExt h w h1 w1 row) (b : OExt h1 w1 h2 w2 row) : OExt h w h2 w2 row :=
  ⟨a.le.trans b.le, b.sits, a.grown.trans b.grown, fun k hk => by
    rcases b.fresh k hk with h3 | h3
    · exact a.fresh k h3
    · exact .inr (Nat.le_trans a.grown.size h3)⟩
theorem OExt.row {h h1 : FH} {w w1 w2 : World} {row : Option Nat} (a : OExt h w h1 w1 row) (G : w1.grownBy w2 row) (hr : ∀ k, row = some k → h1 k = none) : OExt h w h1 w2 row :=
  ⟨a.le, fun b x hb => by
    rw [G.block b (a.sits.lt (by rw [hb]; simp)) (fun e => by have := hr b e.symm; rw [hb] at this; cases this)]; exact a.sits b x hb, a.grown.trans G, a.fresh⟩
theorem OExt.lift {h0 h h1 : FH} {w0 w w1 : World} {row : Option Nat} (E : Ext h0 w0 h w) (a : OExt h w h1 w1 row) (hr : ∀ k, row = some k → w0.heap.size ≤ k) : Ext h0 w0 h1 w1 :=
  ⟨E.le.trans a.le, a.sits, E.below.grown a.grown E.size hr, fun b hb => by
    rcases a.fresh b hb with h2 | h2
    · exact E.fresh b h2
    · exact .inr (Nat.le_trans E.size h2)⟩
theorem OExt.none {h h' : FH} {w w' : World} {row : Option Nat} (E : OExt h w h' w' row) {g : Nat} (hn : h g = Option.none) (hg : g < w.heap.size) : h' g = Option.none := by
  cases e : h' g with
  | none => rfl
  | some o =>
    rcases E.fresh g (by rw [e]; simp) with h2 | h2
    · exact absurd hn h2
    · omega
def posI (xs : List Inode) (no : Int) : Nat := (xs.findIdx? (gtI no)).getD xs.length
def putI (xs : List Inode) (x : Inode) : List Inode := match xs.findIdx? (isI x.no) with
  | some i => xs.set i x
  | none => xs.take (posI xs x.no) ++ [x] ++ xs.drop (posI xs x.no)
theorem putI_len (xs : List Inode) (x : Inode) : (putI xs x).length ≤ xs.length + 1 := by
  unfold putI; split
  · simp
  · simp; omega
/-- An own row that the caller handed in, and what was done. -/
def RetPut {α : Type} [Enc α] (h : FH) (w : World) (base : Nat) (T : TypeId) (row : Option Nat) (ys : List α) (e : Ending) (w' : World) : Prop := ∃ v' h1, e = .returned v' ∧ OwnL h1 w' base T v' ys ∧ OExt h w h1 w' row
theorem own_get {h : FH} {w : World} {base : Nat} {T : TypeId} {g cap n : Nat} {xs : List Inode} (O : OwnL h w base T (.slice (some ⟨g, 0, none⟩) n cap) xs) {i : Nat} {z : Inode} (hz : xs[i]? = some z) :
    ∃ A5 c5 A6 c6, (w.cell? ⟨g, i * 7, none⟩ = some (.int .i64 z.no) ∧ w.cell? ⟨g, i * 7 + 1, none⟩ = some (.int .i64 z.kind) ∧ w.cell? ⟨g, i * 7 + 2, none⟩ = some (.int .i64 z.links) ∧ w.cell? ⟨g, i * 7 + 3, none⟩ = some (.int .i64 z.size) ∧ w.cell? ⟨g, i * 7 + 4, none⟩ = some (.string z.target) ∧ w.cell? ⟨g, i * 7 + 5, none⟩ = some (.slice A5 z.entries.length c5) ∧ w.cell? ⟨g, i * 7 + 6, none⟩ = some (.slice A6 z.runs.length c6)) ∧ repInode h [.int .i64 z.no, .int .i64 z.kind, .int .i64 z.links, .int .i64 z.size, .string z.target, .slice A5 z.entries.length c5, .slice A6 z.runs.length c6] z ∧ ∀ k, w.frozen? ⟨g, k, none⟩ = false := by
  obtain ⟨g2, cap2, cs2, hv2, _, _, _, rz, hcc2, hfr2⟩ := O.get hz
  obtain ⟨rfl, hq9, rfl⟩ : g = g2 ∧ n = xs.length ∧ cap = cap2 := by simpa using hv2
  have rz' := rz
  obtain ⟨A7, c7, A8, c8, rfl, _⟩ := rz
  exact ⟨A7, c7, A8, c8, ⟨hcc2 0 _ rfl, hcc2 1 _ rfl, hcc2 2 _ rfl, hcc2 3 _ rfl, hcc2 4 _ rfl, hcc2 5 _ rfl, hcc2 6 _ rfl⟩, rz', hfr2⟩
set_option maxHeartbeats 8000000 in
set_option maxRecDepth 100000 in
theorem state_put_at (xs : List Inode) (x : Inode) (cs : List Value) (hfit : fitI x) (hbig : xs.length ≤ 1000) (i : Nat) (hix : i < xs.length ∧ Hid (ixB (isI x.no) xs = (i : Int))) (h : FH) (w : World) (hs : Sits h w) (base : Nat) (hbase : base ≤ w.heap.size) (v : Value) (O : OwnL h w base 37 v xs) (r : repInode h cs x) :
    Calls Try.prog 37 #[v, .agg cs.toArray] w fun e w' => RetPut h w base 37 v.ownBlock (xs.set i x) e w' := by
  obtain ⟨A5, c5, A6, c6, rfl, s0, s1, s2, s3, s4⟩ := r
  have hmf : ∀ fn first cap w, (Instr.makeFunc fn first cap).run Try.prog w = .ok (.func fn first cap) w := fun _ _ _ _ => rfl
  have E1 := hid ((Ext.refl hs).alloc (.cells #[.int .i64 x.no, .int .i64 x.kind, .int .i64 x.links, .int .i64 x.size, .string x.target, .slice A5 x.entries.length c5, .slice A6 x.runs.length c6] 37))
  have HBX := hid (heap_new w (.cells #[.int .i64 x.no, .int .i64 x.kind, .int .i64 x.links, .int .i64 x.size, .string x.target, .slice A5 x.entries.length c5, .slice A6 x.runs.length c6] 37))
  have RX := hid (show repInode h [.int .i64 x.no, .int .i64 x.kind, .int .i64 x.links, .int .i64 x.size, .string x.target, .slice A5 x.entries.length c5, .slice A6 x.runs.length c6] x from ⟨A5, c5, A6, c6, rfl, s0, s1, s2, s3, s4⟩)
  have hN := hid (hs.none (Nat.le_refl w.heap.size))
  have hlb := hid (show w.heap.size < (w.alloc (.cells #[.int .i64 x.no, .int .i64 x.kind, .int .i64 x.links, .int .i64 x.size, .string x.target, .slice A5 x.entries.length c5, .slice A6 x.runs.length c6] 37)).heap.size by simp)
  have OO := hid O
  obtain ⟨A, c, hv, hcl⟩ := O.slice
  subst hv
  clear O
  go_enter Try.func37, Try.ntmps37
  go_upto_region 1 with (fail)
  generalize hgb : w.heap.size = gb at *
  generalize (w.alloc (.cells #[.int .i64 x.no, .int .i64 x.kind, .int .i64 x.links, .int .i64 x.size, .string x.target, .slice A5 x.entries.length c5, .slice A6 x.runs.length c6] 37)) = W1 at *
  have e0 : W1.cell? ⟨gb, 0, none⟩ = some (.int .i64 x.no) := box_cell (j := 0) HBX.out rfl
  have e1 : W1.cell? ⟨gb, 1, none⟩ = some (.int .i64 x.kind) := box_cell (j := 1) HBX.out rfl
  have e2 : W1.cell? ⟨gb, 2, none⟩ = some (.int .i64 x.links) := box_cell (j := 2) HBX.out rfl
  have e3 : W1.cell? ⟨gb, 3, none⟩ = some (.int .i64 x.size) := box_cell (j := 3) HBX.out rfl
  have e4 : W1.cell? ⟨gb, 4, none⟩ = some (.string x.target) := box_cell (j := 4) HBX.out rfl
  have e5 : W1.cell? ⟨gb, 5, none⟩ = some (.slice A5 x.entries.length c5) := box_cell (j := 5) HBX.out rfl
  have e6 : W1.cell? ⟨gb, 6, none⟩ = some (.slice A6 x.runs.length c6) := box_cell (j := 6) HBX.out rfl
  have K := hid (state_own x _ hfit.1 hfit.2 h W1 E1.out.sits RX.out)
  go_upto_region 2 with (go_at_call 41; refine K.out.mono ?_; rintro e w2 ⟨cs2, h2, rfl, ⟨A7, c7, A8, c8, rfl, t0, t1, t2, t3, t4⟩, F2⟩; have RY := hid (show repInode h2 [.int .i64 x.no, .int .i64 x.kind, .int .i64 x.links, .int .i64 x.size, .string x.target, .slice A7 x.entries.length c7, .slice A8 x.runs.length c8] x from ⟨A7, c7, A8, c8, rfl, t0, t1, t2, t3, t4⟩); have hR2 := F2.row HBX.out; have hn2 := F2.none hN.out hlb.out; have F2 := hid F2; have u0 : w2.cell? ⟨gb, 0, none⟩ = some (.int .i64 x.no) := box_cell (j := 0) hR2 rfl; have f0 := box_free (j := 0) hR2; have u1 : w2.cell? ⟨gb, 1, none⟩ = some (.int .i64 x.kind) := box_cell (j := 1) hR2 rfl; have f1 := box_free (j := 1) hR2; have u2 : w2.cell? ⟨gb, 2, none⟩ = some (.int .i64 x.links) := box_cell (j := 2) hR2 rfl; have f2 := box_free (j := 2) hR2; have u3 : w2.cell? ⟨gb, 3, none⟩ = some (.int .i64 x.size) := box_cell (j := 3) hR2 rfl; have f3 := box_free (j := 3) hR2; have u4 : w2.cell? ⟨gb, 4, none⟩ = some (.string x.target) := box_cell (j := 4) hR2 rfl; have f4 := box_free (j := 4) hR2; have u5 : w2.cell? ⟨gb, 5, none⟩ = some (.slice A5 x.entries.length c5) := box_cell (j := 5) hR2 rfl; have f5 := box_free (j := 5) hR2; have u6 : w2.cell? ⟨gb, 6, none⟩ = some (.slice A6 x.runs.length c6) := box_cell (j := 6) hR2 rfl; have f6 := box_free (j := 6) hR2)
  have R3 : ((((((((w2.setCell ⟨gb, 0, none⟩ (.int .i64 x.no)).setCell ⟨gb, 1, none⟩ (.int .i64 x.kind)).setCell ⟨gb, 2, none⟩ (.int .i64 x.links)).setCell ⟨gb, 3, none⟩ (.int .i64 x.size)).setCell ⟨gb, 4, none⟩ (.string x.target)).setCell ⟨gb, 5, none⟩ (.slice A7 x.entries.length c7)).setCell ⟨gb, 6, none⟩ (.slice A8 x.runs.length c8))).heap[gb]? = some (.cells #[.int .i64 x.no, .int .i64 x.kind, .int .i64 x.links, .int .i64 x.size, .string x.target, .slice A7 x.entries.length c7, .slice A8 x.runs.length c8] 37 (0, 0)) := setCells_row [.int .i64 x.no, .int .i64 x.kind, .int .i64 x.links, .int .i64 x.size, .string x.target, .slice A7 x.entries.length c7, .slice A8 x.runs.length c8] hR2 rfl
  have E2 : Ext h w h2 (((((((w2.setCell ⟨gb, 0, none⟩ (.int .i64 x.no)).setCell ⟨gb, 1, none⟩ (.int .i64 x.kind)).setCell ⟨gb, 2, none⟩ (.int .i64 x.links)).setCell ⟨gb, 3, none⟩ (.int .i64 x.size)).setCell ⟨gb, 4, none⟩ (.string x.target)).setCell ⟨gb, 5, none⟩ (.slice A7 x.entries.length c7)).setCell ⟨gb, 6, none⟩ (.slice A8 x.runs.length c8)) := Ext.setCells (g := gb) (Nat.le_of_eq hgb) hn2 [.int .i64 x.no, .int .i64 x.kind, .int .i64 x.links, .int .i64 x.size, .string x.target, .slice A7 x.entries.length c7, .slice A8 x.runs.length c8] 0 _ (E1.out.trans F2.out)
  with_reducible generalize (((((((w2.setCell ⟨gb, 0, none⟩ (.int .i64 x.no)).setCell ⟨gb, 1, none⟩ (.int .i64 x.kind)).setCell ⟨gb, 2, none⟩ (.int .i64 x.links)).setCell ⟨gb, 3, none⟩ (.int .i64 x.size)).setCell ⟨gb, 4, none⟩ (.string x.target)).setCell ⟨gb, 5, none⟩ (.slice A7 x.entries.length c7)).setCell ⟨gb, 6, none⟩ (.slice A8 x.runs.length c8)) = W3 at E2 R3 ⊢
  have E3 := hid (E2.add R3 hn2 (Nat.le_of_eq hgb))
  have hb3 := FH.add_same h2 gb (.cells #[.int .i64 x.no, .int .i64 x.kind, .int .i64 x.links, .int .i64 x.size, .string x.target, .slice A7 x.entries.length c7, .slice A8 x.runs.length c8] 37 (0, 0))
  have RZ := hid (show repInode (h2.add gb (.cells #[.int .i64 x.no, .int .i64 x.kind, .int .i64 x.links, .int .i64 x.size, .string x.target, .slice A7 x.entries.length c7, .slice A8 x.runs.length c8] 37 (0, 0))) [.int .i64 x.no, .int .i64 x.kind, .int .i64 x.links, .int .i64 x.size, .string x.target, .slice A7 x.entries.length c7, .slice A8 x.runs.length c8] x from RY.out.mono (FLe.add hn2 _))
  generalize h2.add gb (.cells #[.int .i64 x.no, .int .i64 x.kind, .int .i64 x.links, .int .i64 x.size, .string x.target, .slice A7 x.entries.length c7, .slice A8 x.runs.length c8] 37 (0, 0)) = h3 at *
  have m0 : W3.cell? ⟨gb, 0, none⟩ = some (.int .i64 x.no) := Sits_at E3.out.sits hb3 rfl
  have m1 : W3.cell? ⟨gb, 1, none⟩ = some (.int .i64 x.kind) := Sits_at E3.out.sits hb3 rfl
  have m2 : W3.cell? ⟨gb, 2, none⟩ = some (.int .i64 x.links) := Sits_at E3.out.sits hb3 rfl
  have m3 : W3.cell? ⟨gb, 3, none⟩ = some (.int .i64 x.size) := Sits_at E3.out.sits hb3 rfl
  have m4 : W3.cell? ⟨gb, 4, none⟩ = some (.string x.target) := Sits_at E3.out.sits hb3 rfl
  have m5 : W3.cell? ⟨gb, 5, none⟩ = some (.slice A7 x.entries.length c7) := Sits_at E3.out.sits hb3 rfl
  have m6 : W3.cell? ⟨gb, 6, none⟩ = some (.slice A8 x.runs.length c8) := Sits_at E3.out.sits hb3 rfl
  have O3 := hid (OO.out.ext E3.out)
  clear u0 f0 e0 u1 f1 e1 u2 f2 e2 u3 f3 e3 u4 f4 e4 u5 f5 e5 u6 f6 e6 E2 R3 hR2 hn2 hcl
  obtain ⟨h4, A4, c4, hv4, hc4, rA, le4, hs4, fr4⟩ := O3.out.freeze E3.out.sits (by omega)
  obtain ⟨rfl, rfl⟩ : A = A4 ∧ c = c4 := by simpa using hv4
  have KI := hid (index_put1 xs A c x.no h4 gb (le4.cell (FH.at hb3 rfl)) W3 hs4 rA)
  clear rA hs4 fr4 le4 hv4 hc4
  obtain ⟨hi, HI⟩ := hix
  have i1 : (0 : Int) ≤ (i : Int) := by omega
  have i2 : (i : Int) < (xs.length : Int) := by omega
  obtain ⟨z, hz⟩ : ∃ z, xs[i]? = some z := ⟨xs[i], List.getElem?_eq_getElem hi⟩
  have HZ := hid hz
  clear hz
  obtain ⟨g0, rfl⟩ : ∃ g0, A = some ⟨g0, 0, none⟩ := by
    obtain ⟨g2, cap2, cs2, hv2, _⟩ := O3.out.get HZ.out
    exact ⟨g2, by simp only [Value.slice.injEq] at hv2; exact hv2.1⟩
  clear m0 m1 m2 m3 m4 m5 m6
  go_wp2_with (go_at_call 66; refine KI.out.mono ?_; rintro e w4 ⟨rfl, E4a⟩; rw [HI.out]; have E4 := Ext.of_below E3.out.sits E4a.below; have O4 := hid (O3.out.ext E4); obtain ⟨B5, d5, B6, d6, ⟨z0, z1, z2, z3, z4, z5, z6⟩, _, hfr2⟩ := own_get O4.out HZ.out; have r0 := hfr2 (i * 7); have r1 := hfr2 (i * 7 + 1); have r2 := hfr2 (i * 7 + 2); have r3 := hfr2 (i * 7 + 3); have r4 := hfr2 (i * 7 + 4); have r5 := hfr2 (i * 7 + 5); have r6 := hfr2 (i * 7 + 6); have p0 : w4.cell? ⟨gb, 0, none⟩ = some (.int .i64 x.no) := Sits_at E4.sits hb3 rfl; have p1 : w4.cell? ⟨gb, 1, none⟩ = some (.int .i64 x.kind) := Sits_at E4.sits hb3 rfl; have p2 : w4.cell? ⟨gb, 2, none⟩ = some (.int .i64 x.links) := Sits_at E4.sits hb3 rfl; have p3 : w4.cell? ⟨gb, 3, none⟩ = some (.int .i64 x.size) := Sits_at E4.sits hb3 rfl; have p4 : w4.cell? ⟨gb, 4, none⟩ = some (.string x.target) := Sits_at E4.sits hb3 rfl; have p5 : w4.cell? ⟨gb, 5, none⟩ = some (.slice A7 x.entries.length c7) := Sits_at E4.sits hb3 rfl; have p6 : w4.cell? ⟨gb, 6, none⟩ = some (.slice A8 x.runs.length c8) := Sits_at E4.sits hb3 rfl; clear hfr2)
  have OF := O4.out.setElem (i := i) (y := x) hi RZ.out
  have GF := grown_setCells g0 [.int .i64 x.no, .int .i64 x.kind, .int .i64 x.links, .int .i64 x.size, .string x.target, .slice A7 x.entries.length c7, .slice A8 x.runs.length c8] (i * 7) w4 (grownBy_of_ext (Ext.refl (Sits.all w4)) (some g0))
  have XF := (OExt.of (E3.out.trans E4) (some g0)).row GF (fun k hk => by cases hk; exact O4.out.free g0 rfl)
  go_ret
  exact ⟨_, _, rfl, OF, XF⟩
set_option maxHeartbeats 8000000 in
set_option maxRecDepth 100000 in
theorem state_put_new (xs : List Inode) (x : Inode) (cs : List Value) (hfit : fitI x) (hbig : xs.length ≤ 1000) (p : Nat) (hix : Hid (ixB (isI x.no) xs = -1) ∧ p ≤ xs.length ∧ Hid (ixB (gtI x.no) xs = (p : Int) ∧ p < xs.length ∨ ixB (gtI x.no) xs = -1 ∧ p = xs.length)) (h : FH) (w : World) (hs : Sits h w) (base : Nat) (hbase : base ≤ w.heap.size) (v : Value) (O : OwnL h w base 37 v xs) (r : repInode h cs x) :
    Calls Try.prog 37 #[v, .agg cs.toArray] w fun e w' => RetPut h w base 37 v.ownBlock (xs.take p ++ [x] ++ xs.drop p) e w' := by
  obtain ⟨A5, c5, A6, c6, rfl, s0, s1, s2, s3, s4⟩ := r
  have hmf : ∀ fn first cap w, (Instr.makeFunc fn first cap).run Try.prog w = .ok (.func fn first cap) w := fun _ _ _ _ => rfl
  have E1 := hid ((Ext.refl hs).alloc (.cells #[.int .i64 x.no, .int .i64 x.kind, .int .i64 x.links, .int .i64 x.size, .string x.target, .slice A5 x.entries.length c5, .slice A6 x.runs.length c6] 37))
  have HBX := hid (heap_new w (.cells #[.int .i64 x.no, .int .i64 x.kind, .int .i64 x.links, .int .i64 x.size, .string x.target, .slice A5 x.entries.length c5, .slice A6 x.runs.length c6] 37))
  have RX := hid (show repInode h [.int .i64 x.no, .int .i64 x.kind, .int .i64 x.links, .int .i64 x.size, .string x.target, .slice A5 x.entries.length c5, .slice A6 x.runs.length c6] x from ⟨A5, c5, A6, c6, rfl, s0, s1, s2, s3, s4⟩)
  have hN := hid (hs.none (Nat.le_refl w.heap.size))
  have hlb := hid (show w.heap.size < (w.alloc (.cells #[.int .i64 x.no, .int .i64 x.kind, .int .i64 x.links, .int .i64 x.size, .string x.target, .slice A5 x.entries.length c5, .slice A6 x.runs.length c6] 37)).heap.size by simp)
  have OO := hid O
  obtain ⟨A, c, hv, hcl⟩ := O.slice
  subst hv
  clear O
  go_enter Try.func37, Try.ntmps37
  go_upto_region 1 with (fail)
  generalize hgb : w.heap.size = gb at *
  generalize (w.alloc (.cells #[.int .i64 x.no, .int .i64 x.kind, .int .i64 x.links, .int .i64 x.size, .string x.target, .slice A5 x.entries.length c5, .slice A6 x.runs.length c6] 37)) = W1 at *
  have e0 : W1.cell? ⟨gb, 0, none⟩ = some (.int .i64 x.no) := box_cell (j := 0) HBX.out rfl
  have e1 : W1.cell? ⟨gb, 1, none⟩ = some (.int .i64 x.kind) := box_cell (j := 1) HBX.out rfl
  have e2 : W1.cell? ⟨gb, 2, none⟩ = some (.int .i64 x.links) := box_cell (j := 2) HBX.out rfl
  have e3 : W1.cell? ⟨gb, 3, none⟩ = some (.int .i64 x.size) := box_cell (j := 3) HBX.out rfl
  have e4 : W1.cell? ⟨gb, 4, none⟩ = some (.string x.target) := box_cell (j := 4) HBX.out rfl
  have e5 : W1.cell? ⟨gb, 5, none⟩ = some (.slice A5 x.entries.length c5) := box_cell (j := 5) HBX.out rfl
  have e6 : W1.cell? ⟨gb, 6, none⟩ = some (.slice A6 x.runs.length c6) := box_cell (j := 6) HBX.out rfl
  have K := hid (state_own x _ hfit.1 hfit.2 h W1 E1.out.sits RX.out)
  go_upto_region 2 with (go_at_call 41; refine K.out.mono ?_; rintro e w2 ⟨cs2, h2, rfl, ⟨A7, c7, A8, c8, rfl, t0, t1, t2, t3, t4⟩, F2⟩; have RY := hid (show repInode h2 [.int .i64 x.no, .int .i64 x.kind, .int .i64 x.links, .int .i64 x.size, .string x.target, .slice A7 x.entries.length c7, .slice A8 x.runs.length c8] x from ⟨A7, c7, A8, c8, rfl, t0, t1, t2, t3, t4⟩); have hR2 := F2.row HBX.out; have hn2 := F2.none hN.out hlb.out; have F2 := hid F2; have u0 : w2.cell? ⟨gb, 0, none⟩ = some (.int .i64 x.no) := box_cell (j := 0) hR2 rfl; have f0 := box_free (j := 0) hR2; have u1 : w2.cell? ⟨gb, 1, none⟩ = some (.int .i64 x.kind) := box_cell (j := 1) hR2 rfl; have f1 := box_free (j := 1) hR2; have u2 : w2.cell? ⟨gb, 2, none⟩ = some (.int .i64 x.links) := box_cell (j := 2) hR2 rfl; have f2 := box_free (j := 2) hR2; have u3 : w2.cell? ⟨gb, 3, none⟩ = some (.int .i64 x.size) := box_cell (j := 3) hR2 rfl; have f3 := box_free (j := 3) hR2; have u4 : w2.cell? ⟨gb, 4, none⟩ = some (.string x.target) := box_cell (j := 4) hR2 rfl; have f4 := box_free (j := 4) hR2; have u5 : w2.cell? ⟨gb, 5, none⟩ = some (.slice A5 x.entries.length c5) := box_cell (j := 5) hR2 rfl; have f5 := box_free (j := 5) hR2; have u6 : w2.cell? ⟨gb, 6, none⟩ = some (.slice A6 x.runs.length c6) := box_cell (j := 6) hR2 rfl; have f6 := box_free (j := 6) hR2)
  have R3 : ((((((((w2.setCell ⟨gb, 0, none⟩ (.int .i64 x.no)).setCell ⟨gb, 1, none⟩ (.int .i64 x.kind)).setCell ⟨gb, 2, none⟩ (.int .i64 x.links)).setCell ⟨gb, 3, none⟩ (.int .i64 x.size)).setCell ⟨gb, 4, none⟩ (.string x.target)).setCell ⟨gb, 5, none⟩ (.slice A7 x.entries.length c7)).setCell ⟨gb, 6, none⟩ (.slice A8 x.runs.length c8))).heap[gb]? = some (.cells #[.int .i64 x.no, .int .i64 x.kind, .int .i64 x.links, .int .i64 x.size, .string x.target, .slice A7 x.entries.length c7, .slice A8 x.runs.length c8] 37 (0, 0)) := setCells_row [.int .i64 x.no, .int .i64 x.kind, .int .i64 x.links, .int .i64 x.size, .string x.target, .slice A7 x.entries.length c7, .slice A8 x.runs.length c8] hR2 rfl
  have E2 : Ext h w h2 (((((((w2.setCell ⟨gb, 0, none⟩ (.int .i64 x.no)).setCell ⟨gb, 1, none⟩ (.int .i64 x.kind)).setCell ⟨gb, 2, none⟩ (.int .i64 x.links)).setCell ⟨gb, 3, none⟩ (.int .i64 x.size)).setCell ⟨gb, 4, none⟩ (.string x.target)).setCell ⟨gb, 5, none⟩ (.slice A7 x.entries.length c7)).setCell ⟨gb, 6, none⟩ (.slice A8 x.runs.length c8)) := Ext.setCells (g := gb) (Nat.le_of_eq hgb) hn2 [.int .i64 x.no, .int .i64 x.kind, .int .i64 x.links, .int .i64 x.size, .string x.target, .slice A7 x.entries.length c7, .slice A8 x.runs.length c8] 0 _ (E1.out.trans F2.out)
  with_reducible generalize (((((((w2.setCell ⟨gb, 0, none⟩ (.int .i64 x.no)).setCell ⟨gb, 1, none⟩ (.int .i64 x.kind)).setCell ⟨gb, 2, none⟩ (.int .i64 x.links)).setCell ⟨gb, 3, none⟩ (.int .i64 x.size)).setCell ⟨gb, 4, none⟩ (.string x.target)).setCell ⟨gb, 5, none⟩ (.slice A7 x.entries.length c7)).setCell ⟨gb, 6, none⟩ (.slice A8 x.runs.length c8)) = W3 at E2 R3 ⊢
  have E3 := hid (E2.add R3 hn2 (Nat.le_of_eq hgb))
  have hb3 := FH.add_same h2 gb (.cells #[.int .i64 x.no, .int .i64 x.kind, .int .i64 x.links, .int .i64 x.size, .string x.target, .slice A7 x.entries.length c7, .slice A8 x.runs.length c8] 37 (0, 0))
  have RZ := hid (show repInode (h2.add gb (.cells #[.int .i64 x.no, .int .i64 x.kind, .int .i64 x.links, .int .i64 x.size, .string x.target, .slice A7 x.entries.length c7, .slice A8 x.runs.length c8] 37 (0, 0))) [.int .i64 x.no, .int .i64 x.kind, .int .i64 x.links, .int .i64 x.size, .string x.target, .slice A7 x.entries.length c7, .slice A8 x.runs.length c8] x from RY.out.mono (FLe.add hn2 _))
  generalize h2.add gb (.cells #[.int .i64 x.no, .int .i64 x.kind, .int .i64 x.links, .int .i64 x.size, .string x.target, .slice A7 x.entries.length c7, .slice A8 x.runs.length c8] 37 (0, 0)) = h3 at *
  have m0 : W3.cell? ⟨gb, 0, none⟩ = some (.int .i64 x.no) := Sits_at E3.out.sits hb3 rfl
  have m1 : W3.cell? ⟨gb, 1, none⟩ = some (.int .i64 x.kind) := Sits_at E3.out.sits hb3 rfl
  have m2 : W3.cell? ⟨gb, 2, none⟩ = some (.int .i64 x.links) := Sits_at E3.out.sits hb3 rfl
  have m3 : W3.cell? ⟨gb, 3, none⟩ = some (.int .i64 x.size) := Sits_at E3.out.sits hb3 rfl
  have m4 : W3.cell? ⟨gb, 4, none⟩ = some (.string x.target) := Sits_at E3.out.sits hb3 rfl
  have m5 : W3.cell? ⟨gb, 5, none⟩ = some (.slice A7 x.entries.length c7) := Sits_at E3.out.sits hb3 rfl
  have m6 : W3.cell? ⟨gb, 6, none⟩ = some (.slice A8 x.runs.length c8) := Sits_at E3.out.sits hb3 rfl
  have O3 := hid (OO.out.ext E3.out)
  clear u0 f0 e0 u1 f1 e1 u2 f2 e2 u3 f3 e3 u4 f4 e4 u5 f5 e5 u6 f6 e6 E2 R3 hR2 hn2 hcl
  obtain ⟨h4, A4, c4, hv4, hc4, rA, le4, hs4, fr4⟩ := O3.out.freeze E3.out.sits (by omega)
  obtain ⟨rfl, rfl⟩ : A = A4 ∧ c = c4 := by simpa using hv4
  have KI := hid (index_put1 xs A c x.no h4 gb (le4.cell (FH.at hb3 rfl)) W3 hs4 rA)
  clear rA hs4 fr4 le4 hv4 hc4
  obtain ⟨HI, hpi, HG⟩ := hix
  have KJ : Hid (∀ (w4 : World), Ext h3 W3 h3 w4 → Calls Try.prog 66 #[.slice A xs.length c, .func (.func 68) #[] #[.pointer (some ⟨gb, 0, none⟩)]] w4 fun e w' => e = .returned (.int .i64 (ixB (gtI x.no) xs)) ∧ Ext h3 w4 h3 w') := hid (fun w4 (E4 : Ext h3 W3 h3 w4) => by
    obtain ⟨h5, A4, c4, hv4, hc4, rA, le4, hs4, fr4⟩ := (O3.out.ext E4).freeze E4.sits (by omega)
    obtain ⟨rfl, rfl⟩ : A = A4 ∧ c = c4 := by simpa using hv4
    exact (index_put2 xs A c x.no h5 gb (le4.cell (FH.at hb3 rfl)) w4 hs4 rA).mono fun e w' q => ⟨q.1, Ext.of_below E4.sits q.2.below⟩)
  have KN := hid (fun w5 (E5 : Ext h3 W3 h3 w5) => insert_In xs p hpi x [.int .i64 x.no, .int .i64 x.kind, .int .i64 x.links, .int .i64 x.size, .string x.target, .slice A7 x.entries.length c7, .slice A8 x.runs.length c8] hbig h3 RZ.out (w5.alloc (.cells #[.int .i64 x.no, .int .i64 x.kind, .int .i64 x.links, .int .i64 x.size, .string x.target, .slice A7 x.entries.length c7, .slice A8 x.runs.length c8] 37)) (E5.sits.alloc _) base (Nat.le_trans hbase (Nat.le_trans (by rw [hgb]; exact Nat.le_refl _) (Nat.le_trans E3.out.size (Nat.le_trans E5.size (by simp))))) _ ((O3.out.ext E5).alloc _) w5.heap.size (heap_new _ _) (fun e => absurd ((O3.out.ext E5).lt _ e).2 (Nat.lt_irrefl _)))
  clear m0 m1 m2 m3 m4 m5 m6
  go_upto_region 6 with (go_at_call 66; refine KI.out.mono ?_; rintro e w4 ⟨rfl, E4a⟩; rw [HI.out]; have E4 := hid (Ext.of_below E3.out.sits E4a.below); clear E4a)
  rcases HG.out with ⟨hg, hp0⟩ | ⟨hg, hp0⟩
  · have HG' := hid hg
    have hp1 : (0 : Int) ≤ (p : Int) := by omega
    clear hg hp0 HG
    go_upto_region 7 with (go_at_call 66; refine (KJ.out w4 E4.out).mono ?_; rintro e w5 ⟨rfl, E5a⟩; rw [HG'.out]; have E5 := E4.out.trans E5a; have q0 : w5.cell? ⟨gb, 0, none⟩ = some (.int .i64 x.no) := Sits_at E5.sits hb3 rfl; have q1 : w5.cell? ⟨gb, 1, none⟩ = some (.int .i64 x.kind) := Sits_at E5.sits hb3 rfl; have q2 : w5.cell? ⟨gb, 2, none⟩ = some (.int .i64 x.links) := Sits_at E5.sits hb3 rfl; have q3 : w5.cell? ⟨gb, 3, none⟩ = some (.int .i64 x.size) := Sits_at E5.sits hb3 rfl; have q4 : w5.cell? ⟨gb, 4, none⟩ = some (.string x.target) := Sits_at E5.sits hb3 rfl; have q5 : w5.cell? ⟨gb, 5, none⟩ = some (.slice A7 x.entries.length c7) := Sits_at E5.sits hb3 rfl; have q6 : w5.cell? ⟨gb, 6, none⟩ = some (.slice A8 x.runs.length c8) := Sits_at E5.sits hb3 rfl; have E5 := hid E5)
    go_wp2_with (go_at_call 69; refine (KN.out w5 E5.out).mono ?_; rintro e w6 ⟨v6, rfl, O6, G6⟩; have O6 := hid O6; have G6 := hid G6)
    go_ret
    exact ⟨_, _, rfl, O6.out, (OExt.of (E3.out.trans (E5.out.alloc _)) _).row G6.out O3.out.free⟩
  · have HG' := hid hg
    clear hg HG
    subst hp0
    go_upto_region 7 with (go_at_call 66; refine (KJ.out w4 E4.out).mono ?_; rintro e w5 ⟨rfl, E5a⟩; rw [HG'.out]; have E5 := E4.out.trans E5a; have q0 : w5.cell? ⟨gb, 0, none⟩ = some (.int .i64 x.no) := Sits_at E5.sits hb3 rfl; have q1 : w5.cell? ⟨gb, 1, none⟩ = some (.int .i64 x.kind) := Sits_at E5.sits hb3 rfl; have q2 : w5.cell? ⟨gb, 2, none⟩ = some (.int .i64 x.links) := Sits_at E5.sits hb3 rfl; have q3 : w5.cell? ⟨gb, 3, none⟩ = some (.int .i64 x.size) := Sits_at E5.sits hb3 rfl; have q4 : w5.cell? ⟨gb, 4, none⟩ = some (.string x.target) := Sits_at E5.sits hb3 rfl; have q5 : w5.cell? ⟨gb, 5, none⟩ = some (.slice A7 x.entries.length c7) := Sits_at E5.sits hb3 rfl; have q6 : w5.cell? ⟨gb, 6, none⟩ = some (.slice A8 x.runs.length c8) := Sits_at E5.sits hb3 rfl; have E5 := hid E5)
    go_wp2_with (go_at_call 69; refine (KN.out w5 E5.out).mono ?_; rintro e w6 ⟨v6, rfl, O6, G6⟩; have O6 := hid O6; have G6 := hid G6)
    go_ret
    exact ⟨_, _, rfl, O6.out, (OExt.of (E3.out.trans (E5.out.alloc _)) _).row G6.out O3.out.free⟩
theorem posI_ix (xs : List Inode) (no : Int) : posI xs no ≤ xs.length ∧ (ixB (gtI no) xs = (posI xs no : Int) ∧ posI xs no < xs.length ∨ ixB (gtI no) xs = -1 ∧ posI xs no = xs.length) := by
  unfold posI ixB
  cases e : xs.findIdx? (gtI no) with
  | none => exact ⟨Nat.le_refl _, .inr ⟨rfl, rfl⟩⟩
  | some i =>
    have := (List.findIdx?_eq_some_iff_getElem.1 e).1
    exact ⟨by simp; omega, .inl ⟨rfl, by simpa using this⟩⟩
theorem state_put (xs : List Inode) (x : Inode) (cs : List Value) (hfit : fitI x) (hbig : xs.length ≤ 1000) (h : FH) (w : World) (hs : Sits h w) (base : Nat) (hbase : base ≤ w.heap.size) (v : Value) (O : OwnL h w base 37 v xs) (r : repInode h cs x) :
    Calls Try.prog 37 #[v, .agg cs.toArray] w fun e w' => RetPut h w base 37 v.ownBlock (putI xs x) e w' := by
  unfold putI
  cases e : xs.findIdx? (isI x.no) with
  | none =>
    obtain ⟨a, b⟩ := posI_ix xs x.no
    exact state_put_new xs x cs hfit hbig (posI xs x.no) ⟨hid (by unfold ixB; rw [e]), a, hid b⟩ h w hs base hbase v O r
  | some i =>
    have := (List.findIdx?_eq_some_iff_getElem.1 e).1
    exact state_put_at xs x cs hfit hbig i ⟨this, hid (by unfold ixB; rw [e])⟩ h w hs base hbase v O r
def posZ (xs : List Int) (no : Int) : Nat := (xs.findIdx? (gtZ no)).getD xs.length
def badZ (xs : List Int) (no : Int) : List Int := if xs.any (eqZ no) then xs else xs.take (posZ xs no) ++ [no] ++ xs.drop (posZ xs no)
theorem badZ_len (xs : List Int) (no : Int) : (badZ xs no).length ≤ xs.length + 1 := by
  unfold badZ; split
  · simp
  · simp; omega
theorem posZ_ix (xs : List Int) (no : Int) : posZ xs no ≤ xs.length ∧ (ixB (gtZ no) xs = (posZ xs no : Int) ∧ posZ xs no < xs.length ∨ ixB (gtZ no) xs = -1 ∧ posZ xs no = xs.length) := by
  unfold posZ ixB
  cases e : xs.findIdx? (gtZ no) with
  | none => exact ⟨Nat.le_refl _, .inr ⟨rfl, rfl⟩⟩
  | some i =>
    have := (List.findIdx?_eq_some_iff_getElem.1 e).1
    exact ⟨by simp; omega, .inl ⟨rfl, by simpa using this⟩⟩
set_option maxHeartbeats 8000000 in
set_option maxRecDepth 100000 in
theorem state_bad (xs : List Int) (no : Int) (hbig : xs.length ≤ 1000) (h : FH) (w : World) (hs : Sits h w) (base : Nat) (hbase : base ≤ w.heap.size) (v : Value) (O : OwnL h w base 3 v xs) :
    Calls Try.prog 40 #[v, .int .i64 no] w fun e w' => RetPut h w base 3 v.ownBlock (badZ xs no) e w' := by
  have hmf : ∀ fn first cap w, (Instr.makeFunc fn first cap).run Try.prog w = .ok (.func fn first cap) w := fun _ _ _ _ => rfl
  obtain ⟨h3, E3, hb3, le3, hh3⟩ := (Ext.refl hs).boxF #[.int .i64 no] 3
  obtain ⟨A, c, hv, hcl⟩ := O.slice
  obtain ⟨hpi, HG⟩ := posZ_ix xs no
  have HG := hid HG
  obtain ⟨q, hq⟩ : ∃ q, xs.any (eqZ no) = q := ⟨_, rfl⟩
  have HQ := hid hq
  subst hv
  have O3 := hid (O.ext E3)
  have E3 := hid E3
  go_enter Try.func40, Try.ntmps40
  go_upto_region 1 with (fail)
  generalize hgb : w.heap.size = gb at *
  generalize (w.alloc (.cells #[.int .i64 no] 3)) = W3 at *
  have m0 : W3.cell? ⟨gb, 0, none⟩ = some (.int .i64 no) := Sits_at E3.out.sits hb3 rfl
  have KC : Hid (Calls Try.prog 70 #[.slice A xs.length c, .int .i64 no] W3 fun e w' => e = .returned (.bool q) ∧ Ext h3 W3 h3 w') := hid (by
    obtain ⟨h5, A4, c4, hv4, hc4, rA, le4, hs4, fr4⟩ := O3.out.freeze E3.out.sits (by omega)
    obtain ⟨rfl, rfl⟩ : A = A4 ∧ c = c4 := by simpa using hv4
    exact (contains_Int xs A c no q hq h5 W3 hs4 rA).mono fun e w' q => ⟨q.1, Ext.of_below E3.out.sits q.2.below⟩)
  have KJ : Hid (∀ (w4 : World), Ext h3 W3 h3 w4 → Calls Try.prog 71 #[.slice A xs.length c, .func (.func 72) #[] #[.pointer (some ⟨gb, 0, none⟩)]] w4 fun e w' => e = .returned (.int .i64 (ixB (gtZ no) xs)) ∧ Ext h3 w4 h3 w') := hid (fun w4 (E4 : Ext h3 W3 h3 w4) => by
    obtain ⟨h5, A4, c4, hv4, hc4, rA, le4, hs4, fr4⟩ := (O3.out.ext E4).freeze E4.sits (by omega)
    obtain ⟨rfl, rfl⟩ : A = A4 ∧ c = c4 := by simpa using hv4
    exact (index_bad1 xs A c no h5 gb (le4.cell (FH.at hb3 rfl)) w4 hs4 rA).mono fun e w' q => ⟨q.1, Ext.of_below E4.sits q.2.below⟩)
  have KN := hid (fun p hpi w5 (E5 : Ext h3 W3 h3 w5) => insert_Z xs p hpi no [.int .i64 no] hbig h3 rfl (w5.alloc (.cells #[.int .i64 no] 3)) (E5.sits.alloc _) base (Nat.le_trans hbase (Nat.le_trans (by rw [hgb]; exact Nat.le_refl _) (Nat.le_trans E3.out.size (Nat.le_trans E5.size (by simp))))) _ ((O3.out.ext E5).alloc _) w5.heap.size (heap_new _ _) (fun e => absurd ((O3.out.ext E5).lt _ e).2 (Nat.lt_irrefl _)))
  clear hq hh3 hcl O
  cases q
  · have HR := hid (show badZ xs no = xs.take (posZ xs no) ++ [no] ++ xs.drop (posZ xs no) by unfold badZ; rw [HQ.out]; rfl)
    go_upto_region 3 with (go_at_call 70; refine KC.out.mono ?_; rintro e w4 ⟨rfl, E4⟩; have E4 := hid E4)
    clear m0
    generalize posZ xs no = p at *
    rcases HG.out with ⟨hg, hp0⟩ | ⟨hg, hp0⟩
    · have HG' := hid hg
      have hp1 : (0 : Int) ≤ (p : Int) := by omega
      clear hg hp0 HG
      go_upto_region 4 with (go_at_call 71; refine (KJ.out w4 E4.out).mono ?_; rintro e w5 ⟨rfl, E5a⟩; rw [HG'.out]; have E5 := E4.out.trans E5a; have q0 : w5.cell? ⟨gb, 0, none⟩ = some (.int .i64 no) := Sits_at E5.sits hb3 rfl; have E5 := hid E5)
      go_wp2_with (go_at_call 73; refine (KN.out p hpi w5 E5.out).mono ?_; rintro e w6 ⟨v6, rfl, O6, G6⟩; have O6 := hid O6; have G6 := hid G6)
      go_ret
      exact ⟨_, _, rfl, by rw [HR.out]; exact O6.out, (OExt.of (E3.out.trans (E5.out.alloc _)) _).row G6.out O3.out.free⟩
    · have HG' := hid hg
      have KN := hid (KN.out xs.length (Nat.le_refl _))
      have HP := hid hp0
      clear hg HG hp0
      go_upto_region 4 with (go_at_call 71; refine (KJ.out w4 E4.out).mono ?_; rintro e w5 ⟨rfl, E5a⟩; rw [HG'.out]; have E5 := E4.out.trans E5a; have q0 : w5.cell? ⟨gb, 0, none⟩ = some (.int .i64 no) := Sits_at E5.sits hb3 rfl; have E5 := hid E5)
      go_wp2_with (go_at_call 73; refine (KN.out w5 E5.out).mono ?_; rintro e w6 ⟨v6, rfl, O6, G6⟩; have O6 := hid O6; have G6 := hid G6)
      go_ret
      exact ⟨_, _, rfl, by rw [HR.out, HP.out]; exact O6.out, (OExt.of (E3.out.trans (E5.out.alloc _)) _).row G6.out O3.out.free⟩
  · have HR := hid (show badZ xs no = xs by unfold badZ; rw [HQ.out]; rfl)
    go_wp2_with (go_at_call 70; refine KC.out.mono ?_; rintro e w4 ⟨rfl, E4⟩; have E4 := hid E4)
    go_ret
    exact ⟨_, _, rfl, by rw [HR.out]; exact O3.out.ext E4.out, OExt.of (E3.out.trans E4.out) _⟩
end Go.Proofs.Ytkglaofiencfdaa

namespace Go.Proofs.Ytkglaofiencfdaa
open Go.RowKit Go.Sort
set_option linter.unusedVariables false
def applyD (s : State) (d : Deed) : State :=
  if d.kind = 1 then { s with next := d.no } else if d.kind = 2 then { s with inodes := putI s.inodes d.inode } else if d.kind = 3 then { s with inodes := s.inodes.filter (neI d.no) } else if d.kind = 4 then { s with bads := badZ s.bads d.no } else s
def applyS (s : State) (ds : List Deed) : State := ds.foldl applyD s
theorem applyS_snoc (s : State) {ds : List Deed} {k : Nat} {d : Deed} (hd : ds[k]? = some d) : applyS s (ds.take (k + 1)) = applyD (applyS s (ds.take k)) d := by
  unfold applyS; rw [take_snoc hd, List.foldl_append]; rfl
theorem applyD_len (s : State) (d : Deed) : (applyD s d).inodes.length ≤ s.inodes.length + 1 ∧ (applyD s d).bads.length ≤ s.bads.length + 1 := by
  unfold applyD
  repeat' split
  · exact ⟨Nat.le_succ _, Nat.le_succ _⟩
  · exact ⟨putI_len _ _, Nat.le_succ _⟩
  · exact ⟨Nat.le_trans (List.length_filter_le _ _) (Nat.le_succ _), Nat.le_succ _⟩
  · exact ⟨Nat.le_succ _, badZ_len _ _⟩
  · exact ⟨Nat.le_succ _, Nat.le_succ _⟩
theorem applyS_len : ∀ (ds : List Deed) (s : State), (applyS s ds).inodes.length ≤ s.inodes.length + ds.length ∧ (applyS s ds).bads.length ≤ s.bads.length + ds.length
  | [], s => ⟨Nat.le_refl _, Nat.le_refl _⟩
  | d :: ds, s => by
    obtain ⟨a, b⟩ := applyS_len ds (applyD s d)
    obtain ⟨c, e⟩ := applyD_len s d
    show (applyS (applyD s d) ds).inodes.length ≤ _ ∧ (applyS (applyD s d) ds).bads.length ≤ _
    simp only [List.length_cons]; omega
theorem applyS_take_len (s : State) (ds : List Deed) (k : Nat) (hk : k ≤ ds.length) : (applyS s (ds.take k)).inodes.length ≤ s.inodes.length + ds.length ∧ (applyS s (ds.take k)).bads.length ≤ s.bads.length + ds.length := by
  obtain ⟨a, b⟩ := applyS_len (ds.take k) s
  rw [List.length_take] at a b
  omega
theorem own_apart {α β : Type} [Enc α] [Enc β] {h h' : FH} {w : World} {b1 b2 : Nat} {T1 T2 : TypeId} {v1 v2 : Value} {xs : List α} {ys : List β} (O1 : OwnL h w b1 T1 v1 xs) (O2 : OwnL h' w b2 T2 v2 ys) (hT : T1 ≠ T2) : v1.ownBlock = none ∨ v1.ownBlock ≠ v2.ownBlock := by
  obtain ⟨c1, w1, _⟩ := O1.own
  obtain ⟨c2, w2, _⟩ := O2.own
  rcases w1.2 with ⟨rfl, _⟩ | ⟨g, cap, cur, rfl, _, hg, _⟩
  · exact .inl rfl
  · right
    rcases w2.2 with ⟨rfl, _⟩ | ⟨g2, cap2, cur2, rfl, _, hg2, _⟩
    · simp [Value.ownBlock]
    · intro e
      have e : g = g2 := by simpa [Value.ownBlock] using e
      subst e
      rw [hg] at hg2
      simp at hg2
      exact hT hg2.2
/-- What the caller made, and a state in it. -/
theorem own_put {α : Type} [Enc α] {h h1 : FH} {w w1 : World} {base : Nat} {T : TypeId} {v : Value} {xs : List α} (O : OwnL h w base T v xs) {row : Option Nat} (X : OExt h w h1 w1 row) (hne : v.ownBlock = none ∨ v.ownBlock ≠ row) : OwnL h1 w1 base T v xs :=
  O.kept X.grown hne X.le (fun g hg => X.none (O.free g hg) (O.lt g hg).2)
theorem OExt.block {h h1 : FH} {w w1 : World} {row : Option Nat} (X : OExt h w h1 w1 row) {g : Nat} {ob : Obj} (hg : w.heap[g]? = some ob) (hne : row ≠ some g) : w1.heap[g]? = some ob := by
  rw [X.grown.block g (Array.getElem?_eq_some_iff.1 hg).1 (fun e => hne e.symm)]; exact hg
theorem grown_set1 (w : World) (g i : Nat) (v : Value) : w.grownBy (w.setCell ⟨g, i, none⟩ v) (some g) := grown_setCells g [v] i w ⟨rfl, rfl, rfl, Nat.le_refl _, fun _ _ _ => rfl⟩
/-- The loop's world. -/
structure InApply (h : FH) (w : World) (gS gR B : Nat) (t : State) (h' : FH) (wr : World) (vI vB : Value) : Prop where
  ext : Ext h w h' wr
  box : wr.heap[gS]? = some (.cells #[.int .i64 t.next, vI, vB] 31 (0, 0))
  out : wr.heap[gR]? = some (.cells #[.int .i64 0, .slice none 0 0, .slice none 0 0] 31 (0, 0))
  ino : OwnL h' wr B 37 vI t.inodes
  bad : OwnL h' wr B 3 vB t.bads
  nS : h' gS = none
  nR : h' gR = none
  big : B ≤ wr.heap.size
theorem InApply.more {h : FH} {w : World} {gS gR B : Nat} {t : State} {h' h2 : FH} {wr w2 : World} {vI vB : Value} (I : InApply h w gS gR B t h' wr vI vB) (E : Ext h' wr h2 w2) : InApply h w gS gR B t h2 w2 vI vB :=
  ⟨I.ext.trans E, E.row I.box, E.row I.out, I.ino.ext E, I.bad.ext E, E.none I.nS (Array.getElem?_eq_some_iff.1 I.box).1, E.none I.nR (Array.getElem?_eq_some_iff.1 I.out).1, Nat.le_trans I.big E.size⟩
theorem own_ne {α : Type} [Enc α] {h : FH} {w : World} {base : Nat} {T : TypeId} {v : Value} {xs : List α} (O : OwnL h w base T v xs) {g : Nat} (hg : g < base) : v.ownBlock ≠ some g := fun e => by have := (O.lt g e).1; omega
theorem InApply.setNext {h : FH} {w : World} {gS gR B : Nat} {t : State} {h' : FH} {wr : World} {vI vB : Value} (I : InApply h w gS gR B t h' wr vI vB) (hw : w.heap.size ≤ gS) (hSR : gS ≠ gR) (hB : gS < B) (n : Int) :
    InApply h w gS gR B { t with next := n } h' (wr.setCell ⟨gS, 0, none⟩ (.int .i64 n)) vI vB :=
  ⟨I.ext.setCell hw I.nS _, box_set (i := 0) I.box _, box_other (i := 0) I.out (fun e => hSR e.symm) _, I.ino.kept (row := some gS) (grown_set1 wr gS 0 _) (.inr (own_ne I.ino hB)) (FLe.refl _) I.ino.free, I.bad.kept (row := some gS) (grown_set1 wr gS 0 _) (.inr (own_ne I.bad hB)) (FLe.refl _) I.bad.free, I.nS, I.nR, by simpa [World.setCell] using I.big⟩
theorem InApply.setI {h : FH} {w : World} {gS gR B : Nat} {t : State} {h' h2 : FH} {wr w2 : World} {vI vB : Value} (I : InApply h w gS gR B t h' wr vI vB) (hw : w.heap.size ≤ gS) (hwB : w.heap.size ≤ B) (hSR : gS ≠ gR) (hB : gS < B) (hB2 : gR < B) {v' : Value} {xs : List Inode} (O : OwnL h2 w2 B 37 v' xs) (X : OExt h' wr h2 w2 vI.ownBlock) :
    InApply h w gS gR B { t with inodes := xs } h2 (w2.setCell ⟨gS, 1, none⟩ v') v' vB :=
  ⟨(X.lift I.ext (fun k hk => Nat.le_trans hwB (I.ino.lt k hk).1)).setCell hw (X.none I.nS (Array.getElem?_eq_some_iff.1 I.box).1) _, box_set (i := 1) (X.block I.box (own_ne I.ino hB)) _, box_other (i := 1) (X.block I.out (own_ne I.ino hB2)) (fun e => hSR e.symm) _,
   O.kept (row := some gS) (grown_set1 w2 gS 1 _) (.inr (own_ne O hB)) (FLe.refl _) O.free,
   (own_put I.bad X (own_apart I.bad I.ino (by decide))).kept (row := some gS) (grown_set1 w2 gS 1 _) (.inr (own_ne I.bad hB)) (FLe.refl _) (own_put I.bad X (own_apart I.bad I.ino (by decide))).free,
   X.none I.nS (Array.getElem?_eq_some_iff.1 I.box).1, X.none I.nR (Array.getElem?_eq_some_iff.1 I.out).1, by have := Nat.le_trans I.big X.grown.size; simpa [World.setCell] using this⟩
theorem InApply.setB {h : FH} {w : World} {gS gR B : Nat} {t : State} {h' h2 : FH} {wr w2 : World} {vI vB : Value} (I : InApply h w gS gR B t h' wr vI vB) (hw : w.heap.size ≤ gS) (hwB : w.heap.size ≤ B) (hSR : gS ≠ gR) (hB : gS < B) (hB2 : gR < B) {v' : Value} {xs : List Int} (O : OwnL h2 w2 B 3 v' xs) (X : OExt h' wr h2 w2 vB.ownBlock) :
    InApply h w gS gR B { t with bads := xs } h2 (w2.setCell ⟨gS, 2, none⟩ v') vI v' :=
  ⟨(X.lift I.ext (fun k hk => Nat.le_trans hwB (I.bad.lt k hk).1)).setCell hw (X.none I.nS (Array.getElem?_eq_some_iff.1 I.box).1) _, box_set (i := 2) (X.block I.box (own_ne I.bad hB)) _, box_other (i := 2) (X.block I.out (own_ne I.bad hB2)) (fun e => hSR e.symm) _,
   (own_put I.ino X (own_apart I.ino I.bad (by decide))).kept (row := some gS) (grown_set1 w2 gS 2 _) (.inr (own_ne I.ino hB)) (FLe.refl _) (own_put I.ino X (own_apart I.ino I.bad (by decide))).free,
   O.kept (row := some gS) (grown_set1 w2 gS 2 _) (.inr (own_ne O hB)) (FLe.refl _) O.free,
   X.none I.nS (Array.getElem?_eq_some_iff.1 I.box).1, X.none I.nR (Array.getElem?_eq_some_iff.1 I.out).1, by have := Nat.le_trans I.big X.grown.size; simpa [World.setCell] using this⟩
theorem OwnL.stay2 {α : Type} [Enc α] {h : FH} {w : World} {base : Nat} {T : TypeId} {v : Value} {xs : List α} (o : OwnL h w base T v xs) (hs : Sits h w) (hlen : xs.length ≤ 9223372036854775807) :
    ∃ h' A c, v = .slice A xs.length c ∧ RowAt h' A xs ∧ FLe h h' ∧ Sits h' w ∧ CapLe A xs.length c ∧ ∀ b, h' b ≠ none → h b ≠ none ∨ v.ownBlock = some b := by
  obtain ⟨cells, hw, r⟩ := o.own
  rcases hw.2 with ⟨rfl, hn⟩ | ⟨g, cap, cur, rfl, hb, hg, hc, hm, hcs, htake⟩
  · have hx : xs = [] := List.eq_nil_of_length_eq_zero hn
    subst hx
    exact ⟨h, none, 0, rfl, RowAt.nil _ _, FLe.refl h, hs, ⟨Nat.le_refl _, fun _ => rfl, by decide⟩, fun b hb => .inl hb⟩
  · have hle := FLe.add (o.free g rfl) (.cells cur T (0, 0))
    refine ⟨h.add g (.cells cur T (0, 0)), _, cap, rfl, ⟨hlen, fun _ => ⟨g, 0, rfl, fun i x hx => ?_⟩⟩, hle, hs.add hg, ⟨hc, (fun e => by cases e), by unfold maxLen at hm; omega⟩, fun b hb' => ?_⟩
    · obtain ⟨cs, hr, hcc⟩ := r.get hx
      refine ⟨cs, Enc.mono hle hr, fun j u hu => ?_⟩
      have h1 := hcc j u hu
      rw [← htake, List.getElem?_take] at h1
      rw [Nat.zero_add]
      refine FH.add_cell _ _ _ _ _ ?_
      split at h1
      · simpa using h1
      · cases h1
    · by_cases e : b = g
      · subst e; exact .inr rfl
      · rw [FH.add_other _ _ e] at hb'; exact .inl hb'
/-- A state is handed back. -/
def RetState (h : FH) (w : World) (t : State) (e : Ending) (w' : World) : Prop := ∃ cs h1, e = .returned (.agg cs.toArray) ∧ repState h1 cs t ∧ Ext h w h1 w'
theorem deed_rep {h : FH} {b off : Nat} {ds : List Deed} (r : RowAt h (some ⟨b, off, none⟩) ds) : True := trivial
set_option maxHeartbeats 8000000 in
set_option maxRecDepth 100000 in
theorem state_Apply (s : State) (cs : List Value) (ds : List Deed) (AD : Option Addr) (cD : Nat) (hfit : ∀ x ∈ s.inodes, fitI x) (hfitD : ∀ d ∈ ds, fitI d.inode) (hb1 : s.inodes.length + ds.length ≤ 900) (hb2 : s.bads.length + ds.length ≤ 900) (h : FH) (w : World) (hs : Sits h w) (r : repState h cs s) (rd : RowAt h AD ds) :
    Calls Try.prog 12 #[.agg cs.toArray, .slice AD ds.length cD] w fun e w' => RetState h w (applyS s ds) e w' := by
  obtain ⟨A1, c1, A2, c2, rfl, l1, r1, l2, r2⟩ := r
  have hld := rd.1
  have hmf : ∀ fn first cap w, (Instr.makeFunc fn first cap).run Try.prog w = .ok (.func fn first cap) w := fun _ _ _ _ => rfl
  have HFD := hid hfitD
  have K1 := hid (fun (h' : FH) w' hs' (l : FLe h h') => state_copied s.inodes A1 c1 (by omega) hfit h' w' hs' (r1.mono l))
  have K2 := hid (fun (h' : FH) w' hs' (l : FLe h h') => clone_Int s.bads A2 c2 (by omega) h' w' hs' (r2.mono l))
  have E1 := (Ext.refl hs).alloc (.cells #[.int .i64 s.next, .slice A1 s.inodes.length c1, .slice A2 s.bads.length c2] 31)
  have E2 := E1.alloc (.cells #[.int .i64 0, .slice none 0 0, .slice none 0 0] 31)
  have hS := box_alloc (heap_new w (.cells #[.int .i64 s.next, .slice A1 s.inodes.length c1, .slice A2 s.bads.length c2] 31)) (.cells #[.int .i64 0, .slice none 0 0, .slice none 0 0] 31)
  have hR := heap_new (w.alloc (.cells #[.int .i64 s.next, .slice A1 s.inodes.length c1, .slice A2 s.bads.length c2] 31)) (.cells #[.int .i64 0, .slice none 0 0, .slice none 0 0] 31)
  have nS := hid (hs.none (Nat.le_refl w.heap.size))
  have nR := hid (E1.sits.none (Nat.le_refl _))
  clear E1 hfit hfitD
  go_enter Try.func12, Try.ntmps12
  go_upto_region 1 with (fail)
  rw [show (w.alloc (.cells #[.int .i64 s.next, .slice A1 s.inodes.length c1, .slice A2 s.bads.length c2] 31)).heap.size = w.heap.size + 1 by simp] at hR nR
  have hW2 : ((w.alloc (.cells #[.int .i64 s.next, .slice A1 s.inodes.length c1, .slice A2 s.bads.length c2] 31)).alloc (.cells #[.int .i64 0, .slice none 0 0, .slice none 0 0] 31)).heap.size = w.heap.size + 2 := by simp
  obtain ⟨gS, hgS⟩ : ∃ gS, gS = w.heap.size := ⟨_, rfl⟩
  obtain ⟨gR, hgR⟩ : ∃ gR, gR = w.heap.size + 1 := ⟨_, rfl⟩
  obtain ⟨B, hB⟩ : ∃ B, B = w.heap.size + 2 := ⟨_, rfl⟩
  rw [← hgS] at hS nS
  rw [← hgR] at hR nR
  rw [← hB] at hW2
  rw [← hgR, ← hgS]
  with_reducible generalize (w.alloc (.cells #[.int .i64 s.next, .slice A1 s.inodes.length c1, .slice A2 s.bads.length c2] 31)).alloc (.cells #[.int .i64 0, .slice none 0 0, .slice none 0 0] 31) = W2 at E2 hS hR hW2 ⊢
  have hwS : w.heap.size ≤ gS := by omega
  have hwB : w.heap.size ≤ B := by omega
  have hwR : w.heap.size ≤ gR := by omega
  have hSR : gS ≠ gR := by omega
  have hSB : gS < B := by omega
  have hRB : gR < B := by omega
  clear hgS hgR hB
  have Ed := E2.drew
  have hdz : W2.drew.heap.size = B := hW2
  have y1 : W2.cell? ⟨gS, 1, none⟩ = some (.slice A1 s.inodes.length c1) := box_cell (j := 1) hS rfl
  have y2 : W2.cell? ⟨gS, 2, none⟩ = some (.slice A2 s.bads.length c2) := box_cell (j := 2) hS rfl
  go_cut [9] (fun s9 wx => ∃ h' vI vB, Hid (InApply h w gS gR B s h' wx vI vB))
  case first =>
    go_region_with (first
      | (go_at_call 35; refine (K1.out _ _ Ed.sits (FLe.refl h)).mono ?_; rintro e' w2 ⟨v1, h2, rfl, O1, F2⟩; obtain ⟨A3, c3, hv1, _⟩ := O1.slice; subst hv1; have hf2 := F2.row (show W2.drew.heap[gS]? = _ from hS); have hz2 := F2.row (show W2.drew.heap[gR]? = _ from hR); have x2 : w2.cell? ⟨gS, 2, none⟩ = some (.slice A2 s.bads.length c2) := box_cell (j := 2) hf2 rfl; have Ed2 := Ed.trans F2; have l2 := F2.le; have O1 := hid O1)
      | (go_at_call 36; refine (K2.out _ _ Ed2.sits l2).mono ?_; rintro e' w3 ⟨v2, rfl, O2, F3⟩; obtain ⟨A4, c4, hv2, _⟩ := O2.slice; subst hv2; have hf3 := F3.row hf2; have hz3 := F3.row hz2; have z1 := box_free (j := 1) hf3; have z2 := box_free (j := 2) hf3; have q2 := box_free (j := 2) (box_set (i := 1) hf3 (.slice A3 s.inodes.length c3)); have q1 := box_free (j := 1) (box_set (i := 2) hf3 (.slice A4 s.bads.length c4)); have p2 := box_cell (j := 2) (v := .slice A2 s.bads.length c2) (box_set (i := 1) hf3 (.slice A3 s.inodes.length c3)) rfl; have p1 := box_cell (j := 1) (v := .slice A1 s.inodes.length c1) hf3 rfl; have p3 := box_cell (j := 2) (v := .slice A2 s.bads.length c2) hf3 rfl; have O2 := hid O2))
    all_goals
      have lt0 : gS < W2.drew.heap.size := (Array.getElem?_eq_some_iff.1 hS).1
      have lt1 : gR < W2.drew.heap.size := (Array.getElem?_eq_some_iff.1 hR).1
      have lt2 : gS < w2.heap.size := (Array.getElem?_eq_some_iff.1 hf2).1
      have lt3 : gR < w2.heap.size := (Array.getElem?_eq_some_iff.1 hz2).1
      have g0 := F3.none (F2.none nS.out lt0) lt2
      have g1 := F3.none (F2.none nR.out lt1) lt3
      have B5 := box_set (i := 2) (box_set (i := 1) hf3 (.slice A3 s.inodes.length c3)) (.slice A4 s.bads.length c4)
      have Z5 := box_other (i := 2) (box_other (i := 1) hz3 (fun e => hSR e.symm) (.slice A3 s.inodes.length c3)) (fun e => hSR e.symm) (.slice A4 s.bads.length c4)
      have E5 := Ext.setCell (p := ⟨gS, 2, none⟩) (Ext.setCell (p := ⟨gS, 1, none⟩) (Ed2.trans F3) hwS g0 (.slice A3 s.inodes.length c3)) hwS g0 (.slice A4 s.bads.length c4)
      have OA := (O1.out.ext F3).rebase (base' := B) (by omega)
      have OB := O2.out.rebase (base' := B) (by have := F2.size; omega)
      have GA : w3.grownBy ((w3.setCell ⟨gS, 1, none⟩ (.slice A3 s.inodes.length c3)).setCell ⟨gS, 2, none⟩ (.slice A4 s.bads.length c4)) (some gS) := (grown_set1 w3 gS 1 (.slice A3 s.inodes.length c3)).trans (grown_set1 _ gS 2 (.slice A4 s.bads.length c4))
      have OA2 := OA.kept GA (.inr (own_ne OA hSB)) (FLe.refl _) OA.free
      have OB2 := OB.kept GA (.inr (own_ne OB hSB)) (FLe.refl _) OB.free
      go_wp2_with fail
      go_meet
      exact ⟨_, _, _, hid ⟨E5, B5, Z5, OA2, OB2, g0, g1, by have := F2.size; have := F3.size; have : B ≤ w3.heap.size := (by omega); simpa [World.setCell] using this⟩⟩
  case rest =>
    obtain ⟨h0, vI, vB, I0⟩ := hcut
    clear E2 Ed hS hR hW2 hdz y1 y2 K1 K2 nS nR
    go_wp2_with fail
    go_loopw [17] (fun i wr => ∃ (k : Nat) (h' : FH) (vI vB : Value), k ≤ ds.length ∧ i = .int .i64 k ∧ Hid (InApply h w gS gR B (applyS s (ds.take k)) h' wr vI vB)) (fun i _ => ds.length - (intOf i).toNat)
    case atStart => exact ⟨0, h0, vI, vB, Nat.zero_le _, rfl, I0⟩
    case round =>
      obtain ⟨k, h', vI', vB', hk, rfl, I⟩ := hrel
      by_cases hlt : k < ds.length
      · obtain ⟨d, hd⟩ : ∃ d, ds[k]? = some d := ⟨ds[k], by simp [hlt]⟩
        obtain ⟨b, off, A7, c7, A8, c8, rfl, d0, d1, d2, d3, d4, d5, d6, d7, d8, t0, t1, t2, t3, t4⟩ := (rd.mono I.out.ext.le).deed hd I.out.ext.sits
        have HFd := hid (HFD.out d (List.mem_of_getElem? hd))
        have HS := hid (applyS_snoc s hd)
        have hln := applyS_take_len s ds k hk
        have RD := hid (show repInode h' [.int .i64 d.inode.no, .int .i64 d.inode.kind, .int .i64 d.inode.links, .int .i64 d.inode.size, .string d.inode.target, .slice A7 d.inode.entries.length c7, .slice A8 d.inode.runs.length c8] d.inode from ⟨A7, c7, A8, c8, rfl, t0, t1, t2, t3, t4⟩)
        clear hd
        generalize applyS s (ds.take k) = t at I HS hln
        go_upto_region 5 with (fail)
        obtain ⟨h2, E3, hb3, le3, hh3⟩ := (Ext.refl I.out.ext.sits).boxF #[.int .i64 d.kind, .int .i64 d.no, .int .i64 d.inode.no, .int .i64 d.inode.kind, .int .i64 d.inode.links, .int .i64 d.inode.size, .string d.inode.target, .slice A7 d.inode.entries.length c7, .slice A8 d.inode.runs.length c8] 39
        have I1 := hid (I.out.more E3)
        have RD := hid (RD.out.mono le3)
        clear hh3 E3 le3
        generalize hgb : wr.heap.size = gb at *
        with_reducible generalize wr.alloc (.cells #[.int .i64 d.kind, .int .i64 d.no, .int .i64 d.inode.no, .int .i64 d.inode.kind, .int .i64 d.inode.links, .int .i64 d.inode.size, .string d.inode.target, .slice A7 d.inode.entries.length c7, .slice A8 d.inode.runs.length c8] 39) = W1 at I1 ⊢
        have m0 : W1.cell? ⟨gb, 0, none⟩ = some (.int .i64 d.kind) := Sits_at I1.out.ext.sits hb3 rfl
        have m1 : W1.cell? ⟨gb, 1, none⟩ = some (.int .i64 d.no) := Sits_at I1.out.ext.sits hb3 rfl
        have m2 : W1.cell? ⟨gb, 2, none⟩ = some (.int .i64 d.inode.no) := Sits_at I1.out.ext.sits hb3 rfl
        have m3 : W1.cell? ⟨gb, 3, none⟩ = some (.int .i64 d.inode.kind) := Sits_at I1.out.ext.sits hb3 rfl
        have m4 : W1.cell? ⟨gb, 4, none⟩ = some (.int .i64 d.inode.links) := Sits_at I1.out.ext.sits hb3 rfl
        have m5 : W1.cell? ⟨gb, 5, none⟩ = some (.int .i64 d.inode.size) := Sits_at I1.out.ext.sits hb3 rfl
        have m6 : W1.cell? ⟨gb, 6, none⟩ = some (.string d.inode.target) := Sits_at I1.out.ext.sits hb3 rfl
        have m7 : W1.cell? ⟨gb, 7, none⟩ = some (.slice A7 d.inode.entries.length c7) := Sits_at I1.out.ext.sits hb3 rfl
        have m8 : W1.cell? ⟨gb, 8, none⟩ = some (.slice A8 d.inode.runs.length c8) := Sits_at I1.out.ext.sits hb3 rfl
        have x0 : W1.cell? ⟨gS, 0, none⟩ = some (.int .i64 t.next) := box_cell (j := 0) I1.out.box rfl
        have x1 : W1.cell? ⟨gS, 1, none⟩ = some vI' := box_cell (j := 1) I1.out.box rfl
        have x2 : W1.cell? ⟨gS, 2, none⟩ = some vB' := box_cell (j := 2) I1.out.box rfl
        have f0 := box_free (j := 0) I1.out.box
        have f1 := box_free (j := 1) I1.out.box
        have f2 := box_free (j := 2) I1.out.box
        have KP := hid (state_put t.inodes d.inode _ HFd.out (by omega) h2 W1 I1.out.ext.sits B I1.out.big vI' I1.out.ino RD.out)
        have KD := hid (deleteFunc_Inode t.inodes d.no (by omega) h2 W1 I1.out.ext.sits B vI' I1.out.ino gb (FH.at hb3 rfl))
        have KB := hid (state_bad t.bads d.no (by omega) h2 W1 I1.out.ext.sits B I1.out.big vB' I1.out.bad)
        clear d0 d1 d2 d3 d4 d5 d6 d7 d8 I
        by_cases k1 : d.kind = 1
        · have b1 : (d.kind == 1) = true := by simpa using k1
          have HA := hid (show applyD t d = { t with next := d.no } by unfold applyD; rw [if_pos k1])
          clear k1
          go_wp2_with fail
          go_roundw
          case rel => exact ⟨k + 1, h2, vI', vB', by omega, by go_num, hid (by rw [HS.out, HA.out]; exact I1.out.setNext hwS hSR hSB _)⟩
          case measure => simp [intOf]; omega
        · have b1 : (d.kind == 1) = false := by simpa using k1
          by_cases k2 : d.kind = 2
          · have b2 : (d.kind == 2) = true := by simpa using k2
            have HA := hid (show applyD t d = { t with inodes := putI t.inodes d.inode } by unfold applyD; rw [if_neg k1, if_pos k2])
            clear k1 k2
            go_wp2_with (go_at_call 37; refine KP.out.mono ?_; rintro e w2 ⟨v', h3, rfl, O, X⟩; obtain ⟨A9, c9, hv9, _⟩ := O.slice; have bx := X.block I1.out.box (own_ne I1.out.ino hSB); subst hv9; have y1 : w2.cell? ⟨gS, 1, none⟩ = some vI' := box_cell (j := 1) bx rfl; have g1 := box_free (j := 1) bx; have O := hid O; have X := hid X; clear bx)
            go_roundw
            case rel => exact ⟨k + 1, h3, _, vB', by omega, by go_num, hid (by rw [HS.out, HA.out]; exact I1.out.setI hwS hwB hSR hSB hRB O.out X.out)⟩
            case measure => simp [intOf]; omega
          · have b2 : (d.kind == 2) = false := by simpa using k2
            by_cases k3 : d.kind = 3
            · have b3 : (d.kind == 3) = true := by simpa using k3
              have HA := hid (show applyD t d = { t with inodes := t.inodes.filter (neI d.no) } by unfold applyD; rw [if_neg k1, if_neg k2, if_pos k3])
              clear k1 k2 k3
              go_wp2_with (go_at_call 38; refine KD.out.mono ?_; rintro e w2 ⟨v', rfl, O, G⟩; have X := (OExt.of (Ext.refl I1.out.ext.sits) vI'.ownBlock).row G I1.out.ino.free; obtain ⟨A9, c9, hv9, _⟩ := O.slice; have bx := X.block I1.out.box (own_ne I1.out.ino hSB); subst hv9; have y1 : w2.cell? ⟨gS, 1, none⟩ = some vI' := box_cell (j := 1) bx rfl; have g1 := box_free (j := 1) bx; have O := hid O; have X := hid X; clear bx)
              go_roundw
              case rel => exact ⟨k + 1, h2, _, vB', by omega, by go_num, hid (by rw [HS.out, HA.out]; exact I1.out.setI hwS hwB hSR hSB hRB O.out X.out)⟩
              case measure => simp [intOf]; omega
            · have b3 : (d.kind == 3) = false := by simpa using k3
              by_cases k4 : d.kind = 4
              · have b4 : (d.kind == 4) = true := by simpa using k4
                have HA := hid (show applyD t d = { t with bads := badZ t.bads d.no } by unfold applyD; rw [if_neg k1, if_neg k2, if_neg k3, if_pos k4])
                clear k1 k2 k3 k4
                go_wp2_with (go_at_call 40; refine KB.out.mono ?_; rintro e w2 ⟨v', h3, rfl, O, X⟩; obtain ⟨A9, c9, hv9, _⟩ := O.slice; have bx := X.block I1.out.box (own_ne I1.out.bad hSB); subst hv9; have y1 : w2.cell? ⟨gS, 2, none⟩ = some vB' := box_cell (j := 2) bx rfl; have g1 := box_free (j := 2) bx; have O := hid O; have X := hid X; clear bx)
                go_roundw
                case rel => exact ⟨k + 1, h3, vI', _, by omega, by go_num, hid (by rw [HS.out, HA.out]; exact I1.out.setB hwS hwB hSR hSB hRB O.out X.out)⟩
                case measure => simp [intOf]; omega
              · have b4 : (d.kind == 4) = false := by simpa using k4
                have HA := hid (show applyD t d = t by unfold applyD; rw [if_neg k1, if_neg k2, if_neg k3, if_neg k4])
                clear k1 k2 k3 k4
                go_wp2_with fail
                go_roundw
                case rel => exact ⟨k + 1, h2, vI', vB', by omega, by go_num, hid (by rw [HS.out, HA.out]; exact I1.out)⟩
                case measure => simp [intOf]; omega
      · have HT := hid (show ds.take k = ds from List.take_of_length_le (by omega))
        have hln := applyS_take_len s ds k hk
        rw [HT.out] at I hln
        obtain ⟨t, ht⟩ : ∃ t, applyS s ds = t := ⟨_, rfl⟩
        rw [ht] at I hln
        have HT2 := hid ht
        clear ht
        obtain ⟨A9, c9, hv9, _⟩ := I.out.ino.slice
        obtain ⟨Ab, cb, hvb, _⟩ := I.out.bad.slice
        subst hv9 hvb
        obtain ⟨h2, B1, e1, q1, p1, le1, s1, m1, fr1⟩ := I.out.ino.stay2 I.out.ext.sits (by omega)
        obtain ⟨rfl, rfl⟩ : A9 = B1 ∧ c9 = e1 := by simpa using q1
        have OB : OwnL h2 wr B 3 (.slice Ab t.bads.length cb) t.bads := by
          obtain ⟨cc, a, b⟩ := I.out.bad.own
          refine ⟨⟨cc, a, b.mono le1⟩, fun g hg => ?_⟩
          cases e : h2 g with
          | none => rfl
          | some o =>
            rcases fr1 g (by rw [e]; simp) with h5 | h5
            · exact absurd (I.out.bad.free g hg) h5
            · exact absurd (hg.trans h5.symm) (by
                rcases own_apart I.out.bad I.out.ino (by decide) with h6 | h6
                · rw [h6] at hg; cases hg
                · exact h6)
        obtain ⟨h3, B2, e2, q2, p2, le2, s2, m2, fr2⟩ := OB.stay2 s1 (by omega)
        obtain ⟨rfl, rfl⟩ : Ab = B2 ∧ cb = e2 := by simpa using q2
        have EF : Ext h w h3 wr := ⟨I.out.ext.le.trans (le1.trans le2), s2, I.out.ext.below, fun b hb => by
          rcases fr2 b hb with h5 | h5
          · rcases fr1 b h5 with h6 | h6
            · exact I.out.ext.fresh b h6
            · exact .inr (Nat.le_trans hwB (I.out.ino.lt b h6).1)
          · exact .inr (Nat.le_trans hwB (I.out.bad.lt b h5).1)⟩
        have n3 : h3 gR = none := by
          cases e : h3 gR with
          | none => rfl
          | some o =>
            rcases fr2 gR (by rw [e]; simp) with h5 | h5
            · rcases fr1 gR h5 with h6 | h6
              · exact absurd I.out.nR h6
              · exact absurd h6 (own_ne I.out.ino hRB)
            · exact absurd h5 (own_ne I.out.bad hRB)
        have RF := hid (show repState h3 [.int .i64 t.next, .slice A9 t.inodes.length c9, .slice Ab t.bads.length cb] t from ⟨A9, c9, Ab, cb, rfl, m1, p1.mono le2, m2, p2⟩)
        have EF := hid EF
        have x0 : wr.cell? ⟨gS, 0, none⟩ = some (.int .i64 t.next) := box_cell (j := 0) I.out.box rfl
        have x1 : wr.cell? ⟨gS, 1, none⟩ = some (.slice A9 t.inodes.length c9) := box_cell (j := 1) I.out.box rfl
        have x2 : wr.cell? ⟨gS, 2, none⟩ = some (.slice Ab t.bads.length cb) := box_cell (j := 2) I.out.box rfl
        have z0 : wr.cell? ⟨gR, 0, none⟩ = some (.int .i64 0) := box_cell (j := 0) I.out.out rfl
        have z1 : wr.cell? ⟨gR, 1, none⟩ = some (.slice none 0 0) := box_cell (j := 1) I.out.out rfl
        have z2 : wr.cell? ⟨gR, 2, none⟩ = some (.slice none 0 0) := box_cell (j := 2) I.out.out rfl
        have f0 := box_free (j := 0) I.out.out
        have f1 := box_free (j := 1) I.out.out
        have f2 := box_free (j := 2) I.out.out
        clear q1 q2 le1 le2 s1 s2 fr1 fr2 p1 p2 m1 m2 OB
        go_wp2_with fail
        have R7 : ((((wr.setCell ⟨gR, 0, none⟩ (.int .i64 t.next)).setCell ⟨gR, 1, none⟩ (.slice A9 t.inodes.length c9)).setCell ⟨gR, 2, none⟩ (.slice Ab t.bads.length cb))).heap[gR]? = some (.cells #[.int .i64 t.next, .slice A9 t.inodes.length c9, .slice Ab t.bads.length cb] 31 (0, 0)) := setCells_row [.int .i64 t.next, .slice A9 t.inodes.length c9, .slice Ab t.bads.length cb] I.out.out rfl
        have E7 : Ext h w h3 (((wr.setCell ⟨gR, 0, none⟩ (.int .i64 t.next)).setCell ⟨gR, 1, none⟩ (.slice A9 t.inodes.length c9)).setCell ⟨gR, 2, none⟩ (.slice Ab t.bads.length cb)) := Ext.setCells (g := gR) hwR n3 [.int .i64 t.next, .slice A9 t.inodes.length c9, .slice Ab t.bads.length cb] 0 _ EF.out
        refine bodyPost_ret (v := .agg #[.int .i64 t.next, .slice A9 t.inodes.length c9, .slice Ab t.bads.length cb]) ?_ rfl ⟨_, h3, rfl, by rw [HT2.out]; exact RF.out, E7⟩
        exact results_cell_row (p := 4) (ty := 31) (by kernel_rfl) _ _ gR 31 #[.int .i64 t.next, .slice A9 t.inodes.length c9, .slice Ab t.bads.length cb] (0, 0) _ (by simp) R7 Try.underlying31 rfl (by kernel_rfl)
end Go.Proofs.Ytkglaofiencfdaa

namespace Go.Proofs.Ytkglaofiencfdaa
open Go.RowKit Go.Sort
set_option linter.unusedVariables false
def newS : State := ⟨2, [newI 1 2 ⟨#[]⟩], []⟩
def wideG : Geo := ⟨8, 2048, 12, 8, 32⟩
end Go.Proofs.Ytkglaofiencfdaa
