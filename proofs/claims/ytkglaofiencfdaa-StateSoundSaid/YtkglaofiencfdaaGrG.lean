import Derived.Test.YtkglaofiencfdaaGrQ
import Derived.Test.YtkglaofiencfdaaRSnA
namespace Go.Proofs.Ytkglaofiencfdaa
open Go.RowKit Go.Sort
set_option linter.unusedVariables false
/-! ### states that grew, with pages -/
def pageI (x : Inode) (k a : Int) : Inode := { x with runs := setR x.runs k a, size := max x.size ((k + 1) * 16) }
def pageX (s : State) (o : POp) : Inode := (findI s.inodes (resolveP s.inodes o.path true).1).getD zeroI
def pageS (pages : Int) (s : State) (nx : Int) (o : POp) : State × Int :=
  if (resolveP s.inodes o.path true).2 ≠ 0 ∨ (pageX s o).kind ≠ 1 ∨ pages ≤ nx then (s, nx)
  else (applyS s [putD (pageI (pageX s o) (modP o.n 8) nx)], nx + 1)
def growW (pages : Int) (os : List Int) (q : State × Int) (o : POp) : State × Int := if modP o.kind 8 = 7 then pageS pages q.1 q.2 o else (applyS q.1 (opD q.1 o os), q.2)
def growX (pages : Int) (os : List Int) (ops : List POp) (k : Nat) : State × Int := (ops.take k).foldl (growW pages os) (newS, 0)
theorem growX_succ (pages : Int) (os : List Int) {ops : List POp} {k : Nat} {o : POp} (h : ops[k]? = some o) : growX pages os ops (k + 1) = growW pages os (growX pages os ops k) o := by
  unfold growX
  rw [List.take_add_one, h, List.foldl_append]; rfl
/-! #### places -/
structure PlF (xs : List Inode) (nx : Int) : Prop where
  rt : ∀ x ∈ xs, rightB x.runs = true
  lt : ∀ x ∈ xs, ∀ p v, 0 ≤ p → p < 64 → getB x.runs p = some v → v < nx
  inj : ∀ x ∈ xs, ∀ y ∈ xs, ∀ p q v, 0 ≤ p → p < 64 → 0 ≤ q → q < 64 → getB x.runs p = some v → getB y.runs q = some v → x.no = y.no ∧ p = q
theorem getB_nil (p : Int) : getB [] p = none := rfl
theorem PlF.sub {xs ys : List Inode} {nx : Int} (P : PlF xs nx) (h : ∀ y ∈ ys, y.runs = [] ∨ ∃ x ∈ xs, x.no = y.no ∧ x.runs = y.runs) : PlF ys nx := by
  refine ⟨fun y hy => ?_, fun y hy p v p0 p1 hv => ?_, fun y hy z hz p q v p0 p1 q0 q1 hv hw => ?_⟩
  · rcases h y hy with e | ⟨x, hx, _, e⟩
    · rw [e]; rfl
    · rw [← e]; exact P.rt x hx
  · rcases h y hy with e | ⟨x, hx, _, e⟩
    · rw [e, getB_nil] at hv; cases hv
    · rw [← e] at hv; exact P.lt x hx p v p0 p1 hv
  · rcases h y hy with e | ⟨x, hx, e1, e⟩
    · rw [e, getB_nil] at hv; cases hv
    · rcases h z hz with f | ⟨x2, hx2, f1, f⟩
      · rw [f, getB_nil] at hw; cases hw
      · rw [← e] at hv
        rw [← f] at hw
        have := P.inj x hx x2 hx2 p q v p0 p1 q0 q1 hv hw
        exact ⟨by rw [← e1, ← f1]; exact this.1, this.2⟩
theorem PlF.page {xs : List Inode} {nx : Int} (P : PlF xs nx) (h0 : 0 ≤ nx) (h1 : nx ≤ 2147483647) {x : Inode} (hx : x ∈ xs) {k : Int} (k0 : 0 ≤ k) (k1 : k < 64) : PlF (putI xs (pageI x k nx)) (nx + 1) := by
  obtain ⟨r1, r2⟩ := set_right x.runs (P.rt x hx) k0 k1 h0 h1
  have hg : ∀ p, 0 ≤ p → p < 64 → getB (pageI x k nx).runs p = if p = k then some nx else getB x.runs p := r2
  have hno : (pageI x k nx).no = x.no := rfl
  refine ⟨fun y hy => ?_, fun y hy p v p0 p1 hv => ?_, fun y hy z hz p q v p0 p1 q0 q1 hv hw => ?_⟩
  · rcases mem_putI hy with rfl | hy
    · exact r1
    · exact P.rt y hy
  · rcases mem_putI hy with rfl | hy
    · rw [hg p p0 p1] at hv
      split at hv
      · cases hv; omega
      · have := P.lt x hx p v p0 p1 hv; omega
    · have := P.lt y hy p v p0 p1 hv; omega
  · rcases mem_putI hy with rfl | hy
    · rw [hg p p0 p1] at hv
      rcases mem_putI hz with rfl | hz
      · rw [hg q q0 q1] at hw
        refine ⟨rfl, ?_⟩
        split at hv
        · split at hw
          · omega
          · cases hv
            have := P.lt x hx q nx q0 q1 hw; omega
        · split at hw
          · cases hw
            have := P.lt x hx p nx p0 p1 hv; omega
          · exact (P.inj x hx x hx p q v p0 p1 q0 q1 hv hw).2
      · split at hv
        · cases hv
          have := P.lt z hz q nx q0 q1 hw; omega
        · exact P.inj x hx z hz p q v p0 p1 q0 q1 hv hw
    · rcases mem_putI hz with rfl | hz
      · rw [hg q q0 q1] at hw
        split at hw
        · cases hw
          have := P.lt y hy p nx p0 p1 hv; omega
        · exact P.inj y hy x hx p q v p0 p1 q0 q1 hv hw
      · exact P.inj y hy z hz p q v p0 p1 q0 q1 hv hw
theorem places_fm (us : List Run) (hR : rightB us = true) : ∀ k : Nat, k ≤ 64 → (placesP us k).filter (fun p => decide (0 ≤ p)) = (List.range k).filterMap fun (j : Nat) => getB us (j : Int)
  | 0, _ => rfl
  | k + 1, hk => by
    rw [placesP_snoc, List.filter_append, places_fm us hR k (by omega), List.range_succ, List.filterMap_append]
    congr 1
    cases hv : getB us (k : Int) with
    | none => simp [hv]
    | some v =>
      have := (getB_bound us (by omega) (by omega) hR hv).1
      simp [hv, this]
theorem runsP_fm {us : List Run} (hR : rightB us = true) : runsP us = (List.range 64).filterMap fun (j : Nat) => getB us (j : Int) := by
  rw [← refPages_eq hR, refPages, if_pos hR, places_fm us hR 64 (Nat.le_refl _)]
theorem mem_runsP {us : List Run} (hR : rightB us = true) {v : Int} (h : v ∈ runsP us) : ∃ p : Int, 0 ≤ p ∧ p < 64 ∧ getB us p = some v := by
  rw [runsP_fm hR] at h
  obtain ⟨j, hj, e⟩ := List.mem_filterMap.1 h
  have : j < 64 := by simpa using hj
  exact ⟨j, by omega, by omega, e⟩
theorem PlF.ok {xs : List Inode} {nx : Int} (P : PlF xs nx) (hr : riseI xs) {lim : Int} (hl : nx ≤ lim) : okPl lim (placesL xs) = true := by
  unfold okPl
  rw [Bool.and_eq_true, decide_eq_true_eq, List.all_eq_true]
  constructor
  · unfold placesL List.Nodup
    rw [List.pairwise_flatMap]
    constructor
    · intro x hx
      rw [runsP_fm (P.rt x hx), List.pairwise_filterMap]
      have hp : List.Pairwise (fun a b : Nat => a < 64 ∧ b < 64 ∧ a ≠ b) (List.range 64) := by
        rw [List.pairwise_iff_getElem]
        intro i j hi hj hij
        simp only [List.length_range] at hi hj
        simp only [List.getElem_range]
        omega
      refine hp.imp fun {a b} hab v hv w hw e => ?_
      subst e
      have := (P.inj x hx x hx a b v (by omega) (by omega) (by omega) (by omega) hv hw).2
      omega
    · have hr2 : List.Pairwise (fun a b : Inode => a.no < b.no) xs := List.pairwise_map.1 hr
      refine (List.Pairwise.and_mem.1 hr2).imp fun {x y} h v hv w hw e => ?_
      obtain ⟨hx, hy, hxy⟩ := h
      subst e
      obtain ⟨p, p0, p1, hp⟩ := mem_runsP (P.rt x hx) hv
      obtain ⟨q, q0, q1, hq⟩ := mem_runsP (P.rt y hy) hw
      have := (P.inj x hx y hy p q v p0 p1 q0 q1 hp hq).1
      omega
  · intro v hv
    obtain ⟨x, hx, hv⟩ := List.mem_flatMap.1 hv
    obtain ⟨p, p0, p1, hp⟩ := mem_runsP (P.rt x hx) hv
    have := P.lt x hx p v p0 p1 hp
    simp; omega
/-! #### a page keeps a state sound -/
theorem pageI_right {x : Inode} (h : rightI x = true) (hk : x.kind = 1) {k a : Int} (k0 : 0 ≤ k) (k1 : k < 8) (a0 : 0 ≤ a) (a1 : a ≤ 2147483647) : rightI (pageI x k a) = true := by
  unfold rightI at h ⊢
  rw [show (pageI x k a).kind = x.kind from rfl, show (pageI x k a).no = x.no from rfl, show (pageI x k a).links = x.links from rfl]
  rw [if_pos hk] at h ⊢
  simp only [Bool.and_eq_true] at h ⊢
  refine ⟨h.1, ?_⟩
  have h2 := h.2
  unfold fileB at h2 ⊢
  simp only [Bool.and_eq_true, decide_eq_true_eq] at h2 ⊢
  obtain ⟨⟨⟨⟨b1, b2⟩, b3⟩, b4⟩, b5⟩ := h2
  refine ⟨⟨⟨⟨?_, ?_⟩, (set_right x.runs b3 k0 (by omega) a0 a1).1⟩, b4⟩, b5⟩
  · show 0 ≤ max x.size ((k + 1) * 16)
    omega
  · show max x.size ((k + 1) * 16) ≤ 16384
    omega
theorem Snd.page {s : State} (S : Snd s) {n : Int} {x : Inode} (hx : findI s.inodes n = some x) (hk : x.kind = 1) {k a : Int} (k0 : 0 ≤ k) (k1 : k < 8) (a0 : 0 ≤ a) (a1 : a ≤ 2147483647) : Snd (applyS s [putD (pageI x k a)]) := by
  obtain ⟨hn, hlt, hright⟩ := S.ok.ok n x hx
  have hx' : findI s.inodes (pageI x k a).no = some x := by rw [show (pageI x k a).no = n from hn]; exact hx
  have hr' := pageI_right hright hk k0 k1 a0 a1
  rw [show applyS s [putD (pageI x k a)] = ⟨s.next, putI s.inodes (pageI x k a), s.bads⟩ from rfl]
  have F' : ∀ m, findI (putI s.inodes (pageI x k a)) m = if m = n then some (pageI x k a) else findI s.inodes m := fun m => by rw [find_put, show (pageI x k a).no = n from hn]
  have L' : ∀ m, leadsL (putI s.inodes (pageI x k a)) m = leadsL s.inodes m := fun m => by
    have := leads_put_old hx' m
    rw [show (pageI x k a).entries = x.entries from rfl] at this
    omega
  have hrise := putI_rise (x := pageI x k a) S.rise
  have hlen : (putI s.inodes (pageI x k a)).length = s.inodes.length := put_len hx'
  generalize putI s.inodes (pageI x k a) = ys at F' L' hrise hlen ⊢
  have hG : ∀ m, (findI ys m).isSome = (findI s.inodes m).isSome ∧ kindF (findI ys) m = kindF (findI s.inodes) m := fun m => by
    by_cases h : m = n
    · subst h
      unfold kindF
      rw [F', if_pos rfl, hx]
      exact ⟨rfl, rfl⟩
    · unfold kindF
      rw [F', if_neg h]
      exact ⟨rfl, rfl⟩
  have hE : ∀ m, ((findI ys m).getD zeroI).entries = ((findI s.inodes m).getD zeroI).entries := fun m => by
    by_cases h : m = n
    · subst h
      rw [F', if_pos rfl, hx]; rfl
    · rw [F', if_neg h]
  refine ⟨hrise, by show ys.length ≤ 200; rw [hlen]; exact S.len, ?_⟩
  refine S.ok.edit (fit_list hrise) (Int.le_refl _) (fun m => m = n) (fun m hm => by rw [F', if_neg hm]) (fun m _ _ => L' m) (fun m _ _ => (hG m).2) (fun m h1 h2 => by have := (hG m).1; rw [h2, h1] at this; cases this) (by rw [(hG 1).1]; exact S.root_some) ?_ ?_
  · rintro m y rfl hy
    rw [F', if_pos rfl] at hy
    cases hy
    refine ⟨hn, hlt, hr', fun e he => ?_, fun h2 => ?_, fun h2 => absurd (hk.symm.trans h2) (by decide), fun h2 => absurd (hk.symm.trans h2) (by decide)⟩
    · obtain ⟨q1, q2⟩ := S.ok.there m x hx e he
      exact ⟨q1, by rw [(hG e.no).1]; exact q2⟩
    · rw [L']; exact S.ok.lnk m x hx h2
  · intro m hm
    rw [(hG m).2] at hm
    refine reach_mono (fun d e he => ?_) (S.ok.reach m hm)
    obtain ⟨f, hf, h1, h2⟩ := he
    exact ⟨f, by rw [hE]; exact hf, h1, by rw [(hG e).2]; exact h2⟩
/-! #### all together -/
instance : RunQ (fun _ _ => True) := ⟨fun _ => trivial⟩
instance (xs : List Inode) : RunQ (fun n rs => rs = [] ∨ ∃ x ∈ xs, x.no = n ∧ x.runs = rs) := ⟨fun _ => .inl rfl⟩
structure GrI (n : Nat) (q : State × Int) : Prop where
  snd : Snd q.1
  mid : MidG (fun _ _ => True) n n q.1
  pl : PlF q.1.inodes q.2
  n0 : 0 ≤ q.2
  n1 : q.2 ≤ n
theorem MidG.runs {n k : Nat} {s : State} (m : MidG (fun _ _ => True) n k s) : MidG (fun n rs => rs = [] ∨ ∃ x ∈ s.inodes, x.no = n ∧ x.runs = rs) n k s :=
  ⟨m.n0, m.n1, m.len, m.bad, fun x hx => ⟨(m.ent x hx).1, (m.ent x hx).2.1, (m.ent x hx).2.2.1, .inr ⟨x, hx, rfl, rfl⟩⟩⟩
theorem GrI.op {n : Nat} {q : State × Int} (g : GrI n q) (hn : n ≤ 60) (o : POp) (os : List Int) : GrI (n + 1) (applyS q.1 (opD q.1 o os), q.2) := by
  have hl : q.1.inodes.length + 1 ≤ 200 := by have := g.mid.len; omega
  obtain ⟨a, b⟩ := opD_midQ g.mid o os
  obtain ⟨a2, b2⟩ := opD_midQ g.mid.runs o os
  exact ⟨g.snd.callOp hl o os, g.mid.all a b, g.pl.sub fun y hy => ((g.mid.runs.all a2 b2).ent y hy).2.2.2, g.n0, by have := g.n1; push_cast; omega⟩
theorem pageX_of {s : State} {o : POp} (h : (pageX s o).kind = 1) : findI s.inodes (resolveP s.inodes o.path true).1 = some (pageX s o) := by
  unfold pageX at h ⊢
  cases e : findI s.inodes (resolveP s.inodes o.path true).1 with
  | none => rw [e] at h; exact absurd h (by decide)
  | some x => rfl
theorem GrI.page {n : Nat} {q : State × Int} (g : GrI n q) (hn : n ≤ 60) (pages : Int) (o : POp) : GrI (n + 1) (pageS pages q.1 q.2 o) := by
  unfold pageS
  split
  · exact ⟨g.snd, g.mid.up (Nat.le_succ n) (Nat.le_succ n), g.pl, g.n0, by have := g.n1; push_cast; omega⟩
  · rename_i h
    have hk : (pageX q.1 o).kind = 1 := Classical.byContradiction fun e => h (.inr (.inl e))
    have hx := pageX_of hk
    obtain ⟨k0, k1⟩ := modP_range o.n (n := 8) (by decide)
    have h0 := g.n0
    have h1 := g.n1
    refine ⟨g.snd.page hx hk k0 k1 h0 (by omega), ?_, g.pl.page h0 (by omega) (mem_of_findI hx) k0 (by omega), by show 0 ≤ q.2 + 1; omega, by show q.2 + 1 ≤ _; push_cast; omega⟩
    have hf := g.mid.ent _ (mem_of_findI hx)
    refine g.mid.all (by simp) fun d hd => ?_
    obtain rfl : d = putD (pageI (pageX q.1 o) (modP o.n 8) q.2) := by simpa using hd
    refine okE_put ⟨Nat.le_succ_of_le hf.1, ?_, ?_, trivial⟩
    · have := hf.2.1
      show -((n + 1 : Nat) : Int) - 2 ≤ (pageX q.1 o).links
      push_cast; omega
    · have := hf.2.2.1
      show (pageX q.1 o).links ≤ ((n + 1 : Nat) : Int) + 2
      push_cast; omega
theorem GrI.step {n : Nat} {q : State × Int} (g : GrI n q) (hn : n ≤ 60) (pages : Int) (os : List Int) (o : POp) : GrI (n + 1) (growW pages os q o) := by
  unfold growW
  split
  · exact g.page hn pages o
  · exact g.op hn o os
theorem new_nil : ∀ x ∈ newS.inodes, x.runs = [] := fun x hx => by
  have : x = newI 1 2 ⟨#[]⟩ := by simpa [newS] using hx
  subst this; rfl
theorem PlF.nil {xs : List Inode} (h : ∀ x ∈ xs, x.runs = []) (nx : Int) : PlF xs nx := by
  refine ⟨fun x hx => by rw [h x hx]; rfl, fun x hx p v _ _ hv => ?_, fun x hx y hy p q v _ _ _ _ hv _ => ?_⟩
  · rw [h x hx, getB_nil] at hv; cases hv
  · rw [h x hx, getB_nil] at hv; cases hv
theorem GrI.new : GrI 0 (newS, 0) := ⟨newS_snd, newS_midSQ, PlF.nil new_nil 0, Int.le_refl _, Int.le_refl _⟩
theorem GrI.fold (pages : Int) (os : List Int) : ∀ (l : List POp) (n : Nat) (q : State × Int), GrI n q → n + l.length ≤ 60 → GrI (n + l.length) (l.foldl (growW pages os) q)
  | [], n, q, g, _ => g
  | o :: l, n, q, g, h => by
    simp only [List.length_cons] at h
    have := GrI.fold pages os l (n + 1) (growW pages os q o) (g.step (by omega) pages os o) (by omega)
    rw [List.length_cons, show n + (l.length + 1) = n + 1 + l.length by omega]
    exact this
theorem GrI.up {n m : Nat} {q : State × Int} (g : GrI n q) (h : n ≤ m) : GrI m q := ⟨g.snd, g.mid.up h h, g.pl, g.n0, by have := g.n1; omega⟩
theorem growX_ok (pages : Int) (os : List Int) (ops : List POp) (k : Nat) (hk : k ≤ 40) : GrI k (growX pages os ops k) := by
  have hl : (ops.take k).length ≤ k := by rw [List.length_take]; omega
  have := GrI.fold pages os (ops.take k) 0 _ GrI.new (by omega)
  rw [Nat.zero_add] at this
  exact this.up hl
end Go.Proofs.Ytkglaofiencfdaa
