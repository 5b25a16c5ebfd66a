/- The walk of the law PickTwins. -/
import Derived.Test.YtbnpccilccibkaaAwakeP
import Derived.Test.YtbnpccilccibkaaPickP
import Derived.Test.YtbnpccilccibkaaPadBase
import Derived.Test.YtbnpccilccibkaaMapOps
namespace Go.Proofs.Ytbnpccilccibkaa
open Go.RowKit Go.Sort
set_option linter.unusedVariables false
theorem rep_getD (n i : Nat) (b : Block) (h : i < n) : (List.replicate n b).getD i default = b := by
  rw [List.getD_eq_getElem?_getD, List.getElem?_replicate, if_pos h]; rfl
theorem best_rep (may : Int → Block → Bool) (bet : Block → Block → Bool) (b : Block) (hb : bet b b = false) (n : Nat) : ∀ m, m ≤ n → bestGo may bet (List.replicate n b) m = bestGo may (fun _ _ => false) (List.replicate n b) m
  | 0, _ => rfl
  | m + 1, hm => by
    have ih := best_rep may bet b hb n m (by omega)
    have hbd := bestGo_bd may (fun _ _ => false) (List.replicate n b) m
    simp only [bestGo, ih]
    rw [rep_getD n m b (by omega)]
    by_cases h0 : bestGo may (fun _ _ => false) (List.replicate n b) m < 0
    · simp [h0]
    · rw [rep_getD n _ b (by omega), hb]
theorem best_rep_first (may : Int → Block → Bool) (bet : Block → Block → Bool) (b : Block) (hb : bet b b = false) (n i : Nat) (hi : i < n) (hm : may i b = true) (hf : ∀ j : Nat, j < i → may j b = false) : bestGo may bet (List.replicate n b) n = i := by
  rw [best_rep may bet b hb n n (Nat.le_refl _)]
  exact best_first may _ n (by simp) i hi (by rw [rep_getD n i b hi]; exact hm) (fun j hj => by rw [rep_getD n j b (by omega)]; exact hf j hj)
theorem best_rep_none (may : Int → Block → Bool) (bet : Block → Block → Bool) (b : Block) (n : Nat) (hf : ∀ j : Nat, j < n → may j b = false) : bestGo may bet (List.replicate n b) n = -1 :=
  best_none may bet _ n (fun j hj => by rw [rep_getD n j b hj]; exact hf j hj)
theorem cntFree_rep (n : Nat) (b : Block) : cntFree (List.replicate n b) = if freeB b = true then n else 0 := by
  unfold cntFree
  by_cases h : freeB b = true
  · rw [if_pos h, List.filter_eq_self.2 (by intro x hx; rw [List.eq_of_mem_replicate hx]; exact h)]
    simp
  · rw [if_neg h, List.filter_eq_nil_iff.2 (by intro x hx; rw [List.eq_of_mem_replicate hx]; exact h)]
    rfl
theorem own_zero {w : World} {base g n m : Nat} {e : TypeId} {size : Nat} {cells : List Value} (h : w.ownsRow base e size (.slice (some ⟨g, 0, none⟩) m n) m cells) : w.ownsRow base e size (.slice (some ⟨g, 0, none⟩) 0 n) 0 [] := by
  rcases h.2 with ⟨he, _⟩ | ⟨g', cap, cur, he, hb, hg, hc, hm, hcs, ht⟩
  · cases he
  · cases he
    exact ⟨by simp, .inr ⟨g, n, cur, rfl, hb, hg, Nat.zero_le _, hm, hcs, by simp⟩⟩
def pinsTo (m : Nat) : List Int := (List.range m).map fun (i : Nat) => (i : Int)
theorem pinsTo_snoc (m : Nat) : pinsTo (m + 1) = pinsTo m ++ [(m : Int)] := by unfold pinsTo; rw [List.range_succ, List.map_append]; rfl
theorem pinsTo_has (m : Nat) (j : Nat) : (pinsTo m).contains (j : Int) = decide (j < m) := by
  rw [Bool.eq_iff_iff]
  simp [pinsTo]
  constructor
  · rintro ⟨a, h1, h2⟩; omega
  · intro h; exact ⟨j, h, rfl⟩
theorem check_bool (w : World) (em a : Bool) : (Instr.checkKey em 10000 4 (.bool a)).run Try.prog w = .ok () w := by kernel_rfl
theorem find_bool0 (w : World) : (Instr.findKey 4 (.bool true) []).run Try.prog w = .ok none w := by kernel_rfl
theorem find_bool1 (w : World) (v : Value) : (Instr.findKey 4 (.bool true) [⟨.bool true, v, 0⟩]).run Try.prog w = .ok (some (0, v)) w := by kernel_rfl
theorem find_bool2 (w : World) (v : Value) : (Instr.findKey 4 (.bool false) [⟨.bool true, v, 0⟩]).run Try.prog w = .ok none w := by kernel_rfl
theorem twins_put (w : World) (b : Nat) (n : Int) (h : w.heap[b]? = some (.map #[] 0)) :
    (Instr.mapUpdate 32 (.map (some b)) (.bool true) (.int .i64 n)).run Try.prog w = .ok () (Go.ChangeMaps.setBlock w b (.map #[⟨.bool true, .int .i64 n, 0⟩] 1)) := by
  simp [Instr.mapUpdate, run_underlying Try.underlying32, MapKept.run_getObj_map h, check_bool, find_bool0, MapKept.run_setObj_map _ h, Result.andThen, Go.ChangeMaps.setBlock]
theorem twins_look (w : World) (b : Nat) (n : Int) (q : Bool) (h : w.heap[b]? = some (.map #[⟨.bool true, .int .i64 n, 0⟩] 1)) :
    (Instr.lookup 32 (.map (some b)) (.bool q) false).run Try.prog w = .ok (.int .i64 (if q = true then n else 0)) w := by
  cases q
  · simp [Instr.lookup, run_underlying Try.underlying32, MapKept.run_getObj_map h, check_bool, find_bool2, Result.andThen]
  · simp [Instr.lookup, run_underlying Try.underlying32, MapKept.run_getObj_map h, check_bool, find_bool1, Result.andThen]
theorem twins_kept {W w' wX : World} {h3 : FH} {es es' : Array MapEntry} {c c' : Nat} (E : Ext (fhOf W) W h3 w') (hm : w'.heap[wX.heap.size]? = some (.map es c)) (EX : Ext (fhOf W) W h3 wX) : Ext (fhOf W) W h3 (Go.ChangeMaps.setBlock w' wX.heap.size (.map es' c')) :=
  E.grown (grownBy_setBlock w' wX.heap.size _ hm) (fun k hk => by cases hk; exact ⟨EX.size, EX.sits.none (Nat.le_refl _)⟩)
theorem twins_new (w : World) (o : Obj) : (w.alloc o).heap[w.heap.size]? = some o := heap_alloc_new w o
theorem twins_set (w : World) (b : Nat) (o : Obj) (h : b < w.heap.size) : (Go.ChangeMaps.setBlock w b o).heap[b]? = some o := by
  unfold Go.ChangeMaps.setBlock
  simp [h]
theorem twins_put1 (w : World) (n : Int) : (Instr.mapUpdate 32 (.map (some w.heap.size)) (.bool true) (.int .i64 n)).run Try.prog (w.alloc (.map #[] 0)) = .ok () (Go.ChangeMaps.setBlock (w.alloc (.map #[] 0)) w.heap.size (.map #[⟨.bool true, .int .i64 n, 0⟩] 1)) := twins_put _ _ n (heap_alloc_new w _)
theorem twins_at (w : World) (n : Int) : (Go.ChangeMaps.setBlock (w.alloc (.map #[] 0)) w.heap.size (.map #[⟨.bool true, .int .i64 n, 0⟩] 1)).heap[w.heap.size]? = some (.map #[⟨.bool true, .int .i64 n, 0⟩] 1) := twins_set _ _ _ (by simp)
theorem twins_look1 (w : World) (n : Int) (q : Bool) : (Instr.lookup 32 (.map (some w.heap.size)) (.bool q) false).run Try.prog (Go.ChangeMaps.setBlock (w.alloc (.map #[] 0)) w.heap.size (.map #[⟨.bool true, .int .i64 n, 0⟩] 1)) = .ok (.int .i64 (if q = true then n else 0)) (Go.ChangeMaps.setBlock (w.alloc (.map #[] 0)) w.heap.size (.map #[⟨.bool true, .int .i64 n, 0⟩] 1)) := twins_look _ _ n q (twins_at w n)
theorem twins_block {h h1 : FH} {w w1 : World} {b : Nat} {o : Obj} (E : Ext h w h1 w1) (hb : w.heap[b]? = some o) : w1.heap[b]? = some o := by
  rw [E.below.block b (Array.getElem?_eq_some_iff.1 hb).1]; exact hb
set_option maxHeartbeats 8000000 in
set_option maxRecDepth 100000 in
theorem PickTwins_walk (n at_ : Int) (cs : List Value) (b : Block) (W : World) (hr : repBlock (fhOf W) cs b) :
    Calls Try.prog 3 #[.int .i64 n, .int .i64 at_, .agg cs.toArray] W fun e w' => e = .returned (.bool true) ∧ Ext (fhOf W) W (fhOf W) w' := by
  have hs := Sits.all W
  have hr : cs = [.int .i64 b.prog, .int .i64 b.live, .int .i64 b.era, .bool b.bad] := hr
  subst hr
  have Hn := hs.none (g := W.heap.size) (Nat.le_refl _)
  obtain ⟨b', hb'⟩ : ∃ b' : Block, b' = ⟨b.prog, b.live, b.era, false⟩ := ⟨_, rfl⟩
  obtain ⟨h1, hh1⟩ : ∃ h1, h1 = (fhOf W).add W.heap.size (.cells #[.int .i64 b.prog, .int .i64 b.live, .int .i64 b.era, .bool false] 23) := ⟨_, rfl⟩
  have E0 : Ext (fhOf W) W h1 (W.alloc (.cells #[.int .i64 b.prog, .int .i64 b.live, .int .i64 b.era, .bool false] 23)) := by rw [hh1]; exact ((Ext.refl hs).alloc _).add (heap_new _ _) Hn (Nat.le_refl _)
  have b0 : h1.cell ⟨W.heap.size, 0, none⟩ = some (.int .i64 b.prog) := by rw [hh1]; exact FH.add_cell _ _ _ _ _ rfl
  have b1 : h1.cell ⟨W.heap.size, 1, none⟩ = some (.int .i64 b.live) := by rw [hh1]; exact FH.add_cell _ _ _ _ _ rfl
  have b2 : h1.cell ⟨W.heap.size, 2, none⟩ = some (.int .i64 b.era) := by rw [hh1]; exact FH.add_cell _ _ _ _ _ rfl
  have b3 : h1.cell ⟨W.heap.size, 3, none⟩ = some (.bool false) := by rw [hh1]; exact FH.add_cell _ _ _ _ _ rfl
  have HF := hid ((E0.sits).none (g := (W.alloc (.cells #[.int .i64 b.prog, .int .i64 b.live, .int .i64 b.era, .bool false] 23)).heap.size) (Nat.le_refl _))
  have HSZ := hid (show (W.alloc (.cells #[.int .i64 b.prog, .int .i64 b.live, .int .i64 b.era, .bool false] 23)).heap.size = W.heap.size + 1 by simp)
  rw [HSZ.out] at HF
  have HB' := hid hb'
  clear hh1 Hn hb'
  obtain ⟨i, hi, hz0, hz1, hz2⟩ := info_parts (P := Try.prog) (e := 23) (z := .agg #[.int .i64 0, .int .i64 0, .int .i64 0, .bool false]) (size := Enc.sz Block) (bytes := 32) (by kernel_rfl)
  have HI := hid hi
  clear hi
  have H64 := hid (fun n => wrap_u64_nonneg n)
  go_enter Try.func3, Try.ntmps3
  go_upto_region 1 with (fail)
  go_cut [0] (fun s wx => ∃ nn : Nat, s = .int .i64 nn ∧ 1 ≤ nn ∧ nn ≤ 30 ∧ wx = W.alloc (.cells #[.int .i64 b.prog, .int .i64 b.live, .int .i64 b.era, .bool b.bad] 23))
  case first =>
    have h1 := wrap_u64_nonneg n
    have h2 : (IntKind.u64.wrap n).tmod 30 = IntKind.u64.wrap n % 30 := Int.tmod_eq_emod_of_nonneg h1
    obtain ⟨q, hq, hq9⟩ : ∃ q : Nat, (IntKind.u64.wrap n).tmod 30 = q ∧ q < 30 := by
      rw [h2]
      exact ⟨(IntKind.u64.wrap n % 30).toNat, by omega, by omega⟩
    clear h1 h2
    go_wp2
    go_meet
    exact ⟨q + 1, by go_num, by omega, by omega, rfl⟩
  case rest =>
    obtain ⟨nn, rfl, hn1, hn2, rfl⟩ := hcut
    have hwn : IntKind.u64.wrap (nn : Int) = nn := by rw [IntKind.wrap_u64]; omega
    have hnz : (nn : Int) ≠ 0 := by omega
    go_upto_region 2 with (fail)
    go_cut [1] (fun s wx => ∃ m : Nat, s = .int .i64 m ∧ m < nn ∧ wx = W.alloc (.cells #[.int .i64 b.prog, .int .i64 b.live, .int .i64 b.era, .bool b.bad] 23))
    case first =>
      have h1 := wrap_u64_nonneg at_
      have h2 : (IntKind.u64.wrap at_).tmod nn = IntKind.u64.wrap at_ % nn := Int.tmod_eq_emod_of_nonneg h1
      obtain ⟨q, hq, hq9⟩ : ∃ q : Nat, (IntKind.u64.wrap at_).tmod nn = q ∧ q < nn := by
        rw [h2]
        have g1 := Int.emod_nonneg (IntKind.u64.wrap at_) hnz
        have g2 := Int.emod_lt_of_pos (IntKind.u64.wrap at_) (show (0 : Int) < nn by omega)
        exact ⟨(IntKind.u64.wrap at_ % nn).toNat, by omega, by omega⟩
      clear h1 h2
      go_wp2
      go_meet
      exact ⟨q, by go_num, hq9, rfl⟩
    case rest =>
      obtain ⟨m, rfl, hm, rfl⟩ := hcut
      clear hwn hnz
      go_wp2_with (at_make; refine wpList_make_full _ rfl _ _ 25 rfl W.heap.size 23 i _ _ Try.underlying25 HI.out hz0 hz1 _ _ _ _ nn rfl rfl rfl rfl (by rw [hz2]; omega) (by unfold maxLen; omega) (by simp) ?_)
      intro w1 O1 hg1
      have E1 := E0.grown hg1 (fun k hk => by cases hk)
      have O2 : OwnL h1 w1 W.heap.size 23 (.slice (some ⟨W.heap.size + 1, 0, none⟩) 0 nn) ([] : List Block) := ⟨⟨[], own_zero (by simpa using O1), rfl⟩, fun g hg => by simp [Value.ownBlock] at hg; subst hg; exact HF.out⟩
      clear O1 hg1 E0
      go_wp2_with fail
      go_loopw [8, 31] (fun s8 i wr => ∃ k : Nat, k ≤ nn ∧ i = .int .i64 k ∧ OwnL h1 wr W.heap.size 23 (.slice (some ⟨W.heap.size + 1, 0, none⟩) k nn) (List.replicate k b') ∧ Ext (fhOf W) W h1 wr) (fun _ i _ => nn - (intOf i).toNat)
      case atStart => exact ⟨0, Nat.zero_le _, rfl, O2, E1⟩
      case round =>
        obtain ⟨k, hk, rfl, O, E⟩ := hrel
        by_cases hlt : k < nn
        · have hlen : (List.replicate k b').length = k := by simp
          have P := O.push (y := b') (cs := [.int .i64 b.prog, .int .i64 b.live, .int .i64 b.era, .bool false]) (by rw [HB'.out]; exact (rfl : _ = _)) (by omega)
          rw [hlen] at P
          obtain ⟨O4, T4⟩ := P
          have E4 := Ext.setCells (by omega) HF.out [.int .i64 b.prog, .int .i64 b.live, .int .i64 b.era, .bool false] (k * Enc.sz Block) _ E
          change OwnL _ (wr.setCells _ (k * 4) _) _ _ _ _ at O4
          change wr.there _ (k * 4) 4 at T4
          change Ext _ _ _ (wr.setCells _ (k * 4) _) at E4
          have z0 := E.sits.cell b0
          have z1 := E.sits.cell b1
          have z2 := E.sits.cell b2
          have z3 := E.sits.cell b3
          obtain ⟨u0, hu0⟩ := Option.isSome_iff_exists.1 (T4 0 (by decide)).1
          have hf0 := (T4 0 (by decide)).2
          obtain ⟨u1, hu1⟩ := Option.isSome_iff_exists.1 (T4 1 (by decide)).1
          have hf1 := (T4 1 (by decide)).2
          obtain ⟨u2, hu2⟩ := Option.isSome_iff_exists.1 (T4 2 (by decide)).1
          have hf2 := (T4 2 (by decide)).2
          obtain ⟨u3, hu3⟩ := Option.isSome_iff_exists.1 (T4 3 (by decide)).1
          have hf3 := (T4 3 (by decide)).2
          have hu0 : wr.cell? ⟨W.heap.size + 1, k * 4, none⟩ = some u0 := hu0
          have hf0 : wr.frozen? ⟨W.heap.size + 1, k * 4, none⟩ = false := hf0
          rw [← List.replicate_succ'] at O4
          have O5 := hid O4
          clear hlen O O4 T4
          go_wp2_with fail
          go_roundw
          case rel => exact ⟨k + 1, by omega, by go_num, O5.out, E4⟩
          case measure => simp [intOf]; omega
        · obtain rfl : k = nn := by omega
          have hlen : (List.replicate k b').length = k := by simp
          obtain ⟨h2, A1, c1, hv, r1, l1, E2⟩ := O.stay E (Nat.le_refl _) (by rw [hlen]; omega)
          rw [hlen] at hv
          obtain ⟨rfl, rfl⟩ : A1 = some ⟨W.heap.size + 1, 0, none⟩ ∧ c1 = k := by simpa using hv.symm
          clear hv O E E1 O2
          have z0 := E2.sits.cell (l1.cell b0)
          go_wp2_with fail
          go_loopw [9, 10] (fun s9 i wr => ∃ j : Nat, j ≤ m ∧ i = .int .i64 j ∧ OwnL h2 wr W.heap.size 3 s9 (pinsTo j) ∧ Ext (fhOf W) W h2 wr) (fun _ i _ => m - (intOf i).toNat)
          case atStart => exact ⟨0, Nat.zero_le _, rfl, OwnL.nil _ _ _ _, E2⟩
          case round =>
            obtain ⟨j, hj, rfl, O, E⟩ := hrel
            by_cases hlt2 : j < m
            · have hl2 : (pinsTo j).length = j := by simp [pinsTo]
              go_wp2_with (at_builtin; refine wpList_append1 rfl _ _ 26 rfl W.heap.size 3 8 ty_Int _ _ rfl O E.sits [.int .i64 j] (j : Int) _ rfl rfl (by omega) (by decide) E.size ?_)
              intro v1 w2 O3 hg1 _
              have E3 := E.grown hg1 (fun k hk => ⟨(O.lt k hk).1, O.free k hk⟩)
              rw [← pinsTo_snoc] at O3
              have O5 := hid O3
              clear O3 hg1
              go_wp2_with fail
              go_roundw
              case rel => exact ⟨j + 1, by omega, by go_num, O5.out, E3⟩
              case measure => simp [intOf]; omega
            · obtain rfl : j = m := by omega
              have hl2 : (pinsTo j).length = j := by simp [pinsTo]
              obtain ⟨h3, A3, c3, hv3, r3, l3, E3⟩ := O.stay E (Nat.le_refl _) (by rw [hl2]; omega)
              rw [hl2] at hv3
              subst hv3
              have r2 := r1.mono l3
              have y0 := l3.cell (l1.cell b0)
              have y1 := l3.cell (l1.cell b1)
              have y2 := l3.cell (l1.cell b2)
              have hfb : freeB b' = (b.prog == 0) := by rw [HB'.out]; simp [freeB]
              have hvb : ∀ q : Nat, vicB (pinsTo j) q b' = (decide (b.live < b.prog) && !(decide (q < j))) := fun q => by rw [HB'.out]; unfold vicB; rw [pinsTo_has]; simp
              have k1 := fun (w : World) (hs : Sits h3 w) => pick_Fresh (List.replicate c1 b') _ c1 h3 w hs r2
              have k2 := fun (w : World) (hs : Sits h3 w) => pick_Victim (List.replicate c1 b') _ c1 (pinsTo j) A3 c3 h3 w hs r2 r3
              have k3 := fun (w : World) (hs : Sits h3 w) => pick_Free (List.replicate c1 b') _ c1 h3 w hs r2
              rw [cntFree_rep] at k3
              simp only [List.length_replicate] at k1 k2 k3
              rw [hl2] at k2
              have hyy : younger b' b' = false := by simp [younger]
              have hbb : bestV b' b' = false := by simp [bestV, younger]
              clear O E E2 r1 r3 hlen
              by_cases hp : b.prog = 0
              · by_cases hv : b.live < b.prog
                · skip
                  have hp1 : (b.prog == 0) = true := by simpa using hp
                  have e1 := best_rep_first (fun _ => freeB) younger b' hyy c1 0 (by omega) (by rw [hfb]; exact hp1) (fun j hj => by omega)
                  rw [if_pos (by rw [hfb]; exact hp1)] at k3
                  have hv1 : decide (b.live < b.prog) = true := by simpa using hv
                  have e2 := best_rep_first (vicB (pinsTo j)) bestV b' hbb c1 j (by omega) (by rw [hvb, hv1]; simp) (fun q hq => by rw [hvb, hv1]; simp [hq])
                  rw [e1] at k1
                  rw [e2] at k2
                  have K1 := hid k1
                  have K2 := hid k2
                  have K3 := hid k3
                  clear k1 k2 k3 e1 e2 hfb hvb hyy hbb hp hv
                  go_wp2_with fail
                  refine (K1.out _ E3.sits).mono ?_
                  rintro e w4 ⟨rfl, E4⟩
                  have E5 := E3.trans E4
                  clear E3 E4
                  go_wp2_with fail
                  refine (K2.out _ E5.sits).mono ?_
                  rintro e w5 ⟨rfl, E6⟩
                  have E7 := E5.trans E6
                  clear E5 E6
                  go_upto_region 17 with (fail)
                  have hc0 : ∀ w' : World, Ext (fhOf W) W h3 w' → w'.cell? ⟨W.heap.size, 0, none⟩ = some (.int .i64 b.prog) := fun w' E => E.sits.cell y0
                  have hc1 : ∀ w' : World, Ext (fhOf W) W h3 w' → w'.cell? ⟨W.heap.size, 1, none⟩ = some (.int .i64 b.live) := fun w' E => E.sits.cell y1
                  have hput := fun w => twins_put1 w c1
                  have hlook := fun w q => twins_look1 w c1 q
                  have hmm := @run_makeMap Try.prog
                  have E8 := E7.drew
                  go_region_held3 (fun w' => Ext (fhOf W) W h3 w') (first | assumption | exact Ext.alloc (by assumption) _ | exact twins_kept (by assumption) (by first | assumption | exact twins_new _ _) (by assumption)) (first | (go_at_call 8; refine (law19_awake h3 _ (Ext.sits (by assumption))).mono ?_; rintro e wf ⟨rfl, Ef⟩; have Eg := Ext.trans (h := fhOf W) (w := W) (h1 := h3) (by assumption) Ef; clear Ef) | (go_at_call 9; refine (K3.out _ (Ext.sits (by assumption))).mono ?_; rintro e wf ⟨rfl, Ef⟩; have Eg := Ext.trans (h := fhOf W) (w := W) (h1 := h3) (by assumption) Ef; first | (have hm := twins_block Ef (twins_new _ (.map #[] 0)); have hput2 := twins_put _ _ c1 hm; have hlook2 := fun q => twins_look _ _ c1 q (twins_set _ _ (.map #[⟨.bool true, .int .i64 c1, 0⟩] 1) (Array.getElem?_eq_some_iff.1 hm).1)) | (have hm := twins_block Ef (twins_at _ c1); have hlook2 := fun q => twins_look _ _ c1 q hm) | skip; clear Ef))
                  all_goals (go_wp2_with fail; go_ret; exact ⟨rfl, Ext.back (h1 := h3) (by assumption)⟩)
                · skip
                  have hp1 : (b.prog == 0) = true := by simpa using hp
                  have e1 := best_rep_first (fun _ => freeB) younger b' hyy c1 0 (by omega) (by rw [hfb]; exact hp1) (fun j hj => by omega)
                  rw [if_pos (by rw [hfb]; exact hp1)] at k3
                  have hv1 : decide (b.live < b.prog) = false := by simpa using hv
                  have e2 := best_rep_none (vicB (pinsTo j)) bestV b' c1 (fun q hq => by rw [hvb, hv1]; rfl)
                  rw [e1] at k1
                  rw [e2] at k2
                  have K1 := hid k1
                  have K2 := hid k2
                  have K3 := hid k3
                  clear k1 k2 k3 e1 e2 hfb hvb hyy hbb hp hv
                  go_wp2_with fail
                  refine (K1.out _ E3.sits).mono ?_
                  rintro e w4 ⟨rfl, E4⟩
                  have E5 := E3.trans E4
                  clear E3 E4
                  go_wp2_with fail
                  refine (K2.out _ E5.sits).mono ?_
                  rintro e w5 ⟨rfl, E6⟩
                  have E7 := E5.trans E6
                  clear E5 E6
                  go_upto_region 17 with (fail)
                  have hc0 : ∀ w' : World, Ext (fhOf W) W h3 w' → w'.cell? ⟨W.heap.size, 0, none⟩ = some (.int .i64 b.prog) := fun w' E => E.sits.cell y0
                  have hc1 : ∀ w' : World, Ext (fhOf W) W h3 w' → w'.cell? ⟨W.heap.size, 1, none⟩ = some (.int .i64 b.live) := fun w' E => E.sits.cell y1
                  have hput := fun w => twins_put1 w c1
                  have hlook := fun w q => twins_look1 w c1 q
                  have hmm := @run_makeMap Try.prog
                  have E8 := E7.drew
                  first | go_region_held (fun w' => Ext (fhOf W) W h3 w') (first | assumption | exact Ext.alloc (by assumption) _ | exact twins_kept (by assumption) (by first | assumption | exact twins_new _ _) (by assumption)) (first | (go_at_call 8; refine (law19_awake h3 _ (Ext.sits (by assumption))).mono ?_; rintro e wf ⟨rfl, Ef⟩; have Eg := Ext.trans (h := fhOf W) (w := W) (h1 := h3) (by assumption) Ef; clear Ef) | (go_at_call 9; refine (K3.out _ (Ext.sits (by assumption))).mono ?_; rintro e wf ⟨rfl, Ef⟩; have Eg := Ext.trans (h := fhOf W) (w := W) (h1 := h3) (by assumption) Ef; first | (have hm := twins_block Ef (twins_new _ (.map #[] 0)); have hput2 := twins_put _ _ c1 hm; have hlook2 := fun q => twins_look _ _ c1 q (twins_set _ _ (.map #[⟨.bool true, .int .i64 c1, 0⟩] 1) (Array.getElem?_eq_some_iff.1 hm).1)) | (have hm := twins_block Ef (twins_at _ c1); have hlook2 := fun q => twins_look _ _ c1 q hm) | skip; clear Ef)) | fail
                  all_goals (go_wp2_with fail; go_ret; exact ⟨rfl, Ext.back (h1 := h3) (by assumption)⟩)
              · by_cases hv : b.live < b.prog
                · skip
                  have hp1 : (b.prog == 0) = false := by simpa using hp
                  have e1 := best_rep_none (fun _ => freeB) younger b' c1 (fun j hj => by rw [hfb]; exact hp1)
                  rw [if_neg (by rw [hfb, hp1]; simp)] at k3
                  have hv1 : decide (b.live < b.prog) = true := by simpa using hv
                  have e2 := best_rep_first (vicB (pinsTo j)) bestV b' hbb c1 j (by omega) (by rw [hvb, hv1]; simp) (fun q hq => by rw [hvb, hv1]; simp [hq])
                  rw [e1] at k1
                  rw [e2] at k2
                  have K1 := hid k1
                  have K2 := hid k2
                  have K3 := hid k3
                  clear k1 k2 k3 e1 e2 hfb hvb hyy hbb hp hv
                  go_wp2_with fail
                  refine (K1.out _ E3.sits).mono ?_
                  rintro e w4 ⟨rfl, E4⟩
                  have E5 := E3.trans E4
                  clear E3 E4
                  go_wp2_with fail
                  refine (K2.out _ E5.sits).mono ?_
                  rintro e w5 ⟨rfl, E6⟩
                  have E7 := E5.trans E6
                  clear E5 E6
                  go_upto_region 17 with (fail)
                  have hc0 : ∀ w' : World, Ext (fhOf W) W h3 w' → w'.cell? ⟨W.heap.size, 0, none⟩ = some (.int .i64 b.prog) := fun w' E => E.sits.cell y0
                  have hc1 : ∀ w' : World, Ext (fhOf W) W h3 w' → w'.cell? ⟨W.heap.size, 1, none⟩ = some (.int .i64 b.live) := fun w' E => E.sits.cell y1
                  have hput := fun w => twins_put1 w c1
                  have hlook := fun w q => twins_look1 w c1 q
                  have hmm := @run_makeMap Try.prog
                  have E8 := E7.drew
                  go_region_held3 (fun w' => Ext (fhOf W) W h3 w') (first | assumption | exact Ext.alloc (by assumption) _ | exact twins_kept (by assumption) (by first | assumption | exact twins_new _ _) (by assumption)) (first | (go_at_call 8; refine (law19_awake h3 _ (Ext.sits (by assumption))).mono ?_; rintro e wf ⟨rfl, Ef⟩; have Eg := Ext.trans (h := fhOf W) (w := W) (h1 := h3) (by assumption) Ef; clear Ef) | (go_at_call 9; refine (K3.out _ (Ext.sits (by assumption))).mono ?_; rintro e wf ⟨rfl, Ef⟩; have Eg := Ext.trans (h := fhOf W) (w := W) (h1 := h3) (by assumption) Ef; first | (have hm := twins_block Ef (twins_new _ (.map #[] 0)); have hput2 := twins_put _ _ c1 hm; have hlook2 := fun q => twins_look _ _ c1 q (twins_set _ _ (.map #[⟨.bool true, .int .i64 c1, 0⟩] 1) (Array.getElem?_eq_some_iff.1 hm).1)) | (have hm := twins_block Ef (twins_at _ c1); have hlook2 := fun q => twins_look _ _ c1 q hm) | skip; clear Ef))
                  all_goals (go_wp2_with fail; go_ret; exact ⟨rfl, Ext.back (h1 := h3) (by assumption)⟩)
                · skip
                  have hp1 : (b.prog == 0) = false := by simpa using hp
                  have e1 := best_rep_none (fun _ => freeB) younger b' c1 (fun j hj => by rw [hfb]; exact hp1)
                  rw [if_neg (by rw [hfb, hp1]; simp)] at k3
                  have hv1 : decide (b.live < b.prog) = false := by simpa using hv
                  have e2 := best_rep_none (vicB (pinsTo j)) bestV b' c1 (fun q hq => by rw [hvb, hv1]; rfl)
                  rw [e1] at k1
                  rw [e2] at k2
                  have K1 := hid k1
                  have K2 := hid k2
                  have K3 := hid k3
                  clear k1 k2 k3 e1 e2 hfb hvb hyy hbb hp hv
                  go_wp2_with fail
                  refine (K1.out _ E3.sits).mono ?_
                  rintro e w4 ⟨rfl, E4⟩
                  have E5 := E3.trans E4
                  clear E3 E4
                  go_wp2_with fail
                  refine (K2.out _ E5.sits).mono ?_
                  rintro e w5 ⟨rfl, E6⟩
                  have E7 := E5.trans E6
                  clear E5 E6
                  go_upto_region 17 with (fail)
                  have hc0 : ∀ w' : World, Ext (fhOf W) W h3 w' → w'.cell? ⟨W.heap.size, 0, none⟩ = some (.int .i64 b.prog) := fun w' E => E.sits.cell y0
                  have hc1 : ∀ w' : World, Ext (fhOf W) W h3 w' → w'.cell? ⟨W.heap.size, 1, none⟩ = some (.int .i64 b.live) := fun w' E => E.sits.cell y1
                  have hput := fun w => twins_put1 w c1
                  have hlook := fun w q => twins_look1 w c1 q
                  have hmm := @run_makeMap Try.prog
                  have E8 := E7.drew
                  first | go_region_held (fun w' => Ext (fhOf W) W h3 w') (first | assumption | exact Ext.alloc (by assumption) _ | exact twins_kept (by assumption) (by first | assumption | exact twins_new _ _) (by assumption)) (first | (go_at_call 8; refine (law19_awake h3 _ (Ext.sits (by assumption))).mono ?_; rintro e wf ⟨rfl, Ef⟩; have Eg := Ext.trans (h := fhOf W) (w := W) (h1 := h3) (by assumption) Ef; clear Ef) | (go_at_call 9; refine (K3.out _ (Ext.sits (by assumption))).mono ?_; rintro e wf ⟨rfl, Ef⟩; have Eg := Ext.trans (h := fhOf W) (w := W) (h1 := h3) (by assumption) Ef; first | (have hm := twins_block Ef (twins_new _ (.map #[] 0)); have hput2 := twins_put _ _ c1 hm; have hlook2 := fun q => twins_look _ _ c1 q (twins_set _ _ (.map #[⟨.bool true, .int .i64 c1, 0⟩] 1) (Array.getElem?_eq_some_iff.1 hm).1)) | (have hm := twins_block Ef (twins_at _ c1); have hlook2 := fun q => twins_look _ _ c1 q hm) | skip; clear Ef)) | fail
                  all_goals (go_wp2_with fail; go_ret; exact ⟨rfl, Ext.back (h1 := h3) (by assumption)⟩)
end Go.Proofs.Ytbnpccilccibkaa
