import Derived.Test.YtcnbnehammbncaaDoorRFind
import Derived.Test.YtcnbnehammbncaaDoorHelpIn
import Derived.Test.YtcnbnehammbncaaDoorRefAdd
namespace Go.Proofs.YtcnbnehammbncaaDoor
open Go.RowKit Go.Sort
set_option linter.unusedVariables false
/-- What a slice expression's address is. -/
theorem RowAt.dropS {α : Type} [Enc α] {h : FH} {A : Option Addr} {xs : List α} (r : RowAt h A xs) (k c : Nat) (hk : k ≤ xs.length) (hlc : xs.length ≤ c) : RowAt h (if c = k then A else A.map (fun x => x.add (k * Enc.sz α))) (xs.drop k) := by
  by_cases hd : 0 < (xs.drop k).length
  · rw [List.length_drop] at hd
    obtain ⟨b, off, rfl, f⟩ := r.2 (by omega)
    rw [if_neg (by omega)]
    have := r.dropN k
    rw [show Option.map (fun x : Addr => x.add (k * Enc.sz α)) (some ⟨b, off, none⟩) = some ⟨b, off + k * Enc.sz α, none⟩ from by simp [Addr.add]]
    exact this
  · rw [List.eq_nil_of_length_eq_zero (l := xs.drop k) (by omega)]; exact RowAt.nil _ _
set_option maxRecDepth 100000 in
theorem RowAt.ixInt {h : FH} {A : Option Addr} {xs : List Int} (r : RowAt h A xs) {k : Nat} {x : Int} (hx : xs[k]? = some x) {w : World} (hs : Sits h w) (c : Nat) :
    ∃ b off, (∀ w', (Instr.indexAt 26 (.slice A xs.length c) (.int .i64 (k : Int))).run Tryd.prog w' = .ok (.pointer (some ⟨b, off + k, none⟩)) w') ∧ w.cell? ⟨b, off + k, none⟩ = some (.int .i64 x) := by
  obtain ⟨b, off, rfl, d0⟩ := r.int hx hs
  have hlt := (List.getElem?_eq_some_iff.1 hx).1
  refine ⟨b, off, fun w' => ?_, d0⟩
  rw [run_indexAt_slice (h := Tryd.underlying26), if_pos (by omega)]
  rw [show (sizeOf (Tryd.prog.elem 26)).run Tryd.prog w' = .ok 1 w' from by kernel_rfl]
  simp [Result.andThen, Addr.add]
/-- A row is handed back, which may be anyone's, and stays as it is. -/
def RetRow {α : Type} [Enc α] (h : FH) (w : World) (xs : List α) (e : Ending) (w' : World) : Prop := ∃ A c h1, e = .returned (.slice A xs.length c) ∧ CapLe A xs.length c ∧ RowAt h1 A xs ∧ Ext h w h1 w'
theorem RetRow.own {α : Type} [Enc α] {h h1 : FH} {w w1 : World} {T : TypeId} {base : Nat} {v : Value} {xs : List α} (O : OwnL h1 w1 base T v xs) (E : Ext h w h1 w1) (hb : w.heap.size ≤ base) (hlen : xs.length ≤ 9223372036854775807) : RetRow h w xs (.returned v) w1 := by
  obtain ⟨h', A, c, rfl, r, l, E1, u0, u1, u2, f⟩ := O.stayX E hb hlen
  exact ⟨A, c, h', rfl, ⟨u0, u2, u1⟩, r, E1⟩
theorem any_eqZ (xs : List Int) (no : Int) : xs.contains no = xs.any (eqZ no) := by
  rw [List.contains_eq_any_beq]; rfl
theorem posZ_at {no : Int} : ∀ {xs : List Int} {k : Nat}, k ≤ xs.length → (∀ i y, i < k → xs[i]? = some y → gtZ no y = false) → (∀ y, xs[k]? = some y → gtZ no y = true) → posZ xs no = k := fun {xs k} hk hn hy => by
  unfold posZ
  by_cases hlt : k < xs.length
  · rw [findIdx_hit hn (List.getElem?_eq_getElem hlt) (hy _ (List.getElem?_eq_getElem hlt))]; rfl
  · rw [findIdx_none_all (fun i y hi => hn i y (by omega))]; simp; omega

theorem newcellsX (w : World) (cs : List Value) (t : TypeId) : ∀ j u, cs[j]? = some u → (w.alloc (.cells cs.toArray t)).cell? ⟨w.heap.size, j, none⟩ = some u := fun j u hu => by
  rw [cell_of_row _ w.heap.size j cs.toArray t (0, 0) (heap_alloc_new w _)]; simpa using hu
set_option maxHeartbeats 8000000 in
set_option maxRecDepth 100000 in
theorem ref_addBad (xs : List Int) (A : Option Addr) (c : Nat) (hc : CapLe A xs.length c) (hbig : xs.length ≤ 1000) (no : Int) (h : FH) (w : World) (hs : Sits h w) (r : RowAt h A xs) :
    Calls Tryd.prog 43 #[.slice A xs.length c, .int .i64 no] w fun e w' => RetRow h w (badZ xs no) e w' := by
  have hl := r.1
  obtain ⟨c0, c1, c2⟩ := hc
  obtain ⟨q, hq⟩ : ∃ q, xs.any (eqZ no) = q := ⟨_, rfl⟩
  have KI := hid (help_In xs A c no q (by rw [any_eqZ]; exact hq) h w hs r)
  have HQ := hid hq
  have HC := hid (show CapLe A xs.length c from ⟨c0, c1, c2⟩)
  have hlc : (xs.length : Int) ≤ (c : Int) := by omega
  clear hq c1
  go_enter Tryd.func43, Tryd.ntmps43
  cases q
  · have HR := hid (show badZ xs no = xs.take (posZ xs no) ++ [no] ++ xs.drop (posZ xs no) by unfold badZ; rw [HQ.out]; rfl)
    go_wp2_with (go_at_call 35; refine KI.out.mono ?_; rintro e w1 ⟨rfl, E1⟩)
    go_loopw [5] (fun i wr => ∃ k : Nat, k ≤ xs.length ∧ i = .int .i64 k ∧ Hid (∀ i y, i < k → xs[i]? = some y → gtZ no y = false) ∧ Hid (Ext h w h wr)) (fun i _ => xs.length - (intOf i).toNat)
    case atStart => exact ⟨0, Nat.zero_le _, rfl, hid (fun i y hi => by omega), hid E1⟩
    case round =>
      obtain ⟨k, hk, rfl, HN, E⟩ := hrel
      have EE := E.out
      have i1 : (0 : Int) ≤ (k : Int) := by omega
      by_cases hstay : ∃ y, xs[k]? = some y ∧ gtZ no y = false
      · obtain ⟨y, hy, hg⟩ := hstay
        have HN2 := hid (show ∀ i z, i < k + 1 → xs[i]? = some z → gtZ no z = false from not_step HN.out hy hg)
        have hlt : k < xs.length := (List.getElem?_eq_some_iff.1 hy).1
        obtain ⟨b, off, hx, d0⟩ := r.ixInt hy EE.sits c
        have hle : y ≤ no := by unfold gtZ at hg; simpa using hg
        clear hy hg
        go_wp2_with fail
        go_roundw
        case rel => exact ⟨k + 1, by omega, by go_num, HN2, E⟩
        case measure => simp [intOf]; omega
      · have HP := hid (show posZ xs no = k from posZ_at hk HN.out (fun y hy => by
          cases hg : gtZ no y
          · exact absurd ⟨y, hy, hg⟩ hstay
          · rfl))
        have HI := hid (show badZ xs no = [] ++ xs.take k ++ [no] ++ xs.drop k by rw [HR.out, HP.out]; rfl)
        have HLT := hid (show k = (xs.take k).length by simp; omega)
        have HLD := hid (show xs.length - k = (xs.drop k).length by simp)
        have HB1 := hid (show (([] : List Int).length + (xs.take k).length) * 8 ≤ 140737488355328 by simp; omega)
        have HB2 := hid (show (([] ++ xs.take k : List Int).length + 1) * 8 ≤ 140737488355328 by simp; omega)
        have HB3 := hid (show (([] ++ xs.take k ++ [no] : List Int).length + (xs.drop k).length) * 8 ≤ 140737488355328 by simp; omega)
        have HRT := hid (r.takeN k)
        have HRD := hid (show RowAt h (if c = k then A else A.map (fun x => x.add k)) (xs.drop k) by have q := r.dropS k c hk HC.out.le; rwa [show k * Enc.sz Int = k from Nat.mul_one k] at q)
        have HSZ := hid (fun (w' : World) (E : Ext h w h w') => show w.heap.size ≤ w'.heap.size from E.size)
        have i2 : (k : Int) ≤ (c : Int) := by omega
        have i4 : (k : Int) ≤ (xs.length : Int) := by omega
        have FIN := hid (fun (u : Value) (w6 : World) (ys : List Int) (O : OwnL h w6 w.heap.size 3 u ys) (E : Ext h w h w6) (hy : ys = badZ xs no) => (by rw [← hy]; exact RetRow.own O E (Nat.le_refl _) (by rw [hy]; have := badZ_len xs no; omega) : RetRow h w (badZ xs no) (.returned u) w6))
        go_upto_region 4 with (fail)
        go_cut [21] (fun s wx => s = .bool false ∧ wx = wr)
        case first =>
          by_cases hlt : k < xs.length
          · obtain ⟨y, hy⟩ : ∃ y, xs[k]? = some y := ⟨xs[k], List.getElem?_eq_getElem hlt⟩
            obtain ⟨b, off, hx, d0⟩ := r.ixInt hy EE.sits c
            have hng : ¬ y ≤ no := fun hle => hstay ⟨y, hy, by unfold gtZ; simpa using hle⟩
            clear hy hstay
            go_wp2_with fail
            go_meet
            exact ⟨rfl, rfl⟩
          · clear hstay
            go_wp2_with fail
            go_meet
            exact ⟨rfl, rfl⟩
        case rest =>
          obtain ⟨rfl, rfl⟩ := hcut
          clear hstay
          have E4 := EE
          have E5 := EE.drew
          go_wp2_with fail
          go_region_held3 (fun w' => Ext h w h w') (first | with_reducible assumption | with_reducible exact E8 | with_reducible exact E7 | with_reducible exact E6 | with_reducible exact Ext.alloc E6 _ | with_reducible exact Ext.alloc E5 _ | with_reducible exact (Ext.alloc E4 _).drew) (first | (rw [if_pos (by rfl)]; refine step_appendR _ _ 26 rfl w.heap.size 3 8 ty_Int (.slice none 0 0) [] (xs.take k) rfl (OwnL.nil _ _ _ _) (Ext.sits (h := h) (h' := h) (w := w) (by first | with_reducible assumption | assumption)) _ k c rfl HLT.out HRT.out HB1.out (by decide) (HSZ.out _ (by first | with_reducible assumption | assumption)) ?_; intro v1 w4 O1 hg1; have E6 := Ext.grown (h := h) (h1 := h) (w := w) (by first | with_reducible assumption | assumption) hg1 (fun k hk => by cases hk)) | (rw [if_pos (by rfl)]; refine step_append1At _ _ 26 rfl w.heap.size 3 8 ty_Int v1 ([] ++ xs.take k) rfl (by first | with_reducible exact O1 | with_reducible exact O1.alloc _) (Ext.sits (h := h) (h' := h) (w := w) (by first | with_reducible assumption | assumption)) _ rfl [.int .i64 no] no rfl (by first | exact newcells _ [.int .i64 no] _ | exact fun j u hu => hg1.cell (newcells _ [.int .i64 no] _ j u hu) (by simp [Value.ownBlock])) HB2.out (by decide) (HSZ.out _ (by first | with_reducible assumption | assumption)) ?_; intro v2 w5 O2 hg2; have E7 := Ext.grown (h := h) (h1 := h) (w := w) (by first | with_reducible assumption | assumption) hg2 (fun k hk => ⟨(O1.lt k hk).1, O1.free k hk⟩)) | (rw [if_pos (by rfl)]; refine step_appendR _ _ 26 rfl w.heap.size 3 8 ty_Int v2 ([] ++ xs.take k ++ [no]) (xs.drop k) rfl O2 (Ext.sits (h := h) (h' := h) (w := w) (by first | with_reducible assumption | assumption)) _ _ _ rfl HLD.out HRD.out HB3.out (by decide) (HSZ.out _ (by first | with_reducible assumption | assumption)) ?_; intro v3 w6 O3 hg3; have E8 := Ext.grown (h := h) (h1 := h) (w := w) (by first | with_reducible assumption | assumption) hg3 (fun k hk => ⟨(O2.lt k hk).1, O2.free k hk⟩)))
          all_goals
            go_wp2_with fail
            all_goals
              go_ret
              exact FIN.out _ _ _ O3 E8 HI.out.symm
  · have HR := hid (show badZ xs no = xs by unfold badZ; rw [HQ.out]; rfl)
    go_wp2_with (go_at_call 35; refine KI.out.mono ?_; rintro e w1 ⟨rfl, E1⟩)
    go_ret
    rw [HR.out]
    exact ⟨A, c, h, rfl, HC.out, r, E1⟩
end Go.Proofs.YtcnbnehammbncaaDoor
