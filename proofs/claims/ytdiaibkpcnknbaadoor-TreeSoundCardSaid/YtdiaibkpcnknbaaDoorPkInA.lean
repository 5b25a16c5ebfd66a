import Derived.Test.YtdiaibkpcnknbaaDoorPkI
namespace Go.Proofs.YtdiaibkpcnknbaaDoor
open Go.RowKit Go.Sort
set_option linter.unusedVariables false
/-! ### what is inside of what, in plain words -/
def dirE (xs : List Inode) (seen : List Int) (n : Int) : Bool := !seen.contains n && decide (((findI xs n).getD zeroI).kind = 2)
def scanE (xs : List Inode) : List Entry → List Int × List Int → List Int × List Int
  | [], p => p
  | e :: es, p => scanE xs es (if dirE xs p.1 e.no = true then (p.1 ++ [e.no], p.2 ++ [e.no]) else p)
def entsOf (xs : List Inode) (d : Int) : List Entry := ((findI xs d).getD zeroI).entries
def scanD (xs : List Inode) (no : Int) : List Int → List Int × List Int → Option (List Int × List Int)
  | [], p => some p
  | d :: ds, p => if d = no then none else scanD xs no ds (scanE xs (entsOf xs d) p)
def levelF (xs : List Inode) (no : Int) : Nat → List Int → List Int → Bool
  | 0, _, _ => false
  | n + 1, seen, now => if now = [] then false else match scanD xs no now (seen, []) with
    | none => true
    | some p => levelF xs no n p.1 p.2
def insideP (xs : List Inode) (no dir : Int) : Bool := levelF xs no 201 [dir] [dir]
theorem nodup_len : ∀ (l m : List Int), l.Nodup → (∀ a ∈ l, a ∈ m) → l.length ≤ m.length
  | [], _, _, _ => Nat.zero_le _
  | a :: l, m, hn, hs => by
    rw [List.nodup_cons] at hn
    have ha := hs a (by simp)
    have h1 := nodup_len l (m.erase a) hn.2 (fun b hb => (List.mem_erase_of_ne (fun e => hn.1 (by rw [← e]; exact hb))).2 (hs b (by simp [hb])))
    rw [List.length_erase_of_mem ha] at h1
    have h2 := List.length_pos_of_mem ha
    simp only [List.length_cons]
    omega
/-- What has been seen, and what comes next. -/
structure SeenOk (xs : List Inode) (dir : Int) (seen next : List Int) : Prop where
  nd : seen.Nodup
  sub : ∀ a ∈ seen, a = dir ∨ (findI xs a).isSome = true
  nn : next.Nodup
  ns : ∀ a ∈ next, a ∈ seen
theorem SeenOk.len {xs : List Inode} {dir : Int} {seen next : List Int} (S : SeenOk xs dir seen next) : seen.length ≤ xs.length + 1 ∧ next.length ≤ xs.length + 1 := by
  have h1 : seen.length ≤ (dir :: xs.map (·.no)).length := nodup_len _ _ S.nd (fun a ha => by
    rcases S.sub a ha with rfl | h
    · simp
    · right
      unfold findI at h
      obtain ⟨x, hx⟩ := Option.isSome_iff_exists.1 h
      have := List.find?_some hx
      unfold isI at this
      exact List.mem_map.2 ⟨x, List.mem_of_find?_eq_some hx, by simpa using this⟩)
  have h2 := nodup_len _ _ S.nn S.ns
  simp at h1
  omega
theorem SeenOk.start (xs : List Inode) (dir : Int) : SeenOk xs dir [dir] [] := ⟨by simp, fun a ha => .inl (by simpa using ha), by simp, fun a ha => by simp at ha⟩
theorem SeenOk.fresh {xs : List Inode} {dir : Int} {seen next : List Int} (S : SeenOk xs dir seen next) : SeenOk xs dir seen [] := ⟨S.nd, S.sub, by simp, fun a ha => by simp at ha⟩
theorem SeenOk.more {xs : List Inode} {dir : Int} {seen next : List Int} (S : SeenOk xs dir seen next) {n : Int} (h : dirE xs seen n = true) : SeenOk xs dir (seen ++ [n]) (next ++ [n]) := by
  unfold dirE at h
  simp only [Bool.and_eq_true, Bool.not_eq_true', decide_eq_true_eq] at h
  have hns : n ∉ seen := by
    intro hm
    have : seen.contains n = true := by simpa using hm
    rw [this] at h; exact absurd h.1 (by simp)
  have hsm : (findI xs n).isSome = true := by
    cases e : findI xs n with
    | none => rw [e] at h; exact absurd h.2 (by decide)
    | some x => rfl
  refine ⟨?_, fun a ha => ?_, ?_, fun a ha => ?_⟩
  · rw [List.nodup_append]; exact ⟨S.nd, by simp, fun a ha b hb => by simp at hb; subst hb; exact fun e => hns (e ▸ ha)⟩
  · rcases List.mem_append.1 ha with h1 | h1
    · exact S.sub a h1
    · simp at h1; subst h1; exact .inr hsm
  · rw [List.nodup_append]; exact ⟨S.nn, by simp, fun a ha b hb => by simp at hb; subst hb; exact fun e => hns (S.ns _ (e ▸ ha))⟩
  · rcases List.mem_append.1 ha with h1 | h1
    · exact List.mem_append.2 (.inl (S.ns a h1))
    · exact List.mem_append.2 (.inr h1)
/-- The map of what has been seen. -/
def SeenIs (C : Int → Option Value) (seen : List Int) : Prop := ∀ a, (C a).isSome = seen.contains a
theorem SeenIs.more {C : Int → Option Value} {seen : List Int} (S : SeenIs C seen) (n : Int) (v : Value) : SeenIs (fun a => if a = n then some v else C a) (seen ++ [n]) := fun a => by
  by_cases e : a = n
  · subst e; simp
  · simp only [if_neg e, S a]
    rw [Bool.eq_iff_iff]
    simp [e]
end Go.Proofs.YtdiaibkpcnknbaaDoor

namespace Go.Proofs.YtdiaibkpcnknbaaDoor
open Go.RowKit Go.Sort
set_option linter.unusedVariables false
/-! ### path.Inside, whole -/
set_option maxRecDepth 100000 in
theorem RowAt.ixEntry {h : FH} {A : Option Addr} {xs : List Entry} (r : RowAt h A xs) {k : Nat} {x : Entry} (hx : xs[k]? = some x) {w : World} (hs : Sits h w) (c : Nat) :
    ∃ b off, (∀ w', (Instr.indexAt 48 (.slice A xs.length c) (.int .i64 (k : Int))).run Tryd.prog w' = .ok (.pointer (some ⟨b, off + k * 2, none⟩)) w') ∧ w.cell? ⟨b, off + k * 2, none⟩ = some (.string x.name) ∧ w.cell? ⟨b, off + k * 2 + 1, none⟩ = some (.int .i64 x.no) ∧ x.name.size ≤ 9223372036854775807 := by
  obtain ⟨b, off, rfl, d0, d1, d2⟩ := r.entry hx hs
  have hlt := (List.getElem?_eq_some_iff.1 hx).1
  refine ⟨b, off, fun w' => ?_, d0, d1, d2⟩
  rw [run_indexAt_slice (h := Tryd.underlying48), if_pos (by omega)]
  rw [show (sizeOf (Tryd.prog.elem 48)).run Tryd.prog w' = .ok 2 w' from by kernel_rfl]
  simp [Result.andThen, Addr.add]
theorem field_ents (w : World) (a b c d : Int) (s : ByteArray) (A1 A2 : Option Addr) (n1 k1 n2 k2 : Nat) : (Instr.field 51 (.agg #[.int .i64 a, .int .i64 b, .int .i64 c, .int .i64 d, .string s, .slice A1 n1 k1, .slice A2 n2 k2]) 5).run Tryd.prog w = .ok (.slice A1 n1 k1) w := by kernel_rfl
theorem field_kind (w : World) (a b c d : Int) (s : ByteArray) (A1 A2 : Option Addr) (n1 k1 n2 k2 : Nat) : (Instr.field 51 (.agg #[.int .i64 a, .int .i64 b, .int .i64 c, .int .i64 d, .string s, .slice A1 n1 k1, .slice A2 n2 k2]) 1).run Tryd.prog w = .ok (.int .i64 b) w := by kernel_rfl
/-- What the levels' loops keep. -/
structure InAt (h0 : FH) (w0 : World) (h : FH) (wr : World) (bs : Nat) (nv : Value) (seen next : List Int) : Prop where
  ext : Ext h0 w0 h wr
  fr : h bs = none
  hb : w0.heap.size ≤ bs
  map : ∃ C, MapIs encI wr bs C ∧ SeenIs C seen
  own : OwnL h wr (bs + 1) 3 nv next
theorem InAt.lt {h0 : FH} {w0 : World} {h : FH} {wr : World} {bs : Nat} {nv : Value} {seen next : List Int} (I : InAt h0 w0 h wr bs nv seen next) : bs < wr.heap.size := by
  obtain ⟨C, M, _⟩ := I.map
  exact M.lt
theorem InAt.more {h0 : FH} {w0 : World} {h : FH} {wr wx : World} {bs : Nat} {nv : Value} {seen next : List Int} (I : InAt h0 w0 h wr bs nv seen next) (E : Ext h wr h wx) : InAt h0 w0 h wx bs nv seen next := by
  obtain ⟨C, M, S⟩ := I.map
  exact ⟨I.ext.trans E, I.fr, I.hb, ⟨C, M.ext E, S⟩, I.own.ext E⟩
theorem InAt.put {h0 : FH} {w0 : World} {h : FH} {wr wx : World} {bs : Nat} {nv : Value} {seen next : List Int} (I : InAt h0 w0 h wr bs nv seen next) {C : Int → Option Value} (S : SeenIs C seen) {n : Int} {v : Value} (M : MapIs encI wx bs (fun x => if x = n then some v else C x)) (G : wr.grownBy wx (some bs)) : InAt h0 w0 h wx bs nv (seen ++ [n]) next :=
  ⟨I.ext.grown G (fun k hk => by cases hk; exact ⟨I.hb, I.fr⟩), I.fr, I.hb, ⟨_, M, S.more n v⟩, I.own.kept G (.inr (fun e => by have := (I.own.lt bs e).1; omega)) (FLe.refl _) I.own.free⟩
theorem InAt.app {h0 : FH} {w0 : World} {h : FH} {wr wx : World} {bs : Nat} {nv nv' : Value} {seen next next' : List Int} (I : InAt h0 w0 h wr bs nv seen next) (O : OwnL h wx (bs + 1) 3 nv' next') (G : wr.grownBy wx nv.ownBlock) : InAt h0 w0 h wx bs nv' seen next' := by
  obtain ⟨C, M, S⟩ := I.map
  have hh := I.hb
  exact ⟨I.ext.grown G (fun k hk => ⟨by have := (I.own.lt k hk).1; omega, I.own.free k hk⟩), I.fr, hh, ⟨C, M.of_block (G.block bs M.lt (fun e => by have := (I.own.lt bs e.symm).1; omega)), S⟩, O⟩
theorem scanE_step {xs : List Inode} {es : List Entry} {t : Nat} {e : Entry} (he : es[t]? = some e) (seen next : List Int) :
    scanE xs (es.drop t) (seen, next) = scanE xs (es.drop (t + 1)) (if dirE xs seen e.no = true then (seen ++ [e.no], next ++ [e.no]) else (seen, next)) := by
  have hlt := (List.getElem?_eq_some_iff.1 he).1
  have : es.drop t = e :: es.drop (t + 1) := by
    rw [List.drop_eq_getElem_cons hlt]; congr 1
    have := (List.getElem?_eq_some_iff.1 he).2
    exact this
  rw [this]; rfl
theorem scanD_step {xs : List Inode} {no : Int} {now : List Int} {t : Nat} {d : Int} (he : now[t]? = some d) (p : List Int × List Int) :
    scanD xs no (now.drop t) p = if d = no then none else scanD xs no (now.drop (t + 1)) (scanE xs (entsOf xs d) p) := by
  have hlt := (List.getElem?_eq_some_iff.1 he).1
  have : now.drop t = d :: now.drop (t + 1) := by
    rw [List.drop_eq_getElem_cons hlt]; congr 1
    exact (List.getElem?_eq_some_iff.1 he).2
  rw [this]; rfl
theorem levelF_nil (xs : List Inode) (no : Int) (k : Nat) (seen : List Int) : levelF xs no k seen [] = false := by cases k <;> rfl
theorem levelF_more {xs : List Inode} {no : Int} {k : Nat} {seen now : List Int} (h : 0 < now.length) : levelF xs no (k + 1) seen now = match scanD xs no now (seen, []) with | none => true | some p => levelF xs no k p.1 p.2 := by
  show (if now = [] then false else match scanD xs no now (seen, []) with | none => true | some p => levelF xs no k p.1 p.2) = _
  rw [if_neg (by intro e; rw [e] at h; exact absurd h (by decide))]
def ansD (xs : List Inode) (no : Int) (k : Nat) : Option (List Int × List Int) → Bool
  | none => true
  | some p => levelF xs no k p.1 p.2
theorem levelF_ans {xs : List Inode} {no : Int} {k : Nat} {seen now : List Int} (h : 0 < now.length) : levelF xs no (k + 1) seen now = ansD xs no k (scanD xs no now (seen, [])) := by
  rw [levelF_more h]; cases scanD xs no now (seen, []) <;> rfl
end Go.Proofs.YtdiaibkpcnknbaaDoor

namespace Go.Proofs.YtdiaibkpcnknbaaDoor
open Go.RowKit Go.Sort
set_option linter.unusedVariables false
set_option maxHeartbeats 8000000 in
set_option maxRecDepth 100000 in
theorem path_Inside (s : State) (cs : List Value) (no dir : Int) (t : Bool) (ht : insideP s.inodes no dir = t) (hlen : s.inodes.length ≤ 1000) (h : FH) (w : World) (hs : Sits h w) (rS : repState h cs s) :
    Calls Tryd.prog 49 #[.agg cs.toArray, .int .i64 no, .int .i64 dir] w fun e w' => e = .returned (.bool t) ∧ Ext h w h w' := by
  have rS' := rS
  have HT := hid ht
  clear ht
  obtain ⟨A1, c1, A2, c2, rfl, l1, r1, l2, r2⟩ := rS'
  obtain ⟨h1, E1, hb1, le1, hh1⟩ := (Ext.refl hs).boxF #[.int .i64 s.next, .slice A1 s.inodes.length c1, .slice A2 s.bads.length c2] 31
  have hmm := @run_makeMap Tryd.prog
  clear hh1 l1 r1 l2 r2
  go_enter Tryd.func49, Tryd.ntmps49
  go_upto_region 1 with (fail)
  generalize hgS : w.heap.size = gS at *
  with_reducible generalize w.alloc (.cells #[.int .i64 s.next, .slice A1 s.inodes.length c1, .slice A2 s.bads.length c2] 31) = w1 at E1 ⊢
  have s0 : w1.cell? ⟨gS, 0, none⟩ = some (.int .i64 s.next) := Sits_at E1.sits hb1 rfl
  have s1 : w1.cell? ⟨gS, 1, none⟩ = some (.slice A1 s.inodes.length c1) := Sits_at E1.sits hb1 rfl
  have s2 : w1.cell? ⟨gS, 2, none⟩ = some (.slice A2 s.bads.length c2) := Sits_at E1.sits hb1 rfl
  have KB := hid (path_begin s _ h1 w1 E1.sits (repState.mono le1 rS))
  have E1 := hid E1
  go_upto_region 2 with (go_at_call 45; refine KB.out.mono ?_; rintro e w3 ⟨gp, bm, C, h2, D3, cD3, rfl, F3, I3, FM3, HB3⟩; have E3 := hid (E1.out.trans F3); have I3 := hid I3; have FM3 := hid FM3; have HB3 := hid HB3; have Z1 := hid E1.out.size; have Z3 := hid F3.size; clear F3 s0 s1 s2)
  have hgp0 : w.heap.size ≤ gp := Nat.le_trans Z1.out I3.out.hB
  have EA := E3.out.add I3.out.box I3.out.free hgp0
  have leA := FLe.add I3.out.free (.cells #[.map (some bm), .slice D3 st0.kept.length cD3, .int .i64 st0.at_, .int .i64 st0.loops] 97 (0, 0))
  have hbA := FH.add_same h2 gp (.cells #[.map (some bm), .slice D3 st0.kept.length cD3, .int .i64 st0.at_, .int .i64 st0.loops] 97 (0, 0))
  have FMA := FM3.out.mono leA
  have HBA := HB3.out.mono leA
  generalize h2.add gp (.cells #[.map (some bm), .slice D3 st0.kept.length cD3, .int .i64 st0.at_, .int .i64 st0.loops] 97 (0, 0)) = h3 at EA leA hbA FMA HBA
  clear leA
  obtain ⟨w4, hrun, M4, G4⟩ := (MapIs.made encI w3).update kt_path_key Tryd.underlying128 dir (.int .i64 0)
  have hrun : (Instr.mapUpdate 128 (.map (some w3.heap.size)) (.agg #[.int .i64 dir]) (.int .i64 0)).run Tryd.prog (w3.alloc (.map #[] 0)) = .ok () w4 := hrun
  have n4 : h3 w3.heap.size = none := EA.sits.none (Nat.le_refl _)
  have E4 := (EA.alloc (.map #[] 0)).grown G4 (fun k hk => by cases hk; exact ⟨EA.size, n4⟩)
  have S4 : SeenIs (fun x => if x = dir then some (Value.int .i64 0) else (fun _ => none) x) [dir] := SeenIs.more (C := fun _ => none) (seen := []) (fun a => rfl) dir _
  have c5 : (w4.alloc (.cells #[.int .i64 dir] 3)).cell? ⟨w4.heap.size, 0, none⟩ = some (.int .i64 dir) := box_cell (j := 0) (heap_new w4 (.cells #[.int .i64 dir] 3)) rfl
  have hbsz := M4.lt
  have hb0 := EA.size
  obtain ⟨h5, A5, c5', hv5, R5, l5, X5⟩ := (OwnL.mk1 E4.sits 3 (show Enc.rep h3 [.int .i64 dir] dir from rfl)).stay ((Ext.refl E4.sits).alloc (.cells #[.int .i64 dir] 3)) (Nat.le_refl _) (by simp)
  have n5 := X5.none n4 hbsz
  have I5 := hid (show InAt h w h5 (w4.alloc (.cells #[.int .i64 dir] 3)) w3.heap.size (.slice none 0 0) [dir] [] from ⟨E4.trans X5, n5, hb0, ⟨_, M4.ext X5, S4⟩, OwnL.nil _ _ _ _⟩)
  have hv5 : Value.slice (some ⟨w4.heap.size, 0, none⟩) 1 1 = .slice A5 1 c5' := hv5
  have FM5 := hid (FMA.mono l5)
  have HB5 := hid (HBA.mono l5)
  have hb5 := l5 _ _ hbA
  have R5 := hid R5
  have E4 := hid E4
  clear M4 G4 n4 S4 X5 n5 FMA HBA hbA E3 EA I3 FM3 HB3 hbsz hb0 hgp0 Z1 Z3 l5 KB
  go_upto_region 5 with (fail)
  with_reducible generalize w4.alloc (.cells #[.int .i64 dir] 3) = w5 at I5 c5 ⊢
  generalize w4.heap.size = g5 at *
  generalize w3.heap.size = bs at *
  clear c5 E1 hb1 hgS
  go_wp2_with fail
  go_loopg [9, 10] 201 (fun k s9 s10 wr => ∃ (i : Nat) (seen now : List Int) (A : Option Addr) (c : Nat) (h' : FH), i + k = 201 ∧ s9 = .slice A now.length c ∧ s10 = .int .i64 (i : Int) ∧ Hid (levelF s.inodes no k seen now = t) ∧ Hid (SeenOk s.inodes dir seen now) ∧ Hid (RowAt h' A now) ∧ Hid (FLe h5 h') ∧ Hid (InAt h w h' wr bs (.slice none 0 0) seen []))
  case atStart => exact ⟨0, [dir], [dir], _, _, h5, rfl, rfl, rfl, HT, hid ⟨by simp, fun a ha => .inl (by simpa using ha), by simp, fun a ha => ha⟩, R5, hid (FLe.refl _), I5⟩
  case round =>
    obtain ⟨i, seen, now, A, c, h', hik, rfl, rfl, HL, HS, HR, LE, IN⟩ := hrel
    have hll := HS.out.len
    have hnl : now.length ≤ 1001 := by omega
    have HNL := hid hnl
    clear hll hnl
    cases hgk : gk with
    | zero =>
      subst hgk
      obtain rfl : i = 201 := by omega
      have HF := hid (show t = false by rw [← HL.out]; rfl)
      clear HL hik
      go_wp2_with fail
      go_ret
      exact ⟨by rw [HF.out]; rfl, IN.out.ext.back⟩
    | succ k =>
      subst hgk
      have hi : (i : Int) ≤ 200 := by omega
      by_cases hz : now.length = 0
      · have hz2 : ¬ ((0 : Int) < (now.length : Int)) := by omega
        have HF := hid (show t = false by rw [← HL.out, List.length_eq_zero_iff.1 hz, levelF_nil])
        clear hz
        go_wp2_with fail
        go_ret
        exact ⟨by rw [HF.out]; rfl, IN.out.ext.back⟩
      · have hz2 : (0 : Int) < (now.length : Int) := by omega
        have hz3 : 0 < now.length := by omega
        have HL2 := hid ((levelF_ans (by omega)).symm.trans HL.out)
        have HIK := hid hik
        clear hz HL hik
        obtain ⟨R, hR⟩ : ∃ R, scanD s.inodes no now (seen, []) = R := ⟨_, rfl⟩
        have HL3 := hid (show ansD s.inodes no k R = t by rw [← hR]; exact HL2.out)
        have HRR := hid hR
        clear HL2 hR
        go_wp2_with fail
        go_loopw [11, 37] (fun s11 i2 wr2 => ∃ (j : Nat) (nv : Value) (sn nx : List Int), j ≤ now.length ∧ s11 = nv ∧ i2 = .int .i64 (j : Int) ∧ Hid (scanD s.inodes no (now.drop j) (sn, nx) = R) ∧ Hid (SeenOk s.inodes dir sn nx) ∧ Hid (InAt h w h' wr2 bs nv sn nx)) (fun _ i2 _ => now.length - (intOf i2).toNat)
        case atStart => exact ⟨0, _, seen, [], Nat.zero_le _, rfl, rfl, HRR, hid HS.out.fresh, IN⟩
        case round =>
          obtain ⟨j, nv, sn, nx, hj, hnv, rfl, HD, HK, I⟩ := hrel
          subst hnv
          have hjn := HNL.out
          by_cases hlt : j < now.length
          · obtain ⟨d, hd⟩ : ∃ d, now[j]? = some d := ⟨now[j], List.getElem?_eq_getElem hlt⟩
            obtain ⟨b, off, hx, d0⟩ := HR.out.ixInt hd I.out.ext.sits c
            have HDS := hid ((scanD_step hd (sn, nx)).symm.trans HD.out)
            clear hd
            by_cases hdn : d = no
            · subst hdn
              have HF := hid (show t = true by rw [← HL3.out, ← HDS.out, if_pos rfl]; rfl)
              go_wp2_with fail
              go_ret
              exact ⟨by rw [HF.out]; rfl, I.out.ext.back⟩
            · have hdn2 : (d == no) = false := by simpa using hdn
              have HD2 := hid (show scanD s.inodes no (now.drop (j + 1)) (scanE s.inodes (entsOf s.inodes d) (sn, nx)) = R by rw [← HDS.out, if_neg hdn])
              obtain ⟨P, hP⟩ : ∃ P, scanE s.inodes (entsOf s.inodes d) (sn, nx) = P := ⟨_, rfl⟩
              rw [hP] at HD2
              obtain ⟨cs2, hc1, hc2, hc3⟩ := (HB5.out.mono LE.out).get d
              obtain ⟨y, hy⟩ : ∃ y, (findI s.inodes d).getD zeroI = y := ⟨_, rfl⟩
              rw [hy] at hc3
              have hPy : scanE s.inodes (y.entries.drop 0) (sn, nx) = P := by rw [← hP]; unfold entsOf; rw [hy]; rfl
              obtain ⟨A6, c6, A7, c7, rfl, sz, k6, r6, k7, r7⟩ := hc3
              have hlook := ((FM5.out.mono LE.out) wr I.out.ext.sits).look kt_path_key Tryd.underlying95 zero_inode d
              rw [hc1] at hlook
              have hlook : (Instr.lookup 95 (.map (some bm)) (.agg #[.int .i64 d]) false).run Tryd.prog wr = .ok (.agg #[.int .i64 y.no, .int .i64 y.kind, .int .i64 y.links, .int .i64 y.size, .string y.target, .slice A6 y.entries.length c6, .slice A7 y.runs.length c7]) wr := hlook
              have hfe := field_ents
              have p0 : wr.cell? ⟨gp, 0, none⟩ = some (.map (some bm)) := Sits_at I.out.ext.sits (LE.out _ _ hb5) rfl
              have R6 := hid r6
              have HPY := hid hPy
              have hl6 := r6.1
              clear hc1 hc2 hy hP hPy sz k6 r6 k7 r7 HDS HD
              go_wp2_with fail
              go_loopw [11, 53] (fun s11 i3 wr => ∃ (q : Nat) (nv : Value) (sn nx : List Int), q ≤ y.entries.length ∧ s11 = nv ∧ i3 = .int .i64 (q : Int) ∧ Hid (scanE s.inodes (y.entries.drop q) (sn, nx) = P) ∧ Hid (SeenOk s.inodes dir sn nx) ∧ Hid (InAt h w h' wr bs nv sn nx)) (fun _ i3 _ => y.entries.length - (intOf i3).toNat)
              case atStart => exact ⟨0, _, sn, nx, Nat.zero_le _, rfl, rfl, HPY, HK, I⟩
              case round =>
                clear hlook p0 hx d0
                obtain ⟨q, nv, sn, nx, hq, hnv, rfl, HE, HK, I⟩ := hrel
                subst hnv
                by_cases hlq : q < y.entries.length
                · obtain ⟨e, he⟩ : ∃ e, y.entries[q]? = some e := ⟨y.entries[q], List.getElem?_eq_getElem hlq⟩
                  obtain ⟨b2, off2, hx2, e0, e1, hes⟩ := R6.out.ixEntry he I.out.ext.sits c6
                  have HST := hid ((scanE_step he sn nx).symm.trans HE.out)
                  clear he HE
                  go_upto_region 16 with (fail)
                  have HBX := heap_new wr (.cells #[.string e.name, .int .i64 e.no] 61)
                  have I2 := I.out.more ((Ext.refl I.out.ext.sits).alloc (.cells #[.string e.name, .int .i64 e.no] 61))
                  have hgb := I.out.lt
                  have hne : gp ≠ wr.heap.size := fun e => by have := I.out.ext.sits.lt (b := gp) (by rw [LE.out _ _ hb5]; simp); omega
                  clear e0 e1 hes hx2
                  with_reducible generalize wr.alloc (.cells #[.string e.name, .int .i64 e.no] 61) = W2 at I2 HBX ⊢
                  generalize wr.heap.size = gb at HBX hgb hne ⊢
                  obtain ⟨C2, M2, S2⟩ := I2.map
                  have e1 : W2.cell? ⟨gb, 1, none⟩ = some (.int .i64 e.no) := box_cell (j := 1) HBX rfl
                  have p2 : W2.cell? ⟨gp, 0, none⟩ = some (.map (some bm)) := Sits_at I2.ext.sits (LE.out _ _ hb5) rfl
                  obtain ⟨v, hv⟩ : ∃ v, (C2 e.no).getD (.int .i64 0) = v := ⟨_, rfl⟩
                  obtain ⟨bq, hbq⟩ : ∃ bq, sn.contains e.no = bq := ⟨_, rfl⟩
                  have hlk := M2.lookOk kt_path_key Tryd.underlying128 zero_int e.no
                  rw [S2 e.no, hv, hbq] at hlk
                  have hlk : (Instr.lookup 128 (.map (some bs)) (.agg #[.int .i64 e.no]) true).run Tryd.prog W2 = .ok (.tuple #[v, .bool bq]) W2 := hlk
                  have HBQ := hid hbq
                  have I2 := hid I2
                  have M2 := hid M2
                  have S2 := hid S2
                  have HBX := hid HBX
                  have HGB := hid hgb
                  clear hv hbq hgb hne
                  go_upto_region 17 with (fail)
                  have g0 : ∀ d os, (grow (redrawn W2 d) os).cell? ⟨gp, 0, none⟩ = some (.map (some bm)) := fun d os => cell_regrown p2 d os
                  have g1 : ∀ d os, (grow (redrawn W2 d) os).cell? ⟨gb, 1, none⟩ = some (.int .i64 e.no) := fun d os => cell_regrown e1 d os
                  obtain ⟨cs4, hc1, hc2, hc3⟩ := (HB5.out.mono LE.out).get e.no
                  obtain ⟨z, hz⟩ : ∃ z, (findI s.inodes e.no).getD zeroI = z := ⟨_, rfl⟩
                  rw [hz] at hc3
                  obtain ⟨A8, c8, A9, c9, rfl, _, _, _, _, _⟩ := hc3
                  have hlk2 : ∀ d os, (Instr.lookup 95 (.map (some bm)) (.agg #[.int .i64 e.no]) false).run Tryd.prog (grow (redrawn W2 d) os) = .ok (.agg #[.int .i64 z.no, .int .i64 z.kind, .int .i64 z.links, .int .i64 z.size, .string z.target, .slice A8 z.entries.length c8, .slice A9 z.runs.length c9]) (grow (redrawn W2 d) os) := fun d os => by
                    have q := ((FM5.out.mono LE.out) _ (Ext.quiet I2.out.ext.sits d os).sits).look kt_path_key Tryd.underlying95 zero_inode e.no
                    rw [hc1] at q
                    exact q
                  have hfk := field_kind
                  have HZ := hid hz
                  clear hc1 hc2 hz hlk p2 e1
                  have HDR := hid (show dirE s.inodes sn e.no = (!bq && decide (z.kind = 2)) by unfold dirE; rw [HBQ.out, HZ.out])
                  cases bq
                  · by_cases hk : z.kind = 2
                    · have hk2 : (z.kind == 2) = true := by simpa using hk
                      have HE3 := hid (show scanE s.inodes (y.entries.drop (q + 1)) (sn ++ [e.no], nx ++ [e.no]) = P by rw [← HST.out, HDR.out, if_pos (by simp [hk])])
                      have HK3 := hid (HK.out.more (show dirE s.inodes sn e.no = true by rw [HDR.out]; simp [hk]))
                      clear hk
                      refine wp_region_quiet_below (by kernel_rfl) (by kernel_rfl) ?_
                      repeat (go_big_quiet_step (fail))
                      refine wpQuiet_nil ?_
                      intro _ hw'
                      obtain ⟨⟨dq, osq⟩, hw''⟩ := hw'
                      subst hw''
                      clear hlk2 hfk
                      have EQ := Ext.quiet I2.out.ext.sits dq osq
                      have I3 := hid (I2.out.more EQ)
                      have M3 := hid (M2.out.ext EQ)
                      have hb3 := hid (EQ.row HBX.out)
                      have q1 := g1 dq osq
                      have hwq : IntKind.i64.wrap ((q : Int) + 1) = (q : Int) + 1 := by rw [IntKind.wrap_i64]; omega
                      have HB2 := hid (show (nx.length + 1) * 8 ≤ 140737488355328 by have := HK.out.len; omega)
                      clear g0 g1 EQ
                      with_reducible generalize grow (redrawn W2 dq) osq = W3 at I3 M3 hb3 q1 ⊢
                      go_upto_region 19 with (at_mapUpdate; refine wpList_mapSet _ rfl _ _ _ 128 3 rfl kt_path_key Tryd.underlying128 bs _ rfl M3.out e.no rfl (.int .i64 (i : Int)) rfl ?_; intro w6 M6 G6; have I6 := hid (I3.out.put S2.out M6 G6); have b6 := (G6.block gb (Array.getElem?_eq_some_iff.1 hb3.out).1 (fun e => by have := HGB.out; simp at e; omega)).trans hb3.out; have e6 : w6.cell? ⟨gb, 1, none⟩ = some (.int .i64 e.no) := box_cell (j := 1) b6 rfl; clear M6 G6 b6)
                      go_wp2_with (at_builtin; refine wpList_append1At rfl _ _ 23 rfl (bs + 1) 3 8 ty_Int _ _ rfl (I6.out.own.alloc _) (I6.out.ext.sits.alloc _) _ rfl _ e.no rfl (cells_of_box (heap_new _ _)) HB2.out (by decide) (Nat.le_trans I6.out.lt (by simp)) ?_; intro v8 w8 O8 hg8; have I8 := hid ((I6.out.more ((Ext.refl I6.out.ext.sits).alloc _)).app O8 hg8); clear O8 hg8)
                      go_roundw
                      case rel => exact ⟨q + 1, _, _, _, by omega, rfl, by go_num, HE3, HK3, I8⟩
                      case measure => simp [intOf]; omega
                    · have hk2 : (z.kind == 2) = false := by simpa using hk
                      have HE3 := hid (show scanE s.inodes (y.entries.drop (q + 1)) (sn, nx) = P by rw [← HST.out, HDR.out, if_neg (by simp [hk])])
                      clear hk
                      refine wp_region_quiet_below (by kernel_rfl) (by kernel_rfl) ?_
                      repeat (go_big_quiet_step (fail))
                      refine wpQuiet_nil ?_
                      intro _ hw'
                      obtain ⟨⟨dq, osq⟩, hw''⟩ := hw'
                      subst hw''
                      clear hlk2 hfk
                      have I3 := hid (I2.out.more (Ext.quiet I2.out.ext.sits dq osq))
                      clear g0 g1
                      have hwq : IntKind.i64.wrap ((q : Int) + 1) = (q : Int) + 1 := by rw [IntKind.wrap_i64]; omega
                      go_wp2_with fail
                      go_roundw
                      case rel => exact ⟨q + 1, _, sn, nx, by omega, rfl, by go_num, HE3, HK, I3⟩
                      case measure => simp [intOf]; omega
                  · have HE3 := hid (show scanE s.inodes (y.entries.drop (q + 1)) (sn, nx) = P by rw [← HST.out, HDR.out, if_neg (by simp)])
                    refine wp_region_quiet_below (by kernel_rfl) (by kernel_rfl) ?_
                    repeat (go_big_quiet_step (fail))
                    refine wpQuiet_nil ?_
                    intro _ hw'
                    obtain ⟨⟨dq, osq⟩, hw''⟩ := hw'
                    subst hw''
                    clear hlk2 hfk
                    have I3 := hid (I2.out.more (Ext.quiet I2.out.ext.sits dq osq))
                    clear g0 g1
                    have hwq : IntKind.i64.wrap ((q : Int) + 1) = (q : Int) + 1 := by rw [IntKind.wrap_i64]; omega
                    go_wp2_with fail
                    go_roundw
                    case rel => exact ⟨q + 1, _, sn, nx, by omega, rfl, by go_num, HE3, HK, I3⟩
                    case measure => simp [intOf]; omega
                · have HP2 := hid (show P = (sn, nx) by rw [← HE.out, List.drop_of_length_le (by omega)]; rfl)
                  have HD3 := hid (show scanD s.inodes no (now.drop (j + 1)) (sn, nx) = R by rw [← HP2.out]; exact HD2.out)
                  have hwj : IntKind.i64.wrap ((j : Int) + 1) = (j : Int) + 1 := by rw [IntKind.wrap_i64]; omega
                  go_wp2_with fail
                  go_roundw
                  case rel => exact ⟨j + 1, _, sn, nx, by omega, rfl, by go_num, HD3, HK, I⟩
                  case measure => simp [intOf]; omega
          · have HP := hid (show R = some (sn, nx) by rw [← HD.out, List.drop_of_length_le (by omega)]; rfl)
            have hki := HIK.out
            have hwi : IntKind.i64.wrap ((i : Int) + 1) = (i : Int) + 1 := by rw [IntKind.wrap_i64]; omega
            have hxl := HK.out.len
            obtain ⟨h8, A8, c8, hv8, r8, l8, F8, _, _, _, f8⟩ := I.out.own.stayX I.out.ext (Nat.le_succ_of_le I.out.hb) (by omega)
            have HV8 := hid hv8
            have HIN := hid (show InAt h w h8 wr bs (.slice none 0 0) sn [] from ⟨F8, by
              cases e : h8 bs with
              | none => rfl
              | some o =>
                rcases f8 bs (by rw [e]; simp) with h9 | h9
                · exact absurd I.out.fr h9
                · omega, I.out.hb, I.out.map, OwnL.nil _ _ _ _⟩)
            have R8 := hid r8
            have L8 := hid (LE.out.trans l8)
            have HL4 := hid (show levelF s.inodes no k sn nx = t by rw [← HL3.out, HP.out]; rfl)
            clear hv8 r8 l8 F8 f8 hki hxl
            go_wp2_with fail
            go_roundg k
            case rel => exact ⟨i + 1, sn, nx, A8, c8, h8, by have := HIK.out; omega, HV8.out, by go_num, HL4, HK, R8, L8, HIN⟩
            case measure => exact Nat.lt_succ_self _
end Go.Proofs.YtdiaibkpcnknbaaDoor
