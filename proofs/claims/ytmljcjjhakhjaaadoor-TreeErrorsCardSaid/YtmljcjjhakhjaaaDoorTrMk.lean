import Derived.Test.YtmljcjjhakhjaaaDoorTrG
namespace Go.Proofs.YtmljcjjhakhjaaaDoor
open Go.RowKit Go.Sort
set_option linter.unusedVariables false
theorem BoxU.set1 {w0 : World} {h : FH} {w : World} {g : Nat} {cs : List Value} {T : TypeId} (b : BoxU w0 h w g cs.toArray T) (i : Nat) (v : Value) : BoxU w0 h (w.setCell ⟨g, i, none⟩ v) g (cs.set i v).toArray T :=
  ⟨by have q := box_set (i := i) b.row v; rwa [List.setIfInBounds_toArray] at q, b.free, b.base⟩
theorem BoxU.wr1 {w0 : World} {h h1 : FH} {w : World} {g : Nat} {cs : Array Value} {T : TypeId} (b : BoxU w0 h1 w g cs T) (E : Ext h w0 h1 w) (i : Nat) (v : Value) : Ext h w0 h1 (w.setCell ⟨g, i, none⟩ v) := E.setCell (p := ⟨g, i, none⟩) b.base b.free v
theorem BoxU.other1 {w0 : World} {h : FH} {w : World} {g k : Nat} {cs : Array Value} {T : TypeId} (b : BoxU w0 h w g cs T) (hne : g ≠ k) (i : Nat) (v : Value) : BoxU w0 h (w.setCell ⟨k, i, none⟩ v) g cs T := ⟨box_other b.row hne v, b.free, b.base⟩
theorem list_set_same {α : Type} {l : List α} {i : Nat} {v : α} (h : l[i]? = some v) : l.set i v = l := by
  apply List.ext_getElem?
  intro j
  rw [List.getElem?_set]
  by_cases e : i = j
  · subst e; rw [if_pos rfl, h, if_pos (List.getElem?_eq_some_iff.1 h).1]
  · rw [if_neg e]
theorem repSpot.setEnt {h : FH} {cs : List Value} {p : Spot} (r : repSpot h cs p) {A : Option Addr} {c : Nat} {l : List Entry} (k : CapLe A l.length c) (ra : RowAt h A l) : repSpot h (cs.set 5 (.slice A l.length c)) ⟨{ p.dir with entries := l }, p.name, p.x, p.is⟩ := by
  obtain ⟨dl, xl, rfl, r1, r2, r3⟩ := r
  refine ⟨dl.set 5 (.slice A l.length c), xl, ?_, r1.setEnt k ra, r2, r3⟩
  unfold spotL
  rw [List.set_append, if_pos (by rw [r1.len]; decide)]
theorem repSpot.setLinks {h : FH} {cs : List Value} {p : Spot} (r : repSpot h cs p) (n : Int) : repSpot h (cs.set 2 (.int .i64 n)) ⟨{ p.dir with links := n }, p.name, p.x, p.is⟩ := by
  obtain ⟨dl, xl, rfl, r1, r2, r3⟩ := r
  refine ⟨dl.set 2 (.int .i64 n), xl, ?_, r1.setLinks n, r2, r3⟩
  unfold spotL
  rw [List.set_append, if_pos (by rw [r1.len]; decide)]
theorem atS_dir (xs : List Inode) (no : Int) (name : ByteArray) : (atS xs no name).dir = (findI xs no).getD zeroI ∧ (atS xs no name).name = name := by
  unfold atS; split <;> exact ⟨rfl, rfl⟩
theorem freshS_of {xs : List Inode} {path : ByteArray} {no : Int} {name : ByteArray} {c : Int} (hp : parentP xs path = (no, name, c)) : freshS xs path = if c ≠ 0 then (zeroSpot, c) else if (findE ((findI xs no).getD zeroI).entries name).isSome = true then (atS xs no name, 12) else (atS xs no name, 0) := by
  unfold freshS findS
  rw [hp]
  by_cases hc : c = 0
  · subst hc
    simp only [ne_eq, not_true_eq_false, if_false]
    rw [(atS_dir xs no name).1, (atS_dir xs no name).2]
  · simp only [ne_eq, hc, not_false_eq_true, if_true]

set_option maxHeartbeats 16000000 in
set_option maxRecDepth 100000 in
theorem tree_Make (s : State) (cs : List Value) (path : ByteArray) (hsz : path.size ≤ 9223372036854775807) (kind : Int) (target : ByteArray) (htz : target.size ≤ 9223372036854775807) (hn0 : 0 ≤ s.next) (hn1 : s.next ≤ 1000000) (hent : ∀ x ∈ s.inodes, midI x) (hfit : ∀ x ∈ s.inodes, fitI x) (h : FH) (w : World) (hs : Sits h w) (rS : repState h cs s) :
    Calls Tryd.prog 8 #[.agg cs.toArray, .string path, .int .i64 kind, .string target] w fun e w' => RetMake h w (makeP s path kind target) e w' := by
  have HENT := hid hent
  clear hent
  have RS := hid rS
  have HFIT := hid hfit
  clear rS hfit
  obtain ⟨h1, E1, hb1, le1, hh1⟩ := (Ext.refl hs).boxF cs.toArray 26
  clear hh1
  go_enter Tryd.func8, Tryd.ntmps8
  go_upto_region 1 with (fail)
  generalize hgx : w.heap.size = gx at *
  with_reducible generalize w.alloc (.cells cs.toArray 26) = W2 at E1 ⊢
  clear hgx
  have E2 := hid E1
  have hb1 := hid hb1
  have le1 := hid le1
  clear E1
  by_cases hk1 : kind < 1 ∨ 3 < kind
  · have HQ := hid (show makeP s path kind target = ([], 0, 1) by unfold makeP; rw [if_pos hk1])
    have b1 : (kind == 1) = false := by simp; omega
    have b2 : (kind == 2) = false := by simp; omega
    have b3 : (kind == 3) = false := by simp; omega
    have n1 : (kind != 1) = true := by simp; omega
    have n2 : (kind != 2) = true := by simp; omega
    have n3 : (kind != 3) = true := by simp; omega
    clear hk1
    go_wp2_with fail
    go_ret3
    exact (by rw [HQ.out]; exact ⟨none, 0, h, rfl, ⟨Nat.zero_le _, fun _ => rfl, by decide⟩, RowAt.nil _ _, E2.out.back⟩)
  · have HK1 := hid hk1
    have hk123 : kind = 1 ∨ kind = 2 ∨ kind = 3 := by omega
    clear hk1
    go_cut [13] (fun s13 wx => s13 = .bool false ∧ wx = W2)
    case first =>
      rcases hk123 with rfl | rfl | rfl
      all_goals
        go_wp2_with fail
        go_meet
        exact ⟨rfl, rfl⟩
    case rest =>
      obtain ⟨rfl, rfl⟩ := hcut
      obtain ⟨q, hq⟩ : ∃ q, decide (targetB target = true ∧ partsCode target = 0) = q := ⟨_, rfl⟩
      have HQR := hid hq
      have KT := hid (tree_right target htz q hq h1 wc E2.out.sits)
      obtain ⟨b0, hb0⟩ : ∃ b0, decide (kind = 3 ∧ q = false) = b0 := ⟨_, rfl⟩
      have HB0 := hid hb0
      clear hq hb0 hk123
      go_upto_region 3 with (fail)
      go_cut [24] (fun s24 wx => s24 = .bool b0 ∧ Hid (Ext h w h1 wx))
      case first =>
        by_cases hk3 : kind = 3
        · subst hk3
          cases q
          · have HB1 := hid (show true = b0 by rw [← HB0.out]; simp)
            go_wp2_with (go_at_call 21; refine KT.out.mono ?_; rintro e w3 ⟨rfl, F3⟩; have E3 := hid (E2.out.trans F3); clear F3)
            go_meet
            exact ⟨by rw [← HB1.out], E3⟩
          · have HB1 := hid (show false = b0 by rw [← HB0.out]; simp)
            go_wp2_with (go_at_call 21; refine KT.out.mono ?_; rintro e w3 ⟨rfl, F3⟩; have E3 := hid (E2.out.trans F3); clear F3)
            go_meet
            exact ⟨by rw [← HB1.out], E3⟩
        · have bk : (kind == 3) = false := by simpa using hk3
          have HB1 := hid (show false = b0 by rw [← HB0.out]; simp [hk3])
          clear hk3
          go_wp2_with fail
          go_meet
          exact ⟨by rw [← HB1.out], E2⟩
      case rest =>
      obtain ⟨rfl, E3⟩ := hcut
      clear E2 KT
      cases b0
      · have HK2 := hid (show ¬ (kind = 3 ∧ (targetB target = false ∨ partsCode target ≠ 0)) by
          rintro ⟨q1, q2⟩
          refine of_decide_eq_false HB0.out ⟨q1, ?_⟩
          rw [← HQR.out]
          refine decide_eq_false ?_
          rintro ⟨q3, q4⟩
          rcases q2 with q2 | q2
          · rw [q3] at q2; cases q2
          · exact q2 q4)
        obtain ⟨⟨no, name, code⟩, hpar⟩ : ∃ r, parentP s.inodes path = r := ⟨_, rfl⟩
        have HPAR := hid hpar
        obtain ⟨⟨p, fc⟩, hf⟩ : ∃ r, freshS s.inodes path = r := ⟨_, rfl⟩
        have HFS := hid ((freshS_of hpar).symm.trans hf)
        have KR := hid (tree_fresh s _ path hsz HFIT.out p fc hf h1 wc E3.out.sits (repState.mono le1.out RS.out))
        clear hpar hf
        go_upto_region 6 with (first | (refine wpList_load_row rfl 26 _ rfl gx rfl 26 cs.toArray (0, 0) _ (E3.out.sits _ _ hb1.out) Tryd.underlying26 rfl (info_State RS.out.len) ?_) | (go_at_call 22; refine KR.out.mono ?_; rintro e w5 ⟨pl, h5, rfl, rp, F5⟩; have E5 := hid (E3.out.trans F5); have l5 := hid F5.le; have rp := hid rp; clear F5) | (refine wpList_store_row rfl 61 _ _ rfl w5.heap.size pl.toArray rfl rfl 61 #[.int .i64 0, .int .i64 0, .int .i64 0, .int .i64 0, .string ⟨#[]⟩, .slice none 0 0, .slice none 0 0, .string ⟨#[]⟩, .int .i64 0, .int .i64 0, .int .i64 0, .int .i64 0, .string ⟨#[]⟩, .slice none 0 0, .slice none 0 0, .bool false] (heap_new w5 _) (info_Spot rp.out.len) (zs_size rp.out) (one_arr rp.out.one) ?_))
        rw [World.setRow_alloc_new]
        have BP6 := BoxU.new E5.out pl.toArray 61
        have E6 := E5.out.alloc (.cells pl.toArray 61)
        with_reducible generalize (w5.alloc (.cells pl.toArray 61)) = W6 at BP6 E6 ⊢
        have BP6 := hid BP6
        have E6 := hid E6
        generalize w5.heap.size = gp at *
        clear E5
        by_cases hcode : fc = 0
        · subst hcode
          obtain ⟨v, hv⟩ : ∃ v, findI s.inodes no = v := ⟨_, rfl⟩
          obtain ⟨d, hd⟩ : ∃ d, v.getD zeroI = d := ⟨_, rfl⟩
          have hall0 : code = 0 ∧ (findE d.entries name).isSome = false ∧ p = atS s.inodes no name := by
            have q := HFS.out
            by_cases hc : code = 0
            · subst hc
              rw [if_neg (by simp), hv, hd] at q
              cases hz : (findE d.entries name).isSome with
              | true => rw [hz, if_pos rfl] at q; cases q
              | false => rw [hz, if_neg (by simp)] at q; exact ⟨rfl, rfl, (congrArg Prod.fst q).symm⟩
            · rw [if_pos hc] at q; exact absurd (congrArg Prod.snd q) hc
          have HND := hid hall0.2.1
          have HPD := hid (show p.dir = d ∧ p.name = name by rw [hall0.2.2, (atS_dir _ _ _).1, (atS_dir _ _ _).2, hv, hd]; exact ⟨rfl, rfl⟩)
          have HML := hid (makeP_late (target := target) (d := d) HK1.out HK2.out (by rw [HPAR.out, hall0.1]) (by rw [hv]; exact hd))
          have hmid : midI d := by
            rw [← hd]
            cases v with
            | none => exact midI_zero
            | some x => exact HENT.out x (mem_of_findI hv)
          have HEL := hid hmid.1
          have HLB := hid hmid.2.1
          have HMM := hid (HML.out.trans (by rw [HND.out, if_neg (by simp)]))
          clear hv hd hmid hall0
          obtain ⟨A1, c1, q1, -⟩ := RS.out.at1
          have q1 : W6.cell? ⟨gx, 1, none⟩ = some (.slice A1 s.inodes.length c1) := Sits_at E6.out.sits (l5.out _ _ hb1.out) (by rw [List.getElem?_toArray]; exact q1)
          by_cases h200 : 200 ≤ s.inodes.length
          · have HQ := hid (show makeP s path kind target = ([], 0, 10) by rw [HMM.out, if_pos h200])
            have h201 : (200 : Int) ≤ (s.inodes.length : Int) := by omega
            clear h200
            go_wp2_with fail
            go_ret3
            exact (by rw [HQ.out]; exact ⟨none, 0, h, rfl, ⟨Nat.zero_le _, fun _ => rfl, by decide⟩, RowAt.nil _ _, E6.out.back⟩)
          · have HMN := hid (HMM.out.trans (by rw [if_neg h200]))
            have h201 : ¬ ((200 : Int) ≤ (s.inodes.length : Int)) := by omega
            clear h200
            obtain ⟨dl, rd, hdl⟩ := rp.out.dir
            rw [HPD.out.1] at rd
            have m2 := BP6.out.cell (hdl 2 _ rd.at2)
            obtain ⟨b9, hb9⟩ : ∃ b9, decide (kind = 2 ∧ 100 ≤ d.links) = b9 := ⟨_, rfl⟩
            have HB9 := hid hb9
            clear hb9
            go_upto_region 10 with (fail)
            go_cut [47] (fun s47 wx => s47 = .bool b9 ∧ wx = W6)
            case first =>
              by_cases hk2 : kind = 2
              · subst hk2
                by_cases hdl : 100 ≤ d.links
                · have HB1 := hid (show true = b9 by rw [← HB9.out]; simp [hdl])
                  go_wp2_with fail
                  go_meet
                  exact ⟨by rw [← HB1.out], rfl⟩
                · have HB1 := hid (show false = b9 by rw [← HB9.out]; simp [hdl])
                  go_wp2_with fail
                  go_meet
                  exact ⟨by rw [← HB1.out], rfl⟩
              · have bk : (kind == 2) = false := by simpa using hk2
                have HB1 := hid (show false = b9 by rw [← HB9.out]; simp [hk2])
                clear hk2
                go_wp2_with fail
                go_meet
                exact ⟨by rw [← HB1.out], rfl⟩
            case rest =>
            obtain ⟨rfl, rfl⟩ := hcut
            clear m2 q1
            cases b9
            · have HNB := hid (of_decide_eq_false HB9.out)
              have HMO := hid (HMN.out.trans (by rw [if_neg HNB.out]))
              obtain ⟨A5, c5, at5, k5, row5⟩ := rd.at5
              have hnz := rp.out.nm.2
              rw [HPD.out.2] at hnz
              obtain ⟨ac, hac⟩ : ∃ ac, addC d.entries ⟨name, s.next⟩ = ac := ⟨_, rfl⟩
              obtain ⟨al, hal⟩ : ∃ al, addL d.entries ⟨name, s.next⟩ = al := ⟨_, rfl⟩
              have KA := entries_Add d.entries A5 c5 HEL.out ⟨name, s.next⟩ hnz h5 wc E6.out.sits row5
              rw [hac, hal] at KA
              have KA := hid KA
              have HAC := hid hac
              have HAL := hid hal
              have hall : al.length ≤ 1001 := by
                rw [← hal]; unfold addL; split
                · unfold insE; have := HEL.out; simp; omega
                · simp
              have q0 : wc.cell? ⟨gx, 0, none⟩ = some (.int .i64 s.next) := Sits_at E6.out.sits (l5.out _ _ hb1.out) (by rw [List.getElem?_toArray]; exact RS.out.at0)
              have m5 := BP6.out.cell (hdl 5 _ at5)
              have m7 := BP6.out.cell (rp.out.nm.1)
              rw [HPD.out.2] at m7
              clear hac hal hnz k5 row5
              go_upto_region 13 with (go_at_call 23; refine KA.out.mono ?_; rintro e w9 R; obtain ⟨A9, c9, h9, rfl, r9, F9, u0, u1, u2⟩ := R.stayX (by omega); have E9 := hid (E6.out.trans F9); have BP9 := hid (BP6.out.ext F9); have l9 := hid F9.le; have k9 := hid (show CapLe A9 al.length c9 from ⟨u1, u0, u2⟩); have r9 := hid r9; clear F9 u0 u1 u2 R q0 m5 m7; have m5 := BP9.out.cell (hdl 5 _ at5); have f5 := BP9.out.open_ 5)
              have BP10 := hid (BP9.out.set1 5 (.slice A9 al.length c9))
              have E10 := hid (BP9.out.wr1 E9.out 5 (.slice A9 al.length c9))
              have RP10 := hid ((rp.out.mono l9.out).setEnt k9.out r9.out)
              with_reducible generalize w9.setCell ⟨gp, 5, none⟩ (.slice A9 al.length c9) = w10 at BP10 E10 ⊢
              clear m5 f5 at5 BP9 E9
              by_cases hac : ac = 0
              · subst hac
                have HMP := hid (show makeP s path kind target = ([⟨1, s.next + 1, zeroI⟩, putD (makeD d name s.next kind), putD (newI s.next kind target)], s.next, 0) by rw [HMO.out, if_neg (by rw [HAC.out]; simp)])
                obtain ⟨lk, hlk⟩ : ∃ lk, (if kind = 2 then d.links + 1 else d.links) = lk := ⟨_, rfl⟩
                have HLK := hid hlk
                clear hlk
                have m2c := (show (pl.set 5 (.slice A9 al.length c9)).toArray[2]? = some (.int .i64 d.links) by have q := hdl 2 _ rd.at2; simpa using q)
                go_upto_if 74 with (fail)
                go_cut [0] (fun s0 wx => Hid (BoxU w h9 wx gp ((pl.set 5 (.slice A9 al.length c9)).set 2 (.int .i64 lk)).toArray 61) ∧ Hid (Ext h w h9 wx))
                case first =>
                  by_cases hk2 : kind = 2
                  · subst hk2
                    have hl100 : d.links < 100 := by have q := HNB.out; omega
                    have hlb := HLB.out
                    have m2 := BP10.out.cell m2c
                    have f2 := BP10.out.open_ 2
                    have HL := hid (show d.links + 1 = lk by rw [← HLK.out, if_pos rfl])
                    clear m2c
                    go_wp2_with fail
                    go_meet
                    exact ⟨hid (by rw [← HL.out]; exact BP10.out.set1 2 _), hid (BP10.out.wr1 E10.out 2 _)⟩
                  · have bk : (kind == 2) = false := by simpa using hk2
                    have HL := hid (show d.links = lk by rw [← HLK.out, if_neg hk2])
                    clear hk2
                    have hsame := hid (show (pl.set 5 (.slice A9 al.length c9)).set 2 (.int .i64 lk) = pl.set 5 (.slice A9 al.length c9) from list_set_same (by rw [← HL.out]; simpa using m2c))
                    clear m2c
                    go_wp2_with fail
                    go_meet
                    exact ⟨hid (by rw [hsame.out]; exact BP10.out), E10⟩
                case rest =>
                      obtain ⟨BP11, E11⟩ := hcut
                      obtain ⟨h12, E12, hb12, l12, -⟩ := BP11.out.freeze E11.out
                      obtain ⟨dm, rdm, hdm⟩ := ((RP10.out.setLinks lk).mono l12).dir
                      have hpdm : ({ { p.dir with entries := al } with links := lk } : Inode) = ⟨d.no, d.kind, lk, d.size, d.target, al, d.runs⟩ := by rw [HPD.out.1]
                      have rdm : repInode h12 dm ⟨d.no, d.kind, lk, d.size, d.target, al, d.runs⟩ := by rw [← hpdm]; exact rdm
                      obtain ⟨A9', c9', A6, c6, rfl, sz5, k9', r9', k6, row6⟩ := rdm
                      have e5 : (Value.slice A9' al.length c9') = .slice A9 al.length c9 := by
                        have q := hdm 5 _ rfl
                        have q2 : ((pl.set 5 (.slice A9 al.length c9)).set 2 (.int .i64 lk)).toArray[5]? = some (.slice A9 al.length c9) := by
                          have hl := rp.out.len
                          simp [hl]
                        rw [q2] at q; exact (Option.some.inj q).symm
                      injection e5 with ea eb ec
                      subst ea; subst ec
                      have hd12 : ∀ j v, ([.int .i64 d.no, .int .i64 d.kind, .int .i64 lk, .int .i64 d.size, .string d.target, .slice A9' al.length c9', .slice A6 d.runs.length c6] : List Value)[j]? = some v → ((pl.set 5 (.slice A9' al.length c9')).set 2 (.int .i64 lk)).toArray[j]? = some v := hdm
                      have lS12 := hid (l12 _ _ (l9.out _ _ (l5.out _ _ hb1.out)))
                      have hMD := hid (show makeD d name s.next kind = ⟨d.no, d.kind, lk, d.size, d.target, al, d.runs⟩ by unfold makeD; rw [HAL.out, HLK.out])
                      have HL12 := hid l12
                      clear l12 hpdm m2c hdm
                      have hc0 : ∀ w' : World, Ext h w h12 w' → w'.cell? ⟨gp, 0, none⟩ = some (.int .i64 d.no) := fun w' E => Sits_at E.sits hb12 (hd12 0 _ rfl)
                      have hc1 : ∀ w' : World, Ext h w h12 w' → w'.cell? ⟨gp, 1, none⟩ = some (.int .i64 d.kind) := fun w' E => Sits_at E.sits hb12 (hd12 1 _ rfl)
                      have hc2 : ∀ w' : World, Ext h w h12 w' → w'.cell? ⟨gp, 2, none⟩ = some (.int .i64 lk) := fun w' E => Sits_at E.sits hb12 (hd12 2 _ rfl)
                      have hc3 : ∀ w' : World, Ext h w h12 w' → w'.cell? ⟨gp, 3, none⟩ = some (.int .i64 d.size) := fun w' E => Sits_at E.sits hb12 (hd12 3 _ rfl)
                      have hc4 : ∀ w' : World, Ext h w h12 w' → w'.cell? ⟨gp, 4, none⟩ = some (.string d.target) := fun w' E => Sits_at E.sits hb12 (hd12 4 _ rfl)
                      have hc5 : ∀ w' : World, Ext h w h12 w' → w'.cell? ⟨gp, 5, none⟩ = some (.slice A9' al.length c9') := fun w' E => Sits_at E.sits hb12 (hd12 5 _ rfl)
                      have hc6 : ∀ w' : World, Ext h w h12 w' → w'.cell? ⟨gp, 6, none⟩ = some (.slice A6 d.runs.length c6) := fun w' E => Sits_at E.sits hb12 (hd12 6 _ rfl)
                      have hq0 : ∀ w' : World, Ext h w h12 w' → w'.cell? ⟨gx, 0, none⟩ = some (.int .i64 s.next) := fun w' E => Sits_at E.sits lS12.out (by rw [List.getElem?_toArray]; exact RS.out.at0)
                      have KN := hid (fun (w' : World) (hs' : Sits h12 w') => inode_New s.next kind target htz h12 w' hs')
                      have KPa := hid (fun (w' : World) (hs' : Sits h12 w') => tree_put ⟨d.no, d.kind, lk, d.size, d.target, al, d.runs⟩ A9' c9' A6 c6 h12 w' hs')
                      have KPb := hid (fun (w' : World) (hs' : Sits h12 w') => (tree_put (newI s.next kind target) none 0 none 0 h12 w' hs' : Calls Tryd.prog 24 #[newV s.next kind target] w' fun e w2 => e = .returned (.agg #[.int .i64 2, .int .i64 0, .int .i64 s.next, .int .i64 kind, .int .i64 (newI s.next kind target).links, .int .i64 (newI s.next kind target).size, .string (newI s.next kind target).target, .slice none 0 0, .slice none 0 0]) ∧ Ext h12 w' h12 w2))
                      have E13 := E12.drew
                      have hwr : IntKind.i64.wrap (s.next + 1) = s.next + 1 := by rw [IntKind.wrap_i64]; omega
                      have HSZ := hid sz5
                      have HK9 := hid k9'
                      have HR9 := hid r9'
                      have HK6 := hid k6
                      have HR6 := hid row6
                      clear hd12 BP11 E11 BP10 E10 sz5 k9' r9' k6 row6
                      go_upto_region 17 with (fail)
                      go_region_held3 (fun w' => Ext h w h12 w') (first | with_reducible assumption | with_reducible exact Eg | with_reducible exact Ext.alloc Eg _) (first | (go_at_call 24; with_reducible refine (KPa.out _ (Ext.sits (h := h) (h' := h12) (w := w) (by with_reducible assumption))).mono ?_; rintro e wf ⟨rfl, Ef⟩; have Eg := Ext.trans (h := h) (w := w) (h1 := h12) (by with_reducible assumption) Ef; clear Ef) | (go_at_call 24; refine (KPb.out _ (Ext.sits (h := h) (h' := h12) (w := w) (by with_reducible assumption))).mono ?_; rintro e wf ⟨rfl, Ef⟩; have Eg := Ext.trans (h := h) (w := w) (h1 := h12) (by with_reducible assumption) Ef; clear Ef) | (go_at_call 25; with_reducible refine (KN.out _ (Ext.sits (h := h) (h' := h12) (w := w) (by with_reducible assumption))).mono ?_; rintro e wf ⟨rfl, Ef⟩; have Eg := Ext.trans (h := h) (w := w) (h1 := h12) (by with_reducible assumption) Ef; clear Ef))
                      all_goals
                        go_wp2_with fail
                        obtain ⟨h14, E14, hb14, le14, hh14⟩ := Eg.boxF #[.int .i64 1, .int .i64 (s.next + 1), .int .i64 0, .int .i64 0, .int .i64 0, .int .i64 0, .string ⟨#[]⟩, .slice none 0 0, .slice none 0 0, .int .i64 2, .int .i64 0, .int .i64 d.no, .int .i64 d.kind, .int .i64 lk, .int .i64 d.size, .string d.target, .slice A9' al.length c9', .slice A6 d.runs.length c6, .int .i64 2, .int .i64 0, .int .i64 s.next, .int .i64 kind, .int .i64 (newI s.next kind target).links, .int .i64 (newI s.next kind target).size, .string (newI s.next kind target).target, .slice none 0 0, .slice none 0 0] 69
                        go_ret3
                        rw [HMP.out, hMD.out]
                        exact ⟨some ⟨wf.heap.size, 0, none⟩, 3, h14, rfl, ⟨Nat.le_refl _, (fun e => by cases e), by decide⟩, RowAt.of_block hb14 ⟨[.int .i64 1, .int .i64 (s.next + 1), .int .i64 0, .int .i64 0, .int .i64 0, .int .i64 0, .string ⟨#[]⟩, .slice none 0 0, .slice none 0 0], _, rfl, ⟨none, 0, none, 0, rfl, Nat.zero_le _, ⟨Nat.le_refl _, fun _ => rfl, by decide⟩, RowAt.nil _ _, ⟨Nat.le_refl _, fun _ => rfl, by decide⟩, RowAt.nil _ _⟩, [.int .i64 2, .int .i64 0, .int .i64 d.no, .int .i64 d.kind, .int .i64 lk, .int .i64 d.size, .string d.target, .slice A9' al.length c9', .slice A6 d.runs.length c6], _, rfl, ⟨A9', c9', A6, c6, rfl, HSZ.out, HK9.out, HR9.out.mono le14, HK6.out, HR6.out.mono le14⟩, [.int .i64 2, .int .i64 0, .int .i64 s.next, .int .i64 kind, .int .i64 (newI s.next kind target).links, .int .i64 (newI s.next kind target).size, .string (newI s.next kind target).target, .slice none 0 0, .slice none 0 0], [], rfl, ⟨none, 0, none, 0, rfl, newI_size _ _ _ htz, ⟨Nat.le_refl _, fun _ => rfl, by decide⟩, RowAt.nil _ _, ⟨Nat.le_refl _, fun _ => rfl, by decide⟩, RowAt.nil _ _⟩, rfl⟩ (by show 3 ≤ 9223372036854775807; decide), E14.drop (le1.out.trans (l5.out.trans (l9.out.trans (HL12.out.trans le14)))) (FLe.refl _)⟩
              · have hb : (ac == 0) = false := by simpa using hac
                have hb2 : (ac != 0) = true := by simpa using hac
                have HQ := hid (show makeP s path kind target = ([], 0, ac) by rw [HMO.out, if_pos (by rw [HAC.out]; exact hac), HAC.out])
                clear hac
                go_wp2_with fail
                go_ret3
                exact (by rw [HQ.out]; exact ⟨none, 0, h, rfl, ⟨Nat.zero_le _, fun _ => rfl, by decide⟩, RowAt.nil _ _, E10.out.back⟩)
            · have HQ := hid (show makeP s path kind target = ([], 0, 18) by rw [HMN.out, if_pos (of_decide_eq_true HB9.out)])
              go_wp2_with fail
              go_ret3
              exact (by rw [HQ.out]; exact ⟨none, 0, h, rfl, ⟨Nat.zero_le _, fun _ => rfl, by decide⟩, RowAt.nil _ _, E6.out.back⟩)
        · have hb : (fc == 0) = false := by simpa using hcode
          have hb2 : (fc != 0) = true := by simpa using hcode
          have HQ := hid (show makeP s path kind target = ([], 0, fc) by
            have q := HFS.out
            by_cases hc : code = 0
            · subst hc
              rw [if_neg (by simp)] at q
              cases hz : (findE ((findI s.inodes no).getD zeroI).entries name).isSome with
              | true =>
                rw [hz, if_pos rfl] at q
                rw [makeP_late (target := target) HK1.out HK2.out HPAR.out rfl, if_pos hz, show (12 : Int) = fc from congrArg Prod.snd q]
              | false => rw [hz, if_neg (by simp)] at q; exact absurd (congrArg Prod.snd q).symm hcode
            · rw [if_pos hc] at q
              rw [makeP_par HK1.out HK2.out (by rw [HPAR.out]; exact hc), HPAR.out, show (no, name, code).2.2 = fc from congrArg Prod.snd q])
          clear hcode
          go_wp2_with fail
          go_ret3
          exact (by rw [HQ.out]; exact ⟨none, 0, h, rfl, ⟨Nat.zero_le _, fun _ => rfl, by decide⟩, RowAt.nil _ _, E6.out.back⟩)
      · have HQ := hid (show makeP s path kind target = ([], 0, 17) by
          unfold makeP
          have q := of_decide_eq_true HB0.out
          rw [if_neg HK1.out, if_pos ⟨q.1, by
            have q2 := q.2
            rw [← HQR.out] at q2
            have q3 := of_decide_eq_false q2
            cases ht : targetB target with
            | false => exact .inl rfl
            | true => exact .inr fun e => q3 ⟨ht, e⟩⟩])
        go_wp2_with fail
        go_ret3
        exact (by rw [HQ.out]; exact ⟨none, 0, h, rfl, ⟨Nat.zero_le _, fun _ => rfl, by decide⟩, RowAt.nil _ _, E3.out.back⟩)
end Go.Proofs.YtmljcjjhakhjaaaDoor
