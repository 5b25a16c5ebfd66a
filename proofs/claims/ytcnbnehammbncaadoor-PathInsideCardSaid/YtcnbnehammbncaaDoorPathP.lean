import Derived.Test.YtcnbnehammbncaaDoorPkI
import Derived.Test.YtcnbnehammbncaaDoorNameAll
namespace Go.Proofs.YtcnbnehammbncaaDoor
open Go.RowKit Go.Sort
set_option linter.unusedVariables false
/-! ### ways, in plain words -/
def keepL (l : List UInt8) : Option (List ByteArray) := keepB ((splitL l).map fun l => (⟨l.toArray⟩ : ByteArray))
theorem keepL_app (l r : List UInt8) : keepL (l ++ 47 :: r) = (keepL l).bind fun a => (keepL r).map (a ++ ·) := by
  unfold keepL; rw [splitL_app, List.map_append, keepB_app]
theorem keepL_two {l r : List UInt8} {a b : List ByteArray} (h : keepL l = some a) (k : keepL r = some b) : keepL (l ++ 47 :: r) = some (a ++ b) := by rw [keepL_app, h, k]; rfl
theorem keepL_top (r : List UInt8) : keepL (47 :: r) = keepL r := by
  have := keepL_app [] r
  rw [List.nil_append] at this
  rw [this, show keepL [] = some [] from by decide +kernel]
  cases keepL r <;> rfl
theorem app_list (a b : ByteArray) : (a ++ b).data.toList = a.data.toList ++ b.data.toList := by simp [ByteArray.data_append]
theorem ways_list {s : ByteArray} {l : List UInt8} {ks : List ByteArray} (hs : s.data.toList = 47 :: l) (hl : l.length ≤ 399) (hk : keepL l = some ks) : waysXs s = ks ∧ waysCode s = 0 := by
  have hz : s.size = l.length + 1 := by
    show s.data.size = _
    rw [← Array.length_toList, hs]; rfl
  refine ways_of (by omega) (by omega) ?_ ?_
  · unfold topB; rw [hs]; rfl
  · unfold splitB; rw [hs]; exact (keepL_top l).trans hk
/-- However many rounds: where it ends. -/
def RunsTo (xs : List Inode) (st : Wk) (names : List ByteArray) (f : Bool) (res : Int × Int) : Prop := ∀ n, mW st names.length < n → walkF n xs st names f = res
theorem RunsTo.nil (xs : List Inode) (st : Wk) (f : Bool) : RunsTo xs st [] f (st.at_, 0) := fun n h => by
  cases n with
  | zero => exact absurd h (Nat.not_lt_zero _)
  | succ n => rfl
theorem RunsTo.step {xs : List Inode} {st st' : Wk} {a : ByteArray} {names l : List ByteArray} {f : Bool} {res : Int × Int} (h : stepW xs st a (f || decide (0 < names.length)) = (st', l, 0)) (h1 : 1 ≤ st.kept.length) (h0 : 0 ≤ st.loops) (h8 : st.loops ≤ 8) (k : RunsTo xs st' (l ++ names) f res) : RunsTo xs st (a :: names) f res := fun n hn => by
  cases n with
  | zero => exact absurd hn (Nat.not_lt_zero _)
  | succ n =>
    rw [walkF_cons h, if_pos rfl]
    obtain ⟨g0, g8, g1, _, gm⟩ := stepW_meas h h1 h0 h8 names.length
    rw [List.length_cons] at hn
    exact k n (by rw [List.length_append]; omega)
theorem RunsTo.err {xs : List Inode} {st st' : Wk} {a : ByteArray} {names l : List ByteArray} {f : Bool} {code : Int} (h : stepW xs st a (f || decide (0 < names.length)) = (st', l, code)) (hc : code ≠ 0) : RunsTo xs st (a :: names) f (0, code) := fun n hn => by
  cases n with
  | zero => exact absurd hn (Nat.not_lt_zero _)
  | succ n => rw [walkF_cons h, if_neg hc]
theorem RunsTo.walk {xs : List Inode} {names : List ByteArray} {f : Bool} {res : Int × Int} (k : RunsTo xs st0 names f res) : walkP xs names f = res := k _ (by show (8 - (0 : Int)).toNat * 402 + names.length < _; omega)
theorem repState.open {h : FH} {cs : List Value} {s : State} (r : repState h cs s) : ∃ A1 c1 A2 c2, cs = [.int .i64 s.next, .slice A1 s.inodes.length c1, .slice A2 s.bads.length c2] := by
  obtain ⟨A1, c1, A2, c2, e, _⟩ := r; exact ⟨A1, c1, A2, c2, e⟩
theorem newS_mid : ∀ x ∈ newS.inodes, midI x := by
  intro x hx
  simp only [newS, List.mem_singleton] at hx
  subst hx
  exact ⟨by decide, by decide, by decide⟩
/-! ### PathEnds -/
def endD (name : ByteArray) : Inode := { newI 1 2 ⟨#[]⟩ with entries := [⟨name, 2⟩] }
def endF : Inode := newI 2 1 ⟨#[]⟩
def endS (name : ByteArray) : State := ⟨3, [endD name, endF], []⟩
section
variable {name : ByteArray}
theorem end_good (hn : nameB name = true) : goodB name = true := by unfold goodB; rw [hn]; rfl
theorem end_up (hn : nameB name = true) : (name.toList == [46, 46]) = false := by
  unfold nameB at hn
  simp only [Bool.and_eq_true, Bool.not_eq_true'] at hn
  exact hn.2
theorem end_keep (hn : nameB name = true) : keepL name.data.toList = some [name] := keep_one (end_good hn)
theorem end_len (hn : nameB name = true) : name.data.toList.length ≤ 32 := by
  have := (good_facts (end_good hn)).2.2.1
  rw [Array.length_toList]; exact this
theorem end_make (hn : nameB name = true) : makeP newS (⟨#[47]⟩ ++ name) 1 ⟨#[]⟩ = ([⟨1, 3, zeroI⟩, putD (endD name), putD endF], 2, 0) := by
  have hw := ways_list (s := ⟨#[47]⟩ ++ name) (l := name.data.toList) (by rw [app_list]; rfl) (by have := end_len hn; omega) (end_keep hn)
  have hp : parentP newS.inodes (⟨#[47]⟩ ++ name) = (1, name, 0) := by
    unfold parentP
    rw [if_pos hw.2, hw.1, parentL_at (n := 0) rfl rfl]
    rw [if_neg (by rw [end_up hn]; simp)]
    rfl
  have hc : addC (newI 1 2 ⟨#[]⟩).entries ⟨name, 2⟩ = 0 := by
    unfold addC
    simp only [hn]
    rfl
  rw [makeP_late (by decide) (by decide) hp (d := newI 1 2 ⟨#[]⟩) rfl]
  rw [if_neg (by simp [newI, findE]), if_neg (by decide), if_neg (by decide), if_neg (by rw [show newS.next = 2 from rfl, hc]; simp)]
  show ([_, putD (makeD _ name 2 1), _], _, _) = _
  unfold makeD addL
  rw [hc]
  rfl
theorem end_apply (hn : nameB name = true) : applyS newS (makeP newS (⟨#[47]⟩ ++ name) 1 ⟨#[]⟩).1 = endS name := by rw [end_make hn]; rfl
theorem end_find (hn : nameB name = true) : findE (endD name).entries name = some 2 := by simp [endD, findE, isE]
theorem end_no {a : ByteArray} (h : name ≠ a) : findE (endD name).entries a = none := by
  simp [findE, isE, endD, h]
theorem end_step (hn : nameB name = true) (st : Wk) (h : st.at_ = 1) (f : Bool) : stepW (endS name).inodes st name f = (⟨st.kept, 2, st.loops⟩, [], 0) := by
  rw [stepW_some (x := endD name) (y := endF) (no := 2) (by rw [h]; rfl) rfl (end_up hn) (end_find hn) rfl]
  exact follW_plain (fun h => absurd h.1 (by decide)) (by decide)
theorem end_file (st : Wk) (h : st.at_ = 2) (a : ByteArray) (f : Bool) : stepW (endS name).inodes st a f = (st, [], 13) := stepW_file (x := endF) (by rw [h]; rfl) (by decide)
theorem end_back (st : Wk) (h : st = st0) (f : Bool) : stepW (endS name).inodes st ⟨#[46, 46]⟩ f = (st0, [], 0) := by
  subst h
  rw [stepW_up (x := endD name) rfl rfl (by decide +kernel)]
  rfl
theorem end_r3 (hn : nameB name = true) : resolveP (endS name).inodes (⟨#[47, 46, 46, 47, 46, 46, 47]⟩ ++ name) true = (2, 0) := by
  have hk : keepL (46 :: 46 :: 47 :: ([46, 46] ++ 47 :: name.data.toList)) = some ([⟨#[46, 46]⟩] ++ ([⟨#[46, 46]⟩] ++ [name])) :=
    keepL_two (l := [46, 46]) (by decide +kernel) (keepL_two (l := [46, 46]) (by decide +kernel) (end_keep hn))
  have hw := ways_list (s := ⟨#[47, 46, 46, 47, 46, 46, 47]⟩ ++ name) (by rw [app_list]; rfl) (by have := end_len hn; simp at *; omega) hk
  unfold resolveP
  rw [if_pos hw.2, hw.1]
  refine RunsTo.walk (RunsTo.step (end_back _ rfl _) (by decide) (by decide) (by decide) (RunsTo.step (end_back _ rfl _) (by decide) (by decide) (by decide) (RunsTo.step (end_step hn _ rfl _) (by decide) (by decide) (by decide) (RunsTo.nil _ _ _))))
theorem end_r4 (hn : nameB name = true) : resolveP (endS name).inodes (⟨#[47]⟩ ++ name ++ ⟨#[47, 120]⟩) true = (0, 13) := by
  have hk : keepL (name.data.toList ++ 47 :: [120]) = some ([name] ++ [⟨#[120]⟩]) := keepL_two (end_keep hn) (by decide +kernel)
  have hw := ways_list (s := ⟨#[47]⟩ ++ name ++ ⟨#[47, 120]⟩) (by rw [app_list, app_list]; rfl) (by have := end_len hn; simp at *; omega) hk
  unfold resolveP
  rw [if_pos hw.2, hw.1]
  exact RunsTo.walk (RunsTo.step (end_step hn _ rfl _) (by decide) (by decide) (by decide) (RunsTo.err (end_file _ rfl _ _) (by decide)))
theorem end_r5 (hn : nameB name = true) : resolveP (endS name).inodes (⟨#[47]⟩ ++ name ++ ⟨#[47, 46, 46]⟩) true = (0, 13) := by
  have hk : keepL (name.data.toList ++ 47 :: [46, 46]) = some ([name] ++ [⟨#[46, 46]⟩]) := keepL_two (end_keep hn) (by decide +kernel)
  have hw := ways_list (s := ⟨#[47]⟩ ++ name ++ ⟨#[47, 46, 46]⟩) (by rw [app_list, app_list]; rfl) (by have := end_len hn; simp at *; omega) hk
  unfold resolveP
  rw [if_pos hw.2, hw.1]
  exact RunsTo.walk (RunsTo.step (end_step hn _ rfl _) (by decide) (by decide) (by decide) (RunsTo.err (end_file _ rfl _ _) (by decide)))
theorem end_r6 : parentP (endS name).inodes ⟨#[47, 46, 46]⟩ = (0, ⟨#[]⟩, 24) := by
  have hw := ways_list (s := ⟨#[47, 46, 46]⟩) (l := [46, 46]) rfl (by decide) (ks := [⟨#[46, 46]⟩]) (by decide +kernel)
  unfold parentP
  rw [if_pos hw.2, hw.1, parentL_at (n := 0) rfl rfl, if_pos (by decide +kernel)]
theorem end_r7 : parentP (endS name).inodes ⟨#[47, 47, 46]⟩ = (0, ⟨#[]⟩, 24) := by
  have hw := ways_list (s := ⟨#[47, 47, 46]⟩) (l := [47, 46]) rfl (by decide) (ks := []) (by decide +kernel)
  unfold parentP
  rw [if_pos hw.2, hw.1]; rfl
theorem end_r8 (hn : nameB name = true) : parentP (endS name).inodes (⟨#[47]⟩ ++ name ++ ⟨#[47, 120]⟩) = (0, ⟨#[]⟩, 13) := by
  have hk : keepL (name.data.toList ++ 47 :: [120]) = some ([name] ++ [⟨#[120]⟩]) := keepL_two (end_keep hn) (by decide +kernel)
  have hw := ways_list (s := ⟨#[47]⟩ ++ name ++ ⟨#[47, 120]⟩) (by rw [app_list, app_list]; rfl) (by have := end_len hn; simp at *; omega) hk
  have hr : walkP (endS name).inodes [name] true = (2, 0) := RunsTo.walk (RunsTo.step (end_step hn _ rfl _) (by decide) (by decide) (by decide) (RunsTo.nil _ _ _))
  unfold parentP
  rw [if_pos hw.2, hw.1, parentL_at (n := 1) rfl rfl, if_neg (by decide +kernel)]
  rw [show ([name] ++ [⟨#[120]⟩] : List ByteArray).take 1 = [name] from rfl, hr]
  rfl
theorem end_r9 (hn : nameB name = true) : resolveP (endS name).inodes (⟨#[47, 122, 122, 47]⟩ ++ name) true = (0, if name = ⟨#[122, 122]⟩ then 13 else 11) := by
  have hk : keepL ([122, 122] ++ 47 :: name.data.toList) = some ([⟨#[122, 122]⟩] ++ [name]) := keepL_two (by decide +kernel) (end_keep hn)
  have hw := ways_list (s := ⟨#[47, 122, 122, 47]⟩ ++ name) (by rw [app_list]; rfl) (by have := end_len hn; simp at *; omega) hk
  unfold resolveP
  rw [if_pos hw.2, hw.1]
  by_cases e : name = ⟨#[122, 122]⟩
  · rw [if_pos e]
    subst e
    exact RunsTo.walk (RunsTo.step (end_step hn _ rfl _) (by decide) (by decide) (by decide) (RunsTo.err (end_file _ rfl _ _) (by decide)))
  · rw [if_neg e]
    exact RunsTo.walk (RunsTo.err (stepW_noE (x := endD name) rfl rfl (by decide +kernel) (end_no e)) (by decide))
theorem end_r10 (hn : nameB name = true) : parentP (endS name).inodes (⟨#[47, 46, 47]⟩ ++ name ++ ⟨#[47, 47]⟩) = (1, name, 0) := by
  have hk : keepL ([46] ++ 47 :: (name.data.toList ++ 47 :: [47])) = some ([] ++ ([name] ++ [])) := keepL_two (by decide +kernel) (keepL_two (end_keep hn) (by decide +kernel))
  have hw := ways_list (s := ⟨#[47, 46, 47]⟩ ++ name ++ ⟨#[47, 47]⟩) (by rw [app_list, app_list]; rfl) (by have := end_len hn; simp at *; omega) hk
  unfold parentP
  rw [if_pos hw.2, hw.1, show ([] ++ ([name] ++ []) : List ByteArray) = [name] from rfl, parentL_at (n := 0) rfl rfl]
  rw [if_neg (by rw [end_up hn]; simp)]
  rfl
end
end Go.Proofs.YtcnbnehammbncaaDoor
