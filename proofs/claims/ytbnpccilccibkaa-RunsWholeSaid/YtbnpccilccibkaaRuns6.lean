import Derived.Test.YtbnpccilccibkaaRuns5
namespace Go.Proofs.Ytbnpccilccibkaa
open Go.RowKit Go.Sort
set_option linter.unusedVariables false
theorem ret_val6 {a b : Bool} (h : a = b) : Value.bool a = .bool b := by rw [h]
def plRunG (x : Run) (f : Int → Option Int) : Int → Option Int := fun a => if x.from_ ≤ a ∧ a < x.from_ + x.count then some (x.at_ + (a - x.from_)) else f a
def placesG (xs : List Run) : Int → Option Int := xs.foldl (fun f x => plRunG x f) (fun _ => none)
theorem placesFG_go (xs : List Run) : ∀ (f : Int → Option Value) (g : Int → Option Int), (∀ a, f a = (g a).map (Value.int .i64)) → ∀ a, xs.foldl (fun f x => plRun x x.count f) f a = (xs.foldl (fun f x => plRunG x f) g a).map (Value.int .i64) := by
  induction xs with
  | nil => intro f g h a; exact h a
  | cons x xs ih =>
    intro f g h a
    simp only [List.foldl_cons]
    apply ih
    intro a
    unfold plRun plRunG
    split
    · rfl
    · exact h a
theorem placesFG (xs : List Run) (a : Int) : placesF xs a = (placesG xs a).map (Value.int .i64) := placesFG_go xs (fun _ => none) (fun _ => none) (fun _ => rfl) a
def setG (xs : List Run) (i a : Int) : Int → Option Int := fun q => if q = i then some a else placesG xs q
def setR (xs : List Run) (i a : Int) : List Run :=
  if rightB xs then (if decide (i < 0) || decide (64 ≤ i) || decide (a < 0) || decide (2147483647 < a) then xs else drawnL (setG xs i a) 64) else []
set_option maxHeartbeats 4000000 in
theorem runs_Set (xs : List Run) (A : Option Addr) (c : Nat) (i a : Int) (h : FH) (w : World) (hs : Sits h w) (r : RowAt h A xs) :
    Calls Try.prog 10 #[.slice A xs.length c, .int .i64 i, .int .i64 a] w fun e w' => RetOwn h w 38 (setR xs i a) e w' := by
  have hl := r.1
  obtain ⟨t, ht⟩ : ∃ t, rightB xs = t := ⟨_, rfl⟩
  have K := runs_Right xs A c t ht h w hs r
  cases t
  · have HR := hid (show setR xs i a = [] by unfold setR; rw [ht]; rfl)
    clear ht
    go_enter Try.func10, Try.ntmps10
    go_wp2_with fail
    refine K.mono ?_
    rintro e w1 ⟨rfl, E1⟩
    clear K
    go_wp2_with fail
    go_ret
    exact ⟨_, rfl, by rw [HR.out]; exact OwnL.nil _ _ _ _, E1⟩
  · have hlen := right_len ht
    obtain ⟨t2, ht2⟩ : ∃ t, (decide (i < 0) || decide (64 ≤ i) || decide (a < 0) || decide (2147483647 < a)) = t := ⟨_, rfl⟩
    have HP := hid (show setR xs i a = if t2 = true then xs else drawnL (setG xs i a) 64 by unfold setR; rw [ht, ht2]; rfl)
    have HT2 := hid ht2
    have HR := hid ht
    clear ht ht2
    have HCL := hid (fun (w : World) (hs : Sits h w) => clone_Run xs A c (by omega) h w hs r)
    have HPL := hid (fun (w : World) (hs : Sits h w) => runs_places xs A c HR.out h w hs r)
    go_enter Try.func10, Try.ntmps10
    go_wp2_with fail
    refine K.mono ?_
    rintro e w1 ⟨rfl, E1⟩
    clear K
    go_upto_region 3 with (fail)
    go_cut [12] (fun s wx => s = .bool t2 ∧ wx = w1)
    case first =>
      as_aux_lemma =>
        clear HCL HPL HP
        by_cases h1 : i < 0
        · have g1 := hid (show true = t2 by rw [← HT2.out]; simp [h1])
          go_wp2
          go_meet
          exact ⟨ret_val6 g1.out, rfl⟩
        · by_cases h2 : 64 ≤ i
          · have g1 := hid (show true = t2 by rw [← HT2.out]; simp [h2])
            go_wp2
            go_meet
            exact ⟨ret_val6 g1.out, rfl⟩
          · by_cases h3 : a < 0
            · have g1 := hid (show true = t2 by rw [← HT2.out]; simp [h3])
              go_wp2
              go_meet
              exact ⟨ret_val6 g1.out, rfl⟩
            · by_cases h4 : 2147483647 < a
              · have g1 := hid (show true = t2 by rw [← HT2.out]; simp [h4])
                go_wp2
                go_meet
                exact ⟨ret_val6 g1.out, rfl⟩
              · have g1 := hid (show false = t2 by rw [← HT2.out]; simp [h1, h2, h3, h4])
                go_wp2
                go_meet
                exact ⟨ret_val6 g1.out, rfl⟩
    case rest =>
      obtain ⟨rfl, rfl⟩ := hcut
      cases t2
      · have HP2 := hid (show setR xs i a = drawnL (setG xs i a) 64 from HP.out)
        clear HCL HP HT2
        go_wp2_with fail
        refine (HPL.out _ E1.sits).mono ?_
        rintro e w2 ⟨b, rfl, M, hb, E2⟩
        have HN := hid (hs.none (g := b) (Nat.le_trans E1.size hb))
        have E3 := E1.trans E2
        have hb2 : w.heap.size ≤ b := Nat.le_trans E1.size hb
        clear E2 E1 hb
        go_wp2_with (at_mapUpdate; refine wpList_mapSet _ rfl _ _ _ 57 3 rfl kt_runs_page Try.underlying57 b _ rfl M i rfl (.int .i64 a) rfl ?_; intro w3 M1 hg1)
        have E4 := E3.grown hg1 (fun j hj => by cases hj; exact ⟨hb2, HN.out⟩)
        have KD := runs_drawn b (setG xs i a) _ (by
          intro q
          unfold setG
          show (if q = i then _ else _) = _
          split
          · rfl
          · exact placesFG xs q) h w3 E4.sits M1
        clear hg1 M M1
        go_wp2_with fail
        refine KD.mono ?_
        rintro e w4 ⟨v, rfl, O, E5⟩
        clear KD
        go_wp2_with fail
        go_ret
        exact ⟨_, rfl, by rw [HP2.out]; exact O.rebase E4.size, E4.trans E5⟩
      · have HP2 := hid (show setR xs i a = xs from HP.out)
        clear HPL HP HT2
        go_wp2_with fail
        refine (HCL.out _ E1.sits).mono ?_
        rintro e w4 ⟨v, rfl, O, E5⟩
        go_wp2_with fail
        go_ret
        exact ⟨_, rfl, by rw [HP2.out]; exact O.rebase E1.size, E1.trans E5⟩
end Go.Proofs.Ytbnpccilccibkaa
