/- Plain facts of TreeFull: what becomes of a state when names and directories are added, one by one. -/
import Derived.Test.YtdiaibkpcnknbaaDoorTrAll
namespace Go.Proofs.YtdiaibkpcnknbaaDoor
open Go.RowKit Go.Sort
set_option linter.unusedVariables false
def okSt (s : State) : Bool := decide (0 ≤ s.next ∧ s.next ≤ 1000000 ∧ s.inodes.length ≤ 300 ∧ s.bads.length ≤ 300) && s.inodes.all fun x => decide (x.entries.length ≤ 1000 ∧ -1000000 ≤ x.links ∧ x.links ≤ 1000000 ∧ x.runs.length ≤ 1000)
theorem okSt_out {s : State} (h : okSt s = true) : (0 ≤ s.next ∧ s.next ≤ 1000000 ∧ s.inodes.length ≤ 300 ∧ s.bads.length ≤ 300) ∧ (∀ x ∈ s.inodes, midI x) ∧ ∀ x ∈ s.inodes, fitI x := by
  unfold okSt at h
  rw [Bool.and_eq_true, decide_eq_true_eq, List.all_eq_true] at h
  refine ⟨h.1, fun x hx => ?_, fun x hx => ?_⟩
  · have q := of_decide_eq_true (h.2 x hx); exact ⟨q.1, q.2.1, q.2.2.1⟩
  · have q := of_decide_eq_true (h.2 x hx); exact ⟨by omega, by omega⟩
def sufF (a b : Nat) : ByteArray := ⟨#[UInt8.ofNat (97 + a), UInt8.ofNat (97 + b)]⟩
def nmF (p : ByteArray) (i : Nat) : ByteArray := p ++ sufF (i / 26) (i % 26)
def lkF (i : Nat) (s : State) : List Deed × Int := linkP s ⟨#[47, 102]⟩ (nmF ⟨#[47, 100, 47]⟩ i)
def s1F (i : Nat) (s : State) : State := if (lkF i s).2 = 0 then applyS s (lkF i s).1 else s
def mkF (i : Nat) (s : State) : List Deed × Int × Int := makeP (s1F i s) (nmF ⟨#[47]⟩ i) 2 ⟨#[]⟩
def s2F (i : Nat) (s : State) : State := if (mkF i s).2.2 = 0 then applyS (s1F i s) (mkF i s).1 else s1F i s
def fileF : State := applyS newS (makeP newS ⟨#[47, 102]⟩ 1 ⟨#[]⟩).1
def dirF : State := applyS fileF (makeP fileF ⟨#[47, 100]⟩ 2 ⟨#[]⟩).1
def seqF : Nat → State
  | 0 => dirF
  | i + 1 => s2F i (seqF i)
/-- One round is as it should be. -/
def rndF (i : Nat) (s : State) : Bool := okSt s && decide ((lkF i s).2 = if i < 99 then 0 else 18) && decide ((lkF i s).1.length ≤ 10) && okSt (s1F i s) && decide ((mkF i s).2.2 = if i < 97 then 0 else 18) && decide ((mkF i s).1.length ≤ 10) && decide ((findI s.inodes 2).map (·.links) = some (if i < 99 then (i : Int) + 1 else 100))
theorem rndF_out {i : Nat} {s : State} (h : rndF i s = true) : okSt s = true ∧ (lkF i s).2 = (if i < 99 then 0 else 18) ∧ (lkF i s).1.length ≤ 10 ∧ okSt (s1F i s) = true ∧ (mkF i s).2.2 = (if i < 97 then 0 else 18) ∧ (mkF i s).1.length ≤ 10 ∧ (findI s.inodes 2).map (·.links) = some (if i < 99 then (i : Int) + 1 else 100) := by
  unfold rndF at h
  simp only [Bool.and_eq_true, decide_eq_true_eq] at h
  obtain ⟨⟨⟨⟨⟨⟨h1, h2⟩, h3⟩, h4⟩, h5⟩, h6⟩, h7⟩ := h
  exact ⟨h1, h2, h3, h4, h5, h6, h7⟩
def runF : Nat → Nat → State → Bool
  | 0, _, _ => true
  | n + 1, i, s => rndF i s && runF n (i + 1) (s2F i s)
set_option maxRecDepth 100000 in
theorem runF_ok : runF 102 0 dirF = true := by decide +kernel
theorem runF_at : ∀ (n i : Nat), runF n i (seqF i) = true → ∀ j, j < n → rndF (i + j) (seqF (i + j)) = true
  | 0, _, _, j, hj => by omega
  | n + 1, i, h, 0, _ => by
    unfold runF at h
    rw [Bool.and_eq_true] at h
    exact h.1
  | n + 1, i, h, j + 1, hj => by
    unfold runF at h
    rw [Bool.and_eq_true] at h
    have q := runF_at n (i + 1) h.2 j (by omega)
    rw [show i + (j + 1) = i + 1 + j by omega]
    exact q
theorem rnd_at (k : Nat) (hk : k < 102) : rndF k (seqF k) = true := by
  have q := runF_at 102 0 runF_ok k hk
  rwa [Nat.zero_add] at q
theorem file_made : (makeP newS ⟨#[47, 102]⟩ 1 ⟨#[]⟩).2 = (2, 0) ∧ (makeP newS ⟨#[47, 102]⟩ 1 ⟨#[]⟩).1.length = 3 := by decide +kernel
theorem dir_made : (makeP fileF ⟨#[47, 100]⟩ 2 ⟨#[]⟩).1.length = 3 := by decide +kernel
theorem new_ok : okSt newS = true ∧ okSt fileF = true := by decide +kernel
theorem nmF_sz (p : ByteArray) (i : Nat) : (nmF p i).size = p.size + 2 := by unfold nmF; rw [ByteArray.size_append]; rfl
theorem a_made : (makeP newS ⟨#[47, 97]⟩ 1 ⟨#[]⟩).2 = (2, 0) ∧ (makeP newS ⟨#[47, 97]⟩ 1 ⟨#[]⟩).1.length = 3 := by decide +kernel
theorem RetMake.lit {h : FH} {w w' : World} {r : List Deed × Int × Int} {e : Ending} (R : RetMake h w r e w') {n : Nat} {a b : Int} (hn : r.1.length = n) (h2 : r.2 = (a, b)) : ∃ A c h1, e = .returned (.tuple #[.slice A n c, .int .i64 a, .int .i64 b]) ∧ RowAt h1 A r.1 ∧ Ext h w h1 w' := by
  obtain ⟨A, c, h1, rfl, _, r1, E⟩ := R
  exact ⟨A, c, h1, by rw [hn, h2], r1, E⟩
set_option maxHeartbeats 4000000 in
set_option maxRecDepth 100000 in
theorem law16_awake (h : FH) (w : World) (hs : Sits h w) : Calls Tryd.prog 5 #[] w fun e w' => e = .returned (.bool true) ∧ Ext h w h w' := by
  have KN := hid (ref_NewState h w hs)
  go_enter Tryd.func5, Tryd.ntmps5
  go_wp2_with (first
    | (go_at_call 7; refine KN.out.mono ?_; rintro e w1 ⟨cs, h1, rfl, rs, F1⟩; have E1 := hid F1; have RS := hid rs; clear F1 rs)
    | (go_at_call 8; refine (tree_Make newS cs ⟨#[47, 97]⟩ (by decide) 1 ⟨#[]⟩ (by decide) (by decide) (by decide) (okSt_out new_ok.1).2.1 (okSt_out new_ok.1).2.2 h1 w1 E1.out.sits RS.out).mono ?_; rintro e w2 R; obtain ⟨A, c, h2, rfl, _, F2⟩ := R.lit a_made.2 a_made.1; have E2 := hid (E1.out.trans F2); clear F2))
  go_ret
  exact ⟨rfl, E2.out.back⟩
end Go.Proofs.YtdiaibkpcnknbaaDoor
