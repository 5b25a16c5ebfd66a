import Derived.Test.YtcnbnehammbncaaDoorInodeF
namespace Go.Proofs.YtcnbnehammbncaaDoor
open Go.RowKit Go.Sort
set_option linter.unusedVariables false
def newI (no kind : Int) (s : ByteArray) : Inode := ⟨no, kind, if kind = 2 then 2 else 1, if kind = 3 then s.size else 0, if kind = 3 then s else ⟨#[]⟩, [], []⟩
def newV (no kind : Int) (s : ByteArray) : Value := .agg #[.int .i64 no, .int .i64 kind, .int .i64 (newI no kind s).links, .int .i64 (newI no kind s).size, .string (newI no kind s).target, .slice none 0 0, .slice none 0 0]
set_option maxHeartbeats 2000000 in
theorem ref_NewInode_1 (no : Int) (s : ByteArray) (hsz : s.size ≤ 9223372036854775807) (h : FH) (w : World) (hs : Sits h w) :
    Calls Tryd.prog 36 #[.int .i64 no, .int .i64 1, .string s] w fun e w' => e = .returned (newV no 1 s) ∧ Ext h w h w' := by
  have E0 := Ext.refl hs
  go_enter Tryd.func36, Tryd.ntmps36
  go_wp2
  refine bodyPost_ret (v := newV no 1 s) (by simp [results, Tryd.results36, go_sem, newV, newI]) rfl ⟨rfl, ?_⟩
  exact ((E0).alloc _).alloc _
set_option maxHeartbeats 2000000 in
theorem ref_NewInode_2 (no : Int) (s : ByteArray) (hsz : s.size ≤ 9223372036854775807) (h : FH) (w : World) (hs : Sits h w) :
    Calls Tryd.prog 36 #[.int .i64 no, .int .i64 2, .string s] w fun e w' => e = .returned (newV no 2 s) ∧ Ext h w h w' := by
  have E0 := Ext.refl hs
  go_enter Tryd.func36, Tryd.ntmps36
  go_wp2
  refine bodyPost_ret (v := newV no 2 s) (by simp [results, Tryd.results36, go_sem, newV, newI]) rfl ⟨rfl, ?_⟩
  exact ((E0).alloc _).alloc _
set_option maxHeartbeats 2000000 in
theorem ref_NewInode_3 (no : Int) (s : ByteArray) (hsz : s.size ≤ 9223372036854775807) (h : FH) (w : World) (hs : Sits h w) :
    Calls Tryd.prog 36 #[.int .i64 no, .int .i64 3, .string s] w fun e w' => e = .returned (newV no 3 s) ∧ Ext h w h w' := by
  have E0 := Ext.refl hs
  go_enter Tryd.func36, Tryd.ntmps36
  go_wp2
  refine bodyPost_ret (v := newV no 3 s) (by simp [results, Tryd.results36, go_sem, newV, newI]) rfl ⟨rfl, ?_⟩
  exact ((E0).alloc _).alloc _
set_option maxHeartbeats 2000000 in
theorem ref_NewInode_0 (no kind : Int) (k1 : ¬ kind = 1) (k2 : ¬ kind = 2) (k3 : ¬ kind = 3) (s : ByteArray) (hsz : s.size ≤ 9223372036854775807) (h : FH) (w : World) (hs : Sits h w) :
    Calls Tryd.prog 36 #[.int .i64 no, .int .i64 kind, .string s] w fun e w' => e = .returned (newV no kind s) ∧ Ext h w h w' := by
  have E0 := Ext.refl hs
  have g2 : (kind == 2) = false := by simpa using k2
  have g3 : (kind == 3) = false := by simpa using k3
  have hk : newV no kind s = .agg #[.int .i64 no, .int .i64 kind, .int .i64 1, .int .i64 0, .string ⟨#[]⟩, .slice none 0 0, .slice none 0 0] := by unfold newV newI; simp only [if_neg k2, if_neg k3]
  have HK := hid hk
  clear hk
  clear k1 k2 k3
  go_enter Tryd.func36, Tryd.ntmps36
  go_wp2
  refine bodyPost_ret (v := .agg #[.int .i64 no, .int .i64 kind, .int .i64 1, .int .i64 0, .string ⟨#[]⟩, .slice none 0 0, .slice none 0 0]) (by simp [results, Tryd.results36, go_sem]) rfl ⟨by rw [HK.out], ?_⟩
  exact ((E0).alloc _).alloc _
theorem ref_NewInode (no kind : Int) (s : ByteArray) (hsz : s.size ≤ 9223372036854775807) (h : FH) (w : World) (hs : Sits h w) :
    Calls Tryd.prog 36 #[.int .i64 no, .int .i64 kind, .string s] w fun e w' => e = .returned (newV no kind s) ∧ Ext h w h w' := by
  by_cases k1 : kind = 1
  · subst k1; exact ref_NewInode_1 no s hsz h w hs
  by_cases k2 : kind = 2
  · subst k2; exact ref_NewInode_2 no s hsz h w hs
  by_cases k3 : kind = 3
  · subst k3; exact ref_NewInode_3 no s hsz h w hs
  exact ref_NewInode_0 no kind k1 k2 k3 s hsz h w hs
theorem newI_size (no kind : Int) (s : ByteArray) (hsz : s.size ≤ 9223372036854775807) : (newI no kind s).target.size ≤ 9223372036854775807 := by
  unfold newI
  simp only
  split
  · exact hsz
  · exact Nat.zero_le _
theorem newV_rep (h : FH) (no kind : Int) (s : ByteArray) (hsz : s.size ≤ 9223372036854775807) : ∃ cs : List Value, newV no kind s = .agg cs.toArray ∧ repInode h cs (newI no kind s) :=
  ⟨_, rfl, none, 0, none, 0, rfl, newI_size no kind s hsz, ⟨Nat.le_refl _, fun _ => rfl, by decide⟩, RowAt.nil _ _, ⟨Nat.le_refl _, fun _ => rfl, by decide⟩, RowAt.nil _ _⟩
end Go.Proofs.YtcnbnehammbncaaDoor
