import Derived.Test.YtkglaofiencfdaaPkI
namespace Go.Proofs.Ytkglaofiencfdaa
open Go.RowKit Go.Sort
set_option linter.unusedVariables false
/-! ### what is inside of what, in plain words -/
def dirE (xs : List Inode) (seen : List Int) (n : Int) : Bool := !seen.contains n && decide (((findI xs n).getD zeroI).kind = 2)
def scanE (xs : List Inode) : List Entry → List Int × List Int → List Int × List Int
  | [], p => p
  | e :: es, p => scanE xs es (if dirE xs p.1 e.no = true then (p.1 ++ [e.no], p.2 ++ [e.no]) else p)
def entsOf (xs : List Inode) (d : Int) : List Entry := ((findI xs d).getD zeroI).entries
def scanD (xs : List Inode) (no : Int) : List Int → List Int × List Int → Option (List Int × List Int)
  | [], p => some p
  | d :: ds, p => if d = no then none else scanD xs no ds (scanE xs (entsOf xs d) p)
def levelF (xs : List Inode) (no : Int) : Nat → List Int → List Int → Bool
  | 0, _, _ => false
  | n + 1, seen, now => if now = [] then false else match scanD xs no now (seen, []) with
    | none => true
    | some p => levelF xs no n p.1 p.2
def insideP (xs : List Inode) (no dir : Int) : Bool := levelF xs no 201 [dir] [dir]
theorem nodup_len : ∀ (l m : List Int), l.Nodup → (∀ a ∈ l, a ∈ m) → l.length ≤ m.length
  | [], _, _, _ => Nat.zero_le _
  | a :: l, m, hn, hs => by
    rw [List.nodup_cons] at hn
    have ha := hs a (by simp)
    have h1 := nodup_len l (m.erase a) hn.2 (fun b hb => (List.mem_erase_of_ne (fun e => hn.1 (by rw [← e]; exact hb))).2 (hs b (by simp [hb])))
    rw [List.length_erase_of_mem ha] at h1
    have h2 := List.length_pos_of_mem ha
    simp only [List.length_cons]
    omega
/-- What has been seen, and what comes next. -/
structure SeenOk (xs : List Inode) (dir : Int) (seen next : List Int) : Prop where
  nd : seen.Nodup
  sub : ∀ a ∈ seen, a = dir ∨ (findI xs a).isSome = true
  nn : next.Nodup
  ns : ∀ a ∈ next, a ∈ seen
theorem SeenOk.len {xs : List Inode} {dir : Int} {seen next : List Int} (S : SeenOk xs dir seen next) : seen.length ≤ xs.length + 1 ∧ next.length ≤ xs.length + 1 := by
  have h1 : seen.length ≤ (dir :: xs.map (·.no)).length := nodup_len _ _ S.nd (fun a ha => by
    rcases S.sub a ha with rfl | h
    · simp
    · right
      unfold findI at h
      obtain ⟨x, hx⟩ := Option.isSome_iff_exists.1 h
      have := List.find?_some hx
      unfold isI at this
      exact List.mem_map.2 ⟨x, List.mem_of_find?_eq_some hx, by simpa using this⟩)
  have h2 := nodup_len _ _ S.nn S.ns
  simp at h1
  omega
theorem SeenOk.start (xs : List Inode) (dir : Int) : SeenOk xs dir [dir] [] := ⟨by simp, fun a ha => .inl (by simpa using ha), by simp, fun a ha => by simp at ha⟩
theorem SeenOk.fresh {xs : List Inode} {dir : Int} {seen next : List Int} (S : SeenOk xs dir seen next) : SeenOk xs dir seen [] := ⟨S.nd, S.sub, by simp, fun a ha => by simp at ha⟩
theorem SeenOk.more {xs : List Inode} {dir : Int} {seen next : List Int} (S : SeenOk xs dir seen next) {n : Int} (h : dirE xs seen n = true) : SeenOk xs dir (seen ++ [n]) (next ++ [n]) := by
  unfold dirE at h
  simp only [Bool.and_eq_true, Bool.not_eq_true', decide_eq_true_eq] at h
  have hns : n ∉ seen := by
    intro hm
    have : seen.contains n = true := by simpa using hm
    rw [this] at h; exact absurd h.1 (by simp)
  have hsm : (findI xs n).isSome = true := by
    cases e : findI xs n with
    | none => rw [e] at h; exact absurd h.2 (by decide)
    | some x => rfl
  refine ⟨?_, fun a ha => ?_, ?_, fun a ha => ?_⟩
  · rw [List.nodup_append]; exact ⟨S.nd, by simp, fun a ha b hb => by simp at hb; subst hb; exact fun e => hns (e ▸ ha)⟩
  · rcases List.mem_append.1 ha with h1 | h1
    · exact S.sub a h1
    · simp at h1; subst h1; exact .inr hsm
  · rw [List.nodup_append]; exact ⟨S.nn, by simp, fun a ha b hb => by simp at hb; subst hb; exact fun e => hns (S.ns _ (e ▸ ha))⟩
  · rcases List.mem_append.1 ha with h1 | h1
    · exact List.mem_append.2 (.inl (S.ns a h1))
    · exact List.mem_append.2 (.inr h1)
/-- The map of what has been seen. -/
def SeenIs (C : Int → Option Value) (seen : List Int) : Prop := ∀ a, (C a).isSome = seen.contains a
theorem SeenIs.more {C : Int → Option Value} {seen : List Int} (S : SeenIs C seen) (n : Int) (v : Value) : SeenIs (fun a => if a = n then some v else C a) (seen ++ [n]) := fun a => by
  by_cases e : a = n
  · subst e; simp
  · simp only [if_neg e, S a]
    rw [Bool.eq_iff_iff]
    simp [e]
end Go.Proofs.Ytkglaofiencfdaa

namespace Go.Proofs.Ytkglaofiencfdaa
open Go.RowKit Go.Sort
set_option linter.unusedVariables false
/-! ### path.Inside, whole -/
set_option maxRecDepth 100000 in
theorem RowAt.ixEntry {h : FH} {A : Option Addr} {xs : List Entry} (r : RowAt h A xs) {k : Nat} {x : Entry} (hx : xs[k]? = some x) {w : World} (hs : Sits h w) (c : Nat) :
    ∃ b off, (∀ w', (Instr.indexAt 34 (.slice A xs.length c) (.int .i64 (k : Int))).run Try.prog w' = .ok (.pointer (some ⟨b, off + k * 2, none⟩)) w') ∧ w.cell? ⟨b, off + k * 2, none⟩ = some (.string x.name) ∧ w.cell? ⟨b, off + k * 2 + 1, none⟩ = some (.int .i64 x.no) ∧ x.name.size ≤ 9223372036854775807 := by
  obtain ⟨b, off, rfl, d0, d1, d2⟩ := r.entry hx hs
  have hlt := (List.getElem?_eq_some_iff.1 hx).1
  refine ⟨b, off, fun w' => ?_, d0, d1, d2⟩
  rw [run_indexAt_slice (h := Try.underlying34), if_pos (by omega)]
  rw [show (sizeOf (Try.prog.elem 34)).run Try.prog w' = .ok 2 w' from by kernel_rfl]
  simp [Result.andThen, Addr.add]
theorem field_ents (w : World) (a b c d : Int) (s : ByteArray) (A1 A2 : Option Addr) (n1 k1 n2 k2 : Nat) : (Instr.field 37 (.agg #[.int .i64 a, .int .i64 b, .int .i64 c, .int .i64 d, .string s, .slice A1 n1 k1, .slice A2 n2 k2]) 5).run Try.prog w = .ok (.slice A1 n1 k1) w := by kernel_rfl
theorem field_kind (w : World) (a b c d : Int) (s : ByteArray) (A1 A2 : Option Addr) (n1 k1 n2 k2 : Nat) : (Instr.field 37 (.agg #[.int .i64 a, .int .i64 b, .int .i64 c, .int .i64 d, .string s, .slice A1 n1 k1, .slice A2 n2 k2]) 1).run Try.prog w = .ok (.int .i64 b) w := by kernel_rfl
/-- What the levels' loops keep. -/
structure InAt (h0 : FH) (w0 : World) (h : FH) (wr : World) (bs : Nat) (nv : Value) (seen next : List Int) : Prop where
  ext : Ext h0 w0 h wr
  fr : h bs = none
  hb : w0.heap.size ≤ bs
  map : ∃ C, MapIs encI wr bs C ∧ SeenIs C seen
  own : OwnL h wr (bs + 1) 3 nv next
theorem InAt.lt {h0 : FH} {w0 : World} {h : FH} {wr : World} {bs : Nat} {nv : Value} {seen next : List Int} (I : InAt h0 w0 h wr bs nv seen next) : bs < wr.heap.size := by
  obtain ⟨C, M, _⟩ := I.map
  exact M.lt
theorem InAt.more {h0 : FH} {w0 : World} {h : FH} {wr wx : World} {bs : Nat} {nv : Value} {seen next : List Int} (I : InAt h0 w0 h wr bs nv seen next) (E : Ext h wr h wx) : InAt h0 w0 h wx bs nv seen next := by
  obtain ⟨C, M, S⟩ := I.map
  exact ⟨I.ext.trans E, I.fr, I.hb, ⟨C, M.ext E, S⟩, I.own.ext E⟩
theorem InAt.put {h0 : FH} {w0 : World} {h : FH} {wr wx : World} {bs : Nat} {nv : Value} {seen next : List Int} (I : InAt h0 w0 h wr bs nv seen next) {C : Int → Option Value} (S : SeenIs C seen) {n : Int} {v : Value} (M : MapIs encI wx bs (fun x => if x = n then some v else C x)) (G : wr.grownBy wx (some bs)) : InAt h0 w0 h wx bs nv (seen ++ [n]) next :=
  ⟨I.ext.grown G (fun k hk => by cases hk; exact ⟨I.hb, I.fr⟩), I.fr, I.hb, ⟨_, M, S.more n v⟩, I.own.kept G (.inr (fun e => by have := (I.own.lt bs e).1; omega)) (FLe.refl _) I.own.free⟩
theorem InAt.app {h0 : FH} {w0 : World} {h : FH} {wr wx : World} {bs : Nat} {nv nv' : Value} {seen next next' : List Int} (I : InAt h0 w0 h wr bs nv seen next) (O : OwnL h wx (bs + 1) 3 nv' next') (G : wr.grownBy wx nv.ownBlock) : InAt h0 w0 h wx bs nv' seen next' := by
  obtain ⟨C, M, S⟩ := I.map
  have hh := I.hb
  exact ⟨I.ext.grown G (fun k hk => ⟨by have := (I.own.lt k hk).1; omega, I.own.free k hk⟩), I.fr, hh, ⟨C, M.of_block (G.block bs M.lt (fun e => by have := (I.own.lt bs e.symm).1; omega)), S⟩, O⟩
theorem scanE_step {xs : List Inode} {es : List Entry} {t : Nat} {e : Entry} (he : es[t]? = some e) (seen next : List Int) :
    scanE xs (es.drop t) (seen, next) = scanE xs (es.drop (t + 1)) (if dirE xs seen e.no = true then (seen ++ [e.no], next ++ [e.no]) else (seen, next)) := by
  have hlt := (List.getElem?_eq_some_iff.1 he).1
  have : es.drop t = e :: es.drop (t + 1) := by
    rw [List.drop_eq_getElem_cons hlt]; congr 1
    have := (List.getElem?_eq_some_iff.1 he).2
    exact this
  rw [this]; rfl
theorem scanD_step {xs : List Inode} {no : Int} {now : List Int} {t : Nat} {d : Int} (he : now[t]? = some d) (p : List Int × List Int) :
    scanD xs no (now.drop t) p = if d = no then none else scanD xs no (now.drop (t + 1)) (scanE xs (entsOf xs d) p) := by
  have hlt := (List.getElem?_eq_some_iff.1 he).1
  have : now.drop t = d :: now.drop (t + 1) := by
    rw [List.drop_eq_getElem_cons hlt]; congr 1
    exact (List.getElem?_eq_some_iff.1 he).2
  rw [this]; rfl
theorem levelF_nil (xs : List Inode) (no : Int) (k : Nat) (seen : List Int) : levelF xs no k seen [] = false := by cases k <;> rfl
theorem levelF_more {xs : List Inode} {no : Int} {k : Nat} {seen now : List Int} (h : 0 < now.length) : levelF xs no (k + 1) seen now = match scanD xs no now (seen, []) with | none => true | some p => levelF xs no k p.1 p.2 := by
  show (if now = [] then false else match scanD xs no now (seen, []) with | none => true | some p => levelF xs no k p.1 p.2) = _
  rw [if_neg (by intro e; rw [e] at h; exact absurd h (by decide))]
def ansD (xs : List Inode) (no : Int) (k : Nat) : Option (List Int × List Int) → Bool
  | none => true
  | some p => levelF xs no k p.1 p.2
theorem levelF_ans {xs : List Inode} {no : Int} {k : Nat} {seen now : List Int} (h : 0 < now.length) : levelF xs no (k + 1) seen now = ansD xs no k (scanD xs no now (seen, [])) := by
  rw [levelF_more h]; cases scanD xs no now (seen, []) <;> rfl
end Go.Proofs.Ytkglaofiencfdaa

namespace Go.Proofs.Ytkglaofiencfdaa
open Go.RowKit Go.Sort
set_option linter.unusedVariables false
end Go.Proofs.Ytkglaofiencfdaa
