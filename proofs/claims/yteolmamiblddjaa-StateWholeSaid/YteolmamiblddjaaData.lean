import Derived.Test.YteolmamiblddjaaChecked
import Derived.Test.YteolmamiblddjaaBase
namespace Go.Proofs.Yteolmamiblddjaa
open Go.RowKit Go.Sort
set_option linter.unusedVariables false
/-- What a slice has room for. -/
structure CapLe (A : Option Addr) (n c : Nat) : Prop where
  le : n ≤ c
  nn : A = none → c = 0
  mx : c ≤ 9223372036854775807
section
open Go.DataW
theorem slice_cap {P : Program} {t e : TypeId} (ht : P.underlying t = some (.slice e)) {H : Type} (enc : TypeId × Value → H) (W : World) (sp : Nat → Bool) (held : Bool) (fuel : Nat) (A : Option Addr) (n c : Nat) (d : DataW H) (ps : List MemPlace)
    (h : DataW.trod enc P W 0 sp held fuel t [.slice A n c] = some (d, ps)) : (A = none → c = 0) ∧ n ≤ c ∧ c ≤ 9223372036854775807 := by
  cases fuel with
  | zero => simp [DataW.trod] at h
  | succ fuel =>
    unfold DataW.trod at h
    rw [ht] at h
    split at h
    all_goals (try (simp_all; done))
    rename_i e' a len cap heq heq2
    split at h
    case isFalse => cases h
    rename_i hb
    simp only [List.cons.injEq, Value.slice.injEq, and_true] at heq2
    obtain ⟨rfl, rfl, rfl⟩ := heq2
    unfold maxLen at hb
    exact ⟨(fun e => by cases e), hb.2.1, by omega⟩
theorem CapLe.opens {P : Program} {t e : TypeId} (ht : P.underlying t = some (.slice e)) {H : Type} (enc : TypeId × Value → H) (W : World) (sp : Nat → Bool) (held : Bool) (fuel : Nat) (A : Option Addr) (n c : Nat) (d : DataW H) (ps : List MemPlace)
    (h : DataW.trod enc P W 0 sp held fuel t [.slice A n c] = some (d, ps)) : CapLe A n c := by
  obtain ⟨a, b, c⟩ := slice_cap ht enc W sp held fuel A n c d ps h
  exact ⟨b, a, c⟩
end

structure Block where
  prog : Int
  live : Int
  era : Int
  bad : Bool
  deriving Inhabited
def repBlock (h : FH) (cs : List Value) (x : Block) : Prop := cs = [.int .i64 x.prog, .int .i64 x.live, .int .i64 x.era, .bool x.bad]
theorem repBlock.len {h : FH} {cs : List Value} {x : Block} (r : repBlock h cs x) : cs.length = 4 := by
  have e : cs = [.int .i64 x.prog, .int .i64 x.live, .int .i64 x.era, .bool x.bad] := r
  rw [e]; rfl
theorem repBlock.mono {h h' : FH} {cs : List Value} {x : Block} (hl : FLe h h') (r : repBlock h cs x) : repBlock h' cs x := by
  have e : cs = [.int .i64 x.prog, .int .i64 x.live, .int .i64 x.era, .bool x.bad] := r
  exact e
theorem repBlock.one {h : FH} {cs : List Value} {x : Block} (r : repBlock h cs x) : ∀ u ∈ cs, u.oneCell' = true := by
  have e : cs = [.int .i64 x.prog, .int .i64 x.live, .int .i64 x.era, .bool x.bad] := r
  subst e
  simp [Value.oneCell']
instance : Enc Block := ⟨4, repBlock, repBlock.len, repBlock.mono, repBlock.one, by decide⟩
theorem RowAt.block {h : FH} {A : Option Addr} {xs : List Block} (r : RowAt h A xs) {i : Nat} {x : Block} (hx : xs[i]? = some x) {w : World} (hs : Sits h w) :
    ∃ b off , A = some ⟨b, off, none⟩ ∧ w.cell? ⟨b, off + i * 4, none⟩ = some (.int .i64 x.prog) ∧ w.cell? ⟨b, off + i * 4 + 1, none⟩ = some (.int .i64 x.live) ∧ w.cell? ⟨b, off + i * 4 + 2, none⟩ = some (.int .i64 x.era) ∧ w.cell? ⟨b, off + i * 4 + 3, none⟩ = some (.bool x.bad) := by
  have hp : 0 < xs.length := by have := (List.getElem?_eq_some_iff.1 hx).1; omega
  obtain ⟨b, off, e', f⟩ := r.2 hp
  obtain ⟨cs, hr, hc⟩ := f i x hx
  have e : cs = [.int .i64 x.prog, .int .i64 x.live, .int .i64 x.era, .bool x.bad] := hr
  subst e
  exact ⟨b, off, e', hs.cell (hc 0 _ rfl), hs.cell (hc 1 _ rfl), hs.cell (hc 2 _ rfl), hs.cell (hc 3 _ rfl)⟩

structure Run where
  from_ : Int
  at_ : Int
  count : Int
  deriving Inhabited
def repRun (h : FH) (cs : List Value) (x : Run) : Prop := cs = [.int .i64 x.from_, .int .i64 x.at_, .int .i64 x.count]
theorem repRun.len {h : FH} {cs : List Value} {x : Run} (r : repRun h cs x) : cs.length = 3 := by
  have e : cs = [.int .i64 x.from_, .int .i64 x.at_, .int .i64 x.count] := r
  rw [e]; rfl
theorem repRun.mono {h h' : FH} {cs : List Value} {x : Run} (hl : FLe h h') (r : repRun h cs x) : repRun h' cs x := by
  have e : cs = [.int .i64 x.from_, .int .i64 x.at_, .int .i64 x.count] := r
  exact e
theorem repRun.one {h : FH} {cs : List Value} {x : Run} (r : repRun h cs x) : ∀ u ∈ cs, u.oneCell' = true := by
  have e : cs = [.int .i64 x.from_, .int .i64 x.at_, .int .i64 x.count] := r
  subst e
  simp [Value.oneCell']
instance : Enc Run := ⟨3, repRun, repRun.len, repRun.mono, repRun.one, by decide⟩
theorem RowAt.run {h : FH} {A : Option Addr} {xs : List Run} (r : RowAt h A xs) {i : Nat} {x : Run} (hx : xs[i]? = some x) {w : World} (hs : Sits h w) :
    ∃ b off , A = some ⟨b, off, none⟩ ∧ w.cell? ⟨b, off + i * 3, none⟩ = some (.int .i64 x.from_) ∧ w.cell? ⟨b, off + i * 3 + 1, none⟩ = some (.int .i64 x.at_) ∧ w.cell? ⟨b, off + i * 3 + 2, none⟩ = some (.int .i64 x.count) := by
  have hp : 0 < xs.length := by have := (List.getElem?_eq_some_iff.1 hx).1; omega
  obtain ⟨b, off, e', f⟩ := r.2 hp
  obtain ⟨cs, hr, hc⟩ := f i x hx
  have e : cs = [.int .i64 x.from_, .int .i64 x.at_, .int .i64 x.count] := hr
  subst e
  exact ⟨b, off, e', hs.cell (hc 0 _ rfl), hs.cell (hc 1 _ rfl), hs.cell (hc 2 _ rfl)⟩

structure Entry where
  name : ByteArray
  no : Int
  deriving Inhabited
def repEntry (h : FH) (cs : List Value) (x : Entry) : Prop := cs = [.string x.name, .int .i64 x.no] ∧ x.name.size ≤ 9223372036854775807
theorem repEntry.len {h : FH} {cs : List Value} {x : Entry} (r : repEntry h cs x) : cs.length = 2 := by
  obtain ⟨e, _⟩ := r
  rw [e]; rfl
theorem repEntry.mono {h h' : FH} {cs : List Value} {x : Entry} (hl : FLe h h') (r : repEntry h cs x) : repEntry h' cs x := by
  obtain ⟨e, s0⟩ := r
  exact ⟨e, s0⟩
theorem repEntry.one {h : FH} {cs : List Value} {x : Entry} (r : repEntry h cs x) : ∀ u ∈ cs, u.oneCell' = true := by
  obtain ⟨e, _⟩ := r
  subst e
  simp [Value.oneCell']
instance : Enc Entry := ⟨2, repEntry, repEntry.len, repEntry.mono, repEntry.one, by decide⟩
theorem RowAt.entry {h : FH} {A : Option Addr} {xs : List Entry} (r : RowAt h A xs) {i : Nat} {x : Entry} (hx : xs[i]? = some x) {w : World} (hs : Sits h w) :
    ∃ b off , A = some ⟨b, off, none⟩ ∧ w.cell? ⟨b, off + i * 2, none⟩ = some (.string x.name) ∧ w.cell? ⟨b, off + i * 2 + 1, none⟩ = some (.int .i64 x.no) ∧ x.name.size ≤ 9223372036854775807 := by
  have hp : 0 < xs.length := by have := (List.getElem?_eq_some_iff.1 hx).1; omega
  obtain ⟨b, off, e', f⟩ := r.2 hp
  obtain ⟨cs, hr, hc⟩ := f i x hx
  obtain ⟨e, s0⟩ := hr
  subst e
  exact ⟨b, off, e', hs.cell (hc 0 _ rfl), hs.cell (hc 1 _ rfl), s0⟩

structure Inode where
  no : Int
  kind : Int
  links : Int
  size : Int
  target : ByteArray
  entries : List Entry
  runs : List Run
  deriving Inhabited
def repInode (h : FH) (cs : List Value) (x : Inode) : Prop := ∃ A5 c5 A6 c6, cs = [.int .i64 x.no, .int .i64 x.kind, .int .i64 x.links, .int .i64 x.size, .string x.target, .slice A5 x.entries.length c5, .slice A6 x.runs.length c6] ∧ x.target.size ≤ 9223372036854775807 ∧ CapLe A5 x.entries.length c5 ∧ RowAt h A5 x.entries ∧ CapLe A6 x.runs.length c6 ∧ RowAt h A6 x.runs
theorem repInode.len {h : FH} {cs : List Value} {x : Inode} (r : repInode h cs x) : cs.length = 7 := by
  obtain ⟨A5, c5, A6, c6, e, _, _, _, _, _⟩ := r
  rw [e]; rfl
theorem repInode.mono {h h' : FH} {cs : List Value} {x : Inode} (hl : FLe h h') (r : repInode h cs x) : repInode h' cs x := by
  obtain ⟨A5, c5, A6, c6, e, s0, s1, s2, s3, s4⟩ := r
  exact ⟨A5, c5, A6, c6, e, s0, s1, s2.mono hl, s3, s4.mono hl⟩
theorem repInode.one {h : FH} {cs : List Value} {x : Inode} (r : repInode h cs x) : ∀ u ∈ cs, u.oneCell' = true := by
  obtain ⟨A5, c5, A6, c6, e, _, _, _, _, _⟩ := r
  subst e
  simp [Value.oneCell']
instance : Enc Inode := ⟨7, repInode, repInode.len, repInode.mono, repInode.one, by decide⟩
theorem RowAt.inode {h : FH} {A : Option Addr} {xs : List Inode} (r : RowAt h A xs) {i : Nat} {x : Inode} (hx : xs[i]? = some x) {w : World} (hs : Sits h w) :
    ∃ b off A5 c5 A6 c6, A = some ⟨b, off, none⟩ ∧ w.cell? ⟨b, off + i * 7, none⟩ = some (.int .i64 x.no) ∧ w.cell? ⟨b, off + i * 7 + 1, none⟩ = some (.int .i64 x.kind) ∧ w.cell? ⟨b, off + i * 7 + 2, none⟩ = some (.int .i64 x.links) ∧ w.cell? ⟨b, off + i * 7 + 3, none⟩ = some (.int .i64 x.size) ∧ w.cell? ⟨b, off + i * 7 + 4, none⟩ = some (.string x.target) ∧ w.cell? ⟨b, off + i * 7 + 5, none⟩ = some (.slice A5 x.entries.length c5) ∧ w.cell? ⟨b, off + i * 7 + 6, none⟩ = some (.slice A6 x.runs.length c6) ∧ x.target.size ≤ 9223372036854775807 ∧ CapLe A5 x.entries.length c5 ∧ RowAt h A5 x.entries ∧ CapLe A6 x.runs.length c6 ∧ RowAt h A6 x.runs := by
  have hp : 0 < xs.length := by have := (List.getElem?_eq_some_iff.1 hx).1; omega
  obtain ⟨b, off, e', f⟩ := r.2 hp
  obtain ⟨cs, hr, hc⟩ := f i x hx
  obtain ⟨A5, c5, A6, c6, e, s0, s1, s2, s3, s4⟩ := hr
  subst e
  exact ⟨b, off, A5, c5, A6, c6, e', hs.cell (hc 0 _ rfl), hs.cell (hc 1 _ rfl), hs.cell (hc 2 _ rfl), hs.cell (hc 3 _ rfl), hs.cell (hc 4 _ rfl), hs.cell (hc 5 _ rfl), hs.cell (hc 6 _ rfl), s0, s1, s2, s3, s4⟩

structure Deed where
  kind : Int
  no : Int
  inode : Inode
  deriving Inhabited
def repDeed (h : FH) (cs : List Value) (x : Deed) : Prop := ∃ A7 c7 A8 c8, cs = [.int .i64 x.kind, .int .i64 x.no, .int .i64 x.inode.no, .int .i64 x.inode.kind, .int .i64 x.inode.links, .int .i64 x.inode.size, .string x.inode.target, .slice A7 x.inode.entries.length c7, .slice A8 x.inode.runs.length c8] ∧ x.inode.target.size ≤ 9223372036854775807 ∧ CapLe A7 x.inode.entries.length c7 ∧ RowAt h A7 x.inode.entries ∧ CapLe A8 x.inode.runs.length c8 ∧ RowAt h A8 x.inode.runs
theorem repDeed.len {h : FH} {cs : List Value} {x : Deed} (r : repDeed h cs x) : cs.length = 9 := by
  obtain ⟨A7, c7, A8, c8, e, _, _, _, _, _⟩ := r
  rw [e]; rfl
theorem repDeed.mono {h h' : FH} {cs : List Value} {x : Deed} (hl : FLe h h') (r : repDeed h cs x) : repDeed h' cs x := by
  obtain ⟨A7, c7, A8, c8, e, s0, s1, s2, s3, s4⟩ := r
  exact ⟨A7, c7, A8, c8, e, s0, s1, s2.mono hl, s3, s4.mono hl⟩
theorem repDeed.one {h : FH} {cs : List Value} {x : Deed} (r : repDeed h cs x) : ∀ u ∈ cs, u.oneCell' = true := by
  obtain ⟨A7, c7, A8, c8, e, _, _, _, _, _⟩ := r
  subst e
  simp [Value.oneCell']
instance : Enc Deed := ⟨9, repDeed, repDeed.len, repDeed.mono, repDeed.one, by decide⟩
theorem RowAt.deed {h : FH} {A : Option Addr} {xs : List Deed} (r : RowAt h A xs) {i : Nat} {x : Deed} (hx : xs[i]? = some x) {w : World} (hs : Sits h w) :
    ∃ b off A7 c7 A8 c8, A = some ⟨b, off, none⟩ ∧ w.cell? ⟨b, off + i * 9, none⟩ = some (.int .i64 x.kind) ∧ w.cell? ⟨b, off + i * 9 + 1, none⟩ = some (.int .i64 x.no) ∧ w.cell? ⟨b, off + i * 9 + 2, none⟩ = some (.int .i64 x.inode.no) ∧ w.cell? ⟨b, off + i * 9 + 3, none⟩ = some (.int .i64 x.inode.kind) ∧ w.cell? ⟨b, off + i * 9 + 4, none⟩ = some (.int .i64 x.inode.links) ∧ w.cell? ⟨b, off + i * 9 + 5, none⟩ = some (.int .i64 x.inode.size) ∧ w.cell? ⟨b, off + i * 9 + 6, none⟩ = some (.string x.inode.target) ∧ w.cell? ⟨b, off + i * 9 + 7, none⟩ = some (.slice A7 x.inode.entries.length c7) ∧ w.cell? ⟨b, off + i * 9 + 8, none⟩ = some (.slice A8 x.inode.runs.length c8) ∧ x.inode.target.size ≤ 9223372036854775807 ∧ CapLe A7 x.inode.entries.length c7 ∧ RowAt h A7 x.inode.entries ∧ CapLe A8 x.inode.runs.length c8 ∧ RowAt h A8 x.inode.runs := by
  have hp : 0 < xs.length := by have := (List.getElem?_eq_some_iff.1 hx).1; omega
  obtain ⟨b, off, e', f⟩ := r.2 hp
  obtain ⟨cs, hr, hc⟩ := f i x hx
  obtain ⟨A7, c7, A8, c8, e, s0, s1, s2, s3, s4⟩ := hr
  subst e
  exact ⟨b, off, A7, c7, A8, c8, e', hs.cell (hc 0 _ rfl), hs.cell (hc 1 _ rfl), hs.cell (hc 2 _ rfl), hs.cell (hc 3 _ rfl), hs.cell (hc 4 _ rfl), hs.cell (hc 5 _ rfl), hs.cell (hc 6 _ rfl), hs.cell (hc 7 _ rfl), hs.cell (hc 8 _ rfl), s0, s1, s2, s3, s4⟩

structure State where
  next : Int
  inodes : List Inode
  bads : List Int
  deriving Inhabited
def repState (h : FH) (cs : List Value) (x : State) : Prop := ∃ A1 c1 A2 c2, cs = [.int .i64 x.next, .slice A1 x.inodes.length c1, .slice A2 x.bads.length c2] ∧ CapLe A1 x.inodes.length c1 ∧ RowAt h A1 x.inodes ∧ CapLe A2 x.bads.length c2 ∧ RowAt h A2 x.bads
theorem repState.len {h : FH} {cs : List Value} {x : State} (r : repState h cs x) : cs.length = 3 := by
  obtain ⟨A1, c1, A2, c2, e, _, _, _, _⟩ := r
  rw [e]; rfl
theorem repState.mono {h h' : FH} {cs : List Value} {x : State} (hl : FLe h h') (r : repState h cs x) : repState h' cs x := by
  obtain ⟨A1, c1, A2, c2, e, s0, s1, s2, s3⟩ := r
  exact ⟨A1, c1, A2, c2, e, s0, s1.mono hl, s2, s3.mono hl⟩
theorem repState.one {h : FH} {cs : List Value} {x : State} (r : repState h cs x) : ∀ u ∈ cs, u.oneCell' = true := by
  obtain ⟨A1, c1, A2, c2, e, _, _, _, _⟩ := r
  subst e
  simp [Value.oneCell']
instance : Enc State := ⟨3, repState, repState.len, repState.mono, repState.one, by decide⟩
theorem RowAt.state {h : FH} {A : Option Addr} {xs : List State} (r : RowAt h A xs) {i : Nat} {x : State} (hx : xs[i]? = some x) {w : World} (hs : Sits h w) :
    ∃ b off A1 c1 A2 c2, A = some ⟨b, off, none⟩ ∧ w.cell? ⟨b, off + i * 3, none⟩ = some (.int .i64 x.next) ∧ w.cell? ⟨b, off + i * 3 + 1, none⟩ = some (.slice A1 x.inodes.length c1) ∧ w.cell? ⟨b, off + i * 3 + 2, none⟩ = some (.slice A2 x.bads.length c2) ∧ CapLe A1 x.inodes.length c1 ∧ RowAt h A1 x.inodes ∧ CapLe A2 x.bads.length c2 ∧ RowAt h A2 x.bads := by
  have hp : 0 < xs.length := by have := (List.getElem?_eq_some_iff.1 hx).1; omega
  obtain ⟨b, off, e', f⟩ := r.2 hp
  obtain ⟨cs, hr, hc⟩ := f i x hx
  obtain ⟨A1, c1, A2, c2, e, s0, s1, s2, s3⟩ := hr
  subst e
  exact ⟨b, off, A1, c1, A2, c2, e', hs.cell (hc 0 _ rfl), hs.cell (hc 1 _ rfl), hs.cell (hc 2 _ rfl), s0, s1, s2, s3⟩

structure Geo where
  sectors : Int
  sector : Int
  blocks : Int
  pages : Int
  page : Int
  deriving Inhabited
def repGeo (h : FH) (cs : List Value) (x : Geo) : Prop := cs = [.int .i64 x.sectors, .int .i64 x.sector, .int .i64 x.blocks, .int .i64 x.pages, .int .i64 x.page]
theorem repGeo.len {h : FH} {cs : List Value} {x : Geo} (r : repGeo h cs x) : cs.length = 5 := by
  have e : cs = [.int .i64 x.sectors, .int .i64 x.sector, .int .i64 x.blocks, .int .i64 x.pages, .int .i64 x.page] := r
  rw [e]; rfl
theorem repGeo.mono {h h' : FH} {cs : List Value} {x : Geo} (hl : FLe h h') (r : repGeo h cs x) : repGeo h' cs x := by
  have e : cs = [.int .i64 x.sectors, .int .i64 x.sector, .int .i64 x.blocks, .int .i64 x.pages, .int .i64 x.page] := r
  exact e
theorem repGeo.one {h : FH} {cs : List Value} {x : Geo} (r : repGeo h cs x) : ∀ u ∈ cs, u.oneCell' = true := by
  have e : cs = [.int .i64 x.sectors, .int .i64 x.sector, .int .i64 x.blocks, .int .i64 x.pages, .int .i64 x.page] := r
  subst e
  simp [Value.oneCell']
instance : Enc Geo := ⟨5, repGeo, repGeo.len, repGeo.mono, repGeo.one, by decide⟩
theorem RowAt.geo {h : FH} {A : Option Addr} {xs : List Geo} (r : RowAt h A xs) {i : Nat} {x : Geo} (hx : xs[i]? = some x) {w : World} (hs : Sits h w) :
    ∃ b off , A = some ⟨b, off, none⟩ ∧ w.cell? ⟨b, off + i * 5, none⟩ = some (.int .i64 x.sectors) ∧ w.cell? ⟨b, off + i * 5 + 1, none⟩ = some (.int .i64 x.sector) ∧ w.cell? ⟨b, off + i * 5 + 2, none⟩ = some (.int .i64 x.blocks) ∧ w.cell? ⟨b, off + i * 5 + 3, none⟩ = some (.int .i64 x.pages) ∧ w.cell? ⟨b, off + i * 5 + 4, none⟩ = some (.int .i64 x.page) := by
  have hp : 0 < xs.length := by have := (List.getElem?_eq_some_iff.1 hx).1; omega
  obtain ⟨b, off, e', f⟩ := r.2 hp
  obtain ⟨cs, hr, hc⟩ := f i x hx
  have e : cs = [.int .i64 x.sectors, .int .i64 x.sector, .int .i64 x.blocks, .int .i64 x.pages, .int .i64 x.page] := hr
  subst e
  exact ⟨b, off, e', hs.cell (hc 0 _ rfl), hs.cell (hc 1 _ rfl), hs.cell (hc 2 _ rfl), hs.cell (hc 3 _ rfl), hs.cell (hc 4 _ rfl)⟩

structure ROp where
  index : Int
  at_ : Int
  n : Int
  deriving Inhabited
def repROp (h : FH) (cs : List Value) (x : ROp) : Prop := cs = [.int .i64 x.index, .int .i64 x.at_, .int .i64 x.n]
theorem repROp.len {h : FH} {cs : List Value} {x : ROp} (r : repROp h cs x) : cs.length = 3 := by
  have e : cs = [.int .i64 x.index, .int .i64 x.at_, .int .i64 x.n] := r
  rw [e]; rfl
theorem repROp.mono {h h' : FH} {cs : List Value} {x : ROp} (hl : FLe h h') (r : repROp h cs x) : repROp h' cs x := by
  have e : cs = [.int .i64 x.index, .int .i64 x.at_, .int .i64 x.n] := r
  exact e
theorem repROp.one {h : FH} {cs : List Value} {x : ROp} (r : repROp h cs x) : ∀ u ∈ cs, u.oneCell' = true := by
  have e : cs = [.int .i64 x.index, .int .i64 x.at_, .int .i64 x.n] := r
  subst e
  simp [Value.oneCell']
instance : Enc ROp := ⟨3, repROp, repROp.len, repROp.mono, repROp.one, by decide⟩
theorem RowAt.rop {h : FH} {A : Option Addr} {xs : List ROp} (r : RowAt h A xs) {i : Nat} {x : ROp} (hx : xs[i]? = some x) {w : World} (hs : Sits h w) :
    ∃ b off , A = some ⟨b, off, none⟩ ∧ w.cell? ⟨b, off + i * 3, none⟩ = some (.int .i64 x.index) ∧ w.cell? ⟨b, off + i * 3 + 1, none⟩ = some (.int .i64 x.at_) ∧ w.cell? ⟨b, off + i * 3 + 2, none⟩ = some (.int .i64 x.n) := by
  have hp : 0 < xs.length := by have := (List.getElem?_eq_some_iff.1 hx).1; omega
  obtain ⟨b, off, e', f⟩ := r.2 hp
  obtain ⟨cs, hr, hc⟩ := f i x hx
  have e : cs = [.int .i64 x.index, .int .i64 x.at_, .int .i64 x.n] := hr
  subst e
  exact ⟨b, off, e', hs.cell (hc 0 _ rfl), hs.cell (hc 1 _ rfl), hs.cell (hc 2 _ rfl)⟩

structure POp where
  kind : Int
  path : ByteArray
  other : ByteArray
  n : Int
  deriving Inhabited
def repPOp (h : FH) (cs : List Value) (x : POp) : Prop := cs = [.int .i64 x.kind, .string x.path, .string x.other, .int .i64 x.n] ∧ x.path.size ≤ 9223372036854775807 ∧ x.other.size ≤ 9223372036854775807
theorem repPOp.len {h : FH} {cs : List Value} {x : POp} (r : repPOp h cs x) : cs.length = 4 := by
  obtain ⟨e, _, _⟩ := r
  rw [e]; rfl
theorem repPOp.mono {h h' : FH} {cs : List Value} {x : POp} (hl : FLe h h') (r : repPOp h cs x) : repPOp h' cs x := by
  obtain ⟨e, s0, s1⟩ := r
  exact ⟨e, s0, s1⟩
theorem repPOp.one {h : FH} {cs : List Value} {x : POp} (r : repPOp h cs x) : ∀ u ∈ cs, u.oneCell' = true := by
  obtain ⟨e, _, _⟩ := r
  subst e
  simp [Value.oneCell']
instance : Enc POp := ⟨4, repPOp, repPOp.len, repPOp.mono, repPOp.one, by decide⟩
theorem RowAt.pop {h : FH} {A : Option Addr} {xs : List POp} (r : RowAt h A xs) {i : Nat} {x : POp} (hx : xs[i]? = some x) {w : World} (hs : Sits h w) :
    ∃ b off , A = some ⟨b, off, none⟩ ∧ w.cell? ⟨b, off + i * 4, none⟩ = some (.int .i64 x.kind) ∧ w.cell? ⟨b, off + i * 4 + 1, none⟩ = some (.string x.path) ∧ w.cell? ⟨b, off + i * 4 + 2, none⟩ = some (.string x.other) ∧ w.cell? ⟨b, off + i * 4 + 3, none⟩ = some (.int .i64 x.n) ∧ x.path.size ≤ 9223372036854775807 ∧ x.other.size ≤ 9223372036854775807 := by
  have hp : 0 < xs.length := by have := (List.getElem?_eq_some_iff.1 hx).1; omega
  obtain ⟨b, off, e', f⟩ := r.2 hp
  obtain ⟨cs, hr, hc⟩ := f i x hx
  obtain ⟨e, s0, s1⟩ := hr
  subst e
  exact ⟨b, off, e', hs.cell (hc 0 _ rfl), hs.cell (hc 1 _ rfl), hs.cell (hc 2 _ rfl), hs.cell (hc 3 _ rfl), s0, s1⟩

theorem RowAt.int {h : FH} {A : Option Addr} {xs : List Int} (r : RowAt h A xs) {i : Nat} {x : Int} (hx : xs[i]? = some x) {w : World} (hs : Sits h w) : ∃ b off, A = some ⟨b, off, none⟩ ∧ w.cell? ⟨b, off + i, none⟩ = some (.int .i64 x) := by
  have hp : 0 < xs.length := by have := (List.getElem?_eq_some_iff.1 hx).1; omega
  obtain ⟨b, off, e, f⟩ := r.2 hp
  obtain ⟨cs, hr, hc⟩ := f i x hx
  have hr : cs = [.int .i64 x] := hr
  subst hr
  refine ⟨b, off, e, hs.cell ?_⟩
  have := hc 0 _ rfl
  rwa [show off + i * Enc.sz Int + 0 = off + i from by show off + i * 1 + 0 = off + i; omega] at this
theorem RowAt.str {h : FH} {A : Option Addr} {xs : List ByteArray} (r : RowAt h A xs) {i : Nat} {x : ByteArray} (hx : xs[i]? = some x) {w : World} (hs : Sits h w) : ∃ b off, A = some ⟨b, off, none⟩ ∧ w.cell? ⟨b, off + i, none⟩ = some (.string x) ∧ x.size ≤ 9223372036854775807 := by
  have hp : 0 < xs.length := by have := (List.getElem?_eq_some_iff.1 hx).1; omega
  obtain ⟨b, off, e, f⟩ := r.2 hp
  obtain ⟨cs, hr, hc⟩ := f i x hx
  obtain ⟨hr, hsz⟩ : cs = [.string x] ∧ x.size ≤ 9223372036854775807 := hr
  subst hr
  refine ⟨b, off, e, hs.cell ?_, hsz⟩
  have := hc 0 _ rfl
  rwa [show off + i * Enc.sz ByteArray + 0 = off + i from by show off + i * 1 + 0 = off + i; omega] at this

theorem list_2 {α : Type} : ∀ (l : List α), l.length = 2 → ∃ a0 a1, l = [a0, a1]
  | [a0, a1], _ => ⟨a0, a1, rfl⟩
theorem list_3 {α : Type} : ∀ (l : List α), l.length = 3 → ∃ a0 a1 a2, l = [a0, a1, a2]
  | [a0, a1, a2], _ => ⟨a0, a1, a2, rfl⟩
theorem list_4 {α : Type} : ∀ (l : List α), l.length = 4 → ∃ a0 a1 a2 a3, l = [a0, a1, a2, a3]
  | [a0, a1, a2, a3], _ => ⟨a0, a1, a2, a3, rfl⟩
theorem list_5 {α : Type} : ∀ (l : List α), l.length = 5 → ∃ a0 a1 a2 a3 a4, l = [a0, a1, a2, a3, a4]
  | [a0, a1, a2, a3, a4], _ => ⟨a0, a1, a2, a3, a4, rfl⟩
theorem list_7 {α : Type} : ∀ (l : List α), l.length = 7 → ∃ a0 a1 a2 a3 a4 a5 a6, l = [a0, a1, a2, a3, a4, a5, a6]
  | [a0, a1, a2, a3, a4, a5, a6], _ => ⟨a0, a1, a2, a3, a4, a5, a6, rfl⟩
theorem list_9 {α : Type} : ∀ (l : List α), l.length = 9 → ∃ a0 a1 a2 a3 a4 a5 a6 a7 a8, l = [a0, a1, a2, a3, a4, a5, a6, a7, a8]
  | [a0, a1, a2, a3, a4, a5, a6, a7, a8], _ => ⟨a0, a1, a2, a3, a4, a5, a6, a7, a8, rfl⟩
theorem open_int' : Opens Int Try.prog 3 := Opens.int Try.underlying3
theorem open_bool' : Opens Bool Try.prog 4 := Opens.bool Try.underlying4
theorem open_str' : Opens ByteArray Try.prog 9 := Opens.string Try.underlying9
theorem open_LInt : Opens (List Int) Try.prog 29 := Opens.slice Try.underlying29 (by kernel_rfl) open_int'
theorem open_Run : Opens Run Try.prog 46 := by
  intro H enc W sp held fuel cs d ps h
  obtain ⟨hl, fu, g⟩ := trod_fields Try.underlying46 h
  rw [show Try.prog.cellsOf 46 = 3 from by kernel_rfl] at hl
  obtain ⟨k0, k1, k2, rfl⟩ := list_3 cs hl
  obtain ⟨d0, q0, h0⟩ := g 0 _ rfl
  rw [show Try.prog.cellsOf 3 = 1 from by kernel_rfl] at h0
  obtain ⟨x0, e0⟩ := open_int' enc W sp held fu _ _ _ h0
  have e0 : [k0] = [.int .i64 x0] := e0
  obtain rfl := List.singleton_inj.1 e0
  obtain ⟨d1, q1, h1⟩ := g 1 _ rfl
  rw [show Try.prog.cellsOf 3 = 1 from by kernel_rfl] at h1
  obtain ⟨x1, e1⟩ := open_int' enc W sp held fu _ _ _ h1
  have e1 : [k1] = [.int .i64 x1] := e1
  obtain rfl := List.singleton_inj.1 e1
  obtain ⟨d2, q2, h2⟩ := g 2 _ rfl
  rw [show Try.prog.cellsOf 3 = 1 from by kernel_rfl] at h2
  obtain ⟨x2, e2⟩ := open_int' enc W sp held fu _ _ _ h2
  have e2 : [k2] = [.int .i64 x2] := e2
  obtain rfl := List.singleton_inj.1 e2
  exact ⟨⟨x0, x1, x2⟩, show repRun _ _ _ from rfl⟩
theorem open_LRun : Opens (List Run) Try.prog 35 := Opens.slice Try.underlying35 (by kernel_rfl) open_Run
theorem open_Entry : Opens Entry Try.prog 44 := by
  intro H enc W sp held fuel cs d ps h
  obtain ⟨hl, fu, g⟩ := trod_fields Try.underlying44 h
  rw [show Try.prog.cellsOf 44 = 2 from by kernel_rfl] at hl
  obtain ⟨k0, k1, rfl⟩ := list_2 cs hl
  obtain ⟨d0, q0, h0⟩ := g 0 _ rfl
  rw [show Try.prog.cellsOf 9 = 1 from by kernel_rfl] at h0
  obtain ⟨x0, e0⟩ := open_str' enc W sp held fu _ _ _ h0
  obtain ⟨e0, s0⟩ : [k0] = [.string x0] ∧ x0.size ≤ 9223372036854775807 := e0
  obtain rfl := List.singleton_inj.1 e0
  obtain ⟨d1, q1, h1⟩ := g 1 _ rfl
  rw [show Try.prog.cellsOf 3 = 1 from by kernel_rfl] at h1
  obtain ⟨x1, e1⟩ := open_int' enc W sp held fu _ _ _ h1
  have e1 : [k1] = [.int .i64 x1] := e1
  obtain rfl := List.singleton_inj.1 e1
  exact ⟨⟨x0, x1⟩, show repEntry _ _ _ from ⟨rfl, s0⟩⟩
theorem open_LEntry : Opens (List Entry) Try.prog 34 := Opens.slice Try.underlying34 (by kernel_rfl) open_Entry
theorem open_Inode : Opens Inode Try.prog 37 := by
  intro H enc W sp held fuel cs d ps h
  obtain ⟨hl, fu, g⟩ := trod_fields Try.underlying37 h
  rw [show Try.prog.cellsOf 37 = 7 from by kernel_rfl] at hl
  obtain ⟨k0, k1, k2, k3, k4, k5, k6, rfl⟩ := list_7 cs hl
  obtain ⟨d0, q0, h0⟩ := g 0 _ rfl
  rw [show Try.prog.cellsOf 3 = 1 from by kernel_rfl] at h0
  obtain ⟨x0, e0⟩ := open_int' enc W sp held fu _ _ _ h0
  have e0 : [k0] = [.int .i64 x0] := e0
  obtain rfl := List.singleton_inj.1 e0
  obtain ⟨d1, q1, h1⟩ := g 1 _ rfl
  rw [show Try.prog.cellsOf 3 = 1 from by kernel_rfl] at h1
  obtain ⟨x1, e1⟩ := open_int' enc W sp held fu _ _ _ h1
  have e1 : [k1] = [.int .i64 x1] := e1
  obtain rfl := List.singleton_inj.1 e1
  obtain ⟨d2, q2, h2⟩ := g 2 _ rfl
  rw [show Try.prog.cellsOf 3 = 1 from by kernel_rfl] at h2
  obtain ⟨x2, e2⟩ := open_int' enc W sp held fu _ _ _ h2
  have e2 : [k2] = [.int .i64 x2] := e2
  obtain rfl := List.singleton_inj.1 e2
  obtain ⟨d3, q3, h3⟩ := g 3 _ rfl
  rw [show Try.prog.cellsOf 3 = 1 from by kernel_rfl] at h3
  obtain ⟨x3, e3⟩ := open_int' enc W sp held fu _ _ _ h3
  have e3 : [k3] = [.int .i64 x3] := e3
  obtain rfl := List.singleton_inj.1 e3
  obtain ⟨d4, q4, h4⟩ := g 4 _ rfl
  rw [show Try.prog.cellsOf 9 = 1 from by kernel_rfl] at h4
  obtain ⟨x4, e4⟩ := open_str' enc W sp held fu _ _ _ h4
  obtain ⟨e4, s4⟩ : [k4] = [.string x4] ∧ x4.size ≤ 9223372036854775807 := e4
  obtain rfl := List.singleton_inj.1 e4
  obtain ⟨d5, q5, h5⟩ := g 5 _ rfl
  rw [show Try.prog.cellsOf 34 = 1 from by kernel_rfl] at h5
  obtain ⟨x5, e5⟩ := open_LEntry enc W sp held fu _ _ _ h5
  obtain ⟨A5, c5, e5, l5, r5⟩ := e5
  have e5 : [k5] = [.slice A5 x5.length c5] := e5
  obtain rfl := List.singleton_inj.1 e5
  have l5 := CapLe.opens Try.underlying34 enc W sp held fu _ _ _ _ _ h5
  obtain ⟨d6, q6, h6⟩ := g 6 _ rfl
  rw [show Try.prog.cellsOf 35 = 1 from by kernel_rfl] at h6
  obtain ⟨x6, e6⟩ := open_LRun enc W sp held fu _ _ _ h6
  obtain ⟨A6, c6, e6, l6, r6⟩ := e6
  have e6 : [k6] = [.slice A6 x6.length c6] := e6
  obtain rfl := List.singleton_inj.1 e6
  have l6 := CapLe.opens Try.underlying35 enc W sp held fu _ _ _ _ _ h6
  exact ⟨⟨x0, x1, x2, x3, x4, x5, x6⟩, show repInode _ _ _ from ⟨A5, c5, A6, c6, rfl, s4, l5, r5, l6, r6⟩⟩
theorem open_LInode : Opens (List Inode) Try.prog 28 := Opens.slice Try.underlying28 (by kernel_rfl) open_Inode
theorem open_Deed : Opens Deed Try.prog 39 := by
  intro H enc W sp held fuel cs d ps h
  obtain ⟨hl, fu, g⟩ := trod_fields Try.underlying39 h
  rw [show Try.prog.cellsOf 39 = 9 from by kernel_rfl] at hl
  obtain ⟨k0, k1, k2, k3, k4, k5, k6, k7, k8, rfl⟩ := list_9 cs hl
  obtain ⟨d0, q0, h0⟩ := g 0 _ rfl
  rw [show Try.prog.cellsOf 3 = 1 from by kernel_rfl] at h0
  obtain ⟨x0, e0⟩ := open_int' enc W sp held fu _ _ _ h0
  have e0 : [k0] = [.int .i64 x0] := e0
  obtain rfl := List.singleton_inj.1 e0
  obtain ⟨d1, q1, h1⟩ := g 1 _ rfl
  rw [show Try.prog.cellsOf 3 = 1 from by kernel_rfl] at h1
  obtain ⟨x1, e1⟩ := open_int' enc W sp held fu _ _ _ h1
  have e1 : [k1] = [.int .i64 x1] := e1
  obtain rfl := List.singleton_inj.1 e1
  obtain ⟨d2, q2, h2⟩ := g 2 _ rfl
  rw [show Try.prog.cellsOf 37 = 7 from by kernel_rfl] at h2
  obtain ⟨x2, e2⟩ := open_Inode enc W sp held fu _ _ _ h2
  obtain ⟨A7, c7, A8, c8, e2, t0, t1, t2, t3, t4⟩ := e2
  have e2 : [k2, k3, k4, k5, k6, k7, k8] = [.int .i64 x2.no, .int .i64 x2.kind, .int .i64 x2.links, .int .i64 x2.size, .string x2.target, .slice A7 x2.entries.length c7, .slice A8 x2.runs.length c8] := e2
  simp only [List.cons.injEq, and_true] at e2
  obtain ⟨rfl, rfl, rfl, rfl, rfl, rfl, rfl⟩ := e2
  exact ⟨⟨x0, x1, x2⟩, show repDeed _ _ _ from ⟨A7, c7, A8, c8, rfl, t0, t1, t2, t3, t4⟩⟩
theorem open_LDeed : Opens (List Deed) Try.prog 40 := Opens.slice Try.underlying40 (by kernel_rfl) open_Deed
theorem open_State : Opens State Try.prog 31 := by
  intro H enc W sp held fuel cs d ps h
  obtain ⟨hl, fu, g⟩ := trod_fields Try.underlying31 h
  rw [show Try.prog.cellsOf 31 = 3 from by kernel_rfl] at hl
  obtain ⟨k0, k1, k2, rfl⟩ := list_3 cs hl
  obtain ⟨d0, q0, h0⟩ := g 0 _ rfl
  rw [show Try.prog.cellsOf 3 = 1 from by kernel_rfl] at h0
  obtain ⟨x0, e0⟩ := open_int' enc W sp held fu _ _ _ h0
  have e0 : [k0] = [.int .i64 x0] := e0
  obtain rfl := List.singleton_inj.1 e0
  obtain ⟨d1, q1, h1⟩ := g 1 _ rfl
  rw [show Try.prog.cellsOf 28 = 1 from by kernel_rfl] at h1
  obtain ⟨x1, e1⟩ := open_LInode enc W sp held fu _ _ _ h1
  obtain ⟨A1, c1, e1, l1, r1⟩ := e1
  have e1 : [k1] = [.slice A1 x1.length c1] := e1
  obtain rfl := List.singleton_inj.1 e1
  have l1 := CapLe.opens Try.underlying28 enc W sp held fu _ _ _ _ _ h1
  obtain ⟨d2, q2, h2⟩ := g 2 _ rfl
  rw [show Try.prog.cellsOf 29 = 1 from by kernel_rfl] at h2
  obtain ⟨x2, e2⟩ := open_LInt enc W sp held fu _ _ _ h2
  obtain ⟨A2, c2, e2, l2, r2⟩ := e2
  have e2 : [k2] = [.slice A2 x2.length c2] := e2
  obtain rfl := List.singleton_inj.1 e2
  have l2 := CapLe.opens Try.underlying29 enc W sp held fu _ _ _ _ _ h2
  exact ⟨⟨x0, x1, x2⟩, show repState _ _ _ from ⟨A1, c1, A2, c2, rfl, l1, r1, l2, r2⟩⟩
theorem open_Geo : Opens Geo Try.prog 26 := by
  intro H enc W sp held fuel cs d ps h
  obtain ⟨hl, fu, g⟩ := trod_fields Try.underlying26 h
  rw [show Try.prog.cellsOf 26 = 5 from by kernel_rfl] at hl
  obtain ⟨k0, k1, k2, k3, k4, rfl⟩ := list_5 cs hl
  obtain ⟨d0, q0, h0⟩ := g 0 _ rfl
  rw [show Try.prog.cellsOf 3 = 1 from by kernel_rfl] at h0
  obtain ⟨x0, e0⟩ := open_int' enc W sp held fu _ _ _ h0
  have e0 : [k0] = [.int .i64 x0] := e0
  obtain rfl := List.singleton_inj.1 e0
  obtain ⟨d1, q1, h1⟩ := g 1 _ rfl
  rw [show Try.prog.cellsOf 3 = 1 from by kernel_rfl] at h1
  obtain ⟨x1, e1⟩ := open_int' enc W sp held fu _ _ _ h1
  have e1 : [k1] = [.int .i64 x1] := e1
  obtain rfl := List.singleton_inj.1 e1
  obtain ⟨d2, q2, h2⟩ := g 2 _ rfl
  rw [show Try.prog.cellsOf 3 = 1 from by kernel_rfl] at h2
  obtain ⟨x2, e2⟩ := open_int' enc W sp held fu _ _ _ h2
  have e2 : [k2] = [.int .i64 x2] := e2
  obtain rfl := List.singleton_inj.1 e2
  obtain ⟨d3, q3, h3⟩ := g 3 _ rfl
  rw [show Try.prog.cellsOf 3 = 1 from by kernel_rfl] at h3
  obtain ⟨x3, e3⟩ := open_int' enc W sp held fu _ _ _ h3
  have e3 : [k3] = [.int .i64 x3] := e3
  obtain rfl := List.singleton_inj.1 e3
  obtain ⟨d4, q4, h4⟩ := g 4 _ rfl
  rw [show Try.prog.cellsOf 3 = 1 from by kernel_rfl] at h4
  obtain ⟨x4, e4⟩ := open_int' enc W sp held fu _ _ _ h4
  have e4 : [k4] = [.int .i64 x4] := e4
  obtain rfl := List.singleton_inj.1 e4
  exact ⟨⟨x0, x1, x2, x3, x4⟩, show repGeo _ _ _ from rfl⟩
theorem open_POp : Opens POp Try.prog 62 := by
  intro H enc W sp held fuel cs d ps h
  obtain ⟨hl, fu, g⟩ := trod_fields Try.underlying62 h
  rw [show Try.prog.cellsOf 62 = 4 from by kernel_rfl] at hl
  obtain ⟨k0, k1, k2, k3, rfl⟩ := list_4 cs hl
  obtain ⟨d0, q0, h0⟩ := g 0 _ rfl
  rw [show Try.prog.cellsOf 3 = 1 from by kernel_rfl] at h0
  obtain ⟨x0, e0⟩ := open_int' enc W sp held fu _ _ _ h0
  have e0 : [k0] = [.int .i64 x0] := e0
  obtain rfl := List.singleton_inj.1 e0
  obtain ⟨d1, q1, h1⟩ := g 1 _ rfl
  rw [show Try.prog.cellsOf 9 = 1 from by kernel_rfl] at h1
  obtain ⟨x1, e1⟩ := open_str' enc W sp held fu _ _ _ h1
  obtain ⟨e1, s1⟩ : [k1] = [.string x1] ∧ x1.size ≤ 9223372036854775807 := e1
  obtain rfl := List.singleton_inj.1 e1
  obtain ⟨d2, q2, h2⟩ := g 2 _ rfl
  rw [show Try.prog.cellsOf 9 = 1 from by kernel_rfl] at h2
  obtain ⟨x2, e2⟩ := open_str' enc W sp held fu _ _ _ h2
  obtain ⟨e2, s2⟩ : [k2] = [.string x2] ∧ x2.size ≤ 9223372036854775807 := e2
  obtain rfl := List.singleton_inj.1 e2
  obtain ⟨d3, q3, h3⟩ := g 3 _ rfl
  rw [show Try.prog.cellsOf 3 = 1 from by kernel_rfl] at h3
  obtain ⟨x3, e3⟩ := open_int' enc W sp held fu _ _ _ h3
  have e3 : [k3] = [.int .i64 x3] := e3
  obtain rfl := List.singleton_inj.1 e3
  exact ⟨⟨x0, x1, x2, x3⟩, show repPOp _ _ _ from ⟨rfl, s1, s2⟩⟩
theorem open_LPOp : Opens (List POp) Try.prog 22 := Opens.slice Try.underlying22 (by kernel_rfl) open_POp
end Go.Proofs.Yteolmamiblddjaa
