import Derived.Test.YthffdfcjphohcaaDoorChecked
import Derived.Test.YthffdfcjphohcaaDoorBase
namespace Go.Proofs.YthffdfcjphohcaaDoor
open Go.RowKit Go.Sort
set_option linter.unusedVariables false

structure Block where
  prog : Int
  live : Int
  era : Int
  bad : Bool
  deriving Inhabited
def repBlock (h : FH) (cs : List Value) (x : Block) : Prop := cs = [.int .i64 x.prog, .int .i64 x.live, .int .i64 x.era, .bool x.bad]
theorem repBlock.len {h : FH} {cs : List Value} {x : Block} (r : repBlock h cs x) : cs.length = 4 := by
  have e : cs = [.int .i64 x.prog, .int .i64 x.live, .int .i64 x.era, .bool x.bad] := r
  rw [e]; rfl
theorem repBlock.mono {h h' : FH} {cs : List Value} {x : Block} (hl : FLe h h') (r : repBlock h cs x) : repBlock h' cs x := by
  have e : cs = [.int .i64 x.prog, .int .i64 x.live, .int .i64 x.era, .bool x.bad] := r
  exact e
theorem repBlock.one {h : FH} {cs : List Value} {x : Block} (r : repBlock h cs x) : ∀ u ∈ cs, u.oneCell' = true := by
  have e : cs = [.int .i64 x.prog, .int .i64 x.live, .int .i64 x.era, .bool x.bad] := r
  subst e
  simp [Value.oneCell']
instance : Enc Block := ⟨4, repBlock, repBlock.len, repBlock.mono, repBlock.one, by decide⟩
theorem RowAt.block {h : FH} {A : Option Addr} {xs : List Block} (r : RowAt h A xs) {i : Nat} {x : Block} (hx : xs[i]? = some x) {w : World} (hs : Sits h w) :
    ∃ b off , A = some ⟨b, off, none⟩ ∧ w.cell? ⟨b, off + i * 4, none⟩ = some (.int .i64 x.prog) ∧ w.cell? ⟨b, off + i * 4 + 1, none⟩ = some (.int .i64 x.live) ∧ w.cell? ⟨b, off + i * 4 + 2, none⟩ = some (.int .i64 x.era) ∧ w.cell? ⟨b, off + i * 4 + 3, none⟩ = some (.bool x.bad) := by
  have hp : 0 < xs.length := by have := (List.getElem?_eq_some_iff.1 hx).1; omega
  obtain ⟨b, off, e', f⟩ := r.2 hp
  obtain ⟨cs, hr, hc⟩ := f i x hx
  have e : cs = [.int .i64 x.prog, .int .i64 x.live, .int .i64 x.era, .bool x.bad] := hr
  subst e
  exact ⟨b, off, e', hs.cell (hc 0 _ rfl), hs.cell (hc 1 _ rfl), hs.cell (hc 2 _ rfl), hs.cell (hc 3 _ rfl)⟩

structure Run where
  from_ : Int
  at_ : Int
  count : Int
  deriving Inhabited
def repRun (h : FH) (cs : List Value) (x : Run) : Prop := cs = [.int .i64 x.from_, .int .i64 x.at_, .int .i64 x.count]
theorem repRun.len {h : FH} {cs : List Value} {x : Run} (r : repRun h cs x) : cs.length = 3 := by
  have e : cs = [.int .i64 x.from_, .int .i64 x.at_, .int .i64 x.count] := r
  rw [e]; rfl
theorem repRun.mono {h h' : FH} {cs : List Value} {x : Run} (hl : FLe h h') (r : repRun h cs x) : repRun h' cs x := by
  have e : cs = [.int .i64 x.from_, .int .i64 x.at_, .int .i64 x.count] := r
  exact e
theorem repRun.one {h : FH} {cs : List Value} {x : Run} (r : repRun h cs x) : ∀ u ∈ cs, u.oneCell' = true := by
  have e : cs = [.int .i64 x.from_, .int .i64 x.at_, .int .i64 x.count] := r
  subst e
  simp [Value.oneCell']
instance : Enc Run := ⟨3, repRun, repRun.len, repRun.mono, repRun.one, by decide⟩
theorem RowAt.run {h : FH} {A : Option Addr} {xs : List Run} (r : RowAt h A xs) {i : Nat} {x : Run} (hx : xs[i]? = some x) {w : World} (hs : Sits h w) :
    ∃ b off , A = some ⟨b, off, none⟩ ∧ w.cell? ⟨b, off + i * 3, none⟩ = some (.int .i64 x.from_) ∧ w.cell? ⟨b, off + i * 3 + 1, none⟩ = some (.int .i64 x.at_) ∧ w.cell? ⟨b, off + i * 3 + 2, none⟩ = some (.int .i64 x.count) := by
  have hp : 0 < xs.length := by have := (List.getElem?_eq_some_iff.1 hx).1; omega
  obtain ⟨b, off, e', f⟩ := r.2 hp
  obtain ⟨cs, hr, hc⟩ := f i x hx
  have e : cs = [.int .i64 x.from_, .int .i64 x.at_, .int .i64 x.count] := hr
  subst e
  exact ⟨b, off, e', hs.cell (hc 0 _ rfl), hs.cell (hc 1 _ rfl), hs.cell (hc 2 _ rfl)⟩

structure Entry where
  name : ByteArray
  no : Int
  deriving Inhabited
def repEntry (h : FH) (cs : List Value) (x : Entry) : Prop := cs = [.string x.name, .int .i64 x.no] ∧ x.name.size ≤ 9223372036854775807
theorem repEntry.len {h : FH} {cs : List Value} {x : Entry} (r : repEntry h cs x) : cs.length = 2 := by
  obtain ⟨e, _⟩ := r
  rw [e]; rfl
theorem repEntry.mono {h h' : FH} {cs : List Value} {x : Entry} (hl : FLe h h') (r : repEntry h cs x) : repEntry h' cs x := by
  obtain ⟨e, s0⟩ := r
  exact ⟨e, s0⟩
theorem repEntry.one {h : FH} {cs : List Value} {x : Entry} (r : repEntry h cs x) : ∀ u ∈ cs, u.oneCell' = true := by
  obtain ⟨e, _⟩ := r
  subst e
  simp [Value.oneCell']
instance : Enc Entry := ⟨2, repEntry, repEntry.len, repEntry.mono, repEntry.one, by decide⟩
theorem RowAt.entry {h : FH} {A : Option Addr} {xs : List Entry} (r : RowAt h A xs) {i : Nat} {x : Entry} (hx : xs[i]? = some x) {w : World} (hs : Sits h w) :
    ∃ b off , A = some ⟨b, off, none⟩ ∧ w.cell? ⟨b, off + i * 2, none⟩ = some (.string x.name) ∧ w.cell? ⟨b, off + i * 2 + 1, none⟩ = some (.int .i64 x.no) ∧ x.name.size ≤ 9223372036854775807 := by
  have hp : 0 < xs.length := by have := (List.getElem?_eq_some_iff.1 hx).1; omega
  obtain ⟨b, off, e', f⟩ := r.2 hp
  obtain ⟨cs, hr, hc⟩ := f i x hx
  obtain ⟨e, s0⟩ := hr
  subst e
  exact ⟨b, off, e', hs.cell (hc 0 _ rfl), hs.cell (hc 1 _ rfl), s0⟩

structure Inode where
  no : Int
  kind : Int
  links : Int
  size : Int
  target : ByteArray
  entries : List Entry
  runs : List Run
  deriving Inhabited
def repInode (h : FH) (cs : List Value) (x : Inode) : Prop := ∃ A5 c5 A6 c6, cs = [.int .i64 x.no, .int .i64 x.kind, .int .i64 x.links, .int .i64 x.size, .string x.target, .slice A5 x.entries.length c5, .slice A6 x.runs.length c6] ∧ x.target.size ≤ 9223372036854775807 ∧ x.entries.length ≤ c5 ∧ RowAt h A5 x.entries ∧ x.runs.length ≤ c6 ∧ RowAt h A6 x.runs
theorem repInode.len {h : FH} {cs : List Value} {x : Inode} (r : repInode h cs x) : cs.length = 7 := by
  obtain ⟨A5, c5, A6, c6, e, _, _, _, _, _⟩ := r
  rw [e]; rfl
theorem repInode.mono {h h' : FH} {cs : List Value} {x : Inode} (hl : FLe h h') (r : repInode h cs x) : repInode h' cs x := by
  obtain ⟨A5, c5, A6, c6, e, s0, s1, s2, s3, s4⟩ := r
  exact ⟨A5, c5, A6, c6, e, s0, s1, s2.mono hl, s3, s4.mono hl⟩
theorem repInode.one {h : FH} {cs : List Value} {x : Inode} (r : repInode h cs x) : ∀ u ∈ cs, u.oneCell' = true := by
  obtain ⟨A5, c5, A6, c6, e, _, _, _, _, _⟩ := r
  subst e
  simp [Value.oneCell']
instance : Enc Inode := ⟨7, repInode, repInode.len, repInode.mono, repInode.one, by decide⟩
theorem RowAt.inode {h : FH} {A : Option Addr} {xs : List Inode} (r : RowAt h A xs) {i : Nat} {x : Inode} (hx : xs[i]? = some x) {w : World} (hs : Sits h w) :
    ∃ b off A5 c5 A6 c6, A = some ⟨b, off, none⟩ ∧ w.cell? ⟨b, off + i * 7, none⟩ = some (.int .i64 x.no) ∧ w.cell? ⟨b, off + i * 7 + 1, none⟩ = some (.int .i64 x.kind) ∧ w.cell? ⟨b, off + i * 7 + 2, none⟩ = some (.int .i64 x.links) ∧ w.cell? ⟨b, off + i * 7 + 3, none⟩ = some (.int .i64 x.size) ∧ w.cell? ⟨b, off + i * 7 + 4, none⟩ = some (.string x.target) ∧ w.cell? ⟨b, off + i * 7 + 5, none⟩ = some (.slice A5 x.entries.length c5) ∧ w.cell? ⟨b, off + i * 7 + 6, none⟩ = some (.slice A6 x.runs.length c6) ∧ x.target.size ≤ 9223372036854775807 ∧ x.entries.length ≤ c5 ∧ RowAt h A5 x.entries ∧ x.runs.length ≤ c6 ∧ RowAt h A6 x.runs := by
  have hp : 0 < xs.length := by have := (List.getElem?_eq_some_iff.1 hx).1; omega
  obtain ⟨b, off, e', f⟩ := r.2 hp
  obtain ⟨cs, hr, hc⟩ := f i x hx
  obtain ⟨A5, c5, A6, c6, e, s0, s1, s2, s3, s4⟩ := hr
  subst e
  exact ⟨b, off, A5, c5, A6, c6, e', hs.cell (hc 0 _ rfl), hs.cell (hc 1 _ rfl), hs.cell (hc 2 _ rfl), hs.cell (hc 3 _ rfl), hs.cell (hc 4 _ rfl), hs.cell (hc 5 _ rfl), hs.cell (hc 6 _ rfl), s0, s1, s2, s3, s4⟩

structure Deed where
  kind : Int
  no : Int
  inode : Inode
  deriving Inhabited
def repDeed (h : FH) (cs : List Value) (x : Deed) : Prop := ∃ A7 c7 A8 c8, cs = [.int .i64 x.kind, .int .i64 x.no, .int .i64 x.inode.no, .int .i64 x.inode.kind, .int .i64 x.inode.links, .int .i64 x.inode.size, .string x.inode.target, .slice A7 x.inode.entries.length c7, .slice A8 x.inode.runs.length c8] ∧ x.inode.target.size ≤ 9223372036854775807 ∧ x.inode.entries.length ≤ c7 ∧ RowAt h A7 x.inode.entries ∧ x.inode.runs.length ≤ c8 ∧ RowAt h A8 x.inode.runs
theorem repDeed.len {h : FH} {cs : List Value} {x : Deed} (r : repDeed h cs x) : cs.length = 9 := by
  obtain ⟨A7, c7, A8, c8, e, _, _, _, _, _⟩ := r
  rw [e]; rfl
theorem repDeed.mono {h h' : FH} {cs : List Value} {x : Deed} (hl : FLe h h') (r : repDeed h cs x) : repDeed h' cs x := by
  obtain ⟨A7, c7, A8, c8, e, s0, s1, s2, s3, s4⟩ := r
  exact ⟨A7, c7, A8, c8, e, s0, s1, s2.mono hl, s3, s4.mono hl⟩
theorem repDeed.one {h : FH} {cs : List Value} {x : Deed} (r : repDeed h cs x) : ∀ u ∈ cs, u.oneCell' = true := by
  obtain ⟨A7, c7, A8, c8, e, _, _, _, _, _⟩ := r
  subst e
  simp [Value.oneCell']
instance : Enc Deed := ⟨9, repDeed, repDeed.len, repDeed.mono, repDeed.one, by decide⟩
theorem RowAt.deed {h : FH} {A : Option Addr} {xs : List Deed} (r : RowAt h A xs) {i : Nat} {x : Deed} (hx : xs[i]? = some x) {w : World} (hs : Sits h w) :
    ∃ b off A7 c7 A8 c8, A = some ⟨b, off, none⟩ ∧ w.cell? ⟨b, off + i * 9, none⟩ = some (.int .i64 x.kind) ∧ w.cell? ⟨b, off + i * 9 + 1, none⟩ = some (.int .i64 x.no) ∧ w.cell? ⟨b, off + i * 9 + 2, none⟩ = some (.int .i64 x.inode.no) ∧ w.cell? ⟨b, off + i * 9 + 3, none⟩ = some (.int .i64 x.inode.kind) ∧ w.cell? ⟨b, off + i * 9 + 4, none⟩ = some (.int .i64 x.inode.links) ∧ w.cell? ⟨b, off + i * 9 + 5, none⟩ = some (.int .i64 x.inode.size) ∧ w.cell? ⟨b, off + i * 9 + 6, none⟩ = some (.string x.inode.target) ∧ w.cell? ⟨b, off + i * 9 + 7, none⟩ = some (.slice A7 x.inode.entries.length c7) ∧ w.cell? ⟨b, off + i * 9 + 8, none⟩ = some (.slice A8 x.inode.runs.length c8) ∧ x.inode.target.size ≤ 9223372036854775807 ∧ x.inode.entries.length ≤ c7 ∧ RowAt h A7 x.inode.entries ∧ x.inode.runs.length ≤ c8 ∧ RowAt h A8 x.inode.runs := by
  have hp : 0 < xs.length := by have := (List.getElem?_eq_some_iff.1 hx).1; omega
  obtain ⟨b, off, e', f⟩ := r.2 hp
  obtain ⟨cs, hr, hc⟩ := f i x hx
  obtain ⟨A7, c7, A8, c8, e, s0, s1, s2, s3, s4⟩ := hr
  subst e
  exact ⟨b, off, A7, c7, A8, c8, e', hs.cell (hc 0 _ rfl), hs.cell (hc 1 _ rfl), hs.cell (hc 2 _ rfl), hs.cell (hc 3 _ rfl), hs.cell (hc 4 _ rfl), hs.cell (hc 5 _ rfl), hs.cell (hc 6 _ rfl), hs.cell (hc 7 _ rfl), hs.cell (hc 8 _ rfl), s0, s1, s2, s3, s4⟩

structure State where
  next : Int
  inodes : List Inode
  bads : List Int
  deriving Inhabited
def repState (h : FH) (cs : List Value) (x : State) : Prop := ∃ A1 c1 A2 c2, cs = [.int .i64 x.next, .slice A1 x.inodes.length c1, .slice A2 x.bads.length c2] ∧ x.inodes.length ≤ c1 ∧ RowAt h A1 x.inodes ∧ x.bads.length ≤ c2 ∧ RowAt h A2 x.bads
theorem repState.len {h : FH} {cs : List Value} {x : State} (r : repState h cs x) : cs.length = 3 := by
  obtain ⟨A1, c1, A2, c2, e, _, _, _, _⟩ := r
  rw [e]; rfl
theorem repState.mono {h h' : FH} {cs : List Value} {x : State} (hl : FLe h h') (r : repState h cs x) : repState h' cs x := by
  obtain ⟨A1, c1, A2, c2, e, s0, s1, s2, s3⟩ := r
  exact ⟨A1, c1, A2, c2, e, s0, s1.mono hl, s2, s3.mono hl⟩
theorem repState.one {h : FH} {cs : List Value} {x : State} (r : repState h cs x) : ∀ u ∈ cs, u.oneCell' = true := by
  obtain ⟨A1, c1, A2, c2, e, _, _, _, _⟩ := r
  subst e
  simp [Value.oneCell']
instance : Enc State := ⟨3, repState, repState.len, repState.mono, repState.one, by decide⟩
theorem RowAt.state {h : FH} {A : Option Addr} {xs : List State} (r : RowAt h A xs) {i : Nat} {x : State} (hx : xs[i]? = some x) {w : World} (hs : Sits h w) :
    ∃ b off A1 c1 A2 c2, A = some ⟨b, off, none⟩ ∧ w.cell? ⟨b, off + i * 3, none⟩ = some (.int .i64 x.next) ∧ w.cell? ⟨b, off + i * 3 + 1, none⟩ = some (.slice A1 x.inodes.length c1) ∧ w.cell? ⟨b, off + i * 3 + 2, none⟩ = some (.slice A2 x.bads.length c2) ∧ x.inodes.length ≤ c1 ∧ RowAt h A1 x.inodes ∧ x.bads.length ≤ c2 ∧ RowAt h A2 x.bads := by
  have hp : 0 < xs.length := by have := (List.getElem?_eq_some_iff.1 hx).1; omega
  obtain ⟨b, off, e', f⟩ := r.2 hp
  obtain ⟨cs, hr, hc⟩ := f i x hx
  obtain ⟨A1, c1, A2, c2, e, s0, s1, s2, s3⟩ := hr
  subst e
  exact ⟨b, off, A1, c1, A2, c2, e', hs.cell (hc 0 _ rfl), hs.cell (hc 1 _ rfl), hs.cell (hc 2 _ rfl), s0, s1, s2, s3⟩

structure Geo where
  sectors : Int
  sector : Int
  blocks : Int
  pages : Int
  page : Int
  deriving Inhabited
def repGeo (h : FH) (cs : List Value) (x : Geo) : Prop := cs = [.int .i64 x.sectors, .int .i64 x.sector, .int .i64 x.blocks, .int .i64 x.pages, .int .i64 x.page]
theorem repGeo.len {h : FH} {cs : List Value} {x : Geo} (r : repGeo h cs x) : cs.length = 5 := by
  have e : cs = [.int .i64 x.sectors, .int .i64 x.sector, .int .i64 x.blocks, .int .i64 x.pages, .int .i64 x.page] := r
  rw [e]; rfl
theorem repGeo.mono {h h' : FH} {cs : List Value} {x : Geo} (hl : FLe h h') (r : repGeo h cs x) : repGeo h' cs x := by
  have e : cs = [.int .i64 x.sectors, .int .i64 x.sector, .int .i64 x.blocks, .int .i64 x.pages, .int .i64 x.page] := r
  exact e
theorem repGeo.one {h : FH} {cs : List Value} {x : Geo} (r : repGeo h cs x) : ∀ u ∈ cs, u.oneCell' = true := by
  have e : cs = [.int .i64 x.sectors, .int .i64 x.sector, .int .i64 x.blocks, .int .i64 x.pages, .int .i64 x.page] := r
  subst e
  simp [Value.oneCell']
instance : Enc Geo := ⟨5, repGeo, repGeo.len, repGeo.mono, repGeo.one, by decide⟩
theorem RowAt.geo {h : FH} {A : Option Addr} {xs : List Geo} (r : RowAt h A xs) {i : Nat} {x : Geo} (hx : xs[i]? = some x) {w : World} (hs : Sits h w) :
    ∃ b off , A = some ⟨b, off, none⟩ ∧ w.cell? ⟨b, off + i * 5, none⟩ = some (.int .i64 x.sectors) ∧ w.cell? ⟨b, off + i * 5 + 1, none⟩ = some (.int .i64 x.sector) ∧ w.cell? ⟨b, off + i * 5 + 2, none⟩ = some (.int .i64 x.blocks) ∧ w.cell? ⟨b, off + i * 5 + 3, none⟩ = some (.int .i64 x.pages) ∧ w.cell? ⟨b, off + i * 5 + 4, none⟩ = some (.int .i64 x.page) := by
  have hp : 0 < xs.length := by have := (List.getElem?_eq_some_iff.1 hx).1; omega
  obtain ⟨b, off, e', f⟩ := r.2 hp
  obtain ⟨cs, hr, hc⟩ := f i x hx
  have e : cs = [.int .i64 x.sectors, .int .i64 x.sector, .int .i64 x.blocks, .int .i64 x.pages, .int .i64 x.page] := hr
  subst e
  exact ⟨b, off, e', hs.cell (hc 0 _ rfl), hs.cell (hc 1 _ rfl), hs.cell (hc 2 _ rfl), hs.cell (hc 3 _ rfl), hs.cell (hc 4 _ rfl)⟩

structure ROp where
  index : Int
  at_ : Int
  n : Int
  deriving Inhabited
def repROp (h : FH) (cs : List Value) (x : ROp) : Prop := cs = [.int .i64 x.index, .int .i64 x.at_, .int .i64 x.n]
theorem repROp.len {h : FH} {cs : List Value} {x : ROp} (r : repROp h cs x) : cs.length = 3 := by
  have e : cs = [.int .i64 x.index, .int .i64 x.at_, .int .i64 x.n] := r
  rw [e]; rfl
theorem repROp.mono {h h' : FH} {cs : List Value} {x : ROp} (hl : FLe h h') (r : repROp h cs x) : repROp h' cs x := by
  have e : cs = [.int .i64 x.index, .int .i64 x.at_, .int .i64 x.n] := r
  exact e
theorem repROp.one {h : FH} {cs : List Value} {x : ROp} (r : repROp h cs x) : ∀ u ∈ cs, u.oneCell' = true := by
  have e : cs = [.int .i64 x.index, .int .i64 x.at_, .int .i64 x.n] := r
  subst e
  simp [Value.oneCell']
instance : Enc ROp := ⟨3, repROp, repROp.len, repROp.mono, repROp.one, by decide⟩
theorem RowAt.rop {h : FH} {A : Option Addr} {xs : List ROp} (r : RowAt h A xs) {i : Nat} {x : ROp} (hx : xs[i]? = some x) {w : World} (hs : Sits h w) :
    ∃ b off , A = some ⟨b, off, none⟩ ∧ w.cell? ⟨b, off + i * 3, none⟩ = some (.int .i64 x.index) ∧ w.cell? ⟨b, off + i * 3 + 1, none⟩ = some (.int .i64 x.at_) ∧ w.cell? ⟨b, off + i * 3 + 2, none⟩ = some (.int .i64 x.n) := by
  have hp : 0 < xs.length := by have := (List.getElem?_eq_some_iff.1 hx).1; omega
  obtain ⟨b, off, e', f⟩ := r.2 hp
  obtain ⟨cs, hr, hc⟩ := f i x hx
  have e : cs = [.int .i64 x.index, .int .i64 x.at_, .int .i64 x.n] := hr
  subst e
  exact ⟨b, off, e', hs.cell (hc 0 _ rfl), hs.cell (hc 1 _ rfl), hs.cell (hc 2 _ rfl)⟩

structure POp where
  kind : Int
  path : ByteArray
  other : ByteArray
  n : Int
  deriving Inhabited
def repPOp (h : FH) (cs : List Value) (x : POp) : Prop := cs = [.int .i64 x.kind, .string x.path, .string x.other, .int .i64 x.n] ∧ x.path.size ≤ 9223372036854775807 ∧ x.other.size ≤ 9223372036854775807
theorem repPOp.len {h : FH} {cs : List Value} {x : POp} (r : repPOp h cs x) : cs.length = 4 := by
  obtain ⟨e, _, _⟩ := r
  rw [e]; rfl
theorem repPOp.mono {h h' : FH} {cs : List Value} {x : POp} (hl : FLe h h') (r : repPOp h cs x) : repPOp h' cs x := by
  obtain ⟨e, s0, s1⟩ := r
  exact ⟨e, s0, s1⟩
theorem repPOp.one {h : FH} {cs : List Value} {x : POp} (r : repPOp h cs x) : ∀ u ∈ cs, u.oneCell' = true := by
  obtain ⟨e, _, _⟩ := r
  subst e
  simp [Value.oneCell']
instance : Enc POp := ⟨4, repPOp, repPOp.len, repPOp.mono, repPOp.one, by decide⟩
theorem RowAt.pop {h : FH} {A : Option Addr} {xs : List POp} (r : RowAt h A xs) {i : Nat} {x : POp} (hx : xs[i]? = some x) {w : World} (hs : Sits h w) :
    ∃ b off , A = some ⟨b, off, none⟩ ∧ w.cell? ⟨b, off + i * 4, none⟩ = some (.int .i64 x.kind) ∧ w.cell? ⟨b, off + i * 4 + 1, none⟩ = some (.string x.path) ∧ w.cell? ⟨b, off + i * 4 + 2, none⟩ = some (.string x.other) ∧ w.cell? ⟨b, off + i * 4 + 3, none⟩ = some (.int .i64 x.n) ∧ x.path.size ≤ 9223372036854775807 ∧ x.other.size ≤ 9223372036854775807 := by
  have hp : 0 < xs.length := by have := (List.getElem?_eq_some_iff.1 hx).1; omega
  obtain ⟨b, off, e', f⟩ := r.2 hp
  obtain ⟨cs, hr, hc⟩ := f i x hx
  obtain ⟨e, s0, s1⟩ := hr
  subst e
  exact ⟨b, off, e', hs.cell (hc 0 _ rfl), hs.cell (hc 1 _ rfl), hs.cell (hc 2 _ rfl), hs.cell (hc 3 _ rfl), s0, s1⟩

theorem RowAt.int {h : FH} {A : Option Addr} {xs : List Int} (r : RowAt h A xs) {i : Nat} {x : Int} (hx : xs[i]? = some x) {w : World} (hs : Sits h w) : ∃ b off, A = some ⟨b, off, none⟩ ∧ w.cell? ⟨b, off + i, none⟩ = some (.int .i64 x) := by
  have hp : 0 < xs.length := by have := (List.getElem?_eq_some_iff.1 hx).1; omega
  obtain ⟨b, off, e, f⟩ := r.2 hp
  obtain ⟨cs, hr, hc⟩ := f i x hx
  have hr : cs = [.int .i64 x] := hr
  subst hr
  refine ⟨b, off, e, hs.cell ?_⟩
  have := hc 0 _ rfl
  rwa [show off + i * Enc.sz Int + 0 = off + i from by show off + i * 1 + 0 = off + i; omega] at this
theorem RowAt.str {h : FH} {A : Option Addr} {xs : List ByteArray} (r : RowAt h A xs) {i : Nat} {x : ByteArray} (hx : xs[i]? = some x) {w : World} (hs : Sits h w) : ∃ b off, A = some ⟨b, off, none⟩ ∧ w.cell? ⟨b, off + i, none⟩ = some (.string x) ∧ x.size ≤ 9223372036854775807 := by
  have hp : 0 < xs.length := by have := (List.getElem?_eq_some_iff.1 hx).1; omega
  obtain ⟨b, off, e, f⟩ := r.2 hp
  obtain ⟨cs, hr, hc⟩ := f i x hx
  obtain ⟨hr, hsz⟩ : cs = [.string x] ∧ x.size ≤ 9223372036854775807 := hr
  subst hr
  refine ⟨b, off, e, hs.cell ?_, hsz⟩
  have := hc 0 _ rfl
  rwa [show off + i * Enc.sz ByteArray + 0 = off + i from by show off + i * 1 + 0 = off + i; omega] at this

theorem list_2 {α : Type} : ∀ (l : List α), l.length = 2 → ∃ a0 a1, l = [a0, a1]
  | [a0, a1], _ => ⟨a0, a1, rfl⟩
theorem list_3 {α : Type} : ∀ (l : List α), l.length = 3 → ∃ a0 a1 a2, l = [a0, a1, a2]
  | [a0, a1, a2], _ => ⟨a0, a1, a2, rfl⟩
theorem list_4 {α : Type} : ∀ (l : List α), l.length = 4 → ∃ a0 a1 a2 a3, l = [a0, a1, a2, a3]
  | [a0, a1, a2, a3], _ => ⟨a0, a1, a2, a3, rfl⟩
theorem list_5 {α : Type} : ∀ (l : List α), l.length = 5 → ∃ a0 a1 a2 a3 a4, l = [a0, a1, a2, a3, a4]
  | [a0, a1, a2, a3, a4], _ => ⟨a0, a1, a2, a3, a4, rfl⟩
theorem list_7 {α : Type} : ∀ (l : List α), l.length = 7 → ∃ a0 a1 a2 a3 a4 a5 a6, l = [a0, a1, a2, a3, a4, a5, a6]
  | [a0, a1, a2, a3, a4, a5, a6], _ => ⟨a0, a1, a2, a3, a4, a5, a6, rfl⟩
theorem list_9 {α : Type} : ∀ (l : List α), l.length = 9 → ∃ a0 a1 a2 a3 a4 a5 a6 a7 a8, l = [a0, a1, a2, a3, a4, a5, a6, a7, a8]
  | [a0, a1, a2, a3, a4, a5, a6, a7, a8], _ => ⟨a0, a1, a2, a3, a4, a5, a6, a7, a8, rfl⟩
theorem open_int' : Opens Int Tryd.prog 3 := Opens.int Tryd.underlying3
theorem open_bool' : Opens Bool Tryd.prog 4 := Opens.bool Tryd.underlying4
theorem open_str' : Opens ByteArray Tryd.prog 9 := Opens.string Tryd.underlying9
theorem open_LInt : Opens (List Int) Tryd.prog 35 := Opens.slice Tryd.underlying35 (by kernel_rfl) open_int'
end Go.Proofs.YthffdfcjphohcaaDoor
