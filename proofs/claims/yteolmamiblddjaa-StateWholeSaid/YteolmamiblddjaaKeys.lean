import Derived.Test.YteolmamiblddjaaMaps
namespace Go.Proofs.Yteolmamiblddjaa
open Go.RowKit Go.Sort
set_option linter.unusedVariables false

def encI (a : Int) : Value := .agg #[.int .i64 a]
def encS (a : ByteArray) : Value := .agg #[.string a]
/-- A key's search, from what '==' says. -/
theorem find_of_equal {κ : Type} [DecidableEq κ] {P : Program} {k : TypeId} {enc : κ → Value} {fs : Array Field} (hk : P.underlying k = some (.struct fs)) (hagg : ∀ a, ∃ c, enc a = .agg c)
    (heq : ∀ w a b, (Op.equal k (enc a) (enc b)).run P w = .ok (decide (a = b)) w) (w : World) (a : κ) (kv : List (κ × Value × Nat)) : (Instr.findKey k (enc a) (kv.map (mkE enc))).run P w = .ok (ix kv a 0) w := by
  have asking : ∀ (kv : List (κ × Value × Nat)) (i : Nat), (Instr.findAsking k (enc a) (kv.map (mkE enc)) i).run P w = .ok (ix kv a i) w := by
    intro kv
    induction kv with
    | nil => intro i; rfl
    | cons e es ih =>
      intro i
      simp only [List.map_cons, Instr.findAsking, Sem.run_bind, mkE, heq, Result.andThen_ok]
      by_cases h : a = e.1
      · simp [ix, h]
      · simp only [ix, if_neg h, decide_eq_true_eq]
        exact ih (i + 1)
  unfold Instr.findKey
  simp only [Sem.run_bind, run_underlying hk, Result.andThen_ok]
  cases kv with
  | nil => rfl
  | cons e es =>
    have hn : Instr.findNow (.struct fs) (enc a) ((e :: es).map (mkE enc)) 0 = none := by
      obtain ⟨c, hc⟩ := hagg a
      rw [hc]
      rfl
    rw [hn]
    exact asking (e :: es) 0
theorem bytes_toList_inj {a b : ByteArray} (h : a.toList = b.toList) : a = b := by
  rw [ByteArray.toList_eq, ByteArray.toList_eq] at h
  obtain ⟨⟨x⟩⟩ := a
  obtain ⟨⟨y⟩⟩ := b
  have h2 : x = y := h
  rw [h2]
theorem bytes_toList_beq (a b : ByteArray) : (a.toList == b.toList) = decide (a = b) := by
  by_cases h : a = b
  · subst h; simp
  · have : a.toList ≠ b.toList := fun e => h (bytes_toList_inj e)
    simp [h, this]
theorem bytes_beq (a b : ByteArray) : (a == b) = decide (a = b) := by rw [beq_toListBytes, bytes_toList_beq]
theorem stays_int (P : Program) (w : World) (a : Int) : (Instr.keyThatStays (encI a) (encI a)).run P w = .ok (encI a) w := by
  simp [Instr.keyThatStays, Instr.sameBits, encI]
theorem stays_str (P : Program) (w : World) (a : ByteArray) : (Instr.keyThatStays (encS a) (encS a)).run P w = .ok (encS a) w := by
  simp [Instr.keyThatStays, Instr.sameBits, encS, bytes_beq]
theorem check_state_key (w : World) (em : Bool) (a : Int) : (Instr.checkKey em 10000 78 (encI a)).run Try.prog w = .ok () w := by kernel_rfl
theorem equal_state_key (w : World) (a b : Int) : (Op.equal 78 (encI a) (encI b)).run Try.prog w = .ok (decide (a = b)) w := by
  by_cases h : a = b
  · subst h
    simp [Op.equal, Op.maxDepth, encI, go_sem, Try.underlying78, Try.underlying3]
  · simp [Op.equal, Op.maxDepth, encI, go_sem, h]
theorem kt_state_key : KeyT Int Try.prog 78 encI := ⟨check_state_key, find_of_equal Try.underlying78 (fun a => ⟨_, rfl⟩) equal_state_key, stays_int Try.prog⟩
theorem zero_int (w : World) : (zeroValue 3).run Try.prog w = .ok (.int .i64 0) w := by kernel_rfl
end Go.Proofs.Yteolmamiblddjaa
