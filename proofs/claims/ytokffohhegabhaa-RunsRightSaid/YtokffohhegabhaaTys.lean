import Derived.Test.YtokffohhegabhaaOwn
namespace Go.Proofs.Ytokffohhegabhaa
theorem ty_Int : TyOk Try.prog 23 3 (Enc.sz Int) 8 := TyOk.mk' (z := .int .i64 0) Try.underlying23 (by kernel_rfl) rfl
theorem ty_Block : TyOk Try.prog 22 29 (Enc.sz Block) 32 := TyOk.mk' (z := .agg #[.int .i64 0, .int .i64 0, .int .i64 0, .bool false]) Try.underlying22 (by kernel_rfl) rfl
theorem ty_Run : TyOk Try.prog 44 48 (Enc.sz Run) 24 := TyOk.mk' (z := .agg #[.int .i64 0, .int .i64 0, .int .i64 0]) Try.underlying44 (by kernel_rfl) rfl
theorem ty_Entry : TyOk Try.prog 60 73 (Enc.sz Entry) 24 := TyOk.mk' (z := .agg #[.string ⟨#[]⟩, .int .i64 0]) Try.underlying60 (by kernel_rfl) rfl
theorem ty_Inode : TyOk Try.prog 95 62 (Enc.sz Inode) 96 := TyOk.mk' (z := .agg #[.int .i64 0, .int .i64 0, .int .i64 0, .int .i64 0, .string ⟨#[]⟩, .slice none 0 0, .slice none 0 0]) Try.underlying95 (by kernel_rfl) rfl
theorem ty_Deed : TyOk Try.prog 102 101 (Enc.sz Deed) 112 := TyOk.mk' (z := .agg #[.int .i64 0, .int .i64 0, .int .i64 0, .int .i64 0, .int .i64 0, .int .i64 0, .string ⟨#[]⟩, .slice none 0 0, .slice none 0 0]) Try.underlying102 (by kernel_rfl) rfl
end Go.Proofs.Ytokffohhegabhaa
