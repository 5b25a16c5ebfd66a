import Derived.Test.YteolmamiblddjaaOwn
namespace Go.Proofs.Yteolmamiblddjaa
theorem ty_Int : TyOk Try.prog 29 3 (Enc.sz Int) 8 := TyOk.mk' (z := .int .i64 0) Try.underlying29 (by kernel_rfl) rfl
theorem ty_Run : TyOk Try.prog 35 46 (Enc.sz Run) 24 := TyOk.mk' (z := .agg #[.int .i64 0, .int .i64 0, .int .i64 0]) Try.underlying35 (by kernel_rfl) rfl
theorem ty_Entry : TyOk Try.prog 34 44 (Enc.sz Entry) 24 := TyOk.mk' (z := .agg #[.string ⟨#[]⟩, .int .i64 0]) Try.underlying34 (by kernel_rfl) rfl
theorem ty_Inode : TyOk Try.prog 28 37 (Enc.sz Inode) 96 := TyOk.mk' (z := .agg #[.int .i64 0, .int .i64 0, .int .i64 0, .int .i64 0, .string ⟨#[]⟩, .slice none 0 0, .slice none 0 0]) Try.underlying28 (by kernel_rfl) rfl
theorem ty_Deed : TyOk Try.prog 40 39 (Enc.sz Deed) 112 := TyOk.mk' (z := .agg #[.int .i64 0, .int .i64 0, .int .i64 0, .int .i64 0, .int .i64 0, .int .i64 0, .string ⟨#[]⟩, .slice none 0 0, .slice none 0 0]) Try.underlying40 (by kernel_rfl) rfl
end Go.Proofs.Yteolmamiblddjaa
