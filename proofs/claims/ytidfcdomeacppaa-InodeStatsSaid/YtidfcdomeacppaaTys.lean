import Derived.Test.YtidfcdomeacppaaOwn
namespace Go.Proofs.Ytidfcdomeacppaa
theorem ty_Int : TyOk Try.prog 43 3 (Enc.sz Int) 8 := TyOk.mk' (z := .int .i64 0) Try.underlying43 (by kernel_rfl) rfl
theorem ty_Run : TyOk Try.prog 23 40 (Enc.sz Run) 24 := TyOk.mk' (z := .agg #[.int .i64 0, .int .i64 0, .int .i64 0]) Try.underlying23 (by kernel_rfl) rfl
theorem ty_Entry : TyOk Try.prog 22 38 (Enc.sz Entry) 24 := TyOk.mk' (z := .agg #[.string ⟨#[]⟩, .int .i64 0]) Try.underlying22 (by kernel_rfl) rfl
end Go.Proofs.Ytidfcdomeacppaa
