import Derived.Test.YtbnpccilccibkaaOwn
namespace Go.Proofs.Ytbnpccilccibkaa
theorem ty_Int : TyOk Try.prog 26 3 (Enc.sz Int) 8 := TyOk.mk' (z := .int .i64 0) Try.underlying26 (by kernel_rfl) rfl
theorem ty_Block : TyOk Try.prog 25 23 (Enc.sz Block) 32 := TyOk.mk' (z := .agg #[.int .i64 0, .int .i64 0, .int .i64 0, .bool false]) Try.underlying25 (by kernel_rfl) rfl
theorem ty_Run : TyOk Try.prog 34 38 (Enc.sz Run) 24 := TyOk.mk' (z := .agg #[.int .i64 0, .int .i64 0, .int .i64 0]) Try.underlying34 (by kernel_rfl) rfl
end Go.Proofs.Ytbnpccilccibkaa
