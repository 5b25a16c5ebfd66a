import Derived.Test.YthffdfcjphohcaaDoorOwn
namespace Go.Proofs.YthffdfcjphohcaaDoor
theorem ty_Int : TyOk Tryd.prog 35 3 (Enc.sz Int) 8 := TyOk.mk' (z := .int .i64 0) Tryd.underlying35 (by kernel_rfl) rfl
end Go.Proofs.YthffdfcjphohcaaDoor
