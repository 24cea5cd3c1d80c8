/- Printed by an own tool: the types of this translation, as instances. Conditions: none. -/
import Derived.Test.YtlcipnligbjclaaZf
import Derived.Test.YtlcipnligbjclaaProg
namespace Go.Proofs.Ytlcipnligbjclaa
set_option linter.unusedVariables false
set_option linter.unusedSimpArgs false
set_option linter.unusedSectionVars false
open Go Go.Z

instance ty0 : TyC Try.prog 0 ⟨Go.TypeDesc.tuple #[], 1, (Go.Value.tuple #[]), 0⟩ := ⟨Try.underlying0, Try.t0, Try.type0, rfl, rfl, rfl⟩
instance ty3 : TyC Try.prog 3 ⟨Go.TypeDesc.int Go.IntKind.i64, 1, (Go.Value.int Go.IntKind.i64 0), 8⟩ := ⟨Try.underlying3, Try.t3, Try.type3, rfl, rfl, rfl⟩
instance ty4 : TyC Try.prog 4 ⟨Go.TypeDesc.bool, 1, (Go.Value.bool false), 1⟩ := ⟨Try.underlying4, Try.t4, Try.type4, rfl, rfl, rfl⟩
instance ty5 : TyC Try.prog 5 ⟨Go.TypeDesc.int Go.IntKind.u8, 1, (Go.Value.int Go.IntKind.u8 0), 1⟩ := ⟨Try.underlying5, Try.t5, Try.type5, rfl, rfl, rfl⟩
instance ty9 : TyC Try.prog 9 ⟨Go.TypeDesc.string, 1, (Go.Value.string { data := #[] }), 16⟩ := ⟨Try.underlying9, Try.t9, Try.type9, rfl, rfl, rfl⟩
instance ty22 : TyC Try.prog 22 ⟨Go.TypeDesc.slice 25, 1, (Go.Value.slice none 0 0), 24⟩ := ⟨Try.underlying22, Try.t22, Try.type22, rfl, rfl, rfl⟩
instance ty25 : TyC Try.prog 25 ⟨Try.t24.desc, 2, (Go.Value.agg #[Go.Value.int Go.IntKind.i64 0, Go.Value.int Go.IntKind.i64 0]), 16⟩ := ⟨Try.underlying25, Try.t25, Try.type25, rfl, rfl, rfl⟩
instance fi25_0 : FieldC Try.prog 25 0 0 := ⟨_, _, _, Try.underlying25, rfl, rfl, Try.type3, by decide⟩
instance fi25_1 : FieldC Try.prog 25 1 1 := ⟨_, _, _, Try.underlying25, rfl, rfl, Try.type3, by decide⟩
instance ty26 : TyC Try.prog 26 ⟨Go.TypeDesc.int Go.IntKind.i64, 1, (Go.Value.int Go.IntKind.i64 0), 8⟩ := ⟨Try.underlying26, Try.t26, Try.type26, rfl, rfl, rfl⟩
instance ty27 : TyC Try.prog 27 ⟨Go.TypeDesc.tuple #[25, 26], 1, (Go.Value.tuple #[Go.Value.agg #[Go.Value.int Go.IntKind.i64 0, Go.Value.int Go.IntKind.i64 0], Go.Value.int Go.IntKind.i64 0]), 0⟩ := ⟨Try.underlying27, Try.t27, Try.type27, rfl, rfl, rfl⟩
instance ty31 : TyC Try.prog 31 ⟨Go.TypeDesc.slice 3, 1, (Go.Value.slice none 0 0), 24⟩ := ⟨Try.underlying31, Try.t31, Try.type31, rfl, rfl, rfl⟩
instance ty34 : TyC Try.prog 34 ⟨Go.TypeDesc.tuple #[3, 26], 1, (Go.Value.tuple #[Go.Value.int Go.IntKind.i64 0, Go.Value.int Go.IntKind.i64 0]), 0⟩ := ⟨Try.underlying34, Try.t34, Try.type34, rfl, rfl, rfl⟩
instance ty47 : TyC Try.prog 47 ⟨Go.TypeDesc.slice 50, 1, (Go.Value.slice none 0 0), 24⟩ := ⟨Try.underlying47, Try.t47, Try.type47, rfl, rfl, rfl⟩
instance ty50 : TyC Try.prog 50 ⟨Try.t49.desc, 2, (Go.Value.agg #[Go.Value.int Go.IntKind.i64 0, Go.Value.int Go.IntKind.i64 0]), 16⟩ := ⟨Try.underlying50, Try.t50, Try.type50, rfl, rfl, rfl⟩
instance fi50_0 : FieldC Try.prog 50 0 0 := ⟨_, _, _, Try.underlying50, rfl, rfl, Try.type25, by decide⟩
instance ty54 : TyC Try.prog 54 ⟨Go.TypeDesc.tuple #[3, 3], 1, (Go.Value.tuple #[Go.Value.int Go.IntKind.i64 0, Go.Value.int Go.IntKind.i64 0]), 0⟩ := ⟨Try.underlying54, Try.t54, Try.type54, rfl, rfl, rfl⟩
instance ty60 : TyC Try.prog 60 ⟨Go.TypeDesc.int Go.IntKind.i16, 1, (Go.Value.int Go.IntKind.i16 0), 2⟩ := ⟨Try.underlying60, Try.t60, Try.type60, rfl, rfl, rfl⟩
instance ty62 : TyC Try.prog 62 ⟨Go.TypeDesc.slice 69, 1, (Go.Value.slice none 0 0), 24⟩ := ⟨Try.underlying62, Try.t62, Try.type62, rfl, rfl, rfl⟩
instance ty67 : TyC Try.prog 67 ⟨Go.TypeDesc.slice 9, 1, (Go.Value.slice none 0 0), 24⟩ := ⟨Try.underlying67, Try.t67, Try.type67, rfl, rfl, rfl⟩
instance ty69 : TyC Try.prog 69 ⟨Try.t68.desc, 2, (Go.Value.agg #[Go.Value.string { data := #[] }, Go.Value.slice none 0 0]), 40⟩ := ⟨Try.underlying69, Try.t69, Try.type69, rfl, rfl, rfl⟩
instance fi69_0 : FieldC Try.prog 69 0 0 := ⟨_, _, _, Try.underlying69, rfl, rfl, Try.type9, by decide⟩
instance fi69_1 : FieldC Try.prog 69 1 1 := ⟨_, _, _, Try.underlying69, rfl, rfl, Try.type67, by decide⟩
instance ty70 : TyC Try.prog 70 ⟨Go.TypeDesc.tuple #[69, 4], 1, (Go.Value.tuple #[Go.Value.agg #[Go.Value.string { data := #[] }, Go.Value.slice none 0 0], Go.Value.bool false]), 0⟩ := ⟨Try.underlying70, Try.t70, Try.type70, rfl, rfl, rfl⟩
instance sl22 : SlC Try.prog 22 25 ⟨Try.t24.desc, 2, (Go.Value.agg #[Go.Value.int Go.IntKind.i64 0, Go.Value.int Go.IntKind.i64 0]), 16⟩ := ⟨⟨_, ty22, rfl⟩, ty25⟩
instance sl31 : SlC Try.prog 31 3 ⟨Go.TypeDesc.int Go.IntKind.i64, 1, (Go.Value.int Go.IntKind.i64 0), 8⟩ := ⟨⟨_, ty31, rfl⟩, ty3⟩
instance sl47 : SlC Try.prog 47 50 ⟨Try.t49.desc, 2, (Go.Value.agg #[Go.Value.int Go.IntKind.i64 0, Go.Value.int Go.IntKind.i64 0]), 16⟩ := ⟨⟨_, ty47, rfl⟩, ty50⟩
instance sl62 : SlC Try.prog 62 69 ⟨Try.t68.desc, 2, (Go.Value.agg #[Go.Value.string { data := #[] }, Go.Value.slice none 0 0]), 40⟩ := ⟨⟨_, ty62, rfl⟩, ty69⟩
instance sl67 : SlC Try.prog 67 9 ⟨Go.TypeDesc.string, 1, (Go.Value.string { data := #[] }), 16⟩ := ⟨⟨_, ty67, rfl⟩, ty9⟩
instance bu25 : BuildC Try.prog 25 [(0, 1), (1, 1)] := BuildC.mk' Try.underlying25 (by kernel_rfl)
instance bu50 : BuildC Try.prog 50 [(0, 2)] := BuildC.mk' Try.underlying50 (by kernel_rfl)
instance bu69 : BuildC Try.prog 69 [(0, 1), (1, 1)] := BuildC.mk' Try.underlying69 (by kernel_rfl)
end Go.Proofs.Ytlcipnligbjclaa
