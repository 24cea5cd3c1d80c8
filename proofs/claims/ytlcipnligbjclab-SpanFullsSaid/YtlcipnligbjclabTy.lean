/- Printed by an own tool: the types of this translation, as instances. Conditions: none. -/
import Derived.Test.YtlcipnligbjclabZf
import Derived.Test.YtlcipnligbjclabProg
namespace Go.Proofs.Ytlcipnligbjclab
set_option linter.unusedVariables false
set_option linter.unusedSimpArgs false
set_option linter.unusedSectionVars false
open Go Go.Z

instance ty0 : TyC Try.prog 0 ⟨Go.TypeDesc.tuple #[], 1, (Go.Value.tuple #[]), 0⟩ := ⟨Try.underlying0, Try.t0, Try.type0, rfl, rfl, rfl⟩
instance ty3 : TyC Try.prog 3 ⟨Go.TypeDesc.int Go.IntKind.i64, 1, (Go.Value.int Go.IntKind.i64 0), 8⟩ := ⟨Try.underlying3, Try.t3, Try.type3, rfl, rfl, rfl⟩
instance ty4 : TyC Try.prog 4 ⟨Go.TypeDesc.bool, 1, (Go.Value.bool false), 1⟩ := ⟨Try.underlying4, Try.t4, Try.type4, rfl, rfl, rfl⟩
instance ty9 : TyC Try.prog 9 ⟨Go.TypeDesc.string, 1, (Go.Value.string { data := #[] }), 16⟩ := ⟨Try.underlying9, Try.t9, Try.type9, rfl, rfl, rfl⟩
instance ty22 : TyC Try.prog 22 ⟨Go.TypeDesc.slice 32, 1, (Go.Value.slice none 0 0), 24⟩ := ⟨Try.underlying22, Try.t22, Try.type22, rfl, rfl, rfl⟩
instance ty26 : TyC Try.prog 26 ⟨Try.t25.desc, 2, (Go.Value.agg #[Go.Value.int Go.IntKind.i64 0, Go.Value.int Go.IntKind.i64 0]), 16⟩ := ⟨Try.underlying26, Try.t26, Try.type26, rfl, rfl, rfl⟩
instance fi26_0 : FieldC Try.prog 26 0 0 := ⟨_, _, _, Try.underlying26, rfl, rfl, Try.type3, by decide⟩
instance fi26_1 : FieldC Try.prog 26 1 1 := ⟨_, _, _, Try.underlying26, rfl, rfl, Try.type3, by decide⟩
instance ty30 : TyC Try.prog 30 ⟨Go.TypeDesc.slice 9, 1, (Go.Value.slice none 0 0), 24⟩ := ⟨Try.underlying30, Try.t30, Try.type30, rfl, rfl, rfl⟩
instance ty32 : TyC Try.prog 32 ⟨Try.t31.desc, 2, (Go.Value.agg #[Go.Value.string { data := #[] }, Go.Value.slice none 0 0]), 40⟩ := ⟨Try.underlying32, Try.t32, Try.type32, rfl, rfl, rfl⟩
instance fi32_0 : FieldC Try.prog 32 0 0 := ⟨_, _, _, Try.underlying32, rfl, rfl, Try.type9, by decide⟩
instance fi32_1 : FieldC Try.prog 32 1 1 := ⟨_, _, _, Try.underlying32, rfl, rfl, Try.type30, by decide⟩
instance ty33 : TyC Try.prog 33 ⟨Go.TypeDesc.int Go.IntKind.i64, 1, (Go.Value.int Go.IntKind.i64 0), 8⟩ := ⟨Try.underlying33, Try.t33, Try.type33, rfl, rfl, rfl⟩
instance ty34 : TyC Try.prog 34 ⟨Go.TypeDesc.tuple #[26, 33], 1, (Go.Value.tuple #[Go.Value.agg #[Go.Value.int Go.IntKind.i64 0, Go.Value.int Go.IntKind.i64 0], Go.Value.int Go.IntKind.i64 0]), 0⟩ := ⟨Try.underlying34, Try.t34, Try.type34, rfl, rfl, rfl⟩
instance ty41 : TyC Try.prog 41 ⟨Go.TypeDesc.slice 26, 1, (Go.Value.slice none 0 0), 24⟩ := ⟨Try.underlying41, Try.t41, Try.type41, rfl, rfl, rfl⟩
instance ty42 : TyC Try.prog 42 ⟨Go.TypeDesc.slice 3, 1, (Go.Value.slice none 0 0), 24⟩ := ⟨Try.underlying42, Try.t42, Try.type42, rfl, rfl, rfl⟩
instance ty43 : TyC Try.prog 43 ⟨Go.TypeDesc.tuple #[3, 33], 1, (Go.Value.tuple #[Go.Value.int Go.IntKind.i64 0, Go.Value.int Go.IntKind.i64 0]), 0⟩ := ⟨Try.underlying43, Try.t43, Try.type43, rfl, rfl, rfl⟩
instance ty45 : TyC Try.prog 45 ⟨Go.TypeDesc.slice 48, 1, (Go.Value.slice none 0 0), 24⟩ := ⟨Try.underlying45, Try.t45, Try.type45, rfl, rfl, rfl⟩
instance ty48 : TyC Try.prog 48 ⟨Try.t47.desc, 2, (Go.Value.agg #[Go.Value.int Go.IntKind.i64 0, Go.Value.int Go.IntKind.i64 0]), 16⟩ := ⟨Try.underlying48, Try.t48, Try.type48, rfl, rfl, rfl⟩
instance fi48_0 : FieldC Try.prog 48 0 0 := ⟨_, _, _, Try.underlying48, rfl, rfl, Try.type26, by decide⟩
instance ty52 : TyC Try.prog 52 ⟨Go.TypeDesc.tuple #[32, 4], 1, (Go.Value.tuple #[Go.Value.agg #[Go.Value.string { data := #[] }, Go.Value.slice none 0 0], Go.Value.bool false]), 0⟩ := ⟨Try.underlying52, Try.t52, Try.type52, rfl, rfl, rfl⟩
instance ty54 : TyC Try.prog 54 ⟨Go.TypeDesc.tuple #[3, 3], 1, (Go.Value.tuple #[Go.Value.int Go.IntKind.i64 0, Go.Value.int Go.IntKind.i64 0]), 0⟩ := ⟨Try.underlying54, Try.t54, Try.type54, rfl, rfl, rfl⟩
instance ty63 : TyC Try.prog 63 ⟨Go.TypeDesc.int Go.IntKind.i16, 1, (Go.Value.int Go.IntKind.i16 0), 2⟩ := ⟨Try.underlying63, Try.t63, Try.type63, rfl, rfl, rfl⟩
instance sl22 : SlC Try.prog 22 32 ⟨Try.t31.desc, 2, (Go.Value.agg #[Go.Value.string { data := #[] }, Go.Value.slice none 0 0]), 40⟩ := ⟨⟨_, ty22, rfl⟩, ty32⟩
instance sl30 : SlC Try.prog 30 9 ⟨Go.TypeDesc.string, 1, (Go.Value.string { data := #[] }), 16⟩ := ⟨⟨_, ty30, rfl⟩, ty9⟩
instance sl41 : SlC Try.prog 41 26 ⟨Try.t25.desc, 2, (Go.Value.agg #[Go.Value.int Go.IntKind.i64 0, Go.Value.int Go.IntKind.i64 0]), 16⟩ := ⟨⟨_, ty41, rfl⟩, ty26⟩
instance sl42 : SlC Try.prog 42 3 ⟨Go.TypeDesc.int Go.IntKind.i64, 1, (Go.Value.int Go.IntKind.i64 0), 8⟩ := ⟨⟨_, ty42, rfl⟩, ty3⟩
instance sl45 : SlC Try.prog 45 48 ⟨Try.t47.desc, 2, (Go.Value.agg #[Go.Value.int Go.IntKind.i64 0, Go.Value.int Go.IntKind.i64 0]), 16⟩ := ⟨⟨_, ty45, rfl⟩, ty48⟩
instance bu26 : BuildC Try.prog 26 [(0, 1), (1, 1)] := BuildC.mk' Try.underlying26 (by kernel_rfl)
instance bu32 : BuildC Try.prog 32 [(0, 1), (1, 1)] := BuildC.mk' Try.underlying32 (by kernel_rfl)
instance bu48 : BuildC Try.prog 48 [(0, 2)] := BuildC.mk' Try.underlying48 (by kernel_rfl)
end Go.Proofs.Ytlcipnligbjclab
