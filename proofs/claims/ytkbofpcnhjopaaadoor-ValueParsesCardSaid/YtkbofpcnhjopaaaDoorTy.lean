/- Printed by an own tool: the types of this translation, as instances. Conditions: none. -/
import Derived.Test.YtkbofpcnhjopaaaDoorZf
import Derived.Test.YtkbofpcnhjopaaaDoorProg
namespace Go.Proofs.YtkbofpcnhjopaaaDoor
set_option linter.unusedVariables false
set_option linter.unusedSimpArgs false
set_option linter.unusedSectionVars false
set_option maxRecDepth 100000
open Go Go.Z

instance ty0 : TyC Tryd.prog 0 ⟨Go.TypeDesc.tuple #[], 1, (Go.Value.tuple #[]), 0⟩ := ⟨Tryd.underlying0, Tryd.t0, Tryd.type0, rfl, rfl, rfl⟩
instance ty3 : TyC Tryd.prog 3 ⟨Go.TypeDesc.int Go.IntKind.i64, 1, (Go.Value.int Go.IntKind.i64 0), 8⟩ := ⟨Tryd.underlying3, Tryd.t3, Tryd.type3, rfl, rfl, rfl⟩
instance ty4 : TyC Tryd.prog 4 ⟨Go.TypeDesc.bool, 1, (Go.Value.bool false), 1⟩ := ⟨Tryd.underlying4, Tryd.t4, Tryd.type4, rfl, rfl, rfl⟩
instance ty5 : TyC Tryd.prog 5 ⟨Go.TypeDesc.int Go.IntKind.u8, 1, (Go.Value.int Go.IntKind.u8 0), 1⟩ := ⟨Tryd.underlying5, Tryd.t5, Tryd.type5, rfl, rfl, rfl⟩
instance ty9 : TyC Tryd.prog 9 ⟨Go.TypeDesc.string, 1, (Go.Value.string { data := #[] }), 16⟩ := ⟨Tryd.underlying9, Tryd.t9, Tryd.type9, rfl, rfl, rfl⟩
instance ty22 : TyC Tryd.prog 22 ⟨Go.TypeDesc.slice 54, 1, (Go.Value.slice none 0 0), 24⟩ := ⟨Tryd.underlying22, Tryd.t22, Tryd.type22, rfl, rfl, rfl⟩
instance ty25 : TyC Tryd.prog 25 ⟨Go.TypeDesc.int Go.IntKind.i64, 1, (Go.Value.int Go.IntKind.i64 0), 8⟩ := ⟨Tryd.underlying25, Tryd.t25, Tryd.type25, rfl, rfl, rfl⟩
instance ty26 : TyC Tryd.prog 26 ⟨Go.TypeDesc.tuple #[9, 25], 1, (Go.Value.tuple #[Go.Value.string { data := #[] }, Go.Value.int Go.IntKind.i64 0]), 0⟩ := ⟨Tryd.underlying26, Tryd.t26, Tryd.type26, rfl, rfl, rfl⟩
instance ty28 : TyC Tryd.prog 28 ⟨Go.TypeDesc.tuple #[3, 25], 1, (Go.Value.tuple #[Go.Value.int Go.IntKind.i64 0, Go.Value.int Go.IntKind.i64 0]), 0⟩ := ⟨Tryd.underlying28, Tryd.t28, Tryd.type28, rfl, rfl, rfl⟩
instance ty32 : TyC Tryd.prog 32 ⟨Go.TypeDesc.slice 3, 1, (Go.Value.slice none 0 0), 24⟩ := ⟨Tryd.underlying32, Tryd.t32, Tryd.type32, rfl, rfl, rfl⟩
instance ty37 : TyC Tryd.prog 37 ⟨Go.TypeDesc.slice 39, 1, (Go.Value.slice none 0 0), 24⟩ := ⟨Tryd.underlying37, Tryd.t37, Tryd.type37, rfl, rfl, rfl⟩
instance ty39 : TyC Tryd.prog 39 ⟨Tryd.t38.desc, 2, (Go.Value.agg #[Go.Value.int Go.IntKind.i64 0, Go.Value.int Go.IntKind.i64 0]), 16⟩ := ⟨Tryd.underlying39, Tryd.t39, Tryd.type39, rfl, rfl, rfl⟩
instance fi39_0 : FieldC Tryd.prog 39 0 0 := ⟨_, _, _, Tryd.underlying39, rfl, rfl, Tryd.type3, by decide⟩
instance fi39_1 : FieldC Tryd.prog 39 1 1 := ⟨_, _, _, Tryd.underlying39, rfl, rfl, Tryd.type3, by decide⟩
instance ty47 : TyC Tryd.prog 47 ⟨Go.TypeDesc.tuple #[9, 4], 1, (Go.Value.tuple #[Go.Value.string { data := #[] }, Go.Value.bool false]), 0⟩ := ⟨Tryd.underlying47, Tryd.t47, Tryd.type47, rfl, rfl, rfl⟩
instance ty49 : TyC Tryd.prog 49 ⟨Go.TypeDesc.tuple #[3, 4], 1, (Go.Value.tuple #[Go.Value.int Go.IntKind.i64 0, Go.Value.bool false]), 0⟩ := ⟨Tryd.underlying49, Tryd.t49, Tryd.type49, rfl, rfl, rfl⟩
instance ty52 : TyC Tryd.prog 52 ⟨Go.TypeDesc.slice 9, 1, (Go.Value.slice none 0 0), 24⟩ := ⟨Tryd.underlying52, Tryd.t52, Tryd.type52, rfl, rfl, rfl⟩
instance ty54 : TyC Tryd.prog 54 ⟨Tryd.t53.desc, 2, (Go.Value.agg #[Go.Value.string { data := #[] }, Go.Value.slice none 0 0]), 40⟩ := ⟨Tryd.underlying54, Tryd.t54, Tryd.type54, rfl, rfl, rfl⟩
instance fi54_0 : FieldC Tryd.prog 54 0 0 := ⟨_, _, _, Tryd.underlying54, rfl, rfl, Tryd.type9, by decide⟩
instance fi54_1 : FieldC Tryd.prog 54 1 1 := ⟨_, _, _, Tryd.underlying54, rfl, rfl, Tryd.type52, by decide⟩
instance ty59 : TyC Tryd.prog 59 ⟨Tryd.t58.desc, 1, (Go.Value.nilIface), 16⟩ := ⟨Tryd.underlying59, Tryd.t59, Tryd.type59, rfl, rfl, rfl⟩
instance ty60 : TyC Tryd.prog 60 ⟨Go.TypeDesc.tuple #[3, 59], 1, (Go.Value.tuple #[Go.Value.int Go.IntKind.i64 0, Go.Value.nilIface]), 0⟩ := ⟨Tryd.underlying60, Tryd.t60, Tryd.type60, rfl, rfl, rfl⟩
instance ty64 : TyC Tryd.prog 64 ⟨Go.TypeDesc.tuple #[3, 3], 1, (Go.Value.tuple #[Go.Value.int Go.IntKind.i64 0, Go.Value.int Go.IntKind.i64 0]), 0⟩ := ⟨Tryd.underlying64, Tryd.t64, Tryd.type64, rfl, rfl, rfl⟩
instance ty68 : TyC Tryd.prog 68 ⟨Go.TypeDesc.int Go.IntKind.i16, 1, (Go.Value.int Go.IntKind.i16 0), 2⟩ := ⟨Tryd.underlying68, Tryd.t68, Tryd.type68, rfl, rfl, rfl⟩
instance ty69 : TyC Tryd.prog 69 ⟨Go.TypeDesc.tuple #[54, 4], 1, (Go.Value.tuple #[Go.Value.agg #[Go.Value.string { data := #[] }, Go.Value.slice none 0 0], Go.Value.bool false]), 0⟩ := ⟨Tryd.underlying69, Tryd.t69, Tryd.type69, rfl, rfl, rfl⟩
instance ty71 : TyC Tryd.prog 71 ⟨Go.TypeDesc.slice 5, 1, (Go.Value.slice none 0 0), 24⟩ := ⟨Tryd.underlying71, Tryd.t71, Tryd.type71, rfl, rfl, rfl⟩
instance sl22 : SlC Tryd.prog 22 54 ⟨Tryd.t53.desc, 2, (Go.Value.agg #[Go.Value.string { data := #[] }, Go.Value.slice none 0 0]), 40⟩ := ⟨⟨_, ty22, rfl⟩, ty54⟩
instance sl32 : SlC Tryd.prog 32 3 ⟨Go.TypeDesc.int Go.IntKind.i64, 1, (Go.Value.int Go.IntKind.i64 0), 8⟩ := ⟨⟨_, ty32, rfl⟩, ty3⟩
instance sl37 : SlC Tryd.prog 37 39 ⟨Tryd.t38.desc, 2, (Go.Value.agg #[Go.Value.int Go.IntKind.i64 0, Go.Value.int Go.IntKind.i64 0]), 16⟩ := ⟨⟨_, ty37, rfl⟩, ty39⟩
instance sl52 : SlC Tryd.prog 52 9 ⟨Go.TypeDesc.string, 1, (Go.Value.string { data := #[] }), 16⟩ := ⟨⟨_, ty52, rfl⟩, ty9⟩
instance sl71 : SlC Tryd.prog 71 5 ⟨Go.TypeDesc.int Go.IntKind.u8, 1, (Go.Value.int Go.IntKind.u8 0), 1⟩ := ⟨⟨_, ty71, rfl⟩, ty5⟩
instance bu39 : BuildC Tryd.prog 39 [(0, 1), (1, 1)] := BuildC.mk' Tryd.underlying39 (by kernel_rfl)
instance bu54 : BuildC Tryd.prog 54 [(0, 1), (1, 1)] := BuildC.mk' Tryd.underlying54 (by kernel_rfl)
end Go.Proofs.YtkbofpcnhjopaaaDoor
