/- Printed by an own tool: the types of this translation, as instances. Conditions: none. -/
import Derived.Test.YtbpgblbhikeglaaZf
import Derived.Test.YtbpgblbhikeglaaProg
namespace Go.Proofs.Ytbpgblbhikeglaa
set_option linter.unusedVariables false
set_option linter.unusedSimpArgs false
set_option linter.unusedSectionVars false
open Go Go.Z

instance ty0 : TyC Try.prog 0 ⟨Go.TypeDesc.tuple #[], 1, (Go.Value.tuple #[]), 0⟩ := ⟨Try.underlying0, Try.t0, Try.type0, rfl, rfl, rfl⟩
instance ty3 : TyC Try.prog 3 ⟨Go.TypeDesc.int Go.IntKind.i64, 1, (Go.Value.int Go.IntKind.i64 0), 8⟩ := ⟨Try.underlying3, Try.t3, Try.type3, rfl, rfl, rfl⟩
instance ty4 : TyC Try.prog 4 ⟨Go.TypeDesc.bool, 1, (Go.Value.bool false), 1⟩ := ⟨Try.underlying4, Try.t4, Try.type4, rfl, rfl, rfl⟩
instance ty5 : TyC Try.prog 5 ⟨Go.TypeDesc.int Go.IntKind.u8, 1, (Go.Value.int Go.IntKind.u8 0), 1⟩ := ⟨Try.underlying5, Try.t5, Try.type5, rfl, rfl, rfl⟩
instance ty22 : TyC Try.prog 22 ⟨Go.TypeDesc.slice 43, 1, (Go.Value.slice none 0 0), 24⟩ := ⟨Try.underlying22, Try.t22, Try.type22, rfl, rfl, rfl⟩
instance ty24 : TyC Try.prog 24 ⟨Try.t23.desc, 2, (Go.Value.agg #[Go.Value.int Go.IntKind.i64 0, Go.Value.slice none 0 0]), 32⟩ := ⟨Try.underlying24, Try.t24, Try.type24, rfl, rfl, rfl⟩
instance fi24_0 : FieldC Try.prog 24 0 0 := ⟨_, _, _, Try.underlying24, rfl, rfl, Try.type3, by decide⟩
instance fi24_1 : FieldC Try.prog 24 1 1 := ⟨_, _, _, Try.underlying24, rfl, rfl, Try.type22, by decide⟩
instance ty27 : TyC Try.prog 27 ⟨Go.TypeDesc.slice 4, 1, (Go.Value.slice none 0 0), 24⟩ := ⟨Try.underlying27, Try.t27, Try.type27, rfl, rfl, rfl⟩
instance ty28 : TyC Try.prog 28 ⟨Go.TypeDesc.int Go.IntKind.i64, 1, (Go.Value.int Go.IntKind.i64 0), 8⟩ := ⟨Try.underlying28, Try.t28, Try.type28, rfl, rfl, rfl⟩
instance ty29 : TyC Try.prog 29 ⟨Go.TypeDesc.tuple #[3, 27, 28], 1, (Go.Value.tuple #[Go.Value.int Go.IntKind.i64 0, Go.Value.slice none 0 0, Go.Value.int Go.IntKind.i64 0]), 0⟩ := ⟨Try.underlying29, Try.t29, Try.type29, rfl, rfl, rfl⟩
instance ty32 : TyC Try.prog 32 ⟨Go.TypeDesc.slice 3, 1, (Go.Value.slice none 0 0), 24⟩ := ⟨Try.underlying32, Try.t32, Try.type32, rfl, rfl, rfl⟩
instance ty33 : TyC Try.prog 33 ⟨Go.TypeDesc.tuple #[32, 4, 28], 1, (Go.Value.tuple #[Go.Value.slice none 0 0, Go.Value.bool false, Go.Value.int Go.IntKind.i64 0]), 0⟩ := ⟨Try.underlying33, Try.t33, Try.type33, rfl, rfl, rfl⟩
instance ty43 : TyC Try.prog 43 ⟨Go.TypeDesc.slice 3, 1, (Go.Value.slice none 0 0), 24⟩ := ⟨Try.underlying43, Try.t43, Try.type43, rfl, rfl, rfl⟩
instance ty45 : TyC Try.prog 45 ⟨Go.TypeDesc.tuple #[3, 27], 1, (Go.Value.tuple #[Go.Value.int Go.IntKind.i64 0, Go.Value.slice none 0 0]), 0⟩ := ⟨Try.underlying45, Try.t45, Try.type45, rfl, rfl, rfl⟩
instance ty46 : TyC Try.prog 46 ⟨Go.TypeDesc.pointer 57, 1, (Go.Value.pointer none), 8⟩ := ⟨Try.underlying46, Try.t46, Try.type46, rfl, rfl, rfl⟩
instance ty49 : TyC Try.prog 49 ⟨Go.TypeDesc.slice 51, 1, (Go.Value.slice none 0 0), 24⟩ := ⟨Try.underlying49, Try.t49, Try.type49, rfl, rfl, rfl⟩
instance ty51 : TyC Try.prog 51 ⟨Try.t50.desc, 2, (Go.Value.agg #[Go.Value.int Go.IntKind.i64 0, Go.Value.slice none 0 0]), 32⟩ := ⟨Try.underlying51, Try.t51, Try.type51, rfl, rfl, rfl⟩
instance fi51_0 : FieldC Try.prog 51 0 0 := ⟨_, _, _, Try.underlying51, rfl, rfl, Try.type3, by decide⟩
instance fi51_1 : FieldC Try.prog 51 1 1 := ⟨_, _, _, Try.underlying51, rfl, rfl, Try.type32, by decide⟩
instance ty55 : TyC Try.prog 55 ⟨Go.TypeDesc.slice 32, 1, (Go.Value.slice none 0 0), 24⟩ := ⟨Try.underlying55, Try.t55, Try.type55, rfl, rfl, rfl⟩
instance ty57 : TyC Try.prog 57 ⟨Try.t56.desc, 8, (Go.Value.agg #[Go.Value.int Go.IntKind.i64 0, Go.Value.slice none 0 0, Go.Value.slice none 0 0, Go.Value.slice none 0 0, Go.Value.slice none 0 0, Go.Value.slice none 0 0, Go.Value.int Go.IntKind.i64 0, Go.Value.int Go.IntKind.i64 0]), 144⟩ := ⟨Try.underlying57, Try.t57, Try.type57, rfl, rfl, rfl⟩
instance fi57_0 : FieldC Try.prog 57 0 0 := ⟨_, _, _, Try.underlying57, rfl, rfl, Try.type24, by decide⟩
instance fi57_1 : FieldC Try.prog 57 1 2 := ⟨_, _, _, Try.underlying57, rfl, rfl, Try.type32, by decide⟩
instance fi57_2 : FieldC Try.prog 57 2 3 := ⟨_, _, _, Try.underlying57, rfl, rfl, Try.type32, by decide⟩
instance fi57_3 : FieldC Try.prog 57 3 4 := ⟨_, _, _, Try.underlying57, rfl, rfl, Try.type55, by decide⟩
instance fi57_4 : FieldC Try.prog 57 4 5 := ⟨_, _, _, Try.underlying57, rfl, rfl, Try.type32, by decide⟩
instance fi57_5 : FieldC Try.prog 57 5 6 := ⟨_, _, _, Try.underlying57, rfl, rfl, Try.type3, by decide⟩
instance fi57_6 : FieldC Try.prog 57 6 7 := ⟨_, _, _, Try.underlying57, rfl, rfl, Try.type3, by decide⟩
instance ty59 : TyC Try.prog 59 ⟨Go.TypeDesc.func #[3] #[4] false, 1, (Go.Value.nilFunc), 8⟩ := ⟨Try.underlying59, Try.t59, Try.type59, rfl, rfl, rfl⟩
instance ty62 : TyC Try.prog 62 ⟨Go.TypeDesc.func #[43] #[4] false, 1, (Go.Value.nilFunc), 8⟩ := ⟨Try.underlying62, Try.t62, Try.type62, rfl, rfl, rfl⟩
instance ty64 : TyC Try.prog 64 ⟨Go.TypeDesc.slice 66, 1, (Go.Value.slice none 0 0), 24⟩ := ⟨Try.underlying64, Try.t64, Try.type64, rfl, rfl, rfl⟩
instance ty66 : TyC Try.prog 66 ⟨Try.t65.desc, 3, (Go.Value.agg #[Go.Value.int Go.IntKind.i64 0, Go.Value.int Go.IntKind.i64 0, Go.Value.bool false]), 24⟩ := ⟨Try.underlying66, Try.t66, Try.type66, rfl, rfl, rfl⟩
instance fi66_0 : FieldC Try.prog 66 0 0 := ⟨_, _, _, Try.underlying66, rfl, rfl, Try.type3, by decide⟩
instance fi66_1 : FieldC Try.prog 66 1 1 := ⟨_, _, _, Try.underlying66, rfl, rfl, Try.type3, by decide⟩
instance fi66_2 : FieldC Try.prog 66 2 2 := ⟨_, _, _, Try.underlying66, rfl, rfl, Try.type4, by decide⟩
instance ty69 : TyC Try.prog 69 ⟨Go.TypeDesc.tuple #[4, 3, 3], 1, (Go.Value.tuple #[Go.Value.bool false, Go.Value.int Go.IntKind.i64 0, Go.Value.int Go.IntKind.i64 0]), 0⟩ := ⟨Try.underlying69, Try.t69, Try.type69, rfl, rfl, rfl⟩
instance ty74 : TyC Try.prog 74 ⟨Go.TypeDesc.tuple #[3, 4], 1, (Go.Value.tuple #[Go.Value.int Go.IntKind.i64 0, Go.Value.bool false]), 0⟩ := ⟨Try.underlying74, Try.t74, Try.type74, rfl, rfl, rfl⟩
instance sl22 : SlC Try.prog 22 43 ⟨Go.TypeDesc.slice 3, 1, (Go.Value.slice none 0 0), 24⟩ := ⟨⟨_, ty22, rfl⟩, ty43⟩
instance sl27 : SlC Try.prog 27 4 ⟨Go.TypeDesc.bool, 1, (Go.Value.bool false), 1⟩ := ⟨⟨_, ty27, rfl⟩, ty4⟩
instance sl32 : SlC Try.prog 32 3 ⟨Go.TypeDesc.int Go.IntKind.i64, 1, (Go.Value.int Go.IntKind.i64 0), 8⟩ := ⟨⟨_, ty32, rfl⟩, ty3⟩
instance sl43 : SlC Try.prog 43 3 ⟨Go.TypeDesc.int Go.IntKind.i64, 1, (Go.Value.int Go.IntKind.i64 0), 8⟩ := ⟨⟨_, ty43, rfl⟩, ty3⟩
instance sl49 : SlC Try.prog 49 51 ⟨Try.t50.desc, 2, (Go.Value.agg #[Go.Value.int Go.IntKind.i64 0, Go.Value.slice none 0 0]), 32⟩ := ⟨⟨_, ty49, rfl⟩, ty51⟩
instance sl55 : SlC Try.prog 55 32 ⟨Go.TypeDesc.slice 3, 1, (Go.Value.slice none 0 0), 24⟩ := ⟨⟨_, ty55, rfl⟩, ty32⟩
instance sl64 : SlC Try.prog 64 66 ⟨Try.t65.desc, 3, (Go.Value.agg #[Go.Value.int Go.IntKind.i64 0, Go.Value.int Go.IntKind.i64 0, Go.Value.bool false]), 24⟩ := ⟨⟨_, ty64, rfl⟩, ty66⟩
instance bu24 : BuildC Try.prog 24 [(0, 1), (1, 1)] := BuildC.mk' Try.underlying24 (by kernel_rfl)
instance bu51 : BuildC Try.prog 51 [(0, 1), (1, 1)] := BuildC.mk' Try.underlying51 (by kernel_rfl)
instance bu57 : BuildC Try.prog 57 [(0, 2), (2, 1), (3, 1), (4, 1), (5, 1), (6, 1), (7, 1)] := BuildC.mk' Try.underlying57 (by kernel_rfl)
instance bu66 : BuildC Try.prog 66 [(0, 1), (1, 1), (2, 1)] := BuildC.mk' Try.underlying66 (by kernel_rfl)
end Go.Proofs.Ytbpgblbhikeglaa
