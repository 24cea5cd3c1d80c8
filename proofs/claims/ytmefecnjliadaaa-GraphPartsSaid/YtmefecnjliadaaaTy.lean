/- Printed by an own tool: the types of this translation, as instances. Conditions: none. -/
import Derived.Test.YtmefecnjliadaaaZf
import Derived.Test.YtmefecnjliadaaaProg
namespace Go.Proofs.Ytmefecnjliadaaa
set_option linter.unusedVariables false
set_option linter.unusedSimpArgs false
set_option linter.unusedSectionVars false
set_option maxRecDepth 100000
open Go Go.Z

instance ty0 : TyC Try.prog 0 ⟨Go.TypeDesc.tuple #[], 1, (Go.Value.tuple #[]), 0⟩ := ⟨Try.underlying0, Try.t0, Try.type0, rfl, rfl, rfl⟩
instance ty3 : TyC Try.prog 3 ⟨Go.TypeDesc.int Go.IntKind.i64, 1, (Go.Value.int Go.IntKind.i64 0), 8⟩ := ⟨Try.underlying3, Try.t3, Try.type3, rfl, rfl, rfl⟩
instance ty4 : TyC Try.prog 4 ⟨Go.TypeDesc.bool, 1, (Go.Value.bool false), 1⟩ := ⟨Try.underlying4, Try.t4, Try.type4, rfl, rfl, rfl⟩
instance ty20 : TyC Try.prog 20 ⟨Go.TypeDesc.interface #[], 1, (Go.Value.nilIface), 16⟩ := ⟨Try.underlying20, Try.t20, Try.type20, rfl, rfl, rfl⟩
instance ty22 : TyC Try.prog 22 ⟨Go.TypeDesc.slice 40, 1, (Go.Value.slice none 0 0), 24⟩ := ⟨Try.underlying22, Try.t22, Try.type22, rfl, rfl, rfl⟩
instance ty24 : TyC Try.prog 24 ⟨Go.TypeDesc.slice 3, 1, (Go.Value.slice none 0 0), 24⟩ := ⟨Try.underlying24, Try.t24, Try.type24, rfl, rfl, rfl⟩
instance ty25 : TyC Try.prog 25 ⟨Go.TypeDesc.int Go.IntKind.i64, 1, (Go.Value.int Go.IntKind.i64 0), 8⟩ := ⟨Try.underlying25, Try.t25, Try.type25, rfl, rfl, rfl⟩
instance ty26 : TyC Try.prog 26 ⟨Go.TypeDesc.tuple #[24, 25], 1, (Go.Value.tuple #[Go.Value.slice none 0 0, Go.Value.int Go.IntKind.i64 0]), 0⟩ := ⟨Try.underlying26, Try.t26, Try.type26, rfl, rfl, rfl⟩
instance ty31 : TyC Try.prog 31 ⟨Go.TypeDesc.slice 4, 1, (Go.Value.slice none 0 0), 24⟩ := ⟨Try.underlying31, Try.t31, Try.type31, rfl, rfl, rfl⟩
instance ty32 : TyC Try.prog 32 ⟨Go.TypeDesc.tuple #[31, 25], 1, (Go.Value.tuple #[Go.Value.slice none 0 0, Go.Value.int Go.IntKind.i64 0]), 0⟩ := ⟨Try.underlying32, Try.t32, Try.type32, rfl, rfl, rfl⟩
instance ty34 : TyC Try.prog 34 ⟨Go.TypeDesc.slice 24, 1, (Go.Value.slice none 0 0), 24⟩ := ⟨Try.underlying34, Try.t34, Try.type34, rfl, rfl, rfl⟩
instance ty35 : TyC Try.prog 35 ⟨Go.TypeDesc.tuple #[34, 25], 1, (Go.Value.tuple #[Go.Value.slice none 0 0, Go.Value.int Go.IntKind.i64 0]), 0⟩ := ⟨Try.underlying35, Try.t35, Try.type35, rfl, rfl, rfl⟩
instance ty40 : TyC Try.prog 40 ⟨Try.t39.desc, 2, (Go.Value.agg #[Go.Value.int Go.IntKind.i64 0, Go.Value.int Go.IntKind.i64 0]), 16⟩ := ⟨Try.underlying40, Try.t40, Try.type40, rfl, rfl, rfl⟩
instance fi40_0 : FieldC Try.prog 40 0 0 := ⟨_, _, _, Try.underlying40, rfl, rfl, Try.type3, by decide⟩
instance fi40_1 : FieldC Try.prog 40 1 1 := ⟨_, _, _, Try.underlying40, rfl, rfl, Try.type3, by decide⟩
instance ty45 : TyC Try.prog 45 ⟨Go.TypeDesc.pointer 46, 1, (Go.Value.pointer none), 8⟩ := ⟨Try.underlying45, Try.t45, Try.type45, rfl, rfl, rfl⟩
instance ty46 : TyC Try.prog 46 ⟨Go.TypeDesc.slice 3, 1, (Go.Value.slice none 0 0), 24⟩ := ⟨Try.underlying46, Try.t46, Try.type46, rfl, rfl, rfl⟩
instance ty53 : TyC Try.prog 53 ⟨Go.TypeDesc.func #[3] #[] false, 1, (Go.Value.nilFunc), 8⟩ := ⟨Try.underlying53, Try.t53, Try.type53, rfl, rfl, rfl⟩
instance ty55 : TyC Try.prog 55 ⟨Go.TypeDesc.pointer 57, 1, (Go.Value.pointer none), 8⟩ := ⟨Try.underlying55, Try.t55, Try.type55, rfl, rfl, rfl⟩
instance ty57 : TyC Try.prog 57 ⟨Try.t56.desc, 8, (Go.Value.agg #[Go.Value.slice none 0 0, Go.Value.slice none 0 0, Go.Value.slice none 0 0, Go.Value.slice none 0 0, Go.Value.slice none 0 0, Go.Value.int Go.IntKind.i64 0, Go.Value.slice none 0 0, Go.Value.int Go.IntKind.i64 0]), 160⟩ := ⟨Try.underlying57, Try.t57, Try.type57, rfl, rfl, rfl⟩
instance fi57_0 : FieldC Try.prog 57 0 0 := ⟨_, _, _, Try.underlying57, rfl, rfl, Try.type34, by decide⟩
instance fi57_1 : FieldC Try.prog 57 1 1 := ⟨_, _, _, Try.underlying57, rfl, rfl, Try.type24, by decide⟩
instance fi57_2 : FieldC Try.prog 57 2 2 := ⟨_, _, _, Try.underlying57, rfl, rfl, Try.type24, by decide⟩
instance fi57_3 : FieldC Try.prog 57 3 3 := ⟨_, _, _, Try.underlying57, rfl, rfl, Try.type31, by decide⟩
instance fi57_4 : FieldC Try.prog 57 4 4 := ⟨_, _, _, Try.underlying57, rfl, rfl, Try.type24, by decide⟩
instance fi57_5 : FieldC Try.prog 57 5 5 := ⟨_, _, _, Try.underlying57, rfl, rfl, Try.type3, by decide⟩
instance fi57_6 : FieldC Try.prog 57 6 6 := ⟨_, _, _, Try.underlying57, rfl, rfl, Try.type24, by decide⟩
instance fi57_7 : FieldC Try.prog 57 7 7 := ⟨_, _, _, Try.underlying57, rfl, rfl, Try.type3, by decide⟩
instance ty58 : TyC Try.prog 58 ⟨Go.TypeDesc.slice 31, 1, (Go.Value.slice none 0 0), 24⟩ := ⟨Try.underlying58, Try.t58, Try.type58, rfl, rfl, rfl⟩
instance ty59 : TyC Try.prog 59 ⟨Go.TypeDesc.func #[3] #[4] false, 1, (Go.Value.nilFunc), 8⟩ := ⟨Try.underlying59, Try.t59, Try.type59, rfl, rfl, rfl⟩
instance ty64 : TyC Try.prog 64 ⟨Try.t63.desc, 1, (Go.Value.nilIface), 16⟩ := ⟨Try.underlying64, Try.t64, Try.type64, rfl, rfl, rfl⟩
instance ty74 : TyC Try.prog 74 ⟨Try.t73.desc, 2, (Go.Value.agg #[Go.Value.int Go.IntKind.i64 0, Go.Value.int Go.IntKind.i64 0]), 16⟩ := ⟨Try.underlying74, Try.t74, Try.type74, rfl, rfl, rfl⟩
instance fi74_0 : FieldC Try.prog 74 0 0 := ⟨_, _, _, Try.underlying74, rfl, rfl, Try.type3, by decide⟩
instance fi74_1 : FieldC Try.prog 74 1 1 := ⟨_, _, _, Try.underlying74, rfl, rfl, Try.type3, by decide⟩
instance ty76 : TyC Try.prog 76 ⟨Go.TypeDesc.slice 74, 1, (Go.Value.slice none 0 0), 24⟩ := ⟨Try.underlying76, Try.t76, Try.type76, rfl, rfl, rfl⟩
instance ty77 : TyC Try.prog 77 ⟨Go.TypeDesc.pointer 74, 1, (Go.Value.pointer none), 8⟩ := ⟨Try.underlying77, Try.t77, Try.type77, rfl, rfl, rfl⟩
instance ty80 : TyC Try.prog 80 ⟨Go.TypeDesc.int Go.IntKind.u64, 1, (Go.Value.int Go.IntKind.u64 0), 8⟩ := ⟨Try.underlying80, Try.t80, Try.type80, rfl, rfl, rfl⟩
instance ty83 : TyC Try.prog 83 ⟨Go.TypeDesc.int Go.IntKind.i64, 1, (Go.Value.int Go.IntKind.i64 0), 8⟩ := ⟨Try.underlying83, Try.t83, Try.type83, rfl, rfl, rfl⟩
instance ty84 : TyC Try.prog 84 ⟨Go.TypeDesc.tuple #[3, 83], 1, (Go.Value.tuple #[Go.Value.int Go.IntKind.i64 0, Go.Value.int Go.IntKind.i64 0]), 0⟩ := ⟨Try.underlying84, Try.t84, Try.type84, rfl, rfl, rfl⟩
instance ty88 : TyC Try.prog 88 ⟨Go.TypeDesc.tuple #[3, 4], 1, (Go.Value.tuple #[Go.Value.int Go.IntKind.i64 0, Go.Value.bool false]), 0⟩ := ⟨Try.underlying88, Try.t88, Try.type88, rfl, rfl, rfl⟩
instance ty93 : TyC Try.prog 93 ⟨Go.TypeDesc.int Go.IntKind.u64, 1, (Go.Value.int Go.IntKind.u64 0), 8⟩ := ⟨Try.underlying93, Try.t93, Try.type93, rfl, rfl, rfl⟩
instance ty94 : TyC Try.prog 94 ⟨Go.TypeDesc.int Go.IntKind.u64, 1, (Go.Value.int Go.IntKind.u64 0), 8⟩ := ⟨Try.underlying94, Try.t94, Try.type94, rfl, rfl, rfl⟩
instance ty98 : TyC Try.prog 98 ⟨Go.TypeDesc.pointer 3, 1, (Go.Value.pointer none), 8⟩ := ⟨Try.underlying98, Try.t98, Try.type98, rfl, rfl, rfl⟩
instance ty100 : TyC Try.prog 100 ⟨Go.TypeDesc.pointer 94, 1, (Go.Value.pointer none), 8⟩ := ⟨Try.underlying100, Try.t100, Try.type100, rfl, rfl, rfl⟩
instance ty101 : TyC Try.prog 101 ⟨Go.TypeDesc.tuple #[3, 3], 1, (Go.Value.tuple #[Go.Value.int Go.IntKind.i64 0, Go.Value.int Go.IntKind.i64 0]), 0⟩ := ⟨Try.underlying101, Try.t101, Try.type101, rfl, rfl, rfl⟩
instance sl22 : SlC Try.prog 22 40 ⟨Try.t39.desc, 2, (Go.Value.agg #[Go.Value.int Go.IntKind.i64 0, Go.Value.int Go.IntKind.i64 0]), 16⟩ := ⟨⟨_, ty22, rfl⟩, ty40⟩
instance sl24 : SlC Try.prog 24 3 ⟨Go.TypeDesc.int Go.IntKind.i64, 1, (Go.Value.int Go.IntKind.i64 0), 8⟩ := ⟨⟨_, ty24, rfl⟩, ty3⟩
instance sl31 : SlC Try.prog 31 4 ⟨Go.TypeDesc.bool, 1, (Go.Value.bool false), 1⟩ := ⟨⟨_, ty31, rfl⟩, ty4⟩
instance sl34 : SlC Try.prog 34 24 ⟨Go.TypeDesc.slice 3, 1, (Go.Value.slice none 0 0), 24⟩ := ⟨⟨_, ty34, rfl⟩, ty24⟩
instance sl46 : SlC Try.prog 46 3 ⟨Go.TypeDesc.int Go.IntKind.i64, 1, (Go.Value.int Go.IntKind.i64 0), 8⟩ := ⟨⟨_, ty46, rfl⟩, ty3⟩
instance sl58 : SlC Try.prog 58 31 ⟨Go.TypeDesc.slice 4, 1, (Go.Value.slice none 0 0), 24⟩ := ⟨⟨_, ty58, rfl⟩, ty31⟩
instance sl76 : SlC Try.prog 76 74 ⟨Try.t73.desc, 2, (Go.Value.agg #[Go.Value.int Go.IntKind.i64 0, Go.Value.int Go.IntKind.i64 0]), 16⟩ := ⟨⟨_, ty76, rfl⟩, ty74⟩
instance bu40 : BuildC Try.prog 40 [(0, 1), (1, 1)] := BuildC.mk' Try.underlying40 (by kernel_rfl)
instance bu57 : BuildC Try.prog 57 [(0, 1), (1, 1), (2, 1), (3, 1), (4, 1), (5, 1), (6, 1), (7, 1)] := BuildC.mk' Try.underlying57 (by kernel_rfl)
instance bu74 : BuildC Try.prog 74 [(0, 1), (1, 1)] := BuildC.mk' Try.underlying74 (by kernel_rfl)
end Go.Proofs.Ytmefecnjliadaaa
