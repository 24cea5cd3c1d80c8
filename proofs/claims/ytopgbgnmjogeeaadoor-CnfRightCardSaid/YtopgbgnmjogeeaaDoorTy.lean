/- Printed by an own tool: the types of this translation, as instances. Conditions: none. -/
import Derived.Test.YtopgbgnmjogeeaaDoorZf
import Derived.Test.YtopgbgnmjogeeaaDoorProg
namespace Go.Proofs.YtopgbgnmjogeeaaDoor
set_option linter.unusedVariables false
set_option linter.unusedSimpArgs false
set_option linter.unusedSectionVars false
set_option maxRecDepth 100000
open Go Go.Z

instance ty0 : TyC Tryd.prog 0 ⟨Go.TypeDesc.tuple #[], 1, (Go.Value.tuple #[]), 0⟩ := ⟨Tryd.underlying0, Tryd.t0, Tryd.type0, rfl, rfl, rfl⟩
instance ty3 : TyC Tryd.prog 3 ⟨Go.TypeDesc.int Go.IntKind.i64, 1, (Go.Value.int Go.IntKind.i64 0), 8⟩ := ⟨Tryd.underlying3, Tryd.t3, Tryd.type3, rfl, rfl, rfl⟩
instance ty4 : TyC Tryd.prog 4 ⟨Go.TypeDesc.bool, 1, (Go.Value.bool false), 1⟩ := ⟨Tryd.underlying4, Tryd.t4, Tryd.type4, rfl, rfl, rfl⟩
instance ty5 : TyC Tryd.prog 5 ⟨Go.TypeDesc.int Go.IntKind.u8, 1, (Go.Value.int Go.IntKind.u8 0), 1⟩ := ⟨Tryd.underlying5, Tryd.t5, Tryd.type5, rfl, rfl, rfl⟩
instance ty9 : TyC Tryd.prog 9 ⟨Go.TypeDesc.string, 1, (Go.Value.string { data := #[] }), 16⟩ := ⟨Tryd.underlying9, Tryd.t9, Tryd.type9, rfl, rfl, rfl⟩
instance ty21 : TyC Tryd.prog 21 ⟨Go.TypeDesc.int Go.IntKind.i32, 1, (Go.Value.int Go.IntKind.i32 0), 4⟩ := ⟨Tryd.underlying21, Tryd.t21, Tryd.type21, rfl, rfl, rfl⟩
instance ty22 : TyC Tryd.prog 22 ⟨Go.TypeDesc.slice 40, 1, (Go.Value.slice none 0 0), 24⟩ := ⟨Tryd.underlying22, Tryd.t22, Tryd.type22, rfl, rfl, rfl⟩
instance ty24 : TyC Tryd.prog 24 ⟨Tryd.t23.desc, 2, (Go.Value.agg #[Go.Value.int Go.IntKind.i64 0, Go.Value.slice none 0 0]), 32⟩ := ⟨Tryd.underlying24, Tryd.t24, Tryd.type24, rfl, rfl, rfl⟩
instance fi24_0 : FieldC Tryd.prog 24 0 0 := ⟨_, _, _, Tryd.underlying24, rfl, rfl, Tryd.type3, by decide⟩
instance fi24_1 : FieldC Tryd.prog 24 1 1 := ⟨_, _, _, Tryd.underlying24, rfl, rfl, Tryd.type22, by decide⟩
instance ty27 : TyC Tryd.prog 27 ⟨Go.TypeDesc.int Go.IntKind.i64, 1, (Go.Value.int Go.IntKind.i64 0), 8⟩ := ⟨Tryd.underlying27, Tryd.t27, Tryd.type27, rfl, rfl, rfl⟩
instance ty28 : TyC Tryd.prog 28 ⟨Go.TypeDesc.tuple #[9, 27], 1, (Go.Value.tuple #[Go.Value.string { data := #[] }, Go.Value.int Go.IntKind.i64 0]), 0⟩ := ⟨Tryd.underlying28, Tryd.t28, Tryd.type28, rfl, rfl, rfl⟩
instance ty30 : TyC Tryd.prog 30 ⟨Go.TypeDesc.tuple #[24, 3, 27], 1, (Go.Value.tuple #[Go.Value.agg #[Go.Value.int Go.IntKind.i64 0, Go.Value.slice none 0 0], Go.Value.int Go.IntKind.i64 0, Go.Value.int Go.IntKind.i64 0]), 0⟩ := ⟨Tryd.underlying30, Tryd.t30, Tryd.type30, rfl, rfl, rfl⟩
instance ty32 : TyC Tryd.prog 32 ⟨Go.TypeDesc.slice 4, 1, (Go.Value.slice none 0 0), 24⟩ := ⟨Tryd.underlying32, Tryd.t32, Tryd.type32, rfl, rfl, rfl⟩
instance ty33 : TyC Tryd.prog 33 ⟨Go.TypeDesc.tuple #[3, 32, 27], 1, (Go.Value.tuple #[Go.Value.int Go.IntKind.i64 0, Go.Value.slice none 0 0, Go.Value.int Go.IntKind.i64 0]), 0⟩ := ⟨Tryd.underlying33, Tryd.t33, Tryd.type33, rfl, rfl, rfl⟩
instance ty39 : TyC Tryd.prog 39 ⟨Go.TypeDesc.slice 3, 1, (Go.Value.slice none 0 0), 24⟩ := ⟨Tryd.underlying39, Tryd.t39, Tryd.type39, rfl, rfl, rfl⟩
instance ty40 : TyC Tryd.prog 40 ⟨Go.TypeDesc.slice 3, 1, (Go.Value.slice none 0 0), 24⟩ := ⟨Tryd.underlying40, Tryd.t40, Tryd.type40, rfl, rfl, rfl⟩
instance ty42 : TyC Tryd.prog 42 ⟨Go.TypeDesc.tuple #[39, 4, 27], 1, (Go.Value.tuple #[Go.Value.slice none 0 0, Go.Value.bool false, Go.Value.int Go.IntKind.i64 0]), 0⟩ := ⟨Tryd.underlying42, Tryd.t42, Tryd.type42, rfl, rfl, rfl⟩
instance ty45 : TyC Tryd.prog 45 ⟨Go.TypeDesc.pointer 48, 1, (Go.Value.pointer none), 8⟩ := ⟨Tryd.underlying45, Tryd.t45, Tryd.type45, rfl, rfl, rfl⟩
instance ty46 : TyC Tryd.prog 46 ⟨Go.TypeDesc.slice 5, 1, (Go.Value.slice none 0 0), 24⟩ := ⟨Tryd.underlying46, Tryd.t46, Tryd.type46, rfl, rfl, rfl⟩
instance ty48 : TyC Tryd.prog 48 ⟨Tryd.t47.desc, 2, (Go.Value.agg #[Go.Value.pointer none, Go.Value.slice none 0 0]), 32⟩ := ⟨Tryd.underlying48, Tryd.t48, Tryd.type48, rfl, rfl, rfl⟩
instance fi48_0 : FieldC Tryd.prog 48 0 0 := ⟨_, _, _, Tryd.underlying48, rfl, rfl, Tryd.type45, by decide⟩
instance fi48_1 : FieldC Tryd.prog 48 1 1 := ⟨_, _, _, Tryd.underlying48, rfl, rfl, Tryd.type46, by decide⟩
instance ty50 : TyC Tryd.prog 50 ⟨Tryd.t49.desc, 1, (Go.Value.nilIface), 16⟩ := ⟨Tryd.underlying50, Tryd.t50, Tryd.type50, rfl, rfl, rfl⟩
instance ty51 : TyC Tryd.prog 51 ⟨Go.TypeDesc.tuple #[3, 50], 1, (Go.Value.tuple #[Go.Value.int Go.IntKind.i64 0, Go.Value.nilIface]), 0⟩ := ⟨Tryd.underlying51, Tryd.t51, Tryd.type51, rfl, rfl, rfl⟩
instance ty55 : TyC Tryd.prog 55 ⟨Go.TypeDesc.pointer 57, 1, (Go.Value.pointer none), 8⟩ := ⟨Tryd.underlying55, Tryd.t55, Tryd.type55, rfl, rfl, rfl⟩
instance ty57 : TyC Tryd.prog 57 ⟨Tryd.t56.desc, 2, (Go.Value.agg #[Go.Value.string { data := #[] }, Go.Value.int Go.IntKind.i64 0]), 24⟩ := ⟨Tryd.underlying57, Tryd.t57, Tryd.type57, rfl, rfl, rfl⟩
instance fi57_0 : FieldC Tryd.prog 57 0 0 := ⟨_, _, _, Tryd.underlying57, rfl, rfl, Tryd.type9, by decide⟩
instance fi57_1 : FieldC Tryd.prog 57 1 1 := ⟨_, _, _, Tryd.underlying57, rfl, rfl, Tryd.type3, by decide⟩
instance ty58 : TyC Tryd.prog 58 ⟨Go.TypeDesc.tuple #[3, 3, 27], 1, (Go.Value.tuple #[Go.Value.int Go.IntKind.i64 0, Go.Value.int Go.IntKind.i64 0, Go.Value.int Go.IntKind.i64 0]), 0⟩ := ⟨Tryd.underlying58, Tryd.t58, Tryd.type58, rfl, rfl, rfl⟩
instance ty60 : TyC Tryd.prog 60 ⟨Go.TypeDesc.tuple #[40, 27], 1, (Go.Value.tuple #[Go.Value.slice none 0 0, Go.Value.int Go.IntKind.i64 0]), 0⟩ := ⟨Tryd.underlying60, Tryd.t60, Tryd.type60, rfl, rfl, rfl⟩
instance ty62 : TyC Tryd.prog 62 ⟨Go.TypeDesc.tuple #[3, 32], 1, (Go.Value.tuple #[Go.Value.int Go.IntKind.i64 0, Go.Value.slice none 0 0]), 0⟩ := ⟨Tryd.underlying62, Tryd.t62, Tryd.type62, rfl, rfl, rfl⟩
instance ty63 : TyC Tryd.prog 63 ⟨Go.TypeDesc.pointer 83, 1, (Go.Value.pointer none), 8⟩ := ⟨Tryd.underlying63, Tryd.t63, Tryd.type63, rfl, rfl, rfl⟩
instance ty66 : TyC Tryd.prog 66 ⟨Go.TypeDesc.pointer 124, 1, (Go.Value.pointer none), 8⟩ := ⟨Tryd.underlying66, Tryd.t66, Tryd.type66, rfl, rfl, rfl⟩
instance ty67 : TyC Tryd.prog 67 ⟨Go.TypeDesc.tuple #[66, 3], 1, (Go.Value.tuple #[Go.Value.pointer none, Go.Value.int Go.IntKind.i64 0]), 0⟩ := ⟨Tryd.underlying67, Tryd.t67, Tryd.type67, rfl, rfl, rfl⟩
instance ty70 : TyC Tryd.prog 70 ⟨Tryd.t69.desc, 4, (Go.Value.agg #[Go.Value.int Go.IntKind.i64 0, Go.Value.int Go.IntKind.i64 0, Go.Value.int Go.IntKind.i64 0, Go.Value.int Go.IntKind.i64 0]), 32⟩ := ⟨Tryd.underlying70, Tryd.t70, Tryd.type70, rfl, rfl, rfl⟩
instance fi70_0 : FieldC Tryd.prog 70 0 0 := ⟨_, _, _, Tryd.underlying70, rfl, rfl, Tryd.type3, by decide⟩
instance fi70_1 : FieldC Tryd.prog 70 1 1 := ⟨_, _, _, Tryd.underlying70, rfl, rfl, Tryd.type3, by decide⟩
instance fi70_2 : FieldC Tryd.prog 70 2 2 := ⟨_, _, _, Tryd.underlying70, rfl, rfl, Tryd.type3, by decide⟩
instance fi70_3 : FieldC Tryd.prog 70 3 3 := ⟨_, _, _, Tryd.underlying70, rfl, rfl, Tryd.type3, by decide⟩
instance ty71 : TyC Tryd.prog 71 ⟨Go.TypeDesc.slice 70, 1, (Go.Value.slice none 0 0), 24⟩ := ⟨Tryd.underlying71, Tryd.t71, Tryd.type71, rfl, rfl, rfl⟩
instance ty72 : TyC Tryd.prog 72 ⟨Go.TypeDesc.tuple #[24, 27], 1, (Go.Value.tuple #[Go.Value.agg #[Go.Value.int Go.IntKind.i64 0, Go.Value.slice none 0 0], Go.Value.int Go.IntKind.i64 0]), 0⟩ := ⟨Tryd.underlying72, Tryd.t72, Tryd.type72, rfl, rfl, rfl⟩
instance ty74 : TyC Tryd.prog 74 ⟨Go.TypeDesc.int Go.IntKind.i64, 1, (Go.Value.int Go.IntKind.i64 0), 8⟩ := ⟨Tryd.underlying74, Tryd.t74, Tryd.type74, rfl, rfl, rfl⟩
instance ty76 : TyC Tryd.prog 76 ⟨Go.TypeDesc.func #[3] #[4] false, 1, (Go.Value.nilFunc), 8⟩ := ⟨Tryd.underlying76, Tryd.t76, Tryd.type76, rfl, rfl, rfl⟩
instance ty79 : TyC Tryd.prog 79 ⟨Go.TypeDesc.func #[40] #[4] false, 1, (Go.Value.nilFunc), 8⟩ := ⟨Tryd.underlying79, Tryd.t79, Tryd.type79, rfl, rfl, rfl⟩
instance ty81 : TyC Tryd.prog 81 ⟨Go.TypeDesc.slice 39, 1, (Go.Value.slice none 0 0), 24⟩ := ⟨Tryd.underlying81, Tryd.t81, Tryd.type81, rfl, rfl, rfl⟩
instance ty83 : TyC Tryd.prog 83 ⟨Tryd.t82.desc, 8, (Go.Value.agg #[Go.Value.int Go.IntKind.i64 0, Go.Value.slice none 0 0, Go.Value.slice none 0 0, Go.Value.slice none 0 0, Go.Value.slice none 0 0, Go.Value.slice none 0 0, Go.Value.int Go.IntKind.i64 0, Go.Value.int Go.IntKind.i64 0]), 144⟩ := ⟨Tryd.underlying83, Tryd.t83, Tryd.type83, rfl, rfl, rfl⟩
instance fi83_0 : FieldC Tryd.prog 83 0 0 := ⟨_, _, _, Tryd.underlying83, rfl, rfl, Tryd.type24, by decide⟩
instance fi83_1 : FieldC Tryd.prog 83 1 2 := ⟨_, _, _, Tryd.underlying83, rfl, rfl, Tryd.type39, by decide⟩
instance fi83_2 : FieldC Tryd.prog 83 2 3 := ⟨_, _, _, Tryd.underlying83, rfl, rfl, Tryd.type39, by decide⟩
instance fi83_3 : FieldC Tryd.prog 83 3 4 := ⟨_, _, _, Tryd.underlying83, rfl, rfl, Tryd.type81, by decide⟩
instance fi83_4 : FieldC Tryd.prog 83 4 5 := ⟨_, _, _, Tryd.underlying83, rfl, rfl, Tryd.type39, by decide⟩
instance fi83_5 : FieldC Tryd.prog 83 5 6 := ⟨_, _, _, Tryd.underlying83, rfl, rfl, Tryd.type3, by decide⟩
instance fi83_6 : FieldC Tryd.prog 83 6 7 := ⟨_, _, _, Tryd.underlying83, rfl, rfl, Tryd.type3, by decide⟩
instance ty84 : TyC Tryd.prog 84 ⟨Go.TypeDesc.pointer 5, 1, (Go.Value.pointer none), 8⟩ := ⟨Tryd.underlying84, Tryd.t84, Tryd.type84, rfl, rfl, rfl⟩
instance ty85 : TyC Tryd.prog 85 ⟨Go.TypeDesc.tuple #[9, 4], 1, (Go.Value.tuple #[Go.Value.string { data := #[] }, Go.Value.bool false]), 0⟩ := ⟨Tryd.underlying85, Tryd.t85, Tryd.type85, rfl, rfl, rfl⟩
instance ty87 : TyC Tryd.prog 87 ⟨Go.TypeDesc.slice 9, 1, (Go.Value.slice none 0 0), 24⟩ := ⟨Tryd.underlying87, Tryd.t87, Tryd.type87, rfl, rfl, rfl⟩
instance ty89 : TyC Tryd.prog 89 ⟨Go.TypeDesc.tuple #[3, 4], 1, (Go.Value.tuple #[Go.Value.int Go.IntKind.i64 0, Go.Value.bool false]), 0⟩ := ⟨Tryd.underlying89, Tryd.t89, Tryd.type89, rfl, rfl, rfl⟩
instance ty92 : TyC Tryd.prog 92 ⟨Go.TypeDesc.slice 94, 1, (Go.Value.slice none 0 0), 24⟩ := ⟨Tryd.underlying92, Tryd.t92, Tryd.type92, rfl, rfl, rfl⟩
instance ty94 : TyC Tryd.prog 94 ⟨Tryd.t93.desc, 3, (Go.Value.agg #[Go.Value.int Go.IntKind.i64 0, Go.Value.int Go.IntKind.i64 0, Go.Value.bool false]), 24⟩ := ⟨Tryd.underlying94, Tryd.t94, Tryd.type94, rfl, rfl, rfl⟩
instance fi94_0 : FieldC Tryd.prog 94 0 0 := ⟨_, _, _, Tryd.underlying94, rfl, rfl, Tryd.type3, by decide⟩
instance fi94_1 : FieldC Tryd.prog 94 1 1 := ⟨_, _, _, Tryd.underlying94, rfl, rfl, Tryd.type3, by decide⟩
instance fi94_2 : FieldC Tryd.prog 94 2 2 := ⟨_, _, _, Tryd.underlying94, rfl, rfl, Tryd.type4, by decide⟩
instance ty98 : TyC Tryd.prog 98 ⟨Go.TypeDesc.tuple #[74, 27], 1, (Go.Value.tuple #[Go.Value.int Go.IntKind.i64 0, Go.Value.int Go.IntKind.i64 0]), 0⟩ := ⟨Tryd.underlying98, Tryd.t98, Tryd.type98, rfl, rfl, rfl⟩
instance ty102 : TyC Tryd.prog 102 ⟨Go.TypeDesc.slice 74, 1, (Go.Value.slice none 0 0), 24⟩ := ⟨Tryd.underlying102, Tryd.t102, Tryd.type102, rfl, rfl, rfl⟩
instance ty104 : TyC Tryd.prog 104 ⟨Go.TypeDesc.map 109 4, 1, (Go.Value.map none), 8⟩ := ⟨Tryd.underlying104, Tryd.t104, Tryd.type104, rfl, rfl, rfl⟩
instance ty106 : TyC Tryd.prog 106 ⟨Go.TypeDesc.tuple #[74, 74, 4], 1, (Go.Value.tuple #[Go.Value.int Go.IntKind.i64 0, Go.Value.int Go.IntKind.i64 0, Go.Value.bool false]), 0⟩ := ⟨Tryd.underlying106, Tryd.t106, Tryd.type106, rfl, rfl, rfl⟩
instance ty109 : TyC Tryd.prog 109 ⟨Tryd.t108.desc, 2, (Go.Value.agg #[Go.Value.int Go.IntKind.i64 0, Go.Value.bool false]), 16⟩ := ⟨Tryd.underlying109, Tryd.t109, Tryd.type109, rfl, rfl, rfl⟩
instance fi109_0 : FieldC Tryd.prog 109 0 0 := ⟨_, _, _, Tryd.underlying109, rfl, rfl, Tryd.type3, by decide⟩
instance fi109_1 : FieldC Tryd.prog 109 1 1 := ⟨_, _, _, Tryd.underlying109, rfl, rfl, Tryd.type4, by decide⟩
instance ty115 : TyC Tryd.prog 115 ⟨Go.TypeDesc.unsafePointer, 1, (Go.Value.pointer none), 8⟩ := ⟨Tryd.underlying115, Tryd.t115, Tryd.type115, rfl, rfl, rfl⟩
instance ty118 : TyC Tryd.prog 118 ⟨Go.TypeDesc.tuple #[9, 9, 4], 1, (Go.Value.tuple #[Go.Value.string { data := #[] }, Go.Value.string { data := #[] }, Go.Value.bool false]), 0⟩ := ⟨Tryd.underlying118, Tryd.t118, Tryd.type118, rfl, rfl, rfl⟩
instance ty121 : TyC Tryd.prog 121 ⟨Go.TypeDesc.slice 127, 1, (Go.Value.slice none 0 0), 24⟩ := ⟨Tryd.underlying121, Tryd.t121, Tryd.type121, rfl, rfl, rfl⟩
instance ty122 : TyC Tryd.prog 122 ⟨Go.TypeDesc.map 127 74, 1, (Go.Value.map none), 8⟩ := ⟨Tryd.underlying122, Tryd.t122, Tryd.type122, rfl, rfl, rfl⟩
instance ty124 : TyC Tryd.prog 124 ⟨Tryd.t123.desc, 3, (Go.Value.agg #[Go.Value.slice none 0 0, Go.Value.slice none 0 0, Go.Value.map none]), 56⟩ := ⟨Tryd.underlying124, Tryd.t124, Tryd.type124, rfl, rfl, rfl⟩
instance fi124_0 : FieldC Tryd.prog 124 0 0 := ⟨_, _, _, Tryd.underlying124, rfl, rfl, Tryd.type121, by decide⟩
instance fi124_1 : FieldC Tryd.prog 124 1 1 := ⟨_, _, _, Tryd.underlying124, rfl, rfl, Tryd.type102, by decide⟩
instance fi124_2 : FieldC Tryd.prog 124 2 2 := ⟨_, _, _, Tryd.underlying124, rfl, rfl, Tryd.type122, by decide⟩
instance ty127 : TyC Tryd.prog 127 ⟨Tryd.t126.desc, 2, (Go.Value.agg #[Go.Value.int Go.IntKind.i64 0, Go.Value.int Go.IntKind.i64 0]), 16⟩ := ⟨Tryd.underlying127, Tryd.t127, Tryd.type127, rfl, rfl, rfl⟩
instance fi127_0 : FieldC Tryd.prog 127 0 0 := ⟨_, _, _, Tryd.underlying127, rfl, rfl, Tryd.type74, by decide⟩
instance fi127_1 : FieldC Tryd.prog 127 1 1 := ⟨_, _, _, Tryd.underlying127, rfl, rfl, Tryd.type74, by decide⟩
instance ty131 : TyC Tryd.prog 131 ⟨Go.TypeDesc.func #[74] #[] false, 1, (Go.Value.nilFunc), 8⟩ := ⟨Tryd.underlying131, Tryd.t131, Tryd.type131, rfl, rfl, rfl⟩
instance ty132 : TyC Tryd.prog 132 ⟨Go.TypeDesc.slice 109, 1, (Go.Value.slice none 0 0), 24⟩ := ⟨Tryd.underlying132, Tryd.t132, Tryd.type132, rfl, rfl, rfl⟩
instance ty144 : TyC Tryd.prog 144 ⟨Go.TypeDesc.func #[74] #[4] false, 1, (Go.Value.nilFunc), 8⟩ := ⟨Tryd.underlying144, Tryd.t144, Tryd.type144, rfl, rfl, rfl⟩
instance ty145 : TyC Tryd.prog 145 ⟨Go.TypeDesc.tuple #[74, 4], 1, (Go.Value.tuple #[Go.Value.int Go.IntKind.i64 0, Go.Value.bool false]), 0⟩ := ⟨Tryd.underlying145, Tryd.t145, Tryd.type145, rfl, rfl, rfl⟩
instance ty150 : TyC Tryd.prog 150 ⟨Go.TypeDesc.int Go.IntKind.u64, 1, (Go.Value.int Go.IntKind.u64 0), 8⟩ := ⟨Tryd.underlying150, Tryd.t150, Tryd.type150, rfl, rfl, rfl⟩
instance ty153 : TyC Tryd.prog 153 ⟨Go.TypeDesc.tuple #[21, 3], 1, (Go.Value.tuple #[Go.Value.int Go.IntKind.i32 0, Go.Value.int Go.IntKind.i64 0]), 0⟩ := ⟨Tryd.underlying153, Tryd.t153, Tryd.type153, rfl, rfl, rfl⟩
instance ty176 : TyC Tryd.prog 176 ⟨Tryd.t175.desc, 2, (Go.Value.agg #[Go.Value.int Go.IntKind.u8 0, Go.Value.int Go.IntKind.u8 0]), 2⟩ := ⟨Tryd.underlying176, Tryd.t176, Tryd.type176, rfl, rfl, rfl⟩
instance fi176_0 : FieldC Tryd.prog 176 0 0 := ⟨_, _, _, Tryd.underlying176, rfl, rfl, Tryd.type5, by decide⟩
instance fi176_1 : FieldC Tryd.prog 176 1 1 := ⟨_, _, _, Tryd.underlying176, rfl, rfl, Tryd.type5, by decide⟩
instance ty177 : TyC Tryd.prog 177 ⟨Go.TypeDesc.array 16 176, 32, (Go.Value.agg #[Go.Value.int Go.IntKind.u8 0, Go.Value.int Go.IntKind.u8 0, Go.Value.int Go.IntKind.u8 0, Go.Value.int Go.IntKind.u8 0, Go.Value.int Go.IntKind.u8 0, Go.Value.int Go.IntKind.u8 0, Go.Value.int Go.IntKind.u8 0, Go.Value.int Go.IntKind.u8 0, Go.Value.int Go.IntKind.u8 0, Go.Value.int Go.IntKind.u8 0, Go.Value.int Go.IntKind.u8 0, Go.Value.int Go.IntKind.u8 0, Go.Value.int Go.IntKind.u8 0, Go.Value.int Go.IntKind.u8 0, Go.Value.int Go.IntKind.u8 0, Go.Value.int Go.IntKind.u8 0, Go.Value.int Go.IntKind.u8 0, Go.Value.int Go.IntKind.u8 0, Go.Value.int Go.IntKind.u8 0, Go.Value.int Go.IntKind.u8 0, Go.Value.int Go.IntKind.u8 0, Go.Value.int Go.IntKind.u8 0, Go.Value.int Go.IntKind.u8 0, Go.Value.int Go.IntKind.u8 0, Go.Value.int Go.IntKind.u8 0, Go.Value.int Go.IntKind.u8 0, Go.Value.int Go.IntKind.u8 0, Go.Value.int Go.IntKind.u8 0, Go.Value.int Go.IntKind.u8 0, Go.Value.int Go.IntKind.u8 0, Go.Value.int Go.IntKind.u8 0, Go.Value.int Go.IntKind.u8 0]), 32⟩ := ⟨Tryd.underlying177, Tryd.t177, Tryd.type177, rfl, rfl, rfl⟩
instance sl22 : SlC Tryd.prog 22 40 ⟨Go.TypeDesc.slice 3, 1, (Go.Value.slice none 0 0), 24⟩ := ⟨⟨_, ty22, rfl⟩, ty40⟩
instance sl32 : SlC Tryd.prog 32 4 ⟨Go.TypeDesc.bool, 1, (Go.Value.bool false), 1⟩ := ⟨⟨_, ty32, rfl⟩, ty4⟩
instance sl39 : SlC Tryd.prog 39 3 ⟨Go.TypeDesc.int Go.IntKind.i64, 1, (Go.Value.int Go.IntKind.i64 0), 8⟩ := ⟨⟨_, ty39, rfl⟩, ty3⟩
instance sl40 : SlC Tryd.prog 40 3 ⟨Go.TypeDesc.int Go.IntKind.i64, 1, (Go.Value.int Go.IntKind.i64 0), 8⟩ := ⟨⟨_, ty40, rfl⟩, ty3⟩
instance sl46 : SlC Tryd.prog 46 5 ⟨Go.TypeDesc.int Go.IntKind.u8, 1, (Go.Value.int Go.IntKind.u8 0), 1⟩ := ⟨⟨_, ty46, rfl⟩, ty5⟩
instance sl71 : SlC Tryd.prog 71 70 ⟨Tryd.t69.desc, 4, (Go.Value.agg #[Go.Value.int Go.IntKind.i64 0, Go.Value.int Go.IntKind.i64 0, Go.Value.int Go.IntKind.i64 0, Go.Value.int Go.IntKind.i64 0]), 32⟩ := ⟨⟨_, ty71, rfl⟩, ty70⟩
instance sl81 : SlC Tryd.prog 81 39 ⟨Go.TypeDesc.slice 3, 1, (Go.Value.slice none 0 0), 24⟩ := ⟨⟨_, ty81, rfl⟩, ty39⟩
instance sl87 : SlC Tryd.prog 87 9 ⟨Go.TypeDesc.string, 1, (Go.Value.string { data := #[] }), 16⟩ := ⟨⟨_, ty87, rfl⟩, ty9⟩
instance sl92 : SlC Tryd.prog 92 94 ⟨Tryd.t93.desc, 3, (Go.Value.agg #[Go.Value.int Go.IntKind.i64 0, Go.Value.int Go.IntKind.i64 0, Go.Value.bool false]), 24⟩ := ⟨⟨_, ty92, rfl⟩, ty94⟩
instance sl102 : SlC Tryd.prog 102 74 ⟨Go.TypeDesc.int Go.IntKind.i64, 1, (Go.Value.int Go.IntKind.i64 0), 8⟩ := ⟨⟨_, ty102, rfl⟩, ty74⟩
instance mp104 : MapC Tryd.prog 104 109 4 ⟨Go.TypeDesc.bool, 1, (Go.Value.bool false), 1⟩ := ⟨⟨_, ty104, rfl⟩, ty4⟩
instance sl121 : SlC Tryd.prog 121 127 ⟨Tryd.t126.desc, 2, (Go.Value.agg #[Go.Value.int Go.IntKind.i64 0, Go.Value.int Go.IntKind.i64 0]), 16⟩ := ⟨⟨_, ty121, rfl⟩, ty127⟩
instance mp122 : MapC Tryd.prog 122 127 74 ⟨Go.TypeDesc.int Go.IntKind.i64, 1, (Go.Value.int Go.IntKind.i64 0), 8⟩ := ⟨⟨_, ty122, rfl⟩, ty74⟩
instance sl132 : SlC Tryd.prog 132 109 ⟨Tryd.t108.desc, 2, (Go.Value.agg #[Go.Value.int Go.IntKind.i64 0, Go.Value.bool false]), 16⟩ := ⟨⟨_, ty132, rfl⟩, ty109⟩
instance bu24 : BuildC Tryd.prog 24 [(0, 1), (1, 1)] := BuildC.mk' Tryd.underlying24 (by kernel_rfl)
instance bu48 : BuildC Tryd.prog 48 [(0, 1), (1, 1)] := BuildC.mk' Tryd.underlying48 (by kernel_rfl)
instance bu57 : BuildC Tryd.prog 57 [(0, 1), (1, 1)] := BuildC.mk' Tryd.underlying57 (by kernel_rfl)
instance bu70 : BuildC Tryd.prog 70 [(0, 1), (1, 1), (2, 1), (3, 1)] := BuildC.mk' Tryd.underlying70 (by kernel_rfl)
instance bu83 : BuildC Tryd.prog 83 [(0, 2), (2, 1), (3, 1), (4, 1), (5, 1), (6, 1), (7, 1)] := BuildC.mk' Tryd.underlying83 (by kernel_rfl)
instance bu94 : BuildC Tryd.prog 94 [(0, 1), (1, 1), (2, 1)] := BuildC.mk' Tryd.underlying94 (by kernel_rfl)
instance bu109 : BuildC Tryd.prog 109 [(0, 1), (1, 1)] := BuildC.mk' Tryd.underlying109 (by kernel_rfl)
instance bu124 : BuildC Tryd.prog 124 [(0, 1), (1, 1), (2, 1)] := BuildC.mk' Tryd.underlying124 (by kernel_rfl)
instance bu127 : BuildC Tryd.prog 127 [(0, 1), (1, 1)] := BuildC.mk' Tryd.underlying127 (by kernel_rfl)
instance bu176 : BuildC Tryd.prog 176 [(0, 1), (1, 1)] := BuildC.mk' Tryd.underlying176 (by kernel_rfl)
end Go.Proofs.YtopgbgnmjogeeaaDoor
