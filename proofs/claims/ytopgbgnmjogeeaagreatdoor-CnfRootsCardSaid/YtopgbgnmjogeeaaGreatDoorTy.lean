/- Printed by an own tool: the types of this translation, as instances. Conditions: none. -/
import Derived.Test.YtopgbgnmjogeeaaGreatDoorZf
import Derived.Test.YtopgbgnmjogeeaaGreatDoorProg
namespace Go.Proofs.YtopgbgnmjogeeaaGreatDoor
set_option linter.unusedVariables false
set_option linter.unusedSimpArgs false
set_option linter.unusedSectionVars false
set_option maxRecDepth 100000
open Go Go.Z

instance ty0 : TyC Tryz.prog 0 ⟨Go.TypeDesc.tuple #[], 1, (Go.Value.tuple #[]), 0⟩ := ⟨Tryz.underlying0, Tryz.t0, Tryz.type0, rfl, rfl, rfl⟩
instance ty3 : TyC Tryz.prog 3 ⟨Go.TypeDesc.int Go.IntKind.i64, 1, (Go.Value.int Go.IntKind.i64 0), 8⟩ := ⟨Tryz.underlying3, Tryz.t3, Tryz.type3, rfl, rfl, rfl⟩
instance ty4 : TyC Tryz.prog 4 ⟨Go.TypeDesc.bool, 1, (Go.Value.bool false), 1⟩ := ⟨Tryz.underlying4, Tryz.t4, Tryz.type4, rfl, rfl, rfl⟩
instance ty5 : TyC Tryz.prog 5 ⟨Go.TypeDesc.int Go.IntKind.u8, 1, (Go.Value.int Go.IntKind.u8 0), 1⟩ := ⟨Tryz.underlying5, Tryz.t5, Tryz.type5, rfl, rfl, rfl⟩
instance ty9 : TyC Tryz.prog 9 ⟨Go.TypeDesc.string, 1, (Go.Value.string { data := #[] }), 16⟩ := ⟨Tryz.underlying9, Tryz.t9, Tryz.type9, rfl, rfl, rfl⟩
instance ty21 : TyC Tryz.prog 21 ⟨Go.TypeDesc.int Go.IntKind.i32, 1, (Go.Value.int Go.IntKind.i32 0), 4⟩ := ⟨Tryz.underlying21, Tryz.t21, Tryz.type21, rfl, rfl, rfl⟩
instance ty22 : TyC Tryz.prog 22 ⟨Go.TypeDesc.slice 64, 1, (Go.Value.slice none 0 0), 24⟩ := ⟨Tryz.underlying22, Tryz.t22, Tryz.type22, rfl, rfl, rfl⟩
instance ty23 : TyC Tryz.prog 23 ⟨Go.TypeDesc.slice 3, 1, (Go.Value.slice none 0 0), 24⟩ := ⟨Tryz.underlying23, Tryz.t23, Tryz.type23, rfl, rfl, rfl⟩
instance ty24 : TyC Tryz.prog 24 ⟨Go.TypeDesc.pointer 72, 1, (Go.Value.pointer none), 8⟩ := ⟨Tryz.underlying24, Tryz.t24, Tryz.type24, rfl, rfl, rfl⟩
instance ty25 : TyC Tryz.prog 25 ⟨Go.TypeDesc.tuple #[24, 3], 1, (Go.Value.tuple #[Go.Value.pointer none, Go.Value.int Go.IntKind.i64 0]), 0⟩ := ⟨Tryz.underlying25, Tryz.t25, Tryz.type25, rfl, rfl, rfl⟩
instance ty28 : TyC Tryz.prog 28 ⟨Go.TypeDesc.slice 79, 1, (Go.Value.slice none 0 0), 24⟩ := ⟨Tryz.underlying28, Tryz.t28, Tryz.type28, rfl, rfl, rfl⟩
instance ty30 : TyC Tryz.prog 30 ⟨Tryz.t29.desc, 2, (Go.Value.agg #[Go.Value.int Go.IntKind.i64 0, Go.Value.slice none 0 0]), 32⟩ := ⟨Tryz.underlying30, Tryz.t30, Tryz.type30, rfl, rfl, rfl⟩
instance fi30_0 : FieldC Tryz.prog 30 0 0 := ⟨_, _, _, Tryz.underlying30, rfl, rfl, Tryz.type3, by decide⟩
instance fi30_1 : FieldC Tryz.prog 30 1 1 := ⟨_, _, _, Tryz.underlying30, rfl, rfl, Tryz.type28, by decide⟩
instance ty31 : TyC Tryz.prog 31 ⟨Go.TypeDesc.int Go.IntKind.i64, 1, (Go.Value.int Go.IntKind.i64 0), 8⟩ := ⟨Tryz.underlying31, Tryz.t31, Tryz.type31, rfl, rfl, rfl⟩
instance ty32 : TyC Tryz.prog 32 ⟨Go.TypeDesc.tuple #[30, 31], 1, (Go.Value.tuple #[Go.Value.agg #[Go.Value.int Go.IntKind.i64 0, Go.Value.slice none 0 0], Go.Value.int Go.IntKind.i64 0]), 0⟩ := ⟨Tryz.underlying32, Tryz.t32, Tryz.type32, rfl, rfl, rfl⟩
instance ty34 : TyC Tryz.prog 34 ⟨Go.TypeDesc.slice 59, 1, (Go.Value.slice none 0 0), 24⟩ := ⟨Tryz.underlying34, Tryz.t34, Tryz.type34, rfl, rfl, rfl⟩
instance ty37 : TyC Tryz.prog 37 ⟨Go.TypeDesc.slice 4, 1, (Go.Value.slice none 0 0), 24⟩ := ⟨Tryz.underlying37, Tryz.t37, Tryz.type37, rfl, rfl, rfl⟩
instance ty39 : TyC Tryz.prog 39 ⟨Tryz.t38.desc, 3, (Go.Value.agg #[Go.Value.slice none 0 0, Go.Value.slice none 0 0, Go.Value.slice none 0 0]), 72⟩ := ⟨Tryz.underlying39, Tryz.t39, Tryz.type39, rfl, rfl, rfl⟩
instance fi39_0 : FieldC Tryz.prog 39 0 0 := ⟨_, _, _, Tryz.underlying39, rfl, rfl, Tryz.type37, by decide⟩
instance fi39_1 : FieldC Tryz.prog 39 1 1 := ⟨_, _, _, Tryz.underlying39, rfl, rfl, Tryz.type23, by decide⟩
instance fi39_2 : FieldC Tryz.prog 39 2 2 := ⟨_, _, _, Tryz.underlying39, rfl, rfl, Tryz.type23, by decide⟩
instance ty45 : TyC Tryz.prog 45 ⟨Go.TypeDesc.tuple #[9, 31], 1, (Go.Value.tuple #[Go.Value.string { data := #[] }, Go.Value.int Go.IntKind.i64 0]), 0⟩ := ⟨Tryz.underlying45, Tryz.t45, Tryz.type45, rfl, rfl, rfl⟩
instance ty48 : TyC Tryz.prog 48 ⟨Go.TypeDesc.tuple #[30, 3, 31], 1, (Go.Value.tuple #[Go.Value.agg #[Go.Value.int Go.IntKind.i64 0, Go.Value.slice none 0 0], Go.Value.int Go.IntKind.i64 0, Go.Value.int Go.IntKind.i64 0]), 0⟩ := ⟨Tryz.underlying48, Tryz.t48, Tryz.type48, rfl, rfl, rfl⟩
instance ty51 : TyC Tryz.prog 51 ⟨Go.TypeDesc.tuple #[37, 4], 1, (Go.Value.tuple #[Go.Value.slice none 0 0, Go.Value.bool false]), 0⟩ := ⟨Tryz.underlying51, Tryz.t51, Tryz.type51, rfl, rfl, rfl⟩
instance ty54 : TyC Tryz.prog 54 ⟨Go.TypeDesc.tuple #[37, 31], 1, (Go.Value.tuple #[Go.Value.slice none 0 0, Go.Value.int Go.IntKind.i64 0]), 0⟩ := ⟨Tryz.underlying54, Tryz.t54, Tryz.type54, rfl, rfl, rfl⟩
instance ty59 : TyC Tryz.prog 59 ⟨Go.TypeDesc.int Go.IntKind.i64, 1, (Go.Value.int Go.IntKind.i64 0), 8⟩ := ⟨Tryz.underlying59, Tryz.t59, Tryz.type59, rfl, rfl, rfl⟩
instance ty64 : TyC Tryz.prog 64 ⟨Tryz.t63.desc, 4, (Go.Value.agg #[Go.Value.int Go.IntKind.i64 0, Go.Value.int Go.IntKind.i64 0, Go.Value.int Go.IntKind.i64 0, Go.Value.int Go.IntKind.i64 0]), 32⟩ := ⟨Tryz.underlying64, Tryz.t64, Tryz.type64, rfl, rfl, rfl⟩
instance fi64_0 : FieldC Tryz.prog 64 0 0 := ⟨_, _, _, Tryz.underlying64, rfl, rfl, Tryz.type3, by decide⟩
instance fi64_1 : FieldC Tryz.prog 64 1 1 := ⟨_, _, _, Tryz.underlying64, rfl, rfl, Tryz.type3, by decide⟩
instance fi64_2 : FieldC Tryz.prog 64 2 2 := ⟨_, _, _, Tryz.underlying64, rfl, rfl, Tryz.type3, by decide⟩
instance fi64_3 : FieldC Tryz.prog 64 3 3 := ⟨_, _, _, Tryz.underlying64, rfl, rfl, Tryz.type3, by decide⟩
instance ty65 : TyC Tryz.prog 65 ⟨Go.TypeDesc.tuple #[59, 31], 1, (Go.Value.tuple #[Go.Value.int Go.IntKind.i64 0, Go.Value.int Go.IntKind.i64 0]), 0⟩ := ⟨Tryz.underlying65, Tryz.t65, Tryz.type65, rfl, rfl, rfl⟩
instance ty69 : TyC Tryz.prog 69 ⟨Go.TypeDesc.slice 111, 1, (Go.Value.slice none 0 0), 24⟩ := ⟨Tryz.underlying69, Tryz.t69, Tryz.type69, rfl, rfl, rfl⟩
instance ty70 : TyC Tryz.prog 70 ⟨Go.TypeDesc.map 111 59, 1, (Go.Value.map none), 8⟩ := ⟨Tryz.underlying70, Tryz.t70, Tryz.type70, rfl, rfl, rfl⟩
instance ty72 : TyC Tryz.prog 72 ⟨Tryz.t71.desc, 3, (Go.Value.agg #[Go.Value.slice none 0 0, Go.Value.slice none 0 0, Go.Value.map none]), 56⟩ := ⟨Tryz.underlying72, Tryz.t72, Tryz.type72, rfl, rfl, rfl⟩
instance fi72_0 : FieldC Tryz.prog 72 0 0 := ⟨_, _, _, Tryz.underlying72, rfl, rfl, Tryz.type69, by decide⟩
instance fi72_1 : FieldC Tryz.prog 72 1 1 := ⟨_, _, _, Tryz.underlying72, rfl, rfl, Tryz.type34, by decide⟩
instance fi72_2 : FieldC Tryz.prog 72 2 2 := ⟨_, _, _, Tryz.underlying72, rfl, rfl, Tryz.type70, by decide⟩
instance ty73 : TyC Tryz.prog 73 ⟨Go.TypeDesc.map 78 4, 1, (Go.Value.map none), 8⟩ := ⟨Tryz.underlying73, Tryz.t73, Tryz.type73, rfl, rfl, rfl⟩
instance ty75 : TyC Tryz.prog 75 ⟨Go.TypeDesc.tuple #[59, 59, 4], 1, (Go.Value.tuple #[Go.Value.int Go.IntKind.i64 0, Go.Value.int Go.IntKind.i64 0, Go.Value.bool false]), 0⟩ := ⟨Tryz.underlying75, Tryz.t75, Tryz.type75, rfl, rfl, rfl⟩
instance ty78 : TyC Tryz.prog 78 ⟨Tryz.t77.desc, 2, (Go.Value.agg #[Go.Value.int Go.IntKind.i64 0, Go.Value.bool false]), 16⟩ := ⟨Tryz.underlying78, Tryz.t78, Tryz.type78, rfl, rfl, rfl⟩
instance fi78_0 : FieldC Tryz.prog 78 0 0 := ⟨_, _, _, Tryz.underlying78, rfl, rfl, Tryz.type3, by decide⟩
instance fi78_1 : FieldC Tryz.prog 78 1 1 := ⟨_, _, _, Tryz.underlying78, rfl, rfl, Tryz.type4, by decide⟩
instance ty79 : TyC Tryz.prog 79 ⟨Go.TypeDesc.slice 3, 1, (Go.Value.slice none 0 0), 24⟩ := ⟨Tryz.underlying79, Tryz.t79, Tryz.type79, rfl, rfl, rfl⟩
instance ty85 : TyC Tryz.prog 85 ⟨Go.TypeDesc.pointer 88, 1, (Go.Value.pointer none), 8⟩ := ⟨Tryz.underlying85, Tryz.t85, Tryz.type85, rfl, rfl, rfl⟩
instance ty86 : TyC Tryz.prog 86 ⟨Go.TypeDesc.slice 5, 1, (Go.Value.slice none 0 0), 24⟩ := ⟨Tryz.underlying86, Tryz.t86, Tryz.type86, rfl, rfl, rfl⟩
instance ty88 : TyC Tryz.prog 88 ⟨Tryz.t87.desc, 2, (Go.Value.agg #[Go.Value.pointer none, Go.Value.slice none 0 0]), 32⟩ := ⟨Tryz.underlying88, Tryz.t88, Tryz.type88, rfl, rfl, rfl⟩
instance fi88_0 : FieldC Tryz.prog 88 0 0 := ⟨_, _, _, Tryz.underlying88, rfl, rfl, Tryz.type85, by decide⟩
instance fi88_1 : FieldC Tryz.prog 88 1 1 := ⟨_, _, _, Tryz.underlying88, rfl, rfl, Tryz.type86, by decide⟩
instance ty90 : TyC Tryz.prog 90 ⟨Tryz.t89.desc, 1, (Go.Value.nilIface), 16⟩ := ⟨Tryz.underlying90, Tryz.t90, Tryz.type90, rfl, rfl, rfl⟩
instance ty91 : TyC Tryz.prog 91 ⟨Go.TypeDesc.tuple #[3, 90], 1, (Go.Value.tuple #[Go.Value.int Go.IntKind.i64 0, Go.Value.nilIface]), 0⟩ := ⟨Tryz.underlying91, Tryz.t91, Tryz.type91, rfl, rfl, rfl⟩
instance ty95 : TyC Tryz.prog 95 ⟨Go.TypeDesc.pointer 97, 1, (Go.Value.pointer none), 8⟩ := ⟨Tryz.underlying95, Tryz.t95, Tryz.type95, rfl, rfl, rfl⟩
instance ty97 : TyC Tryz.prog 97 ⟨Tryz.t96.desc, 2, (Go.Value.agg #[Go.Value.string { data := #[] }, Go.Value.int Go.IntKind.i64 0]), 24⟩ := ⟨Tryz.underlying97, Tryz.t97, Tryz.type97, rfl, rfl, rfl⟩
instance fi97_0 : FieldC Tryz.prog 97 0 0 := ⟨_, _, _, Tryz.underlying97, rfl, rfl, Tryz.type9, by decide⟩
instance fi97_1 : FieldC Tryz.prog 97 1 1 := ⟨_, _, _, Tryz.underlying97, rfl, rfl, Tryz.type3, by decide⟩
instance ty98 : TyC Tryz.prog 98 ⟨Go.TypeDesc.tuple #[3, 3, 31], 1, (Go.Value.tuple #[Go.Value.int Go.IntKind.i64 0, Go.Value.int Go.IntKind.i64 0, Go.Value.int Go.IntKind.i64 0]), 0⟩ := ⟨Tryz.underlying98, Tryz.t98, Tryz.type98, rfl, rfl, rfl⟩
instance ty100 : TyC Tryz.prog 100 ⟨Go.TypeDesc.tuple #[79, 31], 1, (Go.Value.tuple #[Go.Value.slice none 0 0, Go.Value.int Go.IntKind.i64 0]), 0⟩ := ⟨Tryz.underlying100, Tryz.t100, Tryz.type100, rfl, rfl, rfl⟩
instance ty102 : TyC Tryz.prog 102 ⟨Go.TypeDesc.slice 9, 1, (Go.Value.slice none 0 0), 24⟩ := ⟨Tryz.underlying102, Tryz.t102, Tryz.type102, rfl, rfl, rfl⟩
instance ty104 : TyC Tryz.prog 104 ⟨Go.TypeDesc.tuple #[3, 3, 4], 1, (Go.Value.tuple #[Go.Value.int Go.IntKind.i64 0, Go.Value.int Go.IntKind.i64 0, Go.Value.bool false]), 0⟩ := ⟨Tryz.underlying104, Tryz.t104, Tryz.type104, rfl, rfl, rfl⟩
instance ty106 : TyC Tryz.prog 106 ⟨Go.TypeDesc.tuple #[79, 4], 1, (Go.Value.tuple #[Go.Value.slice none 0 0, Go.Value.bool false]), 0⟩ := ⟨Tryz.underlying106, Tryz.t106, Tryz.type106, rfl, rfl, rfl⟩
instance ty109 : TyC Tryz.prog 109 ⟨Go.TypeDesc.func #[59] #[4] false, 1, (Go.Value.nilFunc), 8⟩ := ⟨Tryz.underlying109, Tryz.t109, Tryz.type109, rfl, rfl, rfl⟩
instance ty111 : TyC Tryz.prog 111 ⟨Tryz.t110.desc, 2, (Go.Value.agg #[Go.Value.int Go.IntKind.i64 0, Go.Value.int Go.IntKind.i64 0]), 16⟩ := ⟨Tryz.underlying111, Tryz.t111, Tryz.type111, rfl, rfl, rfl⟩
instance fi111_0 : FieldC Tryz.prog 111 0 0 := ⟨_, _, _, Tryz.underlying111, rfl, rfl, Tryz.type59, by decide⟩
instance fi111_1 : FieldC Tryz.prog 111 1 1 := ⟨_, _, _, Tryz.underlying111, rfl, rfl, Tryz.type59, by decide⟩
instance ty112 : TyC Tryz.prog 112 ⟨Go.TypeDesc.func #[3] #[4] false, 1, (Go.Value.nilFunc), 8⟩ := ⟨Tryz.underlying112, Tryz.t112, Tryz.type112, rfl, rfl, rfl⟩
instance ty115 : TyC Tryz.prog 115 ⟨Go.TypeDesc.func #[79] #[4] false, 1, (Go.Value.nilFunc), 8⟩ := ⟨Tryz.underlying115, Tryz.t115, Tryz.type115, rfl, rfl, rfl⟩
instance ty120 : TyC Tryz.prog 120 ⟨Go.TypeDesc.func #[59] #[] false, 1, (Go.Value.nilFunc), 8⟩ := ⟨Tryz.underlying120, Tryz.t120, Tryz.type120, rfl, rfl, rfl⟩
instance ty121 : TyC Tryz.prog 121 ⟨Go.TypeDesc.slice 78, 1, (Go.Value.slice none 0 0), 24⟩ := ⟨Tryz.underlying121, Tryz.t121, Tryz.type121, rfl, rfl, rfl⟩
instance ty122 : TyC Tryz.prog 122 ⟨Go.TypeDesc.pointer 5, 1, (Go.Value.pointer none), 8⟩ := ⟨Tryz.underlying122, Tryz.t122, Tryz.type122, rfl, rfl, rfl⟩
instance ty123 : TyC Tryz.prog 123 ⟨Go.TypeDesc.tuple #[9, 4], 1, (Go.Value.tuple #[Go.Value.string { data := #[] }, Go.Value.bool false]), 0⟩ := ⟨Tryz.underlying123, Tryz.t123, Tryz.type123, rfl, rfl, rfl⟩
instance ty126 : TyC Tryz.prog 126 ⟨Go.TypeDesc.tuple #[3, 4], 1, (Go.Value.tuple #[Go.Value.int Go.IntKind.i64 0, Go.Value.bool false]), 0⟩ := ⟨Tryz.underlying126, Tryz.t126, Tryz.type126, rfl, rfl, rfl⟩
instance ty131 : TyC Tryz.prog 131 ⟨Go.TypeDesc.tuple #[59, 4], 1, (Go.Value.tuple #[Go.Value.int Go.IntKind.i64 0, Go.Value.bool false]), 0⟩ := ⟨Tryz.underlying131, Tryz.t131, Tryz.type131, rfl, rfl, rfl⟩
instance ty133 : TyC Tryz.prog 133 ⟨Go.TypeDesc.unsafePointer, 1, (Go.Value.pointer none), 8⟩ := ⟨Tryz.underlying133, Tryz.t133, Tryz.type133, rfl, rfl, rfl⟩
instance ty136 : TyC Tryz.prog 136 ⟨Go.TypeDesc.tuple #[9, 9, 4], 1, (Go.Value.tuple #[Go.Value.string { data := #[] }, Go.Value.string { data := #[] }, Go.Value.bool false]), 0⟩ := ⟨Tryz.underlying136, Tryz.t136, Tryz.type136, rfl, rfl, rfl⟩
instance ty153 : TyC Tryz.prog 153 ⟨Go.TypeDesc.int Go.IntKind.u64, 1, (Go.Value.int Go.IntKind.u64 0), 8⟩ := ⟨Tryz.underlying153, Tryz.t153, Tryz.type153, rfl, rfl, rfl⟩
instance ty156 : TyC Tryz.prog 156 ⟨Go.TypeDesc.tuple #[21, 3], 1, (Go.Value.tuple #[Go.Value.int Go.IntKind.i32 0, Go.Value.int Go.IntKind.i64 0]), 0⟩ := ⟨Tryz.underlying156, Tryz.t156, Tryz.type156, rfl, rfl, rfl⟩
instance ty178 : TyC Tryz.prog 178 ⟨Tryz.t177.desc, 2, (Go.Value.agg #[Go.Value.int Go.IntKind.u8 0, Go.Value.int Go.IntKind.u8 0]), 2⟩ := ⟨Tryz.underlying178, Tryz.t178, Tryz.type178, rfl, rfl, rfl⟩
instance fi178_0 : FieldC Tryz.prog 178 0 0 := ⟨_, _, _, Tryz.underlying178, rfl, rfl, Tryz.type5, by decide⟩
instance fi178_1 : FieldC Tryz.prog 178 1 1 := ⟨_, _, _, Tryz.underlying178, rfl, rfl, Tryz.type5, by decide⟩
instance ty179 : TyC Tryz.prog 179 ⟨Go.TypeDesc.array 16 178, 32, (Go.Value.agg #[Go.Value.int Go.IntKind.u8 0, Go.Value.int Go.IntKind.u8 0, Go.Value.int Go.IntKind.u8 0, Go.Value.int Go.IntKind.u8 0, Go.Value.int Go.IntKind.u8 0, Go.Value.int Go.IntKind.u8 0, Go.Value.int Go.IntKind.u8 0, Go.Value.int Go.IntKind.u8 0, Go.Value.int Go.IntKind.u8 0, Go.Value.int Go.IntKind.u8 0, Go.Value.int Go.IntKind.u8 0, Go.Value.int Go.IntKind.u8 0, Go.Value.int Go.IntKind.u8 0, Go.Value.int Go.IntKind.u8 0, Go.Value.int Go.IntKind.u8 0, Go.Value.int Go.IntKind.u8 0, Go.Value.int Go.IntKind.u8 0, Go.Value.int Go.IntKind.u8 0, Go.Value.int Go.IntKind.u8 0, Go.Value.int Go.IntKind.u8 0, Go.Value.int Go.IntKind.u8 0, Go.Value.int Go.IntKind.u8 0, Go.Value.int Go.IntKind.u8 0, Go.Value.int Go.IntKind.u8 0, Go.Value.int Go.IntKind.u8 0, Go.Value.int Go.IntKind.u8 0, Go.Value.int Go.IntKind.u8 0, Go.Value.int Go.IntKind.u8 0, Go.Value.int Go.IntKind.u8 0, Go.Value.int Go.IntKind.u8 0, Go.Value.int Go.IntKind.u8 0, Go.Value.int Go.IntKind.u8 0]), 32⟩ := ⟨Tryz.underlying179, Tryz.t179, Tryz.type179, rfl, rfl, rfl⟩
instance sl22 : SlC Tryz.prog 22 64 ⟨Tryz.t63.desc, 4, (Go.Value.agg #[Go.Value.int Go.IntKind.i64 0, Go.Value.int Go.IntKind.i64 0, Go.Value.int Go.IntKind.i64 0, Go.Value.int Go.IntKind.i64 0]), 32⟩ := ⟨⟨_, ty22, rfl⟩, ty64⟩
instance sl23 : SlC Tryz.prog 23 3 ⟨Go.TypeDesc.int Go.IntKind.i64, 1, (Go.Value.int Go.IntKind.i64 0), 8⟩ := ⟨⟨_, ty23, rfl⟩, ty3⟩
instance sl28 : SlC Tryz.prog 28 79 ⟨Go.TypeDesc.slice 3, 1, (Go.Value.slice none 0 0), 24⟩ := ⟨⟨_, ty28, rfl⟩, ty79⟩
instance sl34 : SlC Tryz.prog 34 59 ⟨Go.TypeDesc.int Go.IntKind.i64, 1, (Go.Value.int Go.IntKind.i64 0), 8⟩ := ⟨⟨_, ty34, rfl⟩, ty59⟩
instance sl37 : SlC Tryz.prog 37 4 ⟨Go.TypeDesc.bool, 1, (Go.Value.bool false), 1⟩ := ⟨⟨_, ty37, rfl⟩, ty4⟩
instance sl69 : SlC Tryz.prog 69 111 ⟨Tryz.t110.desc, 2, (Go.Value.agg #[Go.Value.int Go.IntKind.i64 0, Go.Value.int Go.IntKind.i64 0]), 16⟩ := ⟨⟨_, ty69, rfl⟩, ty111⟩
instance mp70 : MapC Tryz.prog 70 111 59 ⟨Go.TypeDesc.int Go.IntKind.i64, 1, (Go.Value.int Go.IntKind.i64 0), 8⟩ := ⟨⟨_, ty70, rfl⟩, ty59⟩
instance mp73 : MapC Tryz.prog 73 78 4 ⟨Go.TypeDesc.bool, 1, (Go.Value.bool false), 1⟩ := ⟨⟨_, ty73, rfl⟩, ty4⟩
instance sl79 : SlC Tryz.prog 79 3 ⟨Go.TypeDesc.int Go.IntKind.i64, 1, (Go.Value.int Go.IntKind.i64 0), 8⟩ := ⟨⟨_, ty79, rfl⟩, ty3⟩
instance sl86 : SlC Tryz.prog 86 5 ⟨Go.TypeDesc.int Go.IntKind.u8, 1, (Go.Value.int Go.IntKind.u8 0), 1⟩ := ⟨⟨_, ty86, rfl⟩, ty5⟩
instance sl102 : SlC Tryz.prog 102 9 ⟨Go.TypeDesc.string, 1, (Go.Value.string { data := #[] }), 16⟩ := ⟨⟨_, ty102, rfl⟩, ty9⟩
instance sl121 : SlC Tryz.prog 121 78 ⟨Tryz.t77.desc, 2, (Go.Value.agg #[Go.Value.int Go.IntKind.i64 0, Go.Value.bool false]), 16⟩ := ⟨⟨_, ty121, rfl⟩, ty78⟩
instance bu30 : BuildC Tryz.prog 30 [(0, 1), (1, 1)] := BuildC.mk' Tryz.underlying30 (by kernel_rfl)
instance bu39 : BuildC Tryz.prog 39 [(0, 1), (1, 1), (2, 1)] := BuildC.mk' Tryz.underlying39 (by kernel_rfl)
instance bu64 : BuildC Tryz.prog 64 [(0, 1), (1, 1), (2, 1), (3, 1)] := BuildC.mk' Tryz.underlying64 (by kernel_rfl)
instance bu72 : BuildC Tryz.prog 72 [(0, 1), (1, 1), (2, 1)] := BuildC.mk' Tryz.underlying72 (by kernel_rfl)
instance bu78 : BuildC Tryz.prog 78 [(0, 1), (1, 1)] := BuildC.mk' Tryz.underlying78 (by kernel_rfl)
instance bu88 : BuildC Tryz.prog 88 [(0, 1), (1, 1)] := BuildC.mk' Tryz.underlying88 (by kernel_rfl)
instance bu97 : BuildC Tryz.prog 97 [(0, 1), (1, 1)] := BuildC.mk' Tryz.underlying97 (by kernel_rfl)
instance bu111 : BuildC Tryz.prog 111 [(0, 1), (1, 1)] := BuildC.mk' Tryz.underlying111 (by kernel_rfl)
instance bu178 : BuildC Tryz.prog 178 [(0, 1), (1, 1)] := BuildC.mk' Tryz.underlying178 (by kernel_rfl)
end Go.Proofs.YtopgbgnmjogeeaaGreatDoor
