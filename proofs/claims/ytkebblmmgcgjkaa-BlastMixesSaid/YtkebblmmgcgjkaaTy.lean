/- Printed by an own tool: the types of this translation, as instances. Conditions: none. -/
import Derived.Test.YtkebblmmgcgjkaaZf
import Derived.Test.YtkebblmmgcgjkaaProg
namespace Go.Proofs.Ytkebblmmgcgjkaa
set_option linter.unusedVariables false
set_option linter.unusedSimpArgs false
set_option linter.unusedSectionVars false
set_option maxRecDepth 100000
open Go Go.Z

instance ty0 : TyC Try.prog 0 ⟨Go.TypeDesc.tuple #[], 1, (Go.Value.tuple #[]), 0⟩ := ⟨Try.underlying0, Try.t0, Try.type0, rfl, rfl, rfl⟩
instance ty3 : TyC Try.prog 3 ⟨Go.TypeDesc.int Go.IntKind.i64, 1, (Go.Value.int Go.IntKind.i64 0), 8⟩ := ⟨Try.underlying3, Try.t3, Try.type3, rfl, rfl, rfl⟩
instance ty4 : TyC Try.prog 4 ⟨Go.TypeDesc.bool, 1, (Go.Value.bool false), 1⟩ := ⟨Try.underlying4, Try.t4, Try.type4, rfl, rfl, rfl⟩
instance ty5 : TyC Try.prog 5 ⟨Go.TypeDesc.int Go.IntKind.u8, 1, (Go.Value.int Go.IntKind.u8 0), 1⟩ := ⟨Try.underlying5, Try.t5, Try.type5, rfl, rfl, rfl⟩
instance ty9 : TyC Try.prog 9 ⟨Go.TypeDesc.string, 1, (Go.Value.string { data := #[] }), 16⟩ := ⟨Try.underlying9, Try.t9, Try.type9, rfl, rfl, rfl⟩
instance ty20 : TyC Try.prog 20 ⟨Go.TypeDesc.interface #[], 1, (Go.Value.nilIface), 16⟩ := ⟨Try.underlying20, Try.t20, Try.type20, rfl, rfl, rfl⟩
instance ty22 : TyC Try.prog 22 ⟨Go.TypeDesc.slice 33, 1, (Go.Value.slice none 0 0), 24⟩ := ⟨Try.underlying22, Try.t22, Try.type22, rfl, rfl, rfl⟩
instance ty24 : TyC Try.prog 24 ⟨Go.TypeDesc.pointer 85, 1, (Go.Value.pointer none), 8⟩ := ⟨Try.underlying24, Try.t24, Try.type24, rfl, rfl, rfl⟩
instance ty26 : TyC Try.prog 26 ⟨Go.TypeDesc.slice 27, 1, (Go.Value.slice none 0 0), 24⟩ := ⟨Try.underlying26, Try.t26, Try.type26, rfl, rfl, rfl⟩
instance ty27 : TyC Try.prog 27 ⟨Go.TypeDesc.int Go.IntKind.i64, 1, (Go.Value.int Go.IntKind.i64 0), 8⟩ := ⟨Try.underlying27, Try.t27, Try.type27, rfl, rfl, rfl⟩
instance ty28 : TyC Try.prog 28 ⟨Go.TypeDesc.int Go.IntKind.i64, 1, (Go.Value.int Go.IntKind.i64 0), 8⟩ := ⟨Try.underlying28, Try.t28, Try.type28, rfl, rfl, rfl⟩
instance ty29 : TyC Try.prog 29 ⟨Go.TypeDesc.tuple #[27, 28], 1, (Go.Value.tuple #[Go.Value.int Go.IntKind.i64 0, Go.Value.int Go.IntKind.i64 0]), 0⟩ := ⟨Try.underlying29, Try.t29, Try.type29, rfl, rfl, rfl⟩
instance ty31 : TyC Try.prog 31 ⟨Go.TypeDesc.int Go.IntKind.u64, 1, (Go.Value.int Go.IntKind.u64 0), 8⟩ := ⟨Try.underlying31, Try.t31, Try.type31, rfl, rfl, rfl⟩
instance ty33 : TyC Try.prog 33 ⟨Try.t32.desc, 4, (Go.Value.agg #[Go.Value.int Go.IntKind.i64 0, Go.Value.int Go.IntKind.i64 0, Go.Value.bool false, Go.Value.bool false]), 24⟩ := ⟨Try.underlying33, Try.t33, Try.type33, rfl, rfl, rfl⟩
instance fi33_0 : FieldC Try.prog 33 0 0 := ⟨_, _, _, Try.underlying33, rfl, rfl, Try.type3, by decide⟩
instance fi33_1 : FieldC Try.prog 33 1 1 := ⟨_, _, _, Try.underlying33, rfl, rfl, Try.type3, by decide⟩
instance fi33_2 : FieldC Try.prog 33 2 2 := ⟨_, _, _, Try.underlying33, rfl, rfl, Try.type4, by decide⟩
instance fi33_3 : FieldC Try.prog 33 3 3 := ⟨_, _, _, Try.underlying33, rfl, rfl, Try.type4, by decide⟩
instance ty36 : TyC Try.prog 36 ⟨Go.TypeDesc.slice 81, 1, (Go.Value.slice none 0 0), 24⟩ := ⟨Try.underlying36, Try.t36, Try.type36, rfl, rfl, rfl⟩
instance ty38 : TyC Try.prog 38 ⟨Try.t37.desc, 2, (Go.Value.agg #[Go.Value.int Go.IntKind.i64 0, Go.Value.slice none 0 0]), 32⟩ := ⟨Try.underlying38, Try.t38, Try.type38, rfl, rfl, rfl⟩
instance fi38_0 : FieldC Try.prog 38 0 0 := ⟨_, _, _, Try.underlying38, rfl, rfl, Try.type3, by decide⟩
instance fi38_1 : FieldC Try.prog 38 1 1 := ⟨_, _, _, Try.underlying38, rfl, rfl, Try.type36, by decide⟩
instance ty39 : TyC Try.prog 39 ⟨Go.TypeDesc.tuple #[38, 28], 1, (Go.Value.tuple #[Go.Value.agg #[Go.Value.int Go.IntKind.i64 0, Go.Value.slice none 0 0], Go.Value.int Go.IntKind.i64 0]), 0⟩ := ⟨Try.underlying39, Try.t39, Try.type39, rfl, rfl, rfl⟩
instance ty41 : TyC Try.prog 41 ⟨Go.TypeDesc.slice 4, 1, (Go.Value.slice none 0 0), 24⟩ := ⟨Try.underlying41, Try.t41, Try.type41, rfl, rfl, rfl⟩
instance ty42 : TyC Try.prog 42 ⟨Go.TypeDesc.tuple #[3, 41, 28], 1, (Go.Value.tuple #[Go.Value.int Go.IntKind.i64 0, Go.Value.slice none 0 0, Go.Value.int Go.IntKind.i64 0]), 0⟩ := ⟨Try.underlying42, Try.t42, Try.type42, rfl, rfl, rfl⟩
instance ty44 : TyC Try.prog 44 ⟨Go.TypeDesc.tuple #[41, 28], 1, (Go.Value.tuple #[Go.Value.slice none 0 0, Go.Value.int Go.IntKind.i64 0]), 0⟩ := ⟨Try.underlying44, Try.t44, Try.type44, rfl, rfl, rfl⟩
instance ty48 : TyC Try.prog 48 ⟨Go.TypeDesc.slice 107, 1, (Go.Value.slice none 0 0), 24⟩ := ⟨Try.underlying48, Try.t48, Try.type48, rfl, rfl, rfl⟩
instance ty50 : TyC Try.prog 50 ⟨Go.TypeDesc.tuple #[26, 28], 1, (Go.Value.tuple #[Go.Value.slice none 0 0, Go.Value.int Go.IntKind.i64 0]), 0⟩ := ⟨Try.underlying50, Try.t50, Try.type50, rfl, rfl, rfl⟩
instance ty54 : TyC Try.prog 54 ⟨Go.TypeDesc.tuple #[3, 28], 1, (Go.Value.tuple #[Go.Value.int Go.IntKind.i64 0, Go.Value.int Go.IntKind.i64 0]), 0⟩ := ⟨Try.underlying54, Try.t54, Try.type54, rfl, rfl, rfl⟩
instance ty57 : TyC Try.prog 57 ⟨Go.TypeDesc.slice 41, 1, (Go.Value.slice none 0 0), 24⟩ := ⟨Try.underlying57, Try.t57, Try.type57, rfl, rfl, rfl⟩
instance ty58 : TyC Try.prog 58 ⟨Go.TypeDesc.tuple #[24, 26], 1, (Go.Value.tuple #[Go.Value.pointer none, Go.Value.slice none 0 0]), 0⟩ := ⟨Try.underlying58, Try.t58, Try.type58, rfl, rfl, rfl⟩
instance ty60 : TyC Try.prog 60 ⟨Go.TypeDesc.slice 26, 1, (Go.Value.slice none 0 0), 24⟩ := ⟨Try.underlying60, Try.t60, Try.type60, rfl, rfl, rfl⟩
instance ty66 : TyC Try.prog 66 ⟨Go.TypeDesc.slice 3, 1, (Go.Value.slice none 0 0), 24⟩ := ⟨Try.underlying66, Try.t66, Try.type66, rfl, rfl, rfl⟩
instance ty69 : TyC Try.prog 69 ⟨Go.TypeDesc.int Go.IntKind.u16, 1, (Go.Value.int Go.IntKind.u16 0), 2⟩ := ⟨Try.underlying69, Try.t69, Try.type69, rfl, rfl, rfl⟩
instance ty79 : TyC Try.prog 79 ⟨Go.TypeDesc.tuple #[66, 4, 28], 1, (Go.Value.tuple #[Go.Value.slice none 0 0, Go.Value.bool false, Go.Value.int Go.IntKind.i64 0]), 0⟩ := ⟨Try.underlying79, Try.t79, Try.type79, rfl, rfl, rfl⟩
instance ty81 : TyC Try.prog 81 ⟨Go.TypeDesc.slice 3, 1, (Go.Value.slice none 0 0), 24⟩ := ⟨Try.underlying81, Try.t81, Try.type81, rfl, rfl, rfl⟩
instance ty82 : TyC Try.prog 82 ⟨Go.TypeDesc.slice 88, 1, (Go.Value.slice none 0 0), 24⟩ := ⟨Try.underlying82, Try.t82, Try.type82, rfl, rfl, rfl⟩
instance ty83 : TyC Try.prog 83 ⟨Go.TypeDesc.map 88 27, 1, (Go.Value.map none), 8⟩ := ⟨Try.underlying83, Try.t83, Try.type83, rfl, rfl, rfl⟩
instance ty85 : TyC Try.prog 85 ⟨Try.t84.desc, 3, (Go.Value.agg #[Go.Value.slice none 0 0, Go.Value.slice none 0 0, Go.Value.map none]), 56⟩ := ⟨Try.underlying85, Try.t85, Try.type85, rfl, rfl, rfl⟩
instance fi85_0 : FieldC Try.prog 85 0 0 := ⟨_, _, _, Try.underlying85, rfl, rfl, Try.type82, by decide⟩
instance fi85_1 : FieldC Try.prog 85 1 1 := ⟨_, _, _, Try.underlying85, rfl, rfl, Try.type26, by decide⟩
instance fi85_2 : FieldC Try.prog 85 2 2 := ⟨_, _, _, Try.underlying85, rfl, rfl, Try.type83, by decide⟩
instance ty88 : TyC Try.prog 88 ⟨Try.t87.desc, 2, (Go.Value.agg #[Go.Value.int Go.IntKind.i64 0, Go.Value.int Go.IntKind.i64 0]), 16⟩ := ⟨Try.underlying88, Try.t88, Try.type88, rfl, rfl, rfl⟩
instance fi88_0 : FieldC Try.prog 88 0 0 := ⟨_, _, _, Try.underlying88, rfl, rfl, Try.type27, by decide⟩
instance fi88_1 : FieldC Try.prog 88 1 1 := ⟨_, _, _, Try.underlying88, rfl, rfl, Try.type27, by decide⟩
instance ty90 : TyC Try.prog 90 ⟨Go.TypeDesc.map 95 4, 1, (Go.Value.map none), 8⟩ := ⟨Try.underlying90, Try.t90, Try.type90, rfl, rfl, rfl⟩
instance ty92 : TyC Try.prog 92 ⟨Go.TypeDesc.tuple #[27, 27, 4], 1, (Go.Value.tuple #[Go.Value.int Go.IntKind.i64 0, Go.Value.int Go.IntKind.i64 0, Go.Value.bool false]), 0⟩ := ⟨Try.underlying92, Try.t92, Try.type92, rfl, rfl, rfl⟩
instance ty95 : TyC Try.prog 95 ⟨Try.t94.desc, 2, (Go.Value.agg #[Go.Value.int Go.IntKind.i64 0, Go.Value.bool false]), 16⟩ := ⟨Try.underlying95, Try.t95, Try.type95, rfl, rfl, rfl⟩
instance fi95_0 : FieldC Try.prog 95 0 0 := ⟨_, _, _, Try.underlying95, rfl, rfl, Try.type3, by decide⟩
instance fi95_1 : FieldC Try.prog 95 1 1 := ⟨_, _, _, Try.underlying95, rfl, rfl, Try.type4, by decide⟩
instance ty100 : TyC Try.prog 100 ⟨Go.TypeDesc.tuple #[3, 41], 1, (Go.Value.tuple #[Go.Value.int Go.IntKind.i64 0, Go.Value.slice none 0 0]), 0⟩ := ⟨Try.underlying100, Try.t100, Try.type100, rfl, rfl, rfl⟩
instance ty101 : TyC Try.prog 101 ⟨Go.TypeDesc.pointer 130, 1, (Go.Value.pointer none), 8⟩ := ⟨Try.underlying101, Try.t101, Try.type101, rfl, rfl, rfl⟩
instance ty104 : TyC Try.prog 104 ⟨Go.TypeDesc.func #[27] #[4] false, 1, (Go.Value.nilFunc), 8⟩ := ⟨Try.underlying104, Try.t104, Try.type104, rfl, rfl, rfl⟩
instance ty105 : TyC Try.prog 105 ⟨Go.TypeDesc.slice 9, 1, (Go.Value.slice none 0 0), 24⟩ := ⟨Try.underlying105, Try.t105, Try.type105, rfl, rfl, rfl⟩
instance ty107 : TyC Try.prog 107 ⟨Try.t106.desc, 2, (Go.Value.agg #[Go.Value.string { data := #[] }, Go.Value.slice none 0 0]), 40⟩ := ⟨Try.underlying107, Try.t107, Try.type107, rfl, rfl, rfl⟩
instance fi107_0 : FieldC Try.prog 107 0 0 := ⟨_, _, _, Try.underlying107, rfl, rfl, Try.type9, by decide⟩
instance fi107_1 : FieldC Try.prog 107 1 1 := ⟨_, _, _, Try.underlying107, rfl, rfl, Try.type105, by decide⟩
instance ty116 : TyC Try.prog 116 ⟨Go.TypeDesc.pointer 146, 1, (Go.Value.pointer none), 8⟩ := ⟨Try.underlying116, Try.t116, Try.type116, rfl, rfl, rfl⟩
instance ty118 : TyC Try.prog 118 ⟨Go.TypeDesc.func #[116] #[26] false, 1, (Go.Value.nilFunc), 8⟩ := ⟨Try.underlying118, Try.t118, Try.type118, rfl, rfl, rfl⟩
instance ty121 : TyC Try.prog 121 ⟨Go.TypeDesc.tuple #[3, 3], 1, (Go.Value.tuple #[Go.Value.int Go.IntKind.i64 0, Go.Value.int Go.IntKind.i64 0]), 0⟩ := ⟨Try.underlying121, Try.t121, Try.type121, rfl, rfl, rfl⟩
instance ty128 : TyC Try.prog 128 ⟨Go.TypeDesc.slice 66, 1, (Go.Value.slice none 0 0), 24⟩ := ⟨Try.underlying128, Try.t128, Try.type128, rfl, rfl, rfl⟩
instance ty130 : TyC Try.prog 130 ⟨Try.t129.desc, 8, (Go.Value.agg #[Go.Value.int Go.IntKind.i64 0, Go.Value.slice none 0 0, Go.Value.slice none 0 0, Go.Value.slice none 0 0, Go.Value.slice none 0 0, Go.Value.slice none 0 0, Go.Value.int Go.IntKind.i64 0, Go.Value.int Go.IntKind.i64 0]), 144⟩ := ⟨Try.underlying130, Try.t130, Try.type130, rfl, rfl, rfl⟩
instance fi130_0 : FieldC Try.prog 130 0 0 := ⟨_, _, _, Try.underlying130, rfl, rfl, Try.type38, by decide⟩
instance fi130_1 : FieldC Try.prog 130 1 2 := ⟨_, _, _, Try.underlying130, rfl, rfl, Try.type66, by decide⟩
instance fi130_2 : FieldC Try.prog 130 2 3 := ⟨_, _, _, Try.underlying130, rfl, rfl, Try.type66, by decide⟩
instance fi130_3 : FieldC Try.prog 130 3 4 := ⟨_, _, _, Try.underlying130, rfl, rfl, Try.type128, by decide⟩
instance fi130_4 : FieldC Try.prog 130 4 5 := ⟨_, _, _, Try.underlying130, rfl, rfl, Try.type66, by decide⟩
instance fi130_5 : FieldC Try.prog 130 5 6 := ⟨_, _, _, Try.underlying130, rfl, rfl, Try.type3, by decide⟩
instance fi130_6 : FieldC Try.prog 130 6 7 := ⟨_, _, _, Try.underlying130, rfl, rfl, Try.type3, by decide⟩
instance ty132 : TyC Try.prog 132 ⟨Go.TypeDesc.tuple #[27, 4], 1, (Go.Value.tuple #[Go.Value.int Go.IntKind.i64 0, Go.Value.bool false]), 0⟩ := ⟨Try.underlying132, Try.t132, Try.type132, rfl, rfl, rfl⟩
instance ty133 : TyC Try.prog 133 ⟨Go.TypeDesc.func #[27] #[] false, 1, (Go.Value.nilFunc), 8⟩ := ⟨Try.underlying133, Try.t133, Try.type133, rfl, rfl, rfl⟩
instance ty134 : TyC Try.prog 134 ⟨Go.TypeDesc.slice 95, 1, (Go.Value.slice none 0 0), 24⟩ := ⟨Try.underlying134, Try.t134, Try.type134, rfl, rfl, rfl⟩
instance ty136 : TyC Try.prog 136 ⟨Go.TypeDesc.slice 138, 1, (Go.Value.slice none 0 0), 24⟩ := ⟨Try.underlying136, Try.t136, Try.type136, rfl, rfl, rfl⟩
instance ty138 : TyC Try.prog 138 ⟨Try.t137.desc, 3, (Go.Value.agg #[Go.Value.int Go.IntKind.i64 0, Go.Value.int Go.IntKind.i64 0, Go.Value.bool false]), 24⟩ := ⟨Try.underlying138, Try.t138, Try.type138, rfl, rfl, rfl⟩
instance fi138_0 : FieldC Try.prog 138 0 0 := ⟨_, _, _, Try.underlying138, rfl, rfl, Try.type3, by decide⟩
instance fi138_1 : FieldC Try.prog 138 1 1 := ⟨_, _, _, Try.underlying138, rfl, rfl, Try.type3, by decide⟩
instance fi138_2 : FieldC Try.prog 138 2 2 := ⟨_, _, _, Try.underlying138, rfl, rfl, Try.type4, by decide⟩
instance ty141 : TyC Try.prog 141 ⟨Go.TypeDesc.tuple #[107, 4], 1, (Go.Value.tuple #[Go.Value.agg #[Go.Value.string { data := #[] }, Go.Value.slice none 0 0], Go.Value.bool false]), 0⟩ := ⟨Try.underlying141, Try.t141, Try.type141, rfl, rfl, rfl⟩
instance ty146 : TyC Try.prog 146 ⟨Try.t145.desc, 2, (Go.Value.agg #[Go.Value.pointer none, Go.Value.int Go.IntKind.i64 0]), 16⟩ := ⟨Try.underlying146, Try.t146, Try.type146, rfl, rfl, rfl⟩
instance fi146_0 : FieldC Try.prog 146 0 0 := ⟨_, _, _, Try.underlying146, rfl, rfl, Try.type24, by decide⟩
instance fi146_1 : FieldC Try.prog 146 1 1 := ⟨_, _, _, Try.underlying146, rfl, rfl, Try.type28, by decide⟩
instance ty150 : TyC Try.prog 150 ⟨Go.TypeDesc.tuple #[26, 27], 1, (Go.Value.tuple #[Go.Value.slice none 0 0, Go.Value.int Go.IntKind.i64 0]), 0⟩ := ⟨Try.underlying150, Try.t150, Try.type150, rfl, rfl, rfl⟩
instance ty153 : TyC Try.prog 153 ⟨Go.TypeDesc.tuple #[26, 26], 1, (Go.Value.tuple #[Go.Value.slice none 0 0, Go.Value.slice none 0 0]), 0⟩ := ⟨Try.underlying153, Try.t153, Try.type153, rfl, rfl, rfl⟩
instance ty162 : TyC Try.prog 162 ⟨Go.TypeDesc.tuple #[3, 4], 1, (Go.Value.tuple #[Go.Value.int Go.IntKind.i64 0, Go.Value.bool false]), 0⟩ := ⟨Try.underlying162, Try.t162, Try.type162, rfl, rfl, rfl⟩
instance ty166 : TyC Try.prog 166 ⟨Go.TypeDesc.int Go.IntKind.i16, 1, (Go.Value.int Go.IntKind.i16 0), 2⟩ := ⟨Try.underlying166, Try.t166, Try.type166, rfl, rfl, rfl⟩
instance sl22 : SlC Try.prog 22 33 ⟨Try.t32.desc, 4, (Go.Value.agg #[Go.Value.int Go.IntKind.i64 0, Go.Value.int Go.IntKind.i64 0, Go.Value.bool false, Go.Value.bool false]), 24⟩ := ⟨⟨_, ty22, rfl⟩, ty33⟩
instance sl26 : SlC Try.prog 26 27 ⟨Go.TypeDesc.int Go.IntKind.i64, 1, (Go.Value.int Go.IntKind.i64 0), 8⟩ := ⟨⟨_, ty26, rfl⟩, ty27⟩
instance sl36 : SlC Try.prog 36 81 ⟨Go.TypeDesc.slice 3, 1, (Go.Value.slice none 0 0), 24⟩ := ⟨⟨_, ty36, rfl⟩, ty81⟩
instance sl41 : SlC Try.prog 41 4 ⟨Go.TypeDesc.bool, 1, (Go.Value.bool false), 1⟩ := ⟨⟨_, ty41, rfl⟩, ty4⟩
instance sl48 : SlC Try.prog 48 107 ⟨Try.t106.desc, 2, (Go.Value.agg #[Go.Value.string { data := #[] }, Go.Value.slice none 0 0]), 40⟩ := ⟨⟨_, ty48, rfl⟩, ty107⟩
instance sl57 : SlC Try.prog 57 41 ⟨Go.TypeDesc.slice 4, 1, (Go.Value.slice none 0 0), 24⟩ := ⟨⟨_, ty57, rfl⟩, ty41⟩
instance sl60 : SlC Try.prog 60 26 ⟨Go.TypeDesc.slice 27, 1, (Go.Value.slice none 0 0), 24⟩ := ⟨⟨_, ty60, rfl⟩, ty26⟩
instance sl66 : SlC Try.prog 66 3 ⟨Go.TypeDesc.int Go.IntKind.i64, 1, (Go.Value.int Go.IntKind.i64 0), 8⟩ := ⟨⟨_, ty66, rfl⟩, ty3⟩
instance sl81 : SlC Try.prog 81 3 ⟨Go.TypeDesc.int Go.IntKind.i64, 1, (Go.Value.int Go.IntKind.i64 0), 8⟩ := ⟨⟨_, ty81, rfl⟩, ty3⟩
instance sl82 : SlC Try.prog 82 88 ⟨Try.t87.desc, 2, (Go.Value.agg #[Go.Value.int Go.IntKind.i64 0, Go.Value.int Go.IntKind.i64 0]), 16⟩ := ⟨⟨_, ty82, rfl⟩, ty88⟩
instance mp83 : MapC Try.prog 83 88 27 ⟨Go.TypeDesc.int Go.IntKind.i64, 1, (Go.Value.int Go.IntKind.i64 0), 8⟩ := ⟨⟨_, ty83, rfl⟩, ty27⟩
instance mp90 : MapC Try.prog 90 95 4 ⟨Go.TypeDesc.bool, 1, (Go.Value.bool false), 1⟩ := ⟨⟨_, ty90, rfl⟩, ty4⟩
instance sl105 : SlC Try.prog 105 9 ⟨Go.TypeDesc.string, 1, (Go.Value.string { data := #[] }), 16⟩ := ⟨⟨_, ty105, rfl⟩, ty9⟩
instance sl128 : SlC Try.prog 128 66 ⟨Go.TypeDesc.slice 3, 1, (Go.Value.slice none 0 0), 24⟩ := ⟨⟨_, ty128, rfl⟩, ty66⟩
instance sl134 : SlC Try.prog 134 95 ⟨Try.t94.desc, 2, (Go.Value.agg #[Go.Value.int Go.IntKind.i64 0, Go.Value.bool false]), 16⟩ := ⟨⟨_, ty134, rfl⟩, ty95⟩
instance sl136 : SlC Try.prog 136 138 ⟨Try.t137.desc, 3, (Go.Value.agg #[Go.Value.int Go.IntKind.i64 0, Go.Value.int Go.IntKind.i64 0, Go.Value.bool false]), 24⟩ := ⟨⟨_, ty136, rfl⟩, ty138⟩
instance bu33 : BuildC Try.prog 33 [(0, 1), (1, 1), (2, 1), (3, 1)] := BuildC.mk' Try.underlying33 (by kernel_rfl)
instance bu38 : BuildC Try.prog 38 [(0, 1), (1, 1)] := BuildC.mk' Try.underlying38 (by kernel_rfl)
instance bu85 : BuildC Try.prog 85 [(0, 1), (1, 1), (2, 1)] := BuildC.mk' Try.underlying85 (by kernel_rfl)
instance bu88 : BuildC Try.prog 88 [(0, 1), (1, 1)] := BuildC.mk' Try.underlying88 (by kernel_rfl)
instance bu95 : BuildC Try.prog 95 [(0, 1), (1, 1)] := BuildC.mk' Try.underlying95 (by kernel_rfl)
instance bu107 : BuildC Try.prog 107 [(0, 1), (1, 1)] := BuildC.mk' Try.underlying107 (by kernel_rfl)
instance bu130 : BuildC Try.prog 130 [(0, 2), (2, 1), (3, 1), (4, 1), (5, 1), (6, 1), (7, 1)] := BuildC.mk' Try.underlying130 (by kernel_rfl)
instance bu138 : BuildC Try.prog 138 [(0, 1), (1, 1), (2, 1)] := BuildC.mk' Try.underlying138 (by kernel_rfl)
instance bu146 : BuildC Try.prog 146 [(0, 1), (1, 1)] := BuildC.mk' Try.underlying146 (by kernel_rfl)
end Go.Proofs.Ytkebblmmgcgjkaa
