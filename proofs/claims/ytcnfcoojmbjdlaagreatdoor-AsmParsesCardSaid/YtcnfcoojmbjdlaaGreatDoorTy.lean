/- Printed by an own tool: the types of this translation, as instances. Conditions: none. -/
import Derived.Test.YtcnfcoojmbjdlaaGreatDoorZf
import Derived.Test.YtcnfcoojmbjdlaaGreatDoorProg
namespace Go.Proofs.YtcnfcoojmbjdlaaGreatDoor
set_option linter.unusedVariables false
set_option linter.unusedSimpArgs false
set_option linter.unusedSectionVars false
set_option maxRecDepth 100000
open Go Go.Z

instance ty0 : TyC Tryz.prog 0 ⟨Go.TypeDesc.tuple #[], 1, (Go.Value.tuple #[]), 0⟩ := ⟨Tryz.underlying0, Tryz.t0, Tryz.type0, rfl, rfl, rfl⟩
instance ty2 : TyC Tryz.prog 2 ⟨Go.TypeDesc.int Go.IntKind.i64, 1, (Go.Value.int Go.IntKind.i64 0), 8⟩ := ⟨Tryz.underlying2, Tryz.t2, Tryz.type2, rfl, rfl, rfl⟩
instance ty3 : TyC Tryz.prog 3 ⟨Go.TypeDesc.int Go.IntKind.i64, 1, (Go.Value.int Go.IntKind.i64 0), 8⟩ := ⟨Tryz.underlying3, Tryz.t3, Tryz.type3, rfl, rfl, rfl⟩
instance ty4 : TyC Tryz.prog 4 ⟨Go.TypeDesc.bool, 1, (Go.Value.bool false), 1⟩ := ⟨Tryz.underlying4, Tryz.t4, Tryz.type4, rfl, rfl, rfl⟩
instance ty5 : TyC Tryz.prog 5 ⟨Go.TypeDesc.int Go.IntKind.u8, 1, (Go.Value.int Go.IntKind.u8 0), 1⟩ := ⟨Tryz.underlying5, Tryz.t5, Tryz.type5, rfl, rfl, rfl⟩
instance ty9 : TyC Tryz.prog 9 ⟨Go.TypeDesc.string, 1, (Go.Value.string { data := #[] }), 16⟩ := ⟨Tryz.underlying9, Tryz.t9, Tryz.type9, rfl, rfl, rfl⟩
instance ty20 : TyC Tryz.prog 20 ⟨Go.TypeDesc.interface #[], 1, (Go.Value.nilIface), 16⟩ := ⟨Tryz.underlying20, Tryz.t20, Tryz.type20, rfl, rfl, rfl⟩
instance ty21 : TyC Tryz.prog 21 ⟨Go.TypeDesc.int Go.IntKind.i32, 1, (Go.Value.int Go.IntKind.i32 0), 4⟩ := ⟨Tryz.underlying21, Tryz.t21, Tryz.type21, rfl, rfl, rfl⟩
instance ty22 : TyC Tryz.prog 22 ⟨Go.TypeDesc.slice 3, 1, (Go.Value.slice none 0 0), 24⟩ := ⟨Tryz.underlying22, Tryz.t22, Tryz.type22, rfl, rfl, rfl⟩
instance ty23 : TyC Tryz.prog 23 ⟨Go.TypeDesc.slice 45, 1, (Go.Value.slice none 0 0), 24⟩ := ⟨Tryz.underlying23, Tryz.t23, Tryz.type23, rfl, rfl, rfl⟩
instance ty25 : TyC Tryz.prog 25 ⟨Tryz.t24.desc, 2, (Go.Value.agg #[Go.Value.slice none 0 0, Go.Value.slice none 0 0]), 48⟩ := ⟨Tryz.underlying25, Tryz.t25, Tryz.type25, rfl, rfl, rfl⟩
instance fi25_0 : FieldC Tryz.prog 25 0 0 := ⟨_, _, _, Tryz.underlying25, rfl, rfl, Tryz.type22, by decide⟩
instance fi25_1 : FieldC Tryz.prog 25 1 1 := ⟨_, _, _, Tryz.underlying25, rfl, rfl, Tryz.type23, by decide⟩
instance ty29 : TyC Tryz.prog 29 ⟨Go.TypeDesc.int Go.IntKind.i64, 1, (Go.Value.int Go.IntKind.i64 0), 8⟩ := ⟨Tryz.underlying29, Tryz.t29, Tryz.type29, rfl, rfl, rfl⟩
instance ty32 : TyC Tryz.prog 32 ⟨Tryz.t31.desc, 5, (Go.Value.agg #[Go.Value.int Go.IntKind.i64 0, Go.Value.int Go.IntKind.i64 0, Go.Value.int Go.IntKind.i64 0, Go.Value.int Go.IntKind.i64 0, Go.Value.int Go.IntKind.i64 0]), 40⟩ := ⟨Tryz.underlying32, Tryz.t32, Tryz.type32, rfl, rfl, rfl⟩
instance fi32_0 : FieldC Tryz.prog 32 0 0 := ⟨_, _, _, Tryz.underlying32, rfl, rfl, Tryz.type3, by decide⟩
instance fi32_1 : FieldC Tryz.prog 32 1 1 := ⟨_, _, _, Tryz.underlying32, rfl, rfl, Tryz.type3, by decide⟩
instance fi32_2 : FieldC Tryz.prog 32 2 2 := ⟨_, _, _, Tryz.underlying32, rfl, rfl, Tryz.type3, by decide⟩
instance fi32_3 : FieldC Tryz.prog 32 3 3 := ⟨_, _, _, Tryz.underlying32, rfl, rfl, Tryz.type3, by decide⟩
instance fi32_4 : FieldC Tryz.prog 32 4 4 := ⟨_, _, _, Tryz.underlying32, rfl, rfl, Tryz.type3, by decide⟩
instance ty36 : TyC Tryz.prog 36 ⟨Go.TypeDesc.tuple #[3, 29], 1, (Go.Value.tuple #[Go.Value.int Go.IntKind.i64 0, Go.Value.int Go.IntKind.i64 0]), 0⟩ := ⟨Tryz.underlying36, Tryz.t36, Tryz.type36, rfl, rfl, rfl⟩
instance ty38 : TyC Tryz.prog 38 ⟨Go.TypeDesc.tuple #[9, 29], 1, (Go.Value.tuple #[Go.Value.string { data := #[] }, Go.Value.int Go.IntKind.i64 0]), 0⟩ := ⟨Tryz.underlying38, Tryz.t38, Tryz.type38, rfl, rfl, rfl⟩
instance ty40 : TyC Tryz.prog 40 ⟨Go.TypeDesc.tuple #[25, 3, 29], 1, (Go.Value.tuple #[Go.Value.agg #[Go.Value.slice none 0 0, Go.Value.slice none 0 0], Go.Value.int Go.IntKind.i64 0, Go.Value.int Go.IntKind.i64 0]), 0⟩ := ⟨Tryz.underlying40, Tryz.t40, Tryz.type40, rfl, rfl, rfl⟩
instance ty43 : TyC Tryz.prog 43 ⟨Go.TypeDesc.slice 32, 1, (Go.Value.slice none 0 0), 24⟩ := ⟨Tryz.underlying43, Tryz.t43, Tryz.type43, rfl, rfl, rfl⟩
instance ty45 : TyC Tryz.prog 45 ⟨Tryz.t44.desc, 6, (Go.Value.agg #[Go.Value.string { data := #[] }, Go.Value.slice none 0 0, Go.Value.slice none 0 0, Go.Value.int Go.IntKind.i64 0, Go.Value.slice none 0 0, Go.Value.slice none 0 0]), 120⟩ := ⟨Tryz.underlying45, Tryz.t45, Tryz.type45, rfl, rfl, rfl⟩
instance fi45_0 : FieldC Tryz.prog 45 0 0 := ⟨_, _, _, Tryz.underlying45, rfl, rfl, Tryz.type9, by decide⟩
instance fi45_1 : FieldC Tryz.prog 45 1 1 := ⟨_, _, _, Tryz.underlying45, rfl, rfl, Tryz.type22, by decide⟩
instance fi45_2 : FieldC Tryz.prog 45 2 2 := ⟨_, _, _, Tryz.underlying45, rfl, rfl, Tryz.type22, by decide⟩
instance fi45_3 : FieldC Tryz.prog 45 3 3 := ⟨_, _, _, Tryz.underlying45, rfl, rfl, Tryz.type3, by decide⟩
instance fi45_4 : FieldC Tryz.prog 45 4 4 := ⟨_, _, _, Tryz.underlying45, rfl, rfl, Tryz.type22, by decide⟩
instance fi45_5 : FieldC Tryz.prog 45 5 5 := ⟨_, _, _, Tryz.underlying45, rfl, rfl, Tryz.type43, by decide⟩
instance ty49 : TyC Tryz.prog 49 ⟨Go.TypeDesc.func #[45, 45] #[4] false, 1, (Go.Value.nilFunc), 8⟩ := ⟨Tryz.underlying49, Tryz.t49, Tryz.type49, rfl, rfl, rfl⟩
instance ty51 : TyC Tryz.prog 51 ⟨Go.TypeDesc.func #[3] #[4] false, 1, (Go.Value.nilFunc), 8⟩ := ⟨Tryz.underlying51, Tryz.t51, Tryz.type51, rfl, rfl, rfl⟩
instance ty58 : TyC Tryz.prog 58 ⟨Go.TypeDesc.slice 5, 1, (Go.Value.slice none 0 0), 24⟩ := ⟨Tryz.underlying58, Tryz.t58, Tryz.type58, rfl, rfl, rfl⟩
instance ty60 : TyC Tryz.prog 60 ⟨Go.TypeDesc.array 4 3, 4, (Go.Value.agg #[Go.Value.int Go.IntKind.i64 0, Go.Value.int Go.IntKind.i64 0, Go.Value.int Go.IntKind.i64 0, Go.Value.int Go.IntKind.i64 0]), 32⟩ := ⟨Tryz.underlying60, Tryz.t60, Tryz.type60, rfl, rfl, rfl⟩
instance ty62 : TyC Tryz.prog 62 ⟨Tryz.t61.desc, 6, (Go.Value.agg #[Go.Value.string { data := #[] }, Go.Value.int Go.IntKind.i64 0, Go.Value.int Go.IntKind.i64 0, Go.Value.int Go.IntKind.i64 0, Go.Value.int Go.IntKind.i64 0, Go.Value.int Go.IntKind.i64 0]), 56⟩ := ⟨Tryz.underlying62, Tryz.t62, Tryz.type62, rfl, rfl, rfl⟩
instance fi62_0 : FieldC Tryz.prog 62 0 0 := ⟨_, _, _, Tryz.underlying62, rfl, rfl, Tryz.type9, by decide⟩
instance fi62_1 : FieldC Tryz.prog 62 1 1 := ⟨_, _, _, Tryz.underlying62, rfl, rfl, Tryz.type60, by decide⟩
instance fi62_2 : FieldC Tryz.prog 62 2 5 := ⟨_, _, _, Tryz.underlying62, rfl, rfl, Tryz.type3, by decide⟩
instance ty63 : TyC Tryz.prog 63 ⟨Go.TypeDesc.tuple #[62, 4], 1, (Go.Value.tuple #[Go.Value.agg #[Go.Value.string { data := #[] }, Go.Value.int Go.IntKind.i64 0, Go.Value.int Go.IntKind.i64 0, Go.Value.int Go.IntKind.i64 0, Go.Value.int Go.IntKind.i64 0, Go.Value.int Go.IntKind.i64 0], Go.Value.bool false]), 0⟩ := ⟨Tryz.underlying63, Tryz.t63, Tryz.type63, rfl, rfl, rfl⟩
instance ty69 : TyC Tryz.prog 69 ⟨Go.TypeDesc.pointer 73, 1, (Go.Value.pointer none), 8⟩ := ⟨Tryz.underlying69, Tryz.t69, Tryz.type69, rfl, rfl, rfl⟩
instance ty70 : TyC Tryz.prog 70 ⟨Go.TypeDesc.slice 9, 1, (Go.Value.slice none 0 0), 24⟩ := ⟨Tryz.underlying70, Tryz.t70, Tryz.type70, rfl, rfl, rfl⟩
instance ty73 : TyC Tryz.prog 73 ⟨Tryz.t72.desc, 3, (Go.Value.agg #[Go.Value.slice none 0 0, Go.Value.int Go.IntKind.i64 0, Go.Value.int Go.IntKind.i64 0]), 40⟩ := ⟨Tryz.underlying73, Tryz.t73, Tryz.type73, rfl, rfl, rfl⟩
instance fi73_0 : FieldC Tryz.prog 73 0 0 := ⟨_, _, _, Tryz.underlying73, rfl, rfl, Tryz.type70, by decide⟩
instance fi73_1 : FieldC Tryz.prog 73 1 1 := ⟨_, _, _, Tryz.underlying73, rfl, rfl, Tryz.type3, by decide⟩
instance fi73_2 : FieldC Tryz.prog 73 2 2 := ⟨_, _, _, Tryz.underlying73, rfl, rfl, Tryz.type29, by decide⟩
instance ty77 : TyC Tryz.prog 77 ⟨Tryz.t76.desc, 3, (Go.Value.agg #[Go.Value.slice none 0 0, Go.Value.slice none 0 0, Go.Value.int Go.IntKind.i64 0]), 56⟩ := ⟨Tryz.underlying77, Tryz.t77, Tryz.type77, rfl, rfl, rfl⟩
instance fi77_0 : FieldC Tryz.prog 77 0 0 := ⟨_, _, _, Tryz.underlying77, rfl, rfl, Tryz.type25, by decide⟩
instance fi77_1 : FieldC Tryz.prog 77 1 2 := ⟨_, _, _, Tryz.underlying77, rfl, rfl, Tryz.type3, by decide⟩
instance ty78 : TyC Tryz.prog 78 ⟨Go.TypeDesc.tuple #[70, 4], 1, (Go.Value.tuple #[Go.Value.slice none 0 0, Go.Value.bool false]), 0⟩ := ⟨Tryz.underlying78, Tryz.t78, Tryz.type78, rfl, rfl, rfl⟩
instance ty80 : TyC Tryz.prog 80 ⟨Go.TypeDesc.tuple #[77, 4], 1, (Go.Value.tuple #[Go.Value.agg #[Go.Value.slice none 0 0, Go.Value.slice none 0 0, Go.Value.int Go.IntKind.i64 0], Go.Value.bool false]), 0⟩ := ⟨Tryz.underlying80, Tryz.t80, Tryz.type80, rfl, rfl, rfl⟩
instance ty91 : TyC Tryz.prog 91 ⟨Go.TypeDesc.int Go.IntKind.u64, 1, (Go.Value.int Go.IntKind.u64 0), 8⟩ := ⟨Tryz.underlying91, Tryz.t91, Tryz.type91, rfl, rfl, rfl⟩
instance ty93 : TyC Tryz.prog 93 ⟨Go.TypeDesc.array 11 62, 66, (Go.Value.agg ([Go.Value.string { data := #[] }, Go.Value.int Go.IntKind.i64 0, Go.Value.int Go.IntKind.i64 0, Go.Value.int Go.IntKind.i64 0, Go.Value.int Go.IntKind.i64 0, Go.Value.int Go.IntKind.i64 0, Go.Value.string { data := #[] }, Go.Value.int Go.IntKind.i64 0, Go.Value.int Go.IntKind.i64 0, Go.Value.int Go.IntKind.i64 0, Go.Value.int Go.IntKind.i64 0, Go.Value.int Go.IntKind.i64 0, Go.Value.string { data := #[] }, Go.Value.int Go.IntKind.i64 0, Go.Value.int Go.IntKind.i64 0, Go.Value.int Go.IntKind.i64 0, Go.Value.int Go.IntKind.i64 0, Go.Value.int Go.IntKind.i64 0, Go.Value.string { data := #[] }, Go.Value.int Go.IntKind.i64 0, Go.Value.int Go.IntKind.i64 0, Go.Value.int Go.IntKind.i64 0, Go.Value.int Go.IntKind.i64 0, Go.Value.int Go.IntKind.i64 0, Go.Value.string { data := #[] }, Go.Value.int Go.IntKind.i64 0, Go.Value.int Go.IntKind.i64 0, Go.Value.int Go.IntKind.i64 0, Go.Value.int Go.IntKind.i64 0, Go.Value.int Go.IntKind.i64 0, Go.Value.string { data := #[] }, Go.Value.int Go.IntKind.i64 0, Go.Value.int Go.IntKind.i64 0].append [Go.Value.int Go.IntKind.i64 0, Go.Value.int Go.IntKind.i64 0, Go.Value.int Go.IntKind.i64 0, Go.Value.string { data := #[] }, Go.Value.int Go.IntKind.i64 0, Go.Value.int Go.IntKind.i64 0, Go.Value.int Go.IntKind.i64 0, Go.Value.int Go.IntKind.i64 0, Go.Value.int Go.IntKind.i64 0, Go.Value.string { data := #[] }, Go.Value.int Go.IntKind.i64 0, Go.Value.int Go.IntKind.i64 0, Go.Value.int Go.IntKind.i64 0, Go.Value.int Go.IntKind.i64 0, Go.Value.int Go.IntKind.i64 0, Go.Value.string { data := #[] }, Go.Value.int Go.IntKind.i64 0, Go.Value.int Go.IntKind.i64 0, Go.Value.int Go.IntKind.i64 0, Go.Value.int Go.IntKind.i64 0, Go.Value.int Go.IntKind.i64 0, Go.Value.string { data := #[] }, Go.Value.int Go.IntKind.i64 0, Go.Value.int Go.IntKind.i64 0, Go.Value.int Go.IntKind.i64 0, Go.Value.int Go.IntKind.i64 0, Go.Value.int Go.IntKind.i64 0, Go.Value.string { data := #[] }, Go.Value.int Go.IntKind.i64 0, Go.Value.int Go.IntKind.i64 0, Go.Value.int Go.IntKind.i64 0, Go.Value.int Go.IntKind.i64 0, Go.Value.int Go.IntKind.i64 0]).toArray), 616⟩ := ⟨Tryz.underlying93, Tryz.t93, Tryz.type93, rfl, rfl, rfl⟩
instance ty98 : TyC Tryz.prog 98 ⟨Go.TypeDesc.tuple #[32, 4], 1, (Go.Value.tuple #[Go.Value.agg #[Go.Value.int Go.IntKind.i64 0, Go.Value.int Go.IntKind.i64 0, Go.Value.int Go.IntKind.i64 0, Go.Value.int Go.IntKind.i64 0, Go.Value.int Go.IntKind.i64 0], Go.Value.bool false]), 0⟩ := ⟨Tryz.underlying98, Tryz.t98, Tryz.type98, rfl, rfl, rfl⟩
instance ty101 : TyC Tryz.prog 101 ⟨Go.TypeDesc.tuple #[22, 4], 1, (Go.Value.tuple #[Go.Value.slice none 0 0, Go.Value.bool false]), 0⟩ := ⟨Tryz.underlying101, Tryz.t101, Tryz.type101, rfl, rfl, rfl⟩
instance ty104 : TyC Tryz.prog 104 ⟨Go.TypeDesc.func #[21] #[4] false, 1, (Go.Value.nilFunc), 8⟩ := ⟨Tryz.underlying104, Tryz.t104, Tryz.type104, rfl, rfl, rfl⟩
instance ty105 : TyC Tryz.prog 105 ⟨Go.TypeDesc.slice 22, 1, (Go.Value.slice none 0 0), 24⟩ := ⟨Tryz.underlying105, Tryz.t105, Tryz.type105, rfl, rfl, rfl⟩
instance ty111 : TyC Tryz.prog 111 ⟨Go.TypeDesc.int Go.IntKind.i64, 1, (Go.Value.int Go.IntKind.i64 0), 8⟩ := ⟨Tryz.underlying111, Tryz.t111, Tryz.type111, rfl, rfl, rfl⟩
instance ty112 : TyC Tryz.prog 112 ⟨Go.TypeDesc.tuple #[3, 111], 1, (Go.Value.tuple #[Go.Value.int Go.IntKind.i64 0, Go.Value.int Go.IntKind.i64 0]), 0⟩ := ⟨Tryz.underlying112, Tryz.t112, Tryz.type112, rfl, rfl, rfl⟩
instance ty117 : TyC Tryz.prog 117 ⟨Go.TypeDesc.tuple #[3, 4], 1, (Go.Value.tuple #[Go.Value.int Go.IntKind.i64 0, Go.Value.bool false]), 0⟩ := ⟨Tryz.underlying117, Tryz.t117, Tryz.type117, rfl, rfl, rfl⟩
instance ty122 : TyC Tryz.prog 122 ⟨Go.TypeDesc.int Go.IntKind.u64, 1, (Go.Value.int Go.IntKind.u64 0), 8⟩ := ⟨Tryz.underlying122, Tryz.t122, Tryz.type122, rfl, rfl, rfl⟩
instance ty127 : TyC Tryz.prog 127 ⟨Tryz.t126.desc, 1, (Go.Value.nilIface), 16⟩ := ⟨Tryz.underlying127, Tryz.t127, Tryz.type127, rfl, rfl, rfl⟩
instance ty128 : TyC Tryz.prog 128 ⟨Go.TypeDesc.tuple #[3, 127], 1, (Go.Value.tuple #[Go.Value.int Go.IntKind.i64 0, Go.Value.nilIface]), 0⟩ := ⟨Tryz.underlying128, Tryz.t128, Tryz.type128, rfl, rfl, rfl⟩
instance ty131 : TyC Tryz.prog 131 ⟨Go.TypeDesc.slice 62, 1, (Go.Value.slice none 0 0), 24⟩ := ⟨Tryz.underlying131, Tryz.t131, Tryz.type131, rfl, rfl, rfl⟩
instance ty132 : TyC Tryz.prog 132 ⟨Go.TypeDesc.func #[62] #[4] false, 1, (Go.Value.nilFunc), 8⟩ := ⟨Tryz.underlying132, Tryz.t132, Tryz.type132, rfl, rfl, rfl⟩
instance ty136 : TyC Tryz.prog 136 ⟨Go.TypeDesc.int Go.IntKind.u64, 1, (Go.Value.int Go.IntKind.u64 0), 8⟩ := ⟨Tryz.underlying136, Tryz.t136, Tryz.type136, rfl, rfl, rfl⟩
instance ty140 : TyC Tryz.prog 140 ⟨Go.TypeDesc.pointer 3, 1, (Go.Value.pointer none), 8⟩ := ⟨Tryz.underlying140, Tryz.t140, Tryz.type140, rfl, rfl, rfl⟩
instance ty143 : TyC Tryz.prog 143 ⟨Go.TypeDesc.tuple #[21, 3], 1, (Go.Value.tuple #[Go.Value.int Go.IntKind.i32 0, Go.Value.int Go.IntKind.i64 0]), 0⟩ := ⟨Tryz.underlying143, Tryz.t143, Tryz.type143, rfl, rfl, rfl⟩
instance ty149 : TyC Tryz.prog 149 ⟨Go.TypeDesc.pointer 136, 1, (Go.Value.pointer none), 8⟩ := ⟨Tryz.underlying149, Tryz.t149, Tryz.type149, rfl, rfl, rfl⟩
instance ty150 : TyC Tryz.prog 150 ⟨Go.TypeDesc.tuple #[3, 3], 1, (Go.Value.tuple #[Go.Value.int Go.IntKind.i64 0, Go.Value.int Go.IntKind.i64 0]), 0⟩ := ⟨Tryz.underlying150, Tryz.t150, Tryz.type150, rfl, rfl, rfl⟩
instance ty168 : TyC Tryz.prog 168 ⟨Tryz.t167.desc, 2, (Go.Value.agg #[Go.Value.int Go.IntKind.u8 0, Go.Value.int Go.IntKind.u8 0]), 2⟩ := ⟨Tryz.underlying168, Tryz.t168, Tryz.type168, rfl, rfl, rfl⟩
instance fi168_0 : FieldC Tryz.prog 168 0 0 := ⟨_, _, _, Tryz.underlying168, rfl, rfl, Tryz.type5, by decide⟩
instance fi168_1 : FieldC Tryz.prog 168 1 1 := ⟨_, _, _, Tryz.underlying168, rfl, rfl, Tryz.type5, by decide⟩
instance ty169 : TyC Tryz.prog 169 ⟨Go.TypeDesc.array 16 168, 32, (Go.Value.agg #[Go.Value.int Go.IntKind.u8 0, Go.Value.int Go.IntKind.u8 0, Go.Value.int Go.IntKind.u8 0, Go.Value.int Go.IntKind.u8 0, Go.Value.int Go.IntKind.u8 0, Go.Value.int Go.IntKind.u8 0, Go.Value.int Go.IntKind.u8 0, Go.Value.int Go.IntKind.u8 0, Go.Value.int Go.IntKind.u8 0, Go.Value.int Go.IntKind.u8 0, Go.Value.int Go.IntKind.u8 0, Go.Value.int Go.IntKind.u8 0, Go.Value.int Go.IntKind.u8 0, Go.Value.int Go.IntKind.u8 0, Go.Value.int Go.IntKind.u8 0, Go.Value.int Go.IntKind.u8 0, Go.Value.int Go.IntKind.u8 0, Go.Value.int Go.IntKind.u8 0, Go.Value.int Go.IntKind.u8 0, Go.Value.int Go.IntKind.u8 0, Go.Value.int Go.IntKind.u8 0, Go.Value.int Go.IntKind.u8 0, Go.Value.int Go.IntKind.u8 0, Go.Value.int Go.IntKind.u8 0, Go.Value.int Go.IntKind.u8 0, Go.Value.int Go.IntKind.u8 0, Go.Value.int Go.IntKind.u8 0, Go.Value.int Go.IntKind.u8 0, Go.Value.int Go.IntKind.u8 0, Go.Value.int Go.IntKind.u8 0, Go.Value.int Go.IntKind.u8 0, Go.Value.int Go.IntKind.u8 0]), 32⟩ := ⟨Tryz.underlying169, Tryz.t169, Tryz.type169, rfl, rfl, rfl⟩
instance sl22 : SlC Tryz.prog 22 3 ⟨Go.TypeDesc.int Go.IntKind.i64, 1, (Go.Value.int Go.IntKind.i64 0), 8⟩ := ⟨⟨_, ty22, rfl⟩, ty3⟩
instance sl23 : SlC Tryz.prog 23 45 ⟨Tryz.t44.desc, 6, (Go.Value.agg #[Go.Value.string { data := #[] }, Go.Value.slice none 0 0, Go.Value.slice none 0 0, Go.Value.int Go.IntKind.i64 0, Go.Value.slice none 0 0, Go.Value.slice none 0 0]), 120⟩ := ⟨⟨_, ty23, rfl⟩, ty45⟩
instance sl43 : SlC Tryz.prog 43 32 ⟨Tryz.t31.desc, 5, (Go.Value.agg #[Go.Value.int Go.IntKind.i64 0, Go.Value.int Go.IntKind.i64 0, Go.Value.int Go.IntKind.i64 0, Go.Value.int Go.IntKind.i64 0, Go.Value.int Go.IntKind.i64 0]), 40⟩ := ⟨⟨_, ty43, rfl⟩, ty32⟩
instance sl58 : SlC Tryz.prog 58 5 ⟨Go.TypeDesc.int Go.IntKind.u8, 1, (Go.Value.int Go.IntKind.u8 0), 1⟩ := ⟨⟨_, ty58, rfl⟩, ty5⟩
instance sl70 : SlC Tryz.prog 70 9 ⟨Go.TypeDesc.string, 1, (Go.Value.string { data := #[] }), 16⟩ := ⟨⟨_, ty70, rfl⟩, ty9⟩
instance sl105 : SlC Tryz.prog 105 22 ⟨Go.TypeDesc.slice 3, 1, (Go.Value.slice none 0 0), 24⟩ := ⟨⟨_, ty105, rfl⟩, ty22⟩
instance sl131 : SlC Tryz.prog 131 62 ⟨Tryz.t61.desc, 6, (Go.Value.agg #[Go.Value.string { data := #[] }, Go.Value.int Go.IntKind.i64 0, Go.Value.int Go.IntKind.i64 0, Go.Value.int Go.IntKind.i64 0, Go.Value.int Go.IntKind.i64 0, Go.Value.int Go.IntKind.i64 0]), 56⟩ := ⟨⟨_, ty131, rfl⟩, ty62⟩
instance bu25 : BuildC Tryz.prog 25 [(0, 1), (1, 1)] := BuildC.mk' Tryz.underlying25 (by kernel_rfl)
instance bu32 : BuildC Tryz.prog 32 [(0, 1), (1, 1), (2, 1), (3, 1), (4, 1)] := BuildC.mk' Tryz.underlying32 (by kernel_rfl)
instance bu45 : BuildC Tryz.prog 45 [(0, 1), (1, 1), (2, 1), (3, 1), (4, 1), (5, 1)] := BuildC.mk' Tryz.underlying45 (by kernel_rfl)
instance bu62 : BuildC Tryz.prog 62 [(0, 1), (1, 4), (5, 1)] := BuildC.mk' Tryz.underlying62 (by kernel_rfl)
instance bu73 : BuildC Tryz.prog 73 [(0, 1), (1, 1), (2, 1)] := BuildC.mk' Tryz.underlying73 (by kernel_rfl)
instance bu77 : BuildC Tryz.prog 77 [(0, 2), (2, 1)] := BuildC.mk' Tryz.underlying77 (by kernel_rfl)
instance bu168 : BuildC Tryz.prog 168 [(0, 1), (1, 1)] := BuildC.mk' Tryz.underlying168 (by kernel_rfl)
end Go.Proofs.YtcnfcoojmbjdlaaGreatDoor
