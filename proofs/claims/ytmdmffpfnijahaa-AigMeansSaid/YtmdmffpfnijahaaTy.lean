/- Printed by an own tool: the types of this translation, as instances. Conditions: none. -/
import Derived.Test.YtmdmffpfnijahaaZf
import Derived.Test.YtmdmffpfnijahaaProg
namespace Go.Proofs.Ytmdmffpfnijahaa
set_option linter.unusedVariables false
set_option linter.unusedSimpArgs false
set_option linter.unusedSectionVars false
open Go Go.Z

instance ty0 : TyC Try.prog 0 ⟨Go.TypeDesc.tuple #[], 1, (Go.Value.tuple #[]), 0⟩ := ⟨Try.underlying0, Try.t0, Try.type0, rfl, rfl, rfl⟩
instance ty3 : TyC Try.prog 3 ⟨Go.TypeDesc.int Go.IntKind.i64, 1, (Go.Value.int Go.IntKind.i64 0), 8⟩ := ⟨Try.underlying3, Try.t3, Try.type3, rfl, rfl, rfl⟩
instance ty4 : TyC Try.prog 4 ⟨Go.TypeDesc.bool, 1, (Go.Value.bool false), 1⟩ := ⟨Try.underlying4, Try.t4, Try.type4, rfl, rfl, rfl⟩
instance ty5 : TyC Try.prog 5 ⟨Go.TypeDesc.int Go.IntKind.u8, 1, (Go.Value.int Go.IntKind.u8 0), 1⟩ := ⟨Try.underlying5, Try.t5, Try.type5, rfl, rfl, rfl⟩
instance ty22 : TyC Try.prog 22 ⟨Go.TypeDesc.int Go.IntKind.i64, 1, (Go.Value.int Go.IntKind.i64 0), 8⟩ := ⟨Try.underlying22, Try.t22, Try.type22, rfl, rfl, rfl⟩
instance ty26 : TyC Try.prog 26 ⟨Go.TypeDesc.slice 65, 1, (Go.Value.slice none 0 0), 24⟩ := ⟨Try.underlying26, Try.t26, Try.type26, rfl, rfl, rfl⟩
instance ty27 : TyC Try.prog 27 ⟨Go.TypeDesc.slice 4, 1, (Go.Value.slice none 0 0), 24⟩ := ⟨Try.underlying27, Try.t27, Try.type27, rfl, rfl, rfl⟩
instance ty28 : TyC Try.prog 28 ⟨Go.TypeDesc.slice 3, 1, (Go.Value.slice none 0 0), 24⟩ := ⟨Try.underlying28, Try.t28, Try.type28, rfl, rfl, rfl⟩
instance ty29 : TyC Try.prog 29 ⟨Go.TypeDesc.pointer 69, 1, (Go.Value.pointer none), 8⟩ := ⟨Try.underlying29, Try.t29, Try.type29, rfl, rfl, rfl⟩
instance ty30 : TyC Try.prog 30 ⟨Go.TypeDesc.pointer 75, 1, (Go.Value.pointer none), 8⟩ := ⟨Try.underlying30, Try.t30, Try.type30, rfl, rfl, rfl⟩
instance ty31 : TyC Try.prog 31 ⟨Go.TypeDesc.tuple #[29, 30, 4], 1, (Go.Value.tuple #[Go.Value.pointer none, Go.Value.pointer none, Go.Value.bool false]), 0⟩ := ⟨Try.underlying31, Try.t31, Try.type31, rfl, rfl, rfl⟩
instance ty33 : TyC Try.prog 33 ⟨Go.TypeDesc.slice 22, 1, (Go.Value.slice none 0 0), 24⟩ := ⟨Try.underlying33, Try.t33, Try.type33, rfl, rfl, rfl⟩
instance ty34 : TyC Try.prog 34 ⟨Go.TypeDesc.slice 35, 1, (Go.Value.slice none 0 0), 24⟩ := ⟨Try.underlying34, Try.t34, Try.type34, rfl, rfl, rfl⟩
instance ty35 : TyC Try.prog 35 ⟨Go.TypeDesc.int Go.IntKind.i64, 1, (Go.Value.int Go.IntKind.i64 0), 8⟩ := ⟨Try.underlying35, Try.t35, Try.type35, rfl, rfl, rfl⟩
instance ty36 : TyC Try.prog 36 ⟨Go.TypeDesc.int Go.IntKind.i64, 1, (Go.Value.int Go.IntKind.i64 0), 8⟩ := ⟨Try.underlying36, Try.t36, Try.type36, rfl, rfl, rfl⟩
instance ty37 : TyC Try.prog 37 ⟨Go.TypeDesc.tuple #[27, 36], 1, (Go.Value.tuple #[Go.Value.slice none 0 0, Go.Value.int Go.IntKind.i64 0]), 0⟩ := ⟨Try.underlying37, Try.t37, Try.type37, rfl, rfl, rfl⟩
instance ty41 : TyC Try.prog 41 ⟨Go.TypeDesc.int Go.IntKind.u64, 1, (Go.Value.int Go.IntKind.u64 0), 8⟩ := ⟨Try.underlying41, Try.t41, Try.type41, rfl, rfl, rfl⟩
instance ty42 : TyC Try.prog 42 ⟨Go.TypeDesc.int Go.IntKind.u16, 1, (Go.Value.int Go.IntKind.u16 0), 2⟩ := ⟨Try.underlying42, Try.t42, Try.type42, rfl, rfl, rfl⟩
instance ty44 : TyC Try.prog 44 ⟨Go.TypeDesc.tuple #[22, 36], 1, (Go.Value.tuple #[Go.Value.int Go.IntKind.i64 0, Go.Value.int Go.IntKind.i64 0]), 0⟩ := ⟨Try.underlying44, Try.t44, Try.type44, rfl, rfl, rfl⟩
instance ty48 : TyC Try.prog 48 ⟨Go.TypeDesc.int Go.IntKind.u64, 1, (Go.Value.int Go.IntKind.u64 0), 8⟩ := ⟨Try.underlying48, Try.t48, Try.type48, rfl, rfl, rfl⟩
instance ty50 : TyC Try.prog 50 ⟨Go.TypeDesc.slice 53, 1, (Go.Value.slice none 0 0), 24⟩ := ⟨Try.underlying50, Try.t50, Try.type50, rfl, rfl, rfl⟩
instance ty51 : TyC Try.prog 51 ⟨Go.TypeDesc.tuple #[22, 22, 4], 1, (Go.Value.tuple #[Go.Value.int Go.IntKind.i64 0, Go.Value.int Go.IntKind.i64 0, Go.Value.bool false]), 0⟩ := ⟨Try.underlying51, Try.t51, Try.type51, rfl, rfl, rfl⟩
instance ty53 : TyC Try.prog 53 ⟨Go.TypeDesc.array 2 22, 2, (Go.Value.agg #[Go.Value.int Go.IntKind.i64 0, Go.Value.int Go.IntKind.i64 0]), 16⟩ := ⟨Try.underlying53, Try.t53, Try.type53, rfl, rfl, rfl⟩
instance ty57 : TyC Try.prog 57 ⟨Go.TypeDesc.tuple #[35, 35, 4], 1, (Go.Value.tuple #[Go.Value.int Go.IntKind.i64 0, Go.Value.int Go.IntKind.i64 0, Go.Value.bool false]), 0⟩ := ⟨Try.underlying57, Try.t57, Try.type57, rfl, rfl, rfl⟩
instance ty65 : TyC Try.prog 65 ⟨Try.t64.desc, 4, (Go.Value.agg #[Go.Value.int Go.IntKind.u8 0, Go.Value.int Go.IntKind.i64 0, Go.Value.int Go.IntKind.i64 0, Go.Value.int Go.IntKind.i64 0]), 32⟩ := ⟨Try.underlying65, Try.t65, Try.type65, rfl, rfl, rfl⟩
instance fi65_0 : FieldC Try.prog 65 0 0 := ⟨_, _, _, Try.underlying65, rfl, rfl, Try.type5, by decide⟩
instance fi65_1 : FieldC Try.prog 65 1 1 := ⟨_, _, _, Try.underlying65, rfl, rfl, Try.type3, by decide⟩
instance fi65_2 : FieldC Try.prog 65 2 2 := ⟨_, _, _, Try.underlying65, rfl, rfl, Try.type3, by decide⟩
instance fi65_3 : FieldC Try.prog 65 3 3 := ⟨_, _, _, Try.underlying65, rfl, rfl, Try.type3, by decide⟩
instance ty66 : TyC Try.prog 66 ⟨Go.TypeDesc.slice 73, 1, (Go.Value.slice none 0 0), 24⟩ := ⟨Try.underlying66, Try.t66, Try.type66, rfl, rfl, rfl⟩
instance ty67 : TyC Try.prog 67 ⟨Go.TypeDesc.map 73 22, 1, (Go.Value.map none), 8⟩ := ⟨Try.underlying67, Try.t67, Try.type67, rfl, rfl, rfl⟩
instance ty69 : TyC Try.prog 69 ⟨Try.t68.desc, 3, (Go.Value.agg #[Go.Value.slice none 0 0, Go.Value.slice none 0 0, Go.Value.map none]), 56⟩ := ⟨Try.underlying69, Try.t69, Try.type69, rfl, rfl, rfl⟩
instance fi69_0 : FieldC Try.prog 69 0 0 := ⟨_, _, _, Try.underlying69, rfl, rfl, Try.type66, by decide⟩
instance fi69_1 : FieldC Try.prog 69 1 1 := ⟨_, _, _, Try.underlying69, rfl, rfl, Try.type33, by decide⟩
instance fi69_2 : FieldC Try.prog 69 2 2 := ⟨_, _, _, Try.underlying69, rfl, rfl, Try.type67, by decide⟩
instance ty71 : TyC Try.prog 71 ⟨Go.TypeDesc.func #[22] #[4] false, 1, (Go.Value.nilFunc), 8⟩ := ⟨Try.underlying71, Try.t71, Try.type71, rfl, rfl, rfl⟩
instance ty73 : TyC Try.prog 73 ⟨Try.t72.desc, 2, (Go.Value.agg #[Go.Value.int Go.IntKind.i64 0, Go.Value.int Go.IntKind.i64 0]), 16⟩ := ⟨Try.underlying73, Try.t73, Try.type73, rfl, rfl, rfl⟩
instance fi73_0 : FieldC Try.prog 73 0 0 := ⟨_, _, _, Try.underlying73, rfl, rfl, Try.type22, by decide⟩
instance fi73_1 : FieldC Try.prog 73 1 1 := ⟨_, _, _, Try.underlying73, rfl, rfl, Try.type22, by decide⟩
instance ty75 : TyC Try.prog 75 ⟨Try.t74.desc, 3, (Go.Value.agg #[Go.Value.slice none 0 0, Go.Value.slice none 0 0, Go.Value.slice none 0 0]), 72⟩ := ⟨Try.underlying75, Try.t75, Try.type75, rfl, rfl, rfl⟩
instance fi75_0 : FieldC Try.prog 75 0 0 := ⟨_, _, _, Try.underlying75, rfl, rfl, Try.type34, by decide⟩
instance fi75_1 : FieldC Try.prog 75 1 1 := ⟨_, _, _, Try.underlying75, rfl, rfl, Try.type34, by decide⟩
instance fi75_2 : FieldC Try.prog 75 2 2 := ⟨_, _, _, Try.underlying75, rfl, rfl, Try.type27, by decide⟩
instance ty80 : TyC Try.prog 80 ⟨Go.TypeDesc.tuple #[35, 36], 1, (Go.Value.tuple #[Go.Value.int Go.IntKind.i64 0, Go.Value.int Go.IntKind.i64 0]), 0⟩ := ⟨Try.underlying80, Try.t80, Try.type80, rfl, rfl, rfl⟩
instance ty85 : TyC Try.prog 85 ⟨Go.TypeDesc.tuple #[22, 4], 1, (Go.Value.tuple #[Go.Value.int Go.IntKind.i64 0, Go.Value.bool false]), 0⟩ := ⟨Try.underlying85, Try.t85, Try.type85, rfl, rfl, rfl⟩
instance sl26 : SlC Try.prog 26 65 ⟨Try.t64.desc, 4, (Go.Value.agg #[Go.Value.int Go.IntKind.u8 0, Go.Value.int Go.IntKind.i64 0, Go.Value.int Go.IntKind.i64 0, Go.Value.int Go.IntKind.i64 0]), 32⟩ := ⟨⟨_, ty26, rfl⟩, ty65⟩
instance sl27 : SlC Try.prog 27 4 ⟨Go.TypeDesc.bool, 1, (Go.Value.bool false), 1⟩ := ⟨⟨_, ty27, rfl⟩, ty4⟩
instance sl28 : SlC Try.prog 28 3 ⟨Go.TypeDesc.int Go.IntKind.i64, 1, (Go.Value.int Go.IntKind.i64 0), 8⟩ := ⟨⟨_, ty28, rfl⟩, ty3⟩
instance sl33 : SlC Try.prog 33 22 ⟨Go.TypeDesc.int Go.IntKind.i64, 1, (Go.Value.int Go.IntKind.i64 0), 8⟩ := ⟨⟨_, ty33, rfl⟩, ty22⟩
instance sl34 : SlC Try.prog 34 35 ⟨Go.TypeDesc.int Go.IntKind.i64, 1, (Go.Value.int Go.IntKind.i64 0), 8⟩ := ⟨⟨_, ty34, rfl⟩, ty35⟩
instance sl50 : SlC Try.prog 50 53 ⟨Go.TypeDesc.array 2 22, 2, (Go.Value.agg #[Go.Value.int Go.IntKind.i64 0, Go.Value.int Go.IntKind.i64 0]), 16⟩ := ⟨⟨_, ty50, rfl⟩, ty53⟩
instance sl66 : SlC Try.prog 66 73 ⟨Try.t72.desc, 2, (Go.Value.agg #[Go.Value.int Go.IntKind.i64 0, Go.Value.int Go.IntKind.i64 0]), 16⟩ := ⟨⟨_, ty66, rfl⟩, ty73⟩
instance mp67 : MapC Try.prog 67 73 22 ⟨Go.TypeDesc.int Go.IntKind.i64, 1, (Go.Value.int Go.IntKind.i64 0), 8⟩ := ⟨⟨_, ty67, rfl⟩, ty22⟩
instance bu65 : BuildC Try.prog 65 [(0, 1), (1, 1), (2, 1), (3, 1)] := BuildC.mk' Try.underlying65 (by kernel_rfl)
instance bu69 : BuildC Try.prog 69 [(0, 1), (1, 1), (2, 1)] := BuildC.mk' Try.underlying69 (by kernel_rfl)
instance bu73 : BuildC Try.prog 73 [(0, 1), (1, 1)] := BuildC.mk' Try.underlying73 (by kernel_rfl)
instance bu75 : BuildC Try.prog 75 [(0, 1), (1, 1), (2, 1)] := BuildC.mk' Try.underlying75 (by kernel_rfl)
end Go.Proofs.Ytmdmffpfnijahaa
