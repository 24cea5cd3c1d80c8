/- Printed by an own tool: the types of this translation, as instances. Conditions: none. -/
import Derived.Test.YtceecdjckhbncaaZf
import Derived.Test.YtceecdjckhbncaaProg
namespace Go.Proofs.Ytceecdjckhbncaa
set_option linter.unusedVariables false
set_option linter.unusedSimpArgs false
set_option linter.unusedSectionVars false
open Go Go.Z

instance ty0 : TyC Try.prog 0 ⟨Go.TypeDesc.tuple #[], 1, (Go.Value.tuple #[]), 0⟩ := ⟨Try.underlying0, Try.t0, Try.type0, rfl, rfl, rfl⟩
instance ty3 : TyC Try.prog 3 ⟨Go.TypeDesc.int Go.IntKind.i64, 1, (Go.Value.int Go.IntKind.i64 0), 8⟩ := ⟨Try.underlying3, Try.t3, Try.type3, rfl, rfl, rfl⟩
instance ty4 : TyC Try.prog 4 ⟨Go.TypeDesc.bool, 1, (Go.Value.bool false), 1⟩ := ⟨Try.underlying4, Try.t4, Try.type4, rfl, rfl, rfl⟩
instance ty5 : TyC Try.prog 5 ⟨Go.TypeDesc.int Go.IntKind.u8, 1, (Go.Value.int Go.IntKind.u8 0), 1⟩ := ⟨Try.underlying5, Try.t5, Try.type5, rfl, rfl, rfl⟩
instance ty22 : TyC Try.prog 22 ⟨Go.TypeDesc.slice 31, 1, (Go.Value.slice none 0 0), 24⟩ := ⟨Try.underlying22, Try.t22, Try.type22, rfl, rfl, rfl⟩
instance ty24 : TyC Try.prog 24 ⟨Go.TypeDesc.slice 22, 1, (Go.Value.slice none 0 0), 24⟩ := ⟨Try.underlying24, Try.t24, Try.type24, rfl, rfl, rfl⟩
instance ty29 : TyC Try.prog 29 ⟨Go.TypeDesc.func #[31] #[4] false, 1, (Go.Value.nilFunc), 8⟩ := ⟨Try.underlying29, Try.t29, Try.type29, rfl, rfl, rfl⟩
instance ty31 : TyC Try.prog 31 ⟨Try.t30.desc, 2, (Go.Value.agg #[Go.Value.int Go.IntKind.i64 0, Go.Value.int Go.IntKind.i64 0]), 16⟩ := ⟨Try.underlying31, Try.t31, Try.type31, rfl, rfl, rfl⟩
instance fi31_0 : FieldC Try.prog 31 0 0 := ⟨_, _, _, Try.underlying31, rfl, rfl, Try.type3, by decide⟩
instance fi31_1 : FieldC Try.prog 31 1 1 := ⟨_, _, _, Try.underlying31, rfl, rfl, Try.type3, by decide⟩
instance ty40 : TyC Try.prog 40 ⟨Go.TypeDesc.slice 4, 1, (Go.Value.slice none 0 0), 24⟩ := ⟨Try.underlying40, Try.t40, Try.type40, rfl, rfl, rfl⟩
instance ty42 : TyC Try.prog 42 ⟨Try.t41.desc, 2, (Go.Value.agg #[Go.Value.slice none 0 0, Go.Value.slice none 0 0]), 48⟩ := ⟨Try.underlying42, Try.t42, Try.type42, rfl, rfl, rfl⟩
instance fi42_0 : FieldC Try.prog 42 0 0 := ⟨_, _, _, Try.underlying42, rfl, rfl, Try.type40, by decide⟩
instance fi42_1 : FieldC Try.prog 42 1 1 := ⟨_, _, _, Try.underlying42, rfl, rfl, Try.type40, by decide⟩
instance ty45 : TyC Try.prog 45 ⟨Go.TypeDesc.slice 3, 1, (Go.Value.slice none 0 0), 24⟩ := ⟨Try.underlying45, Try.t45, Try.type45, rfl, rfl, rfl⟩
instance ty51 : TyC Try.prog 51 ⟨Go.TypeDesc.func #[22] #[31] false, 1, (Go.Value.nilFunc), 8⟩ := ⟨Try.underlying51, Try.t51, Try.type51, rfl, rfl, rfl⟩
instance ty53 : TyC Try.prog 53 ⟨Try.t52.desc, 2, (Go.Value.agg #[Go.Value.bool false, Go.Value.nilFunc]), 16⟩ := ⟨Try.underlying53, Try.t53, Try.type53, rfl, rfl, rfl⟩
instance fi53_0 : FieldC Try.prog 53 0 0 := ⟨_, _, _, Try.underlying53, rfl, rfl, Try.type4, by decide⟩
instance fi53_1 : FieldC Try.prog 53 1 1 := ⟨_, _, _, Try.underlying53, rfl, rfl, Try.type51, by decide⟩
instance ty59 : TyC Try.prog 59 ⟨Go.TypeDesc.func #[3] #[31] false, 1, (Go.Value.nilFunc), 8⟩ := ⟨Try.underlying59, Try.t59, Try.type59, rfl, rfl, rfl⟩
instance ty60 : TyC Try.prog 60 ⟨Go.TypeDesc.int Go.IntKind.i64, 1, (Go.Value.int Go.IntKind.i64 0), 8⟩ := ⟨Try.underlying60, Try.t60, Try.type60, rfl, rfl, rfl⟩
instance ty64 : TyC Try.prog 64 ⟨Go.TypeDesc.tuple #[3, 60], 1, (Go.Value.tuple #[Go.Value.int Go.IntKind.i64 0, Go.Value.int Go.IntKind.i64 0]), 0⟩ := ⟨Try.underlying64, Try.t64, Try.type64, rfl, rfl, rfl⟩
instance ty67 : TyC Try.prog 67 ⟨Go.TypeDesc.tuple #[3, 3], 1, (Go.Value.tuple #[Go.Value.int Go.IntKind.i64 0, Go.Value.int Go.IntKind.i64 0]), 0⟩ := ⟨Try.underlying67, Try.t67, Try.type67, rfl, rfl, rfl⟩
instance ty75 : TyC Try.prog 75 ⟨Go.TypeDesc.int Go.IntKind.i16, 1, (Go.Value.int Go.IntKind.i16 0), 2⟩ := ⟨Try.underlying75, Try.t75, Try.type75, rfl, rfl, rfl⟩
instance sl22 : SlC Try.prog 22 31 ⟨Try.t30.desc, 2, (Go.Value.agg #[Go.Value.int Go.IntKind.i64 0, Go.Value.int Go.IntKind.i64 0]), 16⟩ := ⟨⟨_, ty22, rfl⟩, ty31⟩
instance sl24 : SlC Try.prog 24 22 ⟨Go.TypeDesc.slice 31, 1, (Go.Value.slice none 0 0), 24⟩ := ⟨⟨_, ty24, rfl⟩, ty22⟩
instance sl40 : SlC Try.prog 40 4 ⟨Go.TypeDesc.bool, 1, (Go.Value.bool false), 1⟩ := ⟨⟨_, ty40, rfl⟩, ty4⟩
instance sl45 : SlC Try.prog 45 3 ⟨Go.TypeDesc.int Go.IntKind.i64, 1, (Go.Value.int Go.IntKind.i64 0), 8⟩ := ⟨⟨_, ty45, rfl⟩, ty3⟩
instance bu31 : BuildC Try.prog 31 [(0, 1), (1, 1)] := BuildC.mk' Try.underlying31 (by kernel_rfl)
instance bu42 : BuildC Try.prog 42 [(0, 1), (1, 1)] := BuildC.mk' Try.underlying42 (by kernel_rfl)
instance bu53 : BuildC Try.prog 53 [(0, 1), (1, 1)] := BuildC.mk' Try.underlying53 (by kernel_rfl)
end Go.Proofs.Ytceecdjckhbncaa
