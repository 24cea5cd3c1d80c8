/- Chapter 35: a call of both graphs. Conditions: none. -/
import Derived.Test.YtkebblmmgcgjkaaB0
namespace Go.Proofs.Ytkebblmmgcgjkaa
set_option maxRecDepth 8000
set_option linter.unusedVariables false
set_option linter.unusedSimpArgs false
set_option linter.unusedSectionVars false
open Go Go.Z Go.Z.Aig

structure Call where
  kind : Int
  c : Int
  a : Int
  b : Int
def encC (x : Call) : List Value := [.int .u8 x.kind, .int .i64 x.c, .int .i64 x.a, .int .i64 x.b]
def Call.ok (x : Call) : Prop := (0 ≤ x.kind ∧ x.kind ≤ 255) ∧ I64 x.c ∧ I64 x.a ∧ I64 x.b
def call1 (S : St) (x : Call) : Int × Int × St :=
  if x.kind % 5 = 0 then input1 S else if x.kind % 5 = 1 then and1 S x.a x.b else if x.kind % 5 = 2 then or1 S x.a x.b else if x.kind % 5 = 3 then xor1 S x.a x.b else mux1 S x.c x.a x.b
def callS (S : St) (x : Call) : St := (call1 S x).2.2

end Go.Proofs.Ytkebblmmgcgjkaa
