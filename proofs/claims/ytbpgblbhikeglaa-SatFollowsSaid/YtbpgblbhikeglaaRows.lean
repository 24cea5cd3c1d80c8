/-
  No cell of these rows narrows 'for every input' (looked for: loops, veiled, ifaces, maps, wideKeys, modest, calm, conditions, laid).
  DERIVED. THE GIVEN ROWS OF THIS SEAT. 5 by the template 'for every input the law returns true; each argument reads behind the call as it read before'; 0 by the template 'total and deterministic' (their statements: YtbpgblbhikeglaaTotals.lean).
  GIVEN WITH THE SEED: the statements are not yours to turn. If you find one false, say at which input.
  Laid BY PROGRAM, IN A SANDBOX (cutbox-rows.mjs): the forced cells as the released guide's own fill.sh prints them over the translation 8dde14fcecdf6787… (all of the seat's roots in one cut). By AI agents, Wed Nov 11 2026. No macro, syntax, notation, axiom, sorry.
-/
import Derived.Test.YtbpgblbhikeglaaChecked
import GoSem.Claim
import GoSem.ClaimJoined
import GoSem.ClaimMapViews
import Derived.JoinedTies
import Derived.KernelRfl
namespace Go.Proofs.Ytbpgblbhikeglaa
/- THE CELL 'sum', in the pinned program and in every row, IS THE sha256 OF THE DUMP (.gsa) THAT YtbpgblbhikeglaaProg.lean LOADS. Nothing in Lean hashes anything: it is a label: what it is worth is what the hold of that sum in a sandbox is worth. -/
noncomputable def Try.pinned : Pinned := { name := "ytbpgblbhikeglaa", sum := "8dde14fcecdf6787a51ac6cd5bfca57e3d6eb2a44a5a24492f2e99c346c58b17", checked := Try.checked }
namespace Rows
def none {H : Type} : Left H := { results := [], args := [] }

/-- 'synchronylaw37.SatSolves': WHATEVER THE INPUT: true; the input reads as it did. -/
def satSolvesSpec : ChangeSpec := { name := "satSolves", fn := fun _ => fun
  | [d1, d2] => { results := [.lit (.bool true)], args := [d1, d2] }
  | _ => none }
def satSolvesRow : OpenClaim := { program := "ytbpgblbhikeglaa", sum := "8dde14fcecdf6787a51ac6cd5bfca57e3d6eb2a44a5a24492f2e99c346c58b17", func := "synchrony/synchronylaw37.SatSolves", spec := "satSolves", apart := false }
def SatSolvesSaid : Prop := satSolvesRow.holds Try.pinned (OpenSpec.ofChange satSolvesSpec)

/-- ITS FALSE NEIGHBOUR: 'it returns false'. Refute it at one input. -/
def satSolvesWrong : ChangeSpec := { name := "satSolves", fn := fun _ => fun
  | [d1, d2] => { results := [.lit (.bool false)], args := [d1, d2] }
  | _ => none }
def SatSolvesWrongFalsely : Prop := satSolvesRow.holds Try.pinned (OpenSpec.ofChange satSolvesWrong)

/-- 'synchronylaw37.SatUnits': WHATEVER THE INPUT: true; the input reads as it did. -/
def satUnitsSpec : ChangeSpec := { name := "satUnits", fn := fun _ => fun
  | [d1, d2] => { results := [.lit (.bool true)], args := [d1, d2] }
  | _ => none }
def satUnitsRow : OpenClaim := { program := "ytbpgblbhikeglaa", sum := "8dde14fcecdf6787a51ac6cd5bfca57e3d6eb2a44a5a24492f2e99c346c58b17", func := "synchrony/synchronylaw37.SatUnits", spec := "satUnits", apart := false }
def SatUnitsSaid : Prop := satUnitsRow.holds Try.pinned (OpenSpec.ofChange satUnitsSpec)

/-- ITS FALSE NEIGHBOUR: 'it returns false'. Refute it at one input. -/
def satUnitsWrong : ChangeSpec := { name := "satUnits", fn := fun _ => fun
  | [d1, d2] => { results := [.lit (.bool false)], args := [d1, d2] }
  | _ => none }
def SatUnitsWrongFalsely : Prop := satUnitsRow.holds Try.pinned (OpenSpec.ofChange satUnitsWrong)

/-- 'synchronylaw37.SatFirst': WHATEVER THE INPUT: true; the input reads as it did. -/
def satFirstSpec : ChangeSpec := { name := "satFirst", fn := fun _ => fun
  | [d] => { results := [.lit (.bool true)], args := [d] }
  | _ => none }
def satFirstRow : OpenClaim := { program := "ytbpgblbhikeglaa", sum := "8dde14fcecdf6787a51ac6cd5bfca57e3d6eb2a44a5a24492f2e99c346c58b17", func := "synchrony/synchronylaw37.SatFirst", spec := "satFirst", unfollowed := true, recurses := true, apart := false }
def SatFirstSaid : Prop := satFirstRow.holds Try.pinned (OpenSpec.ofChange satFirstSpec)

/-- ITS FALSE NEIGHBOUR: 'it returns false'. Refute it at one input. -/
def satFirstWrong : ChangeSpec := { name := "satFirst", fn := fun _ => fun
  | [d] => { results := [.lit (.bool false)], args := [d] }
  | _ => none }
def SatFirstWrongFalsely : Prop := satFirstRow.holds Try.pinned (OpenSpec.ofChange satFirstWrong)

/-- 'synchronylaw37.SatBudgets': WHATEVER THE INPUT: true; the input reads as it did. -/
def satBudgetsSpec : ChangeSpec := { name := "satBudgets", fn := fun _ => fun
  | [d1, d2, d3] => { results := [.lit (.bool true)], args := [d1, d2, d3] }
  | _ => none }
def satBudgetsRow : OpenClaim := { program := "ytbpgblbhikeglaa", sum := "8dde14fcecdf6787a51ac6cd5bfca57e3d6eb2a44a5a24492f2e99c346c58b17", func := "synchrony/synchronylaw37.SatBudgets", spec := "satBudgets", unfollowed := true, recurses := true, apart := false }
def SatBudgetsSaid : Prop := satBudgetsRow.holds Try.pinned (OpenSpec.ofChange satBudgetsSpec)

/-- ITS FALSE NEIGHBOUR: 'it returns false'. Refute it at one input. -/
def satBudgetsWrong : ChangeSpec := { name := "satBudgets", fn := fun _ => fun
  | [d1, d2, d3] => { results := [.lit (.bool false)], args := [d1, d2, d3] }
  | _ => none }
def SatBudgetsWrongFalsely : Prop := satBudgetsRow.holds Try.pinned (OpenSpec.ofChange satBudgetsWrong)

/-- 'synchronylaw37.SatFollows': WHATEVER THE INPUT: true; the input reads as it did. -/
def satFollowsSpec : ChangeSpec := { name := "satFollows", fn := fun _ => fun
  | [d1, d2] => { results := [.lit (.bool true)], args := [d1, d2] }
  | _ => none }
def satFollowsRow : OpenClaim := { program := "ytbpgblbhikeglaa", sum := "8dde14fcecdf6787a51ac6cd5bfca57e3d6eb2a44a5a24492f2e99c346c58b17", func := "synchrony/synchronylaw37.SatFollows", spec := "satFollows", unfollowed := true, recurses := true, apart := false }
def SatFollowsSaid : Prop := satFollowsRow.holds Try.pinned (OpenSpec.ofChange satFollowsSpec)

/-- ITS FALSE NEIGHBOUR: 'it returns false'. Refute it at one input. -/
def satFollowsWrong : ChangeSpec := { name := "satFollows", fn := fun _ => fun
  | [d1, d2] => { results := [.lit (.bool false)], args := [d1, d2] }
  | _ => none }
def SatFollowsWrongFalsely : Prop := satFollowsRow.holds Try.pinned (OpenSpec.ofChange satFollowsWrong)

/- THE SECOND FORM. 'bulk': how many values and letters a reading holds, each counted each time it is reached (what is shared counts as often as it is met; a slice's spare places count too). A statement '..UptoSaid' is the law's where the arguments, and the package variables that the reading takes, are together of bulk at most 1048576: NARROWER than '..Said'. Prove '..Said' where nothing that the law and all that it calls make is longer than what came in: it says more and counts as full. Else prove '..UptoSaid'. A law counts once. -/
mutual
def uptoBulk {H : Type} : DataW H → Nat
  | .lit (.string bytes) => bytes.length + 1
  | .lit _ => 1
  | .nil => 1
  | .ptr d => uptoBulk d + 1
  | .slice elems spare => uptoBulkAll elems + uptoBulkAll spare + 1
  | .agg parts => uptoBulkAll parts + 1
  | .iface _ d => uptoBulk d + 1
  | .map entries => uptoBulkEntries entries + 1
  | .held _ => 1
def uptoBulkAll {H : Type} : List (DataW H) → Nat
  | [] => 0
  | d :: r => uptoBulk d + uptoBulkAll r
def uptoBulkEntries {H : Type} : List (Lit × DataW H) → Nat
  | [] => 0
  | x :: r => uptoBulkEntry x + uptoBulkEntries r
def uptoBulkEntry {H : Type} : Lit × DataW H → Nat
  | (.string bytes, d) => bytes.length + uptoBulk d + 1
  | (_, d) => uptoBulk d + 1
 end
def uptoSmall : (H : Type) → List (DataW H) → Bool := fun _ ds => decide (uptoBulkAll ds ≤ 1048576)
def OpenSpec.upto (s : _root_.Go.ChangeSpec) : _root_.Go.OpenSpec := { _root_.Go.OpenSpec.ofChange s with cond := some uptoSmall }

/-- 'synchronylaw37.SatSolves', WHERE WHAT IT READS IS OF BULK AT MOST 1048576: true; the input reads as it did. -/
def satSolvesUptoRow : OpenClaim := { program := "ytbpgblbhikeglaa", sum := "8dde14fcecdf6787a51ac6cd5bfca57e3d6eb2a44a5a24492f2e99c346c58b17", func := "synchrony/synchronylaw37.SatSolves", spec := "satSolves", apart := false, narrowed := true }
def SatSolvesUptoSaid : Prop := satSolvesUptoRow.holds Try.pinned (OpenSpec.upto satSolvesSpec)

/-- 'synchronylaw37.SatUnits', WHERE WHAT IT READS IS OF BULK AT MOST 1048576: true; the input reads as it did. -/
def satUnitsUptoRow : OpenClaim := { program := "ytbpgblbhikeglaa", sum := "8dde14fcecdf6787a51ac6cd5bfca57e3d6eb2a44a5a24492f2e99c346c58b17", func := "synchrony/synchronylaw37.SatUnits", spec := "satUnits", apart := false, narrowed := true }
def SatUnitsUptoSaid : Prop := satUnitsUptoRow.holds Try.pinned (OpenSpec.upto satUnitsSpec)

/-- 'synchronylaw37.SatFirst', WHERE WHAT IT READS IS OF BULK AT MOST 1048576: true; the input reads as it did. -/
def satFirstUptoRow : OpenClaim := { program := "ytbpgblbhikeglaa", sum := "8dde14fcecdf6787a51ac6cd5bfca57e3d6eb2a44a5a24492f2e99c346c58b17", func := "synchrony/synchronylaw37.SatFirst", spec := "satFirst", unfollowed := true, recurses := true, apart := false, narrowed := true }
def SatFirstUptoSaid : Prop := satFirstUptoRow.holds Try.pinned (OpenSpec.upto satFirstSpec)

/-- 'synchronylaw37.SatBudgets', WHERE WHAT IT READS IS OF BULK AT MOST 1048576: true; the input reads as it did. -/
def satBudgetsUptoRow : OpenClaim := { program := "ytbpgblbhikeglaa", sum := "8dde14fcecdf6787a51ac6cd5bfca57e3d6eb2a44a5a24492f2e99c346c58b17", func := "synchrony/synchronylaw37.SatBudgets", spec := "satBudgets", unfollowed := true, recurses := true, apart := false, narrowed := true }
def SatBudgetsUptoSaid : Prop := satBudgetsUptoRow.holds Try.pinned (OpenSpec.upto satBudgetsSpec)

/-- 'synchronylaw37.SatFollows', WHERE WHAT IT READS IS OF BULK AT MOST 1048576: true; the input reads as it did. -/
def satFollowsUptoRow : OpenClaim := { program := "ytbpgblbhikeglaa", sum := "8dde14fcecdf6787a51ac6cd5bfca57e3d6eb2a44a5a24492f2e99c346c58b17", func := "synchrony/synchronylaw37.SatFollows", spec := "satFollows", unfollowed := true, recurses := true, apart := false, narrowed := true }
def SatFollowsUptoSaid : Prop := satFollowsUptoRow.holds Try.pinned (OpenSpec.upto satFollowsSpec)

end Rows
end Go.Proofs.Ytbpgblbhikeglaa
