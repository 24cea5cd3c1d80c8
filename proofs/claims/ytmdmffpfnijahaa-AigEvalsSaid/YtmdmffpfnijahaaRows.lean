/-
  No cell of these rows narrows 'for every input' (looked for: loops, veiled, ifaces, maps, wideKeys, modest, calm, conditions, laid).
  DERIVED. THE GIVEN ROWS OF THIS SEAT. 6 by the template 'for every input the law returns true; each argument reads behind the call as it read before'; 0 by the template 'total and deterministic' (their statements: YtmdmffpfnijahaaTotals.lean).
  GIVEN WITH THE SEED: the statements are not yours to turn. If you find one false, say at which input.
  Laid BY PROGRAM, IN A SANDBOX (cutbox-rows.mjs): the forced cells as the released guide's own fill.sh prints them over the translation fbfe6dbfa1ac287a… (all of the seat's roots in one cut). By AI agents, Wed Nov 11 2026. No macro, syntax, notation, axiom, sorry.
-/
import Derived.Test.YtmdmffpfnijahaaChecked
import GoSem.Claim
import GoSem.ClaimJoined
import GoSem.ClaimMapViews
import Derived.JoinedTies
import Derived.KernelRfl
namespace Go.Proofs.Ytmdmffpfnijahaa
/- THE CELL 'sum', in the pinned program and in every row, IS THE sha256 OF THE DUMP (.gsa) THAT YtmdmffpfnijahaaProg.lean LOADS. Nothing in Lean hashes anything: it is a label: what it is worth is what the hold of that sum in a sandbox is worth. -/
noncomputable def Try.pinned : Pinned := { name := "ytmdmffpfnijahaa", sum := "fbfe6dbfa1ac287a73087465a89c02423ddf6792ecff03d28d1583ed7576ed22", checked := Try.checked }
namespace Rows
def none {H : Type} : Left H := { results := [], args := [] }

/-- 'synchronylaw35.AigNots': WHATEVER THE INPUT: true; the input reads as it did. -/
def aigNotsSpec : ChangeSpec := { name := "aigNots", fn := fun _ => fun
  | [d] => { results := [.lit (.bool true)], args := [d] }
  | _ => none }
def aigNotsRow : OpenClaim := { program := "ytmdmffpfnijahaa", sum := "fbfe6dbfa1ac287a73087465a89c02423ddf6792ecff03d28d1583ed7576ed22", func := "synchrony/synchronylaw35.AigNots", spec := "aigNots", unfollowed := true, recurses := true, plainKeys := false, apart := false }
def AigNotsSaid : Prop := aigNotsRow.holds Try.pinned (OpenSpec.ofChange aigNotsSpec)

/-- ITS FALSE NEIGHBOUR: 'it returns false'. Refute it at one input. -/
def aigNotsWrong : ChangeSpec := { name := "aigNots", fn := fun _ => fun
  | [d] => { results := [.lit (.bool false)], args := [d] }
  | _ => none }
def AigNotsWrongFalsely : Prop := aigNotsRow.holds Try.pinned (OpenSpec.ofChange aigNotsWrong)

/-- 'synchronylaw35.AigEvals': WHATEVER THE INPUT: true; the input reads as it did. -/
def aigEvalsSpec : ChangeSpec := { name := "aigEvals", fn := fun _ => fun
  | [d1, d2, d3] => { results := [.lit (.bool true)], args := [d1, d2, d3] }
  | _ => none }
def aigEvalsRow : OpenClaim := { program := "ytmdmffpfnijahaa", sum := "fbfe6dbfa1ac287a73087465a89c02423ddf6792ecff03d28d1583ed7576ed22", func := "synchrony/synchronylaw35.AigEvals", spec := "aigEvals", unfollowed := true, recurses := true, plainKeys := false, apart := false }
def AigEvalsSaid : Prop := aigEvalsRow.holds Try.pinned (OpenSpec.ofChange aigEvalsSpec)

/-- ITS FALSE NEIGHBOUR: 'it returns false'. Refute it at one input. -/
def aigEvalsWrong : ChangeSpec := { name := "aigEvals", fn := fun _ => fun
  | [d1, d2, d3] => { results := [.lit (.bool false)], args := [d1, d2, d3] }
  | _ => none }
def AigEvalsWrongFalsely : Prop := aigEvalsRow.holds Try.pinned (OpenSpec.ofChange aigEvalsWrong)

/-- 'synchronylaw35.AigMeans': WHATEVER THE INPUT: true; the input reads as it did. -/
def aigMeansSpec : ChangeSpec := { name := "aigMeans", fn := fun _ => fun
  | [d1, d2, d3, d4, d5] => { results := [.lit (.bool true)], args := [d1, d2, d3, d4, d5] }
  | _ => none }
def aigMeansRow : OpenClaim := { program := "ytmdmffpfnijahaa", sum := "fbfe6dbfa1ac287a73087465a89c02423ddf6792ecff03d28d1583ed7576ed22", func := "synchrony/synchronylaw35.AigMeans", spec := "aigMeans", unfollowed := true, recurses := true, plainKeys := false, apart := false }
def AigMeansSaid : Prop := aigMeansRow.holds Try.pinned (OpenSpec.ofChange aigMeansSpec)

/-- ITS FALSE NEIGHBOUR: 'it returns false'. Refute it at one input. -/
def aigMeansWrong : ChangeSpec := { name := "aigMeans", fn := fun _ => fun
  | [d1, d2, d3, d4, d5] => { results := [.lit (.bool false)], args := [d1, d2, d3, d4, d5] }
  | _ => none }
def AigMeansWrongFalsely : Prop := aigMeansRow.holds Try.pinned (OpenSpec.ofChange aigMeansWrong)

/-- 'synchronylaw35.AigShares': WHATEVER THE INPUT: true; the input reads as it did. -/
def aigSharesSpec : ChangeSpec := { name := "aigShares", fn := fun _ => fun
  | [d1, d2] => { results := [.lit (.bool true)], args := [d1, d2] }
  | _ => none }
def aigSharesRow : OpenClaim := { program := "ytmdmffpfnijahaa", sum := "fbfe6dbfa1ac287a73087465a89c02423ddf6792ecff03d28d1583ed7576ed22", func := "synchrony/synchronylaw35.AigShares", spec := "aigShares", unfollowed := true, recurses := true, plainKeys := false, apart := false }
def AigSharesSaid : Prop := aigSharesRow.holds Try.pinned (OpenSpec.ofChange aigSharesSpec)

/-- ITS FALSE NEIGHBOUR: 'it returns false'. Refute it at one input. -/
def aigSharesWrong : ChangeSpec := { name := "aigShares", fn := fun _ => fun
  | [d1, d2] => { results := [.lit (.bool false)], args := [d1, d2] }
  | _ => none }
def AigSharesWrongFalsely : Prop := aigSharesRow.holds Try.pinned (OpenSpec.ofChange aigSharesWrong)

/-- 'synchronylaw35.AigBuilds': WHATEVER THE INPUT: true; the input reads as it did. -/
def aigBuildsSpec : ChangeSpec := { name := "aigBuilds", fn := fun _ => fun
  | [d] => { results := [.lit (.bool true)], args := [d] }
  | _ => none }
def aigBuildsRow : OpenClaim := { program := "ytmdmffpfnijahaa", sum := "fbfe6dbfa1ac287a73087465a89c02423ddf6792ecff03d28d1583ed7576ed22", func := "synchrony/synchronylaw35.AigBuilds", spec := "aigBuilds", unfollowed := true, recurses := true, plainKeys := false, apart := false }
def AigBuildsSaid : Prop := aigBuildsRow.holds Try.pinned (OpenSpec.ofChange aigBuildsSpec)

/-- ITS FALSE NEIGHBOUR: 'it returns false'. Refute it at one input. -/
def aigBuildsWrong : ChangeSpec := { name := "aigBuilds", fn := fun _ => fun
  | [d] => { results := [.lit (.bool false)], args := [d] }
  | _ => none }
def AigBuildsWrongFalsely : Prop := aigBuildsRow.holds Try.pinned (OpenSpec.ofChange aigBuildsWrong)

/-- 'synchronylaw35.AigNil': WHATEVER THE INPUT: true; the input reads as it did. -/
def aigNilSpec : ChangeSpec := { name := "aigNil", fn := fun _ => fun
  | [d1, d2] => { results := [.lit (.bool true)], args := [d1, d2] }
  | _ => none }
def aigNilRow : OpenClaim := { program := "ytmdmffpfnijahaa", sum := "fbfe6dbfa1ac287a73087465a89c02423ddf6792ecff03d28d1583ed7576ed22", func := "synchrony/synchronylaw35.AigNil", spec := "aigNil", unfollowed := true, recurses := true, plainKeys := false, apart := false }
def AigNilSaid : Prop := aigNilRow.holds Try.pinned (OpenSpec.ofChange aigNilSpec)

/-- ITS FALSE NEIGHBOUR: 'it returns false'. Refute it at one input. -/
def aigNilWrong : ChangeSpec := { name := "aigNil", fn := fun _ => fun
  | [d1, d2] => { results := [.lit (.bool false)], args := [d1, d2] }
  | _ => none }
def AigNilWrongFalsely : Prop := aigNilRow.holds Try.pinned (OpenSpec.ofChange aigNilWrong)

/- THE SECOND FORM. 'bulk': how many values and letters a reading holds, each counted each time it is reached (what is shared counts as often as it is met; a slice's spare places count too). A statement '..UptoSaid' is the law's where the arguments, and the package variables that the reading takes, are together of bulk at most 1048576: NARROWER than '..Said'. Prove '..Said' where nothing that the law and all that it calls make is longer than what came in: it says more and counts as full. Else prove '..UptoSaid'. A law counts once. -/
mutual
def uptoBulk {H : Type} : DataW H → Nat
  | .lit (.string bytes) => bytes.length + 1
  | .lit _ => 1
  | .nil => 1
  | .ptr d => uptoBulk d + 1
  | .slice elems spare => uptoBulkAll elems + uptoBulkAll spare + 1
  | .agg parts => uptoBulkAll parts + 1
  | .iface _ d => uptoBulk d + 1
  | .map entries => uptoBulkEntries entries + 1
  | .held _ => 1
def uptoBulkAll {H : Type} : List (DataW H) → Nat
  | [] => 0
  | d :: r => uptoBulk d + uptoBulkAll r
def uptoBulkEntries {H : Type} : List (Lit × DataW H) → Nat
  | [] => 0
  | x :: r => uptoBulkEntry x + uptoBulkEntries r
def uptoBulkEntry {H : Type} : Lit × DataW H → Nat
  | (.string bytes, d) => bytes.length + uptoBulk d + 1
  | (_, d) => uptoBulk d + 1
 end
def uptoSmall : (H : Type) → List (DataW H) → Bool := fun _ ds => decide (uptoBulkAll ds ≤ 1048576)
def OpenSpec.upto (s : _root_.Go.ChangeSpec) : _root_.Go.OpenSpec := { _root_.Go.OpenSpec.ofChange s with cond := some uptoSmall }

/-- 'synchronylaw35.AigNots', WHERE WHAT IT READS IS OF BULK AT MOST 1048576: true; the input reads as it did. -/
def aigNotsUptoRow : OpenClaim := { program := "ytmdmffpfnijahaa", sum := "fbfe6dbfa1ac287a73087465a89c02423ddf6792ecff03d28d1583ed7576ed22", func := "synchrony/synchronylaw35.AigNots", spec := "aigNots", unfollowed := true, recurses := true, plainKeys := false, apart := false, narrowed := true }
def AigNotsUptoSaid : Prop := aigNotsUptoRow.holds Try.pinned (OpenSpec.upto aigNotsSpec)

/-- 'synchronylaw35.AigEvals', WHERE WHAT IT READS IS OF BULK AT MOST 1048576: true; the input reads as it did. -/
def aigEvalsUptoRow : OpenClaim := { program := "ytmdmffpfnijahaa", sum := "fbfe6dbfa1ac287a73087465a89c02423ddf6792ecff03d28d1583ed7576ed22", func := "synchrony/synchronylaw35.AigEvals", spec := "aigEvals", unfollowed := true, recurses := true, plainKeys := false, apart := false, narrowed := true }
def AigEvalsUptoSaid : Prop := aigEvalsUptoRow.holds Try.pinned (OpenSpec.upto aigEvalsSpec)

/-- 'synchronylaw35.AigMeans', WHERE WHAT IT READS IS OF BULK AT MOST 1048576: true; the input reads as it did. -/
def aigMeansUptoRow : OpenClaim := { program := "ytmdmffpfnijahaa", sum := "fbfe6dbfa1ac287a73087465a89c02423ddf6792ecff03d28d1583ed7576ed22", func := "synchrony/synchronylaw35.AigMeans", spec := "aigMeans", unfollowed := true, recurses := true, plainKeys := false, apart := false, narrowed := true }
def AigMeansUptoSaid : Prop := aigMeansUptoRow.holds Try.pinned (OpenSpec.upto aigMeansSpec)

/-- 'synchronylaw35.AigShares', WHERE WHAT IT READS IS OF BULK AT MOST 1048576: true; the input reads as it did. -/
def aigSharesUptoRow : OpenClaim := { program := "ytmdmffpfnijahaa", sum := "fbfe6dbfa1ac287a73087465a89c02423ddf6792ecff03d28d1583ed7576ed22", func := "synchrony/synchronylaw35.AigShares", spec := "aigShares", unfollowed := true, recurses := true, plainKeys := false, apart := false, narrowed := true }
def AigSharesUptoSaid : Prop := aigSharesUptoRow.holds Try.pinned (OpenSpec.upto aigSharesSpec)

/-- 'synchronylaw35.AigBuilds', WHERE WHAT IT READS IS OF BULK AT MOST 1048576: true; the input reads as it did. -/
def aigBuildsUptoRow : OpenClaim := { program := "ytmdmffpfnijahaa", sum := "fbfe6dbfa1ac287a73087465a89c02423ddf6792ecff03d28d1583ed7576ed22", func := "synchrony/synchronylaw35.AigBuilds", spec := "aigBuilds", unfollowed := true, recurses := true, plainKeys := false, apart := false, narrowed := true }
def AigBuildsUptoSaid : Prop := aigBuildsUptoRow.holds Try.pinned (OpenSpec.upto aigBuildsSpec)

/-- 'synchronylaw35.AigNil', WHERE WHAT IT READS IS OF BULK AT MOST 1048576: true; the input reads as it did. -/
def aigNilUptoRow : OpenClaim := { program := "ytmdmffpfnijahaa", sum := "fbfe6dbfa1ac287a73087465a89c02423ddf6792ecff03d28d1583ed7576ed22", func := "synchrony/synchronylaw35.AigNil", spec := "aigNil", unfollowed := true, recurses := true, plainKeys := false, apart := false, narrowed := true }
def AigNilUptoSaid : Prop := aigNilUptoRow.holds Try.pinned (OpenSpec.upto aigNilSpec)

end Rows
end Go.Proofs.Ytmdmffpfnijahaa
