/-
  No cell of these rows narrows 'for every input' (looked for: loops, veiled, ifaces, maps, wideKeys, modest, calm, conditions, laid).
  DERIVED. THE GIVEN ROWS OF THIS SEAT. 6 by the template 'for every input the law returns true; each argument reads behind the call as it read before'; 0 by the template 'total and deterministic' (their statements: YtlcipnligbjclaaTotals.lean).
  GIVEN WITH THE SEED: the statements are not yours to turn. If you find one false, say at which input.
  Laid BY PROGRAM, IN A SANDBOX (cutbox-rows.mjs): the forced cells as the released guide's own fill.sh prints them over the translation 3ca015fed4e35808… (all of the seat's roots in one cut). By AI agents, Wed Nov 11 2026. No macro, syntax, notation, axiom, sorry.
-/
import Derived.Test.YtlcipnligbjclaaChecked
import GoSem.Claim
import GoSem.ClaimJoined
import GoSem.ClaimMapViews
import Derived.JoinedTies
import Derived.KernelRfl
namespace Go.Proofs.Ytlcipnligbjclaa
/- THE CELL 'sum', in the pinned program and in every row, IS THE sha256 OF THE DUMP (.gsa) THAT YtlcipnligbjclaaProg.lean LOADS. Nothing in Lean hashes anything: it is a label: what it is worth is what the hold of that sum in a sandbox is worth. -/
noncomputable def Try.pinned : Pinned := { name := "ytlcipnligbjclaa", sum := "3ca015fed4e35808196a0a97a446e2fd2110974c1ad93e1aee8ae22b83904934", checked := Try.checked }
namespace Rows
def none {H : Type} : Left H := { results := [], args := [] }

/-- 'synchronylaw40.SpanApplies': WHATEVER THE INPUT: true; the input reads as it did. -/
def spanAppliesSpec : ChangeSpec := { name := "spanApplies", fn := fun _ => fun
  | [d1, d2] => { results := [.lit (.bool true)], args := [d1, d2] }
  | _ => none }
def spanAppliesRow : OpenClaim := { program := "ytlcipnligbjclaa", sum := "3ca015fed4e35808196a0a97a446e2fd2110974c1ad93e1aee8ae22b83904934", func := "synchrony/synchronylaw40.SpanApplies", spec := "spanApplies", recurses := true, apart := false }
def SpanAppliesSaid : Prop := spanAppliesRow.holds Try.pinned (OpenSpec.ofChange spanAppliesSpec)

/-- ITS FALSE NEIGHBOUR: 'it returns false'. Refute it at one input. -/
def spanAppliesWrong : ChangeSpec := { name := "spanApplies", fn := fun _ => fun
  | [d1, d2] => { results := [.lit (.bool false)], args := [d1, d2] }
  | _ => none }
def SpanAppliesWrongFalsely : Prop := spanAppliesRow.holds Try.pinned (OpenSpec.ofChange spanAppliesWrong)

/-- 'synchronylaw40.SpanSound': WHATEVER THE INPUT: true; the input reads as it did. -/
def spanSoundSpec : ChangeSpec := { name := "spanSound", fn := fun _ => fun
  | [d1, d2, d3, d4, d5] => { results := [.lit (.bool true)], args := [d1, d2, d3, d4, d5] }
  | _ => none }
def spanSoundRow : OpenClaim := { program := "ytlcipnligbjclaa", sum := "3ca015fed4e35808196a0a97a446e2fd2110974c1ad93e1aee8ae22b83904934", func := "synchrony/synchronylaw40.SpanSound", spec := "spanSound", recurses := true, apart := false }
def SpanSoundSaid : Prop := spanSoundRow.holds Try.pinned (OpenSpec.ofChange spanSoundSpec)

/-- ITS FALSE NEIGHBOUR: 'it returns false'. Refute it at one input. -/
def spanSoundWrong : ChangeSpec := { name := "spanSound", fn := fun _ => fun
  | [d1, d2, d3, d4, d5] => { results := [.lit (.bool false)], args := [d1, d2, d3, d4, d5] }
  | _ => none }
def SpanSoundWrongFalsely : Prop := spanSoundRow.holds Try.pinned (OpenSpec.ofChange spanSoundWrong)

/-- 'synchronylaw40.SpanWords': WHATEVER THE INPUT: true; the input reads as it did. -/
def spanWordsSpec : ChangeSpec := { name := "spanWords", fn := fun _ => fun
  | [d1, d2, d3, d4] => { results := [.lit (.bool true)], args := [d1, d2, d3, d4] }
  | _ => none }
def spanWordsRow : OpenClaim := { program := "ytlcipnligbjclaa", sum := "3ca015fed4e35808196a0a97a446e2fd2110974c1ad93e1aee8ae22b83904934", func := "synchrony/synchronylaw40.SpanWords", spec := "spanWords", recurses := true, apart := false }
def SpanWordsSaid : Prop := spanWordsRow.holds Try.pinned (OpenSpec.ofChange spanWordsSpec)

/-- ITS FALSE NEIGHBOUR: 'it returns false'. Refute it at one input. -/
def spanWordsWrong : ChangeSpec := { name := "spanWords", fn := fun _ => fun
  | [d1, d2, d3, d4] => { results := [.lit (.bool false)], args := [d1, d2, d3, d4] }
  | _ => none }
def SpanWordsWrongFalsely : Prop := spanWordsRow.holds Try.pinned (OpenSpec.ofChange spanWordsWrong)

/-- 'synchronylaw40.SpanSets': WHATEVER THE INPUT: true; the input reads as it did. -/
def spanSetsSpec : ChangeSpec := { name := "spanSets", fn := fun _ => fun
  | [d1, d2, d3, d4] => { results := [.lit (.bool true)], args := [d1, d2, d3, d4] }
  | _ => none }
def spanSetsRow : OpenClaim := { program := "ytlcipnligbjclaa", sum := "3ca015fed4e35808196a0a97a446e2fd2110974c1ad93e1aee8ae22b83904934", func := "synchrony/synchronylaw40.SpanSets", spec := "spanSets", recurses := true, apart := false }
def SpanSetsSaid : Prop := spanSetsRow.holds Try.pinned (OpenSpec.ofChange spanSetsSpec)

/-- ITS FALSE NEIGHBOUR: 'it returns false'. Refute it at one input. -/
def spanSetsWrong : ChangeSpec := { name := "spanSets", fn := fun _ => fun
  | [d1, d2, d3, d4] => { results := [.lit (.bool false)], args := [d1, d2, d3, d4] }
  | _ => none }
def SpanSetsWrongFalsely : Prop := spanSetsRow.holds Try.pinned (OpenSpec.ofChange spanSetsWrong)

/-- 'synchronylaw40.SpanOrders': WHATEVER THE INPUT: true; the input reads as it did. -/
def spanOrdersSpec : ChangeSpec := { name := "spanOrders", fn := fun _ => fun
  | [d1, d2, d3] => { results := [.lit (.bool true)], args := [d1, d2, d3] }
  | _ => none }
def spanOrdersRow : OpenClaim := { program := "ytlcipnligbjclaa", sum := "3ca015fed4e35808196a0a97a446e2fd2110974c1ad93e1aee8ae22b83904934", func := "synchrony/synchronylaw40.SpanOrders", spec := "spanOrders", recurses := true, apart := false }
def SpanOrdersSaid : Prop := spanOrdersRow.holds Try.pinned (OpenSpec.ofChange spanOrdersSpec)

/-- ITS FALSE NEIGHBOUR: 'it returns false'. Refute it at one input. -/
def spanOrdersWrong : ChangeSpec := { name := "spanOrders", fn := fun _ => fun
  | [d1, d2, d3] => { results := [.lit (.bool false)], args := [d1, d2, d3] }
  | _ => none }
def SpanOrdersWrongFalsely : Prop := spanOrdersRow.holds Try.pinned (OpenSpec.ofChange spanOrdersWrong)

/-- 'synchronylaw40.SpanWidens': WHATEVER THE INPUT: true; the input reads as it did. -/
def spanWidensSpec : ChangeSpec := { name := "spanWidens", fn := fun _ => fun
  | [d1, d2] => { results := [.lit (.bool true)], args := [d1, d2] }
  | _ => none }
def spanWidensRow : OpenClaim := { program := "ytlcipnligbjclaa", sum := "3ca015fed4e35808196a0a97a446e2fd2110974c1ad93e1aee8ae22b83904934", func := "synchrony/synchronylaw40.SpanWidens", spec := "spanWidens", recurses := true, apart := false }
def SpanWidensSaid : Prop := spanWidensRow.holds Try.pinned (OpenSpec.ofChange spanWidensSpec)

/-- ITS FALSE NEIGHBOUR: 'it returns false'. Refute it at one input. -/
def spanWidensWrong : ChangeSpec := { name := "spanWidens", fn := fun _ => fun
  | [d1, d2] => { results := [.lit (.bool false)], args := [d1, d2] }
  | _ => none }
def SpanWidensWrongFalsely : Prop := spanWidensRow.holds Try.pinned (OpenSpec.ofChange spanWidensWrong)

/- THE SECOND FORM. 'bulk': how many values and letters a reading holds, each counted each time it is reached (what is shared counts as often as it is met; a slice's spare places count too). A statement '..UptoSaid' is the law's where the arguments, and the package variables that the reading takes, are together of bulk at most 1048576: NARROWER than '..Said'. Prove '..Said' where nothing that the law and all that it calls make is longer than what came in: it says more and counts as full. Else prove '..UptoSaid'. A law counts once. -/
mutual
def uptoBulk {H : Type} : DataW H → Nat
  | .lit (.string bytes) => bytes.length + 1
  | .lit _ => 1
  | .nil => 1
  | .ptr d => uptoBulk d + 1
  | .slice elems spare => uptoBulkAll elems + uptoBulkAll spare + 1
  | .agg parts => uptoBulkAll parts + 1
  | .iface _ d => uptoBulk d + 1
  | .map entries => uptoBulkEntries entries + 1
  | .held _ => 1
def uptoBulkAll {H : Type} : List (DataW H) → Nat
  | [] => 0
  | d :: r => uptoBulk d + uptoBulkAll r
def uptoBulkEntries {H : Type} : List (Lit × DataW H) → Nat
  | [] => 0
  | x :: r => uptoBulkEntry x + uptoBulkEntries r
def uptoBulkEntry {H : Type} : Lit × DataW H → Nat
  | (.string bytes, d) => bytes.length + uptoBulk d + 1
  | (_, d) => uptoBulk d + 1
 end
def uptoSmall : (H : Type) → List (DataW H) → Bool := fun _ ds => decide (uptoBulkAll ds ≤ 1048576)
def OpenSpec.upto (s : _root_.Go.ChangeSpec) : _root_.Go.OpenSpec := { _root_.Go.OpenSpec.ofChange s with cond := some uptoSmall }

/-- 'synchronylaw40.SpanApplies', WHERE WHAT IT READS IS OF BULK AT MOST 1048576: true; the input reads as it did. -/
def spanAppliesUptoRow : OpenClaim := { program := "ytlcipnligbjclaa", sum := "3ca015fed4e35808196a0a97a446e2fd2110974c1ad93e1aee8ae22b83904934", func := "synchrony/synchronylaw40.SpanApplies", spec := "spanApplies", recurses := true, apart := false, narrowed := true }
def SpanAppliesUptoSaid : Prop := spanAppliesUptoRow.holds Try.pinned (OpenSpec.upto spanAppliesSpec)

/-- 'synchronylaw40.SpanSound', WHERE WHAT IT READS IS OF BULK AT MOST 1048576: true; the input reads as it did. -/
def spanSoundUptoRow : OpenClaim := { program := "ytlcipnligbjclaa", sum := "3ca015fed4e35808196a0a97a446e2fd2110974c1ad93e1aee8ae22b83904934", func := "synchrony/synchronylaw40.SpanSound", spec := "spanSound", recurses := true, apart := false, narrowed := true }
def SpanSoundUptoSaid : Prop := spanSoundUptoRow.holds Try.pinned (OpenSpec.upto spanSoundSpec)

/-- 'synchronylaw40.SpanWords', WHERE WHAT IT READS IS OF BULK AT MOST 1048576: true; the input reads as it did. -/
def spanWordsUptoRow : OpenClaim := { program := "ytlcipnligbjclaa", sum := "3ca015fed4e35808196a0a97a446e2fd2110974c1ad93e1aee8ae22b83904934", func := "synchrony/synchronylaw40.SpanWords", spec := "spanWords", recurses := true, apart := false, narrowed := true }
def SpanWordsUptoSaid : Prop := spanWordsUptoRow.holds Try.pinned (OpenSpec.upto spanWordsSpec)

/-- 'synchronylaw40.SpanSets', WHERE WHAT IT READS IS OF BULK AT MOST 1048576: true; the input reads as it did. -/
def spanSetsUptoRow : OpenClaim := { program := "ytlcipnligbjclaa", sum := "3ca015fed4e35808196a0a97a446e2fd2110974c1ad93e1aee8ae22b83904934", func := "synchrony/synchronylaw40.SpanSets", spec := "spanSets", recurses := true, apart := false, narrowed := true }
def SpanSetsUptoSaid : Prop := spanSetsUptoRow.holds Try.pinned (OpenSpec.upto spanSetsSpec)

/-- 'synchronylaw40.SpanOrders', WHERE WHAT IT READS IS OF BULK AT MOST 1048576: true; the input reads as it did. -/
def spanOrdersUptoRow : OpenClaim := { program := "ytlcipnligbjclaa", sum := "3ca015fed4e35808196a0a97a446e2fd2110974c1ad93e1aee8ae22b83904934", func := "synchrony/synchronylaw40.SpanOrders", spec := "spanOrders", recurses := true, apart := false, narrowed := true }
def SpanOrdersUptoSaid : Prop := spanOrdersUptoRow.holds Try.pinned (OpenSpec.upto spanOrdersSpec)

/-- 'synchronylaw40.SpanWidens', WHERE WHAT IT READS IS OF BULK AT MOST 1048576: true; the input reads as it did. -/
def spanWidensUptoRow : OpenClaim := { program := "ytlcipnligbjclaa", sum := "3ca015fed4e35808196a0a97a446e2fd2110974c1ad93e1aee8ae22b83904934", func := "synchrony/synchronylaw40.SpanWidens", spec := "spanWidens", recurses := true, apart := false, narrowed := true }
def SpanWidensUptoSaid : Prop := spanWidensUptoRow.holds Try.pinned (OpenSpec.upto spanWidensSpec)

end Rows
end Go.Proofs.Ytlcipnligbjclaa
