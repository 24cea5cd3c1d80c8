/-
  No cell of these rows narrows 'for every input' (looked for: loops, veiled, ifaces, maps, wideKeys, modest, calm, conditions, laid).
  DERIVED. THE GIVEN ROWS OF THIS SEAT. 7 by the template 'for every input the law returns true; each argument reads behind the call as it read before'; 0 by the template 'total and deterministic' (their statements: YtkebblmmgcgjkaaTotals.lean).
  GIVEN WITH THE SEED: the statements are not yours to turn. If you find one false, say at which input.
  Laid BY PROGRAM, IN A SANDBOX (cutbox-rows.mjs): the forced cells as the released guide's own fill.sh prints them over the translation c6c2853bce215edb… (all of the seat's roots in one cut). By AI agents, Wed Nov 11 2026. No macro, syntax, notation, axiom, sorry.
-/
import Derived.Test.YtkebblmmgcgjkaaChecked
import GoSem.Claim
import GoSem.ClaimJoined
import GoSem.ClaimMapViews
import Derived.JoinedTies
import Derived.KernelRfl
namespace Go.Proofs.Ytkebblmmgcgjkaa
/- THE CELL 'sum', in the pinned program and in every row, IS THE sha256 OF THE DUMP (.gsa) THAT YtkebblmmgcgjkaaProg.lean LOADS. Nothing in Lean hashes anything: it is a label: what it is worth is what the hold of that sum in a sandbox is worth. -/
noncomputable def Try.pinned : Pinned := { name := "ytkebblmmgcgjkaa", sum := "c6c2853bce215edb9db4fa8bc1ba7dd36ce56b20279e9fa6b22566c891cb6ab9", checked := Try.checked }
namespace Rows
def none {H : Type} : Left H := { results := [], args := [] }

/-- 'synchronylaw37.SatGraphs': WHATEVER THE INPUT: true; the input reads as it did. -/
def satGraphsSpec : ChangeSpec := { name := "satGraphs", fn := fun _ => fun
  | [d1, d2] => { results := [.lit (.bool true)], args := [d1, d2] }
  | _ => none }
def satGraphsRow : OpenClaim := { program := "ytkebblmmgcgjkaa", sum := "c6c2853bce215edb9db4fa8bc1ba7dd36ce56b20279e9fa6b22566c891cb6ab9", func := "synchrony/synchronylaw37.SatGraphs", spec := "satGraphs", unfollowed := true, recurses := true, plainKeys := false, apart := false }
def SatGraphsSaid : Prop := satGraphsRow.holds Try.pinned (OpenSpec.ofChange satGraphsSpec)

/-- ITS FALSE NEIGHBOUR: 'it returns false'. Refute it at one input. -/
def satGraphsWrong : ChangeSpec := { name := "satGraphs", fn := fun _ => fun
  | [d1, d2] => { results := [.lit (.bool false)], args := [d1, d2] }
  | _ => none }
def SatGraphsWrongFalsely : Prop := satGraphsRow.holds Try.pinned (OpenSpec.ofChange satGraphsWrong)

/-- 'synchronylaw38.BlastConsts': WHATEVER THE INPUT: true; the input reads as it did. -/
def blastConstsSpec : ChangeSpec := { name := "blastConsts", fn := fun _ => fun
  | [d1, d2, d3, d4] => { results := [.lit (.bool true)], args := [d1, d2, d3, d4] }
  | _ => none }
def blastConstsRow : OpenClaim := { program := "ytkebblmmgcgjkaa", sum := "c6c2853bce215edb9db4fa8bc1ba7dd36ce56b20279e9fa6b22566c891cb6ab9", func := "synchrony/synchronylaw38.BlastConsts", spec := "blastConsts", unfollowed := true, recurses := true, plainKeys := false, apart := false }
def BlastConstsSaid : Prop := blastConstsRow.holds Try.pinned (OpenSpec.ofChange blastConstsSpec)

/-- ITS FALSE NEIGHBOUR: 'it returns false'. Refute it at one input. -/
def blastConstsWrong : ChangeSpec := { name := "blastConsts", fn := fun _ => fun
  | [d1, d2, d3, d4] => { results := [.lit (.bool false)], args := [d1, d2, d3, d4] }
  | _ => none }
def BlastConstsWrongFalsely : Prop := blastConstsRow.holds Try.pinned (OpenSpec.ofChange blastConstsWrong)

/-- 'synchronylaw38.BlastApplies': WHATEVER THE INPUT: true; the input reads as it did. -/
def blastAppliesSpec : ChangeSpec := { name := "blastApplies", fn := fun _ => fun
  | [d1, d2] => { results := [.lit (.bool true)], args := [d1, d2] }
  | _ => none }
def blastAppliesRow : OpenClaim := { program := "ytkebblmmgcgjkaa", sum := "c6c2853bce215edb9db4fa8bc1ba7dd36ce56b20279e9fa6b22566c891cb6ab9", func := "synchrony/synchronylaw38.BlastApplies", spec := "blastApplies", unfollowed := true, recurses := true, plainKeys := false, apart := false }
def BlastAppliesSaid : Prop := blastAppliesRow.holds Try.pinned (OpenSpec.ofChange blastAppliesSpec)

/-- ITS FALSE NEIGHBOUR: 'it returns false'. Refute it at one input. -/
def blastAppliesWrong : ChangeSpec := { name := "blastApplies", fn := fun _ => fun
  | [d1, d2] => { results := [.lit (.bool false)], args := [d1, d2] }
  | _ => none }
def BlastAppliesWrongFalsely : Prop := blastAppliesRow.holds Try.pinned (OpenSpec.ofChange blastAppliesWrong)

/-- 'synchronylaw38.BlastMuxes': WHATEVER THE INPUT: true; the input reads as it did. -/
def blastMuxesSpec : ChangeSpec := { name := "blastMuxes", fn := fun _ => fun
  | [d1, d2, d3, d4] => { results := [.lit (.bool true)], args := [d1, d2, d3, d4] }
  | _ => none }
def blastMuxesRow : OpenClaim := { program := "ytkebblmmgcgjkaa", sum := "c6c2853bce215edb9db4fa8bc1ba7dd36ce56b20279e9fa6b22566c891cb6ab9", func := "synchrony/synchronylaw38.BlastMuxes", spec := "blastMuxes", unfollowed := true, recurses := true, plainKeys := false, apart := false }
def BlastMuxesSaid : Prop := blastMuxesRow.holds Try.pinned (OpenSpec.ofChange blastMuxesSpec)

/-- ITS FALSE NEIGHBOUR: 'it returns false'. Refute it at one input. -/
def blastMuxesWrong : ChangeSpec := { name := "blastMuxes", fn := fun _ => fun
  | [d1, d2, d3, d4] => { results := [.lit (.bool false)], args := [d1, d2, d3, d4] }
  | _ => none }
def BlastMuxesWrongFalsely : Prop := blastMuxesRow.holds Try.pinned (OpenSpec.ofChange blastMuxesWrong)

/-- 'synchronylaw38.BlastValid': WHATEVER THE INPUT: true; the input reads as it did. -/
def blastValidSpec : ChangeSpec := { name := "blastValid", fn := fun _ => fun
  | [d1, d2, d3, d4] => { results := [.lit (.bool true)], args := [d1, d2, d3, d4] }
  | _ => none }
def blastValidRow : OpenClaim := { program := "ytkebblmmgcgjkaa", sum := "c6c2853bce215edb9db4fa8bc1ba7dd36ce56b20279e9fa6b22566c891cb6ab9", func := "synchrony/synchronylaw38.BlastValid", spec := "blastValid", unfollowed := true, recurses := true, plainKeys := false, apart := false }
def BlastValidSaid : Prop := blastValidRow.holds Try.pinned (OpenSpec.ofChange blastValidSpec)

/-- ITS FALSE NEIGHBOUR: 'it returns false'. Refute it at one input. -/
def blastValidWrong : ChangeSpec := { name := "blastValid", fn := fun _ => fun
  | [d1, d2, d3, d4] => { results := [.lit (.bool false)], args := [d1, d2, d3, d4] }
  | _ => none }
def BlastValidWrongFalsely : Prop := blastValidRow.holds Try.pinned (OpenSpec.ofChange blastValidWrong)

/-- 'synchronylaw38.BlastNil': WHATEVER THE INPUT: true; the input reads as it did. -/
def blastNilSpec : ChangeSpec := { name := "blastNil", fn := fun _ => fun
  | [d1, d2] => { results := [.lit (.bool true)], args := [d1, d2] }
  | _ => none }
def blastNilRow : OpenClaim := { program := "ytkebblmmgcgjkaa", sum := "c6c2853bce215edb9db4fa8bc1ba7dd36ce56b20279e9fa6b22566c891cb6ab9", func := "synchrony/synchronylaw38.BlastNil", spec := "blastNil", unfollowed := true, recurses := true, plainKeys := false, apart := false }
def BlastNilSaid : Prop := blastNilRow.holds Try.pinned (OpenSpec.ofChange blastNilSpec)

/-- ITS FALSE NEIGHBOUR: 'it returns false'. Refute it at one input. -/
def blastNilWrong : ChangeSpec := { name := "blastNil", fn := fun _ => fun
  | [d1, d2] => { results := [.lit (.bool false)], args := [d1, d2] }
  | _ => none }
def BlastNilWrongFalsely : Prop := blastNilRow.holds Try.pinned (OpenSpec.ofChange blastNilWrong)

/-- 'synchronylaw38.BlastMixes': WHATEVER THE INPUT: true; the input reads as it did. -/
def blastMixesSpec : ChangeSpec := { name := "blastMixes", fn := fun _ => fun
  | [d1, d2, d3, d4, d5] => { results := [.lit (.bool true)], args := [d1, d2, d3, d4, d5] }
  | _ => none }
def blastMixesRow : OpenClaim := { program := "ytkebblmmgcgjkaa", sum := "c6c2853bce215edb9db4fa8bc1ba7dd36ce56b20279e9fa6b22566c891cb6ab9", func := "synchrony/synchronylaw38.BlastMixes", spec := "blastMixes", unfollowed := true, recurses := true, plainKeys := false, apart := false }
def BlastMixesSaid : Prop := blastMixesRow.holds Try.pinned (OpenSpec.ofChange blastMixesSpec)

/-- ITS FALSE NEIGHBOUR: 'it returns false'. Refute it at one input. -/
def blastMixesWrong : ChangeSpec := { name := "blastMixes", fn := fun _ => fun
  | [d1, d2, d3, d4, d5] => { results := [.lit (.bool false)], args := [d1, d2, d3, d4, d5] }
  | _ => none }
def BlastMixesWrongFalsely : Prop := blastMixesRow.holds Try.pinned (OpenSpec.ofChange blastMixesWrong)

/- THE SECOND FORM. 'bulk': how many values and letters a reading holds, each counted each time it is reached (what is shared counts as often as it is met; a slice's spare places count too). A statement '..UptoSaid' is the law's where the arguments, and the package variables that the reading takes, are together of bulk at most 1048576: NARROWER than '..Said'. Prove '..Said' where nothing that the law and all that it calls make is longer than what came in: it says more and counts as full. Else prove '..UptoSaid'. A law counts once. -/
mutual
def uptoBulk {H : Type} : DataW H → Nat
  | .lit (.string bytes) => bytes.length + 1
  | .lit _ => 1
  | .nil => 1
  | .ptr d => uptoBulk d + 1
  | .slice elems spare => uptoBulkAll elems + uptoBulkAll spare + 1
  | .agg parts => uptoBulkAll parts + 1
  | .iface _ d => uptoBulk d + 1
  | .map entries => uptoBulkEntries entries + 1
  | .held _ => 1
def uptoBulkAll {H : Type} : List (DataW H) → Nat
  | [] => 0
  | d :: r => uptoBulk d + uptoBulkAll r
def uptoBulkEntries {H : Type} : List (Lit × DataW H) → Nat
  | [] => 0
  | x :: r => uptoBulkEntry x + uptoBulkEntries r
def uptoBulkEntry {H : Type} : Lit × DataW H → Nat
  | (.string bytes, d) => bytes.length + uptoBulk d + 1
  | (_, d) => uptoBulk d + 1
 end
def uptoSmall : (H : Type) → List (DataW H) → Bool := fun _ ds => decide (uptoBulkAll ds ≤ 1048576)
def OpenSpec.upto (s : _root_.Go.ChangeSpec) : _root_.Go.OpenSpec := { _root_.Go.OpenSpec.ofChange s with cond := some uptoSmall }

/-- 'synchronylaw37.SatGraphs', WHERE WHAT IT READS IS OF BULK AT MOST 1048576: true; the input reads as it did. -/
def satGraphsUptoRow : OpenClaim := { program := "ytkebblmmgcgjkaa", sum := "c6c2853bce215edb9db4fa8bc1ba7dd36ce56b20279e9fa6b22566c891cb6ab9", func := "synchrony/synchronylaw37.SatGraphs", spec := "satGraphs", unfollowed := true, recurses := true, plainKeys := false, apart := false, narrowed := true }
def SatGraphsUptoSaid : Prop := satGraphsUptoRow.holds Try.pinned (OpenSpec.upto satGraphsSpec)

/-- 'synchronylaw38.BlastConsts', WHERE WHAT IT READS IS OF BULK AT MOST 1048576: true; the input reads as it did. -/
def blastConstsUptoRow : OpenClaim := { program := "ytkebblmmgcgjkaa", sum := "c6c2853bce215edb9db4fa8bc1ba7dd36ce56b20279e9fa6b22566c891cb6ab9", func := "synchrony/synchronylaw38.BlastConsts", spec := "blastConsts", unfollowed := true, recurses := true, plainKeys := false, apart := false, narrowed := true }
def BlastConstsUptoSaid : Prop := blastConstsUptoRow.holds Try.pinned (OpenSpec.upto blastConstsSpec)

/-- 'synchronylaw38.BlastApplies', WHERE WHAT IT READS IS OF BULK AT MOST 1048576: true; the input reads as it did. -/
def blastAppliesUptoRow : OpenClaim := { program := "ytkebblmmgcgjkaa", sum := "c6c2853bce215edb9db4fa8bc1ba7dd36ce56b20279e9fa6b22566c891cb6ab9", func := "synchrony/synchronylaw38.BlastApplies", spec := "blastApplies", unfollowed := true, recurses := true, plainKeys := false, apart := false, narrowed := true }
def BlastAppliesUptoSaid : Prop := blastAppliesUptoRow.holds Try.pinned (OpenSpec.upto blastAppliesSpec)

/-- 'synchronylaw38.BlastMuxes', WHERE WHAT IT READS IS OF BULK AT MOST 1048576: true; the input reads as it did. -/
def blastMuxesUptoRow : OpenClaim := { program := "ytkebblmmgcgjkaa", sum := "c6c2853bce215edb9db4fa8bc1ba7dd36ce56b20279e9fa6b22566c891cb6ab9", func := "synchrony/synchronylaw38.BlastMuxes", spec := "blastMuxes", unfollowed := true, recurses := true, plainKeys := false, apart := false, narrowed := true }
def BlastMuxesUptoSaid : Prop := blastMuxesUptoRow.holds Try.pinned (OpenSpec.upto blastMuxesSpec)

/-- 'synchronylaw38.BlastValid', WHERE WHAT IT READS IS OF BULK AT MOST 1048576: true; the input reads as it did. -/
def blastValidUptoRow : OpenClaim := { program := "ytkebblmmgcgjkaa", sum := "c6c2853bce215edb9db4fa8bc1ba7dd36ce56b20279e9fa6b22566c891cb6ab9", func := "synchrony/synchronylaw38.BlastValid", spec := "blastValid", unfollowed := true, recurses := true, plainKeys := false, apart := false, narrowed := true }
def BlastValidUptoSaid : Prop := blastValidUptoRow.holds Try.pinned (OpenSpec.upto blastValidSpec)

/-- 'synchronylaw38.BlastNil', WHERE WHAT IT READS IS OF BULK AT MOST 1048576: true; the input reads as it did. -/
def blastNilUptoRow : OpenClaim := { program := "ytkebblmmgcgjkaa", sum := "c6c2853bce215edb9db4fa8bc1ba7dd36ce56b20279e9fa6b22566c891cb6ab9", func := "synchrony/synchronylaw38.BlastNil", spec := "blastNil", unfollowed := true, recurses := true, plainKeys := false, apart := false, narrowed := true }
def BlastNilUptoSaid : Prop := blastNilUptoRow.holds Try.pinned (OpenSpec.upto blastNilSpec)

/-- 'synchronylaw38.BlastMixes', WHERE WHAT IT READS IS OF BULK AT MOST 1048576: true; the input reads as it did. -/
def blastMixesUptoRow : OpenClaim := { program := "ytkebblmmgcgjkaa", sum := "c6c2853bce215edb9db4fa8bc1ba7dd36ce56b20279e9fa6b22566c891cb6ab9", func := "synchrony/synchronylaw38.BlastMixes", spec := "blastMixes", unfollowed := true, recurses := true, plainKeys := false, apart := false, narrowed := true }
def BlastMixesUptoSaid : Prop := blastMixesUptoRow.holds Try.pinned (OpenSpec.upto blastMixesSpec)

end Rows
end Go.Proofs.Ytkebblmmgcgjkaa
