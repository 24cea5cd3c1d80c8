/- What the rows list of the library's variables: a world that has it; what a walk knows of it. Conditions: none. -/
import Derived.Test.YtkbofpcnhjopaaaDoorH0
import Derived.Lib.LaidIn
import Derived.LaidLaws
import Derived.Handed
namespace Go.Proofs.YtkbofpcnhjopaaaDoor
set_option maxRecDepth 8000
set_option linter.unusedVariables false
set_option linter.unusedSimpArgs false
set_option linter.unusedSectionVars false
open Go Go.Z Go.Z.Val Go.RowKit

def synS : ByteArray := ⟨#[105, 110, 118, 97, 108, 105, 100, 32, 115, 121, 110, 116, 97, 120]⟩
def rngS : ByteArray := ⟨#[118, 97, 108, 117, 101, 32, 111, 117, 116, 32, 111, 102, 32, 114, 97, 110, 103, 101]⟩
/-- the cells of a listed array of numbers -/
def cellsD : DataW Unit → Array Value
  | .agg l => (l.map fun d => match d with | .lit (.int k n) => Value.int k n | _ => .int .i64 0).toArray
  | _ => #[]
noncomputable def low : Nat := (World.holding Tryd.prog default ⟨#[], #[], []⟩).heap.size
noncomputable def laidWorld (os : Os) : World :=
  let w0 := World.holding Tryd.prog os ⟨#[.cells #[.string synS] 102, .cells #[.string rngS] 102], #[], []⟩
  let put (h : Array Obj) (g : Nat) (cs : Array Value) : Array Obj := h.modify g fun
    | .cells _ t frozen => .cells cs t frozen
    | o => o
  { w0 with heap := put (put (put (put (put w0.heap 0 #[.iface 100 (.pointer (some ⟨low, 0, none⟩))]) 1 #[.iface 100 (.pointer (some ⟨low + 1, 0, none⟩))])
    2 (cellsD Rows.laid_internal_strconv_uint64pow10)) 3 (cellsD Rows.laid_math_bits_deBruijn32tab)) 4 (cellsD Rows.laid_math_bits_deBruijn64tab) }
set_option maxRecDepth 1000000 in
theorem laidWorld_met (os : Os) (args : Array Value) : laidMet Tryd.prog Rows.valueTextsRow.laid ((laidWorld os).forCall (fun _ _ => 0) ⟨#[], args, []⟩).memory :=
  laidMet_of_run' 10 (by kernel_rfl) (by kernel_rfl)

theorem knows_var {n : String} {W : World} {cs : Array Value} (h : W.var? Tryd.prog n = some cs) : Knows (Old W) fun w => w.var? Tryd.prog n = some cs := by
  intro w hw
  unfold World.var? at h ⊢
  cases hg : Tryd.prog.globalNamed n with
  | none => rw [hg] at h; cases h
  | some g =>
    rw [hg] at h
    simp only [Option.bind_some] at h ⊢
    cases hb : W.heap[g]? with
    | none => rw [hb] at h; cases h
    | some o => rw [hw g o hb]; rw [hb] at h; exact h
theorem starErr : "*" ++ "errors.errorString" = "*errors.errorString" := by decide
theorem rowErr (u : TypeId) (h : Tryd.prog.typeName? 3 u = some "*errors.errorString") : u = 100 := 
  typeName_ptr_named (nm := "errors.errorString") (by rw [starErr]; kernel_rfl) (by kernel_rfl) (by decide) u (by rw [starErr]; exact h)
theorem libK_of {W : World} (hL : laidMet Tryd.prog Rows.valueTextsRow.laid W) : LibK (Old W) := by
  have h2 := laidMet.tail (laidMet.tail hL)
  have ht := Lib.tabIs_of_head (name := tabName) (k := .u64) (zs := Lib.pow10Tab) (g := 2) (t := 93) (e := 81) (n := 20) (by kernel_rfl) (by kernel_rfl) Tryd.underlying93 Tryd.underlying81 (by kernel_rfl) (by kernel_rfl) h2
  have h3 := laidMet.tail h2
  obtain ⟨a1, s1, hv1, -, -, -⟩ := laid_sentinel h3 (g := 1) (by kernel_rfl) (ti := 59) (by kernel_rfl) Tryd.underlying59 rowErr Tryd.underlying100 Tryd.underlying102 rfl rfl Tryd.underlying9 (by kernel_rfl) (by kernel_rfl)
  obtain ⟨a0, s0, hv0, -, -, -⟩ := laid_sentinel (laidMet.tail h3) (g := 0) (by kernel_rfl) (ti := 59) (by kernel_rfl) Tryd.underlying59 rowErr Tryd.underlying100 Tryd.underlying102 rfl rfl Tryd.underlying9 (by kernel_rfl) (by kernel_rfl)
  exact ⟨knows_var ht, ⟨_, _, knows_var hv0⟩, ⟨_, _, knows_var hv1⟩⟩
end Go.Proofs.YtkbofpcnhjopaaaDoor
