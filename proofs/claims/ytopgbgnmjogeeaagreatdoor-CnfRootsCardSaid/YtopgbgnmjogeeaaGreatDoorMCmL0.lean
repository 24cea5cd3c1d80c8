/- Own texts, put together: Lb. Conditions: as told at each. -/
import Derived.Test.YtopgbgnmjogeeaaGreatDoorMCmY0
import Derived.HandedShaped
import Derived.Shelf.Vars
import Derived.Lib.LaidIn
import Derived.LaidLaws
import Derived.Handed
/- What the rows list of the library's variables: a world that has it; what a walk knows of it. Conditions: none. -/
namespace Go.Proofs.YtopgbgnmjogeeaaGreatDoor
set_option maxRecDepth 8000
set_option linter.unusedVariables false
set_option linter.unusedSimpArgs false
set_option linter.unusedSectionVars false
open Go Go.Z Go.RowKit

def synS : ByteArray := ⟨#[105, 110, 118, 97, 108, 105, 100, 32, 115, 121, 110, 116, 97, 120]⟩
def rngS : ByteArray := ⟨#[118, 97, 108, 117, 101, 32, 111, 117, 116, 32, 111, 102, 32, 114, 97, 110, 103, 101]⟩
/-- the cells of a listed array of numbers -/
def cellsD : DataW Unit → Array Value
  | .agg l => (l.flatMap fun d => match d with
    | .lit (.int k n) => [Value.int k n]
    | .agg m => m.map fun d => match d with | .lit (.int k n) => Value.int k n | _ => .int .i64 0
    | _ => []).toArray
  | _ => #[]
noncomputable def low : Nat := (World.holding Tryz.prog default ⟨#[], #[], []⟩).heap.size
noncomputable def laidWorld (os : Os) : World :=
  let w0 := World.holding Tryz.prog os ⟨#[.cells #[.string synS] 183, .cells #[.string rngS] 183], #[], []⟩
  let put (h : Array Obj) (g : Nat) (cs : Array Value) : Array Obj := h.modify g fun
    | .cells _ t frozen => .cells cs t frozen
    | o => o
  { w0 with heap := put (put (put (put (put (put (put w0.heap 2 #[.iface 181 (.pointer (some ⟨low, 0, none⟩))]) 3 #[.iface 181 (.pointer (some ⟨low + 1, 0, none⟩))])
    0 (cellsD Rows.laid_internal_strconv_uint64pow10)) 4 (cellsD Rows.laid_math_bits_deBruijn32tab)) 5 (cellsD Rows.laid_math_bits_deBruijn64tab)) 7 (cellsD Rows.laid_unicode_utf8_acceptRanges)) 6 (cellsD Rows.laid_unicode_utf8_first) }
set_option maxRecDepth 1000000 in
theorem laidWorld_met (os : Os) (args : Array Value) : laidMet Tryz.prog Rows.cnfOfRow.laid ((laidWorld os).forCall (fun _ _ => 0) ⟨#[], args, []⟩).memory :=
  laidMet_of_run' 10 (by kernel_rfl) (by kernel_rfl)

theorem knows_var {n : String} {W : World} {cs : Array Value} (h : W.var? Tryz.prog n = some cs) : Knows (Old W) fun w => w.var? Tryz.prog n = some cs := by
  intro w hw
  unfold World.var? at h ⊢
  cases hg : Tryz.prog.globalNamed n with
  | none => rw [hg] at h; cases h
  | some g =>
    rw [hg] at h
    simp only [Option.bind_some] at h ⊢
    cases hb : W.heap[g]? with
    | none => rw [hb] at h; cases h
    | some o => rw [hw g o hb]; rw [hb] at h; exact h
theorem knows_cell {W : World} {g : Nat} {v : Value} (h : W.cell? ⟨g, 0, none⟩ = some v) : Knows (Old W) fun w => w.cell? ⟨g, 0, none⟩ = some v := by
  intro w hw
  unfold World.cell? at h ⊢
  cases hb : W.heap[g]? with
  | none => simp [hb] at h
  | some o => have := hw g o hb; simp only [hb, this] at h ⊢; exact h
theorem starErr : "*" ++ "errors.errorString" = "*errors.errorString" := by decide
theorem rowErr (u : TypeId) (h : Tryz.prog.typeName? 3 u = some "*errors.errorString") : u = 181 := 
  typeName_ptr_named (nm := "errors.errorString") (by rw [starErr]; kernel_rfl) (by kernel_rfl) (by decide) u (by rw [starErr]; exact h)
theorem libC_of {W : World} (hL : laidMet Tryz.prog Rows.cnfOfRow.laid W) (hS : W.ShapedOpen Tryz.prog) : LibC (Old W) := by
  have h2 := laidMet.tail (laidMet.tail hL)
  have ht := Lib.tabIs_of_head (name := tabName) (k := .u64) (zs := Lib.pow10Tab) (g := 0) (t := 150) (e := 141) (n := 20) (by kernel_rfl) (by kernel_rfl) Tryz.underlying150 Tryz.underlying141 (by kernel_rfl) (by kernel_rfl) h2
  have h3 := laidMet.tail h2
  obtain ⟨a1, s1, hv1, -, -, -⟩ := laid_sentinel (laidMet.tail h3) (g := 3) (by kernel_rfl) (ti := 90) (by kernel_rfl) Tryz.underlying90 rowErr Tryz.underlying181 Tryz.underlying183 rfl rfl Tryz.underlying9 (by kernel_rfl) (by kernel_rfl)
  obtain ⟨a0, s0, hv0, -, -, -⟩ := laid_sentinel (laidMet.tail (laidMet.tail h3)) (g := 2) (by kernel_rfl) (ti := 90) (by kernel_rfl) Tryz.underlying90 rowErr Tryz.underlying181 Tryz.underlying183 rfl rfl Tryz.underlying9 (by kernel_rfl) (by kernel_rfl)
  obtain ⟨m, hm⟩ := cell_of_shapedOpen_int (g := 1) (t := 3) (zero := #[.int .i64 0]) (k := .i64) hS (of_decide_eq_true (by kernel_rfl)) (by kernel_rfl) rfl (by kernel_rfl) (by kernel_rfl) Tryz.underlying3
  exact ⟨knows_var ht, ⟨_, _, knows_var hv0⟩, ⟨_, _, knows_var hv1⟩, m, knows_cell hm⟩
end Go.Proofs.YtopgbgnmjogeeaaGreatDoor
namespace Go.Z
set_option maxRecDepth 8000
set_option linter.unusedVariables false
set_option linter.unusedSimpArgs false
set_option linter.unusedSectionVars false
open Go
variable {H : Type} {enc : TypeId × Value → H}
/-- the wrap of a row with listed variables, the world's shape kept -/
theorem wrap_shaped {a : Assume} {C : Checked} {os : Os} {f : FuncId} {fn : Func} {s : ChangeSpec} {conds : List PathCond} {apart fresh handsOn again : Bool} {X : World → Array Value → Prop}
    (hX : ∀ (w w' : World) (args : Array Value), w.heap = w'.heap → X w args → X w' args)
    (own : ownKnob C.prog.godebug = none) (started : os.Started) (noInit : C.prog.inits.idxOf? f = none) (hfn : C.prog.funcs[f]? = some fn)
    (witness : ∃ (w : World) (tape : Tape) (i : Input), w.os = os ∧ (w.forCall tape i).Shaped C.prog ∧ i.vars = [] ∧ Input.okWide C.prog (w.forCall tape i) .any w.heap.size f i ∧
      ((s.pre enc C.prog fn conds apart (w.forCall tape i).memory i.args ∧ X (w.forCall tape i).memory i.args) ∧ sizedMet enc C.prog fn (OpenSpec.ofChange s) apart (w.forCall tape i).memory i.args) ∧ a.holds C.prog (lone (Frame.enter C.prog f i.args .normal) [] (w.forCall tape i)))
    (contract : ∀ (W : World) (base : Nat) (args : Array Value) (ds gs : List (DataW H)) (before : List MemPlace),
      (∀ (j : Nat) t v, fn.params[j]? = some t → args[j]? = some v → Value.okWide C.prog W .any base t v) →
      DataW.Whole enc C.prog fn.params.toList s.vars apart W args.toList ds gs before →
      conds.all (PathCond.test C.prog ⟨fn.params.toList, ds, s.plain.varTypes C.prog, gs⟩) = true →
      (DataW.weightsEach C.prog (fn.params.toList ++ s.plain.varTypes C.prog) (ds ++ gs)).all (· ≤ reachBytes) = true → X W args → W.ShapedOpen C.prog →
      a.holds C.prog (lone (Frame.enter C.prog f args .normal) [] W) →
      Calls C.prog f args W fun e W' => ∃ v, e = .returned v ∧ s.post enc C.prog fn apart fresh handsOn again W args v W') :
    ReturnsInHanded a C os f .any (fun w args => (s.pre enc C.prog fn conds apart w args ∧ X w args) ∧ sizedMet enc C.prog fn (OpenSpec.ofChange s) apart w args) (s.post enc C.prog fn apart fresh handsOn again) := by
  refine returnsInHanded_of_calls own started noInit witness ?_
  intro w tape i _ hsh _ hok hpre hholds
  obtain ⟨_, _, _, fn', hfn', _, _, _, _, hval⟩ := hok
  have e : fn' = fn := Option.some.inj (hfn'.symm.trans hfn)
  subst e
  obtain ⟨⟨⟨ds, gs, before, hw, hc⟩, hx⟩, hz⟩ := hpre
  have hw' := DataW.Whole.of_heap (w' := w.forCall tape i) (by rfl) hw
  refine (contract (w.forCall tape i) w.heap.size i.args ds gs before hval hw' hc (hz.weights hw) (hX _ _ _ (by rfl) hx) hsh hholds).mono fun e W' ⟨v, he, hp⟩ => ?_
  subst he
  exact ChangeSpec.post_blind hp
end Go.Z
