/- The library's contracts (strconv) in the words of the own layer. Conditions: none. -/
import Derived.Test.YtkbofpcnhjopaaaDoorZk
import Derived.Test.YtkbofpcnhjopaaaDoorSh
import Derived.Test.YtkbofpcnhjopaaaDoorRows
import Derived.Test.YtkbofpcnhjopaaaDoorC3
import Derived.Lib.AppendIntMem
import Derived.Lib.AtoiErrMem
import Derived.Stop.LaidErr
import Derived.Lib.LaidTab
namespace Go.Proofs.YtkbofpcnhjopaaaDoor
set_option maxRecDepth 8000
set_option linter.unusedVariables false
set_option linter.unusedSimpArgs false
set_option linter.unusedSectionVars false
open Go Go.Z Go.Z.Val Go.RowKit

/-- the library's table of powers of ten, by its name in the given rows -/
def tabName : String := (Rows.valueTextsRow.laid.map (fun x => x.1)).getD 2 ""
/-- what the listed variables of the library hold, in every world that agrees with what nobody writes -/
structure LibK (ρ : Nat → Obj → Prop) : Prop where
  tab : Knows ρ fun w => Lib.TabIs Tryd.prog w tabName .u64 Lib.pow10Tab
  syn : ∃ tp p, Knows ρ fun w => w.var? Tryd.prog "strconv.ErrSyntax" = some #[.iface tp p]
  rng : ∃ tp p, Knows ρ fun w => w.var? Tryd.prog "strconv.ErrRange" = some #[.iface tp p]
theorem LibK.mono {ρ ρ' : Nat → Obj → Prop} (h : LibK ρ) (s : ∀ b o, ρ b o → ρ' b o) : LibK ρ' :=
  ⟨h.tab.mono s, let ⟨a, b, c⟩ := h.syn; ⟨a, b, c.mono s⟩, let ⟨a, b, c⟩ := h.rng; ⟨a, b, c.mono s⟩⟩

def strOf (l : List UInt8) : ByteArray := ⟨l.toArray⟩
theorem fbool_ok {ρ : Nat → Obj → Prop} (b : Bool) : Con Tryd.prog ρ 41 #[.bool b] [] (fun v H => v = .string (strOf (Lib.formatBool b)) ∧ H = []) :=
  con_below Tryd.call41 fun w hw => by
    have h : Calls Tryd.prog 41 #[.bool b] w fun e w' => e = .returned (.string ⟨(Lib.formatBool b).toArray⟩) ∧ w' = w := Any.strconv_FormatBool lays121 b w
    exact h.mono fun e w' ⟨e1, e2⟩ => ⟨_, e1, rfl, by subst e2; exact Below.refl _ _⟩
theorem itoa_ok {ρ : Nat → Obj → Prop} (hk : LibK ρ) (n : Int) (h0 : I64 n) : Con Tryd.prog ρ 42 #[.int .i64 n] [] (fun v H => v = .string (strOf (Lib.itoa n)) ∧ H = []) :=
  con_below Tryd.call42 fun w hw => by
    have ht := hk.tab w hw
    have h : Calls Tryd.prog 42 #[.int .i64 n] w fun e w' => e = .returned (.string ⟨(Lib.itoa n).toArray⟩) ∧ ∃ k os, w' = Go.Sort.grow (w.drewN k) os := Any.strconv_Itoa laysM171 n h0.1 h0.2 w ht
    exact h.mono fun e w' ⟨e1, k, os, e2⟩ => ⟨_, e1, rfl, by subst e2; exact Lib.below_grow _ w (Nat.le_refl _) k os⟩
/-- what strconv.Atoi answers -/
def AtoiP (l : List UInt8) (v : Value) : Prop := match Lib.atoiAll l with
  | .ok n => v = .tuple #[.int .i64 n, .nilIface]
  | _ => ∃ n t p, v = .tuple #[.int .i64 n, .iface t p]
theorem atoi_ok {ρ : Nat → Obj → Prop} (hk : LibK ρ) (s : ByteArray) (hs : s.size ≤ 281474976710656) : Con Tryd.prog ρ 45 #[.string s] [] (fun v H => AtoiP s.data.toList v ∧ H = []) :=
  con_below Tryd.call45 fun w hw => by
    unfold AtoiP
    cases ha : Lib.atoiAll s.data.toList
    · rename_i n
      have h : Calls Tryd.prog 45 #[.string s] w fun e w' => e = .returned (.tuple #[.int .i64 n, .nilIface]) ∧ (w' = w ∨ ∃ t, w' = Lib.bytesWorld w _ t) := Any.strconv_Atoi_ok laysC172 s (by omega) n ha w
      exact h.mono fun e w' ⟨e1, e2⟩ => ⟨_, e1, rfl, by
        rcases e2 with e2 | ⟨t, e2⟩
        · subst e2; exact Below.refl _ _
        · subst e2; exact Lib.bytesWorld_below _ _ _⟩
    · obtain ⟨tp, p, hv⟩ := hk.syn
      exact (show Calls Tryd.prog 45 #[.string s] w _ from Any.strconv_Atoi_syntax_var laysC172 s hs ha tp p w (hv w hw)).mono fun e w' ⟨N, e1, _, _, hb⟩ => ⟨_, e1, ⟨_, _, _, rfl⟩, hb⟩
    · obtain ⟨tp, p, hv⟩ := hk.rng
      exact (show Calls Tryd.prog 45 #[.string s] w _ from Any.strconv_Atoi_range_var laysC172 s hs ha tp p w (hv w hw)).mono fun e w' ⟨N, e1, _, _, hb⟩ => ⟨_, e1, ⟨_, _, _, rfl⟩, hb⟩
end Go.Proofs.YtkbofpcnhjopaaaDoor
